/- Part 7. -/
import Derived.Test.YthelkgdmgihhiaaGreatZF6
import Derived.Orders
import Derived.Scope
open Array renaming getElem?_eq_some_iff->Ck,getElem?_eq_getElem->Fx,getD_eq_getD_getElem?->F2,length_toList->Iy,getD->Sp,replicate->Su,getElem?_setIfInBounds->iH,toList_inj->iX,ext'->kF,getElem?_push->kW
open Bool renaming and_eq_true->Ch,false_eq_true->C7,or_eq_false_iff->F0,not_eq_true'->Ig,false_or->Oe
open Go.Addr renaming add->kK
open Go.Builtin renaming zeroCells->Ow,append_->Sg
open Go.Code renaming loop->lO
open Go.Instr renaming sureAddr->So,loadAt->jT
open Go.Obj renaming cells->kD
open Go.Obj.cells renaming injEq->kO
open Go.Region renaming wanted->Sk
open Go.Result renaming andThen_ok->Fv
open Go.RowKit.Below renaming refl->F1,cell->lP
open Go.Sem renaming run_bind->F3,run_pure->I4
open Go.Value renaming int->jO
open Go.World renaming cell?->Mx
open List renaming replicate->Cg,map_cons->Cm,length_append->Cn,map_nil->Cp,nil_append->Ct,mem_append->Cu,length_nil->Cv,getElem?_append_left->Cy,mem_cons->C4,take_length->C8,range->E7,all_eq_true->Fc,take_of_length_le->Ff,length_map->Fg,eq_nil_of_length_eq_zero->F4,mem_map->F6,getElem?_eq_some_iff->F9,take_succ_cons->He,getElem?_take_of_lt->Ij,length_take->Im,mem_of_getElem?->Ip,getElem?_take->Oc,replicate_succ->Oo,take_append_of_le_length->Oq,foldl_cons->Sr,all_cons->Sw,mem_flatten->S7,getElem?_drop->iD,getElem?_toArray->iL,mem_range->iR,drop_append->iY,take_take->lF
open Nat renaming le_refl->Ce,zero_le->Ci,le_trans->Fh,zero_add->Fk,lt_of_lt_of_le->F7,mul_le_mul_right->F8,lt_or_ge->Ia,lt_succ_self->I9,le_add_right->Mn,mul_le_mul->Pz,strongRecOn->Ss,add_mul->V9,le_of_not_lt->iW,le_succ->kL
open Option renaming map_eq_some_iff->Cd,isNone_iff_eq_none->Ii,getD_some->Oi,bind_some->Ov
open Option.some renaming injEq->Bg
open Prod.mk renaming injEq->Cf
namespace Go.Proofs.YthelkgdmgihhiaaGreat
section
open Go.RowKit
section
variable {P:Program} {ops:Array Oper}
theorem Ga {listed:Array Bool} {i:Nat} (h:i ∈ Region.ready .any ops listed):listed.getD i true=false/\∃ o,ops[i]?=some o/\∀ e ∈ depsOf ops i,listed.getD e false=true:=by
 obtain ⟨h0,o,ho,hd⟩:=mem_ready.1 h;refine ⟨h0,o,ho,fun e he=>?_⟩;unfold depsOf at he;rw [ho] at he;simp only [F6,List.mem_filter] at he;obtain ⟨x,⟨hx,hb⟩,rfl⟩:=he;exact hd x dE hb
theorem Qw {listed:Array Bool} {i:Nat} {o:Oper} (h0:listed.getD i true=false) (ho:ops[i]?=some o) (hd:∀ e ∈ depsOf ops i,listed.getD e false=true):i ∈ Region.ready .any ops listed:=by
 refine mem_ready.2 ⟨h0,o,ho,fun e he hb=>hd _ ?_⟩;exact Ya31
theorem Dr {listed:Array Bool} (hc:∀ j,listed.getD j false=true->∀ e ∈ depsOf ops j,listed.getD e false=true) {i:Nat} (hd:∀ e ∈ depsOf ops i,listed.getD e false=true) :
  ∀ e ∈ reachAt ops i,listed.getD e false=true:=by
 unfold reachAt;generalize (E7 i).reverse=l;have key:∀ (l:List Nat) (s:List Nat),(∀ e ∈ s,listed.getD e false=true)->∀ e ∈ l.foldl (fun s j=>if s.contains j then depsOf ops j++s else s) s,listed.getD e false=true:=by
  intro l;induction l with
  | nil=>intro s hs; exact hs
  | cons j l ih =>
   intro s hs;simp only [Sr];apply ih;split
   ·rename_i hj;intro e he;rcases Cu.1 he with h|h
    ·exact hc j (hs j bN) e h
    ·exact hs e h
   ·exact hs
 exact key l _ hd
theorem Au6 {o:Oper} {a:Act} {w:World} {K:Act->World->Prop} {Q Q':Exit->Act->World->Prop} (hp:∀ c a w,Q (.panic c) a w->Q' (.panic c) a w) (hl:LetsOut Q->LetsOut Q') (hh:o.wp P a w K Q):o.wp P a w K Q':=by
 unfold Oper.wp at *;generalize (execOp a.eval o).run P w=r at *;cases r with
 | ok n w' =>
  cases n <;> simp only [Oper.upon] at hh ⊢ <;>
   first
    | exact hh
    | exact Calls.mono hh (fun e w'' he=>by cases e <;> first|exact he|exact hp _ _ _ he|exact hl he)
    | exact Rows.mono hh (fun _ _ he=>he)
 | halt x w'=>cases x <;> simp only [Oper.upon] at hh ⊢ <;> first|exact hh|exact hp _ _ _ hh|exact hl hh
def Aod (P:Program) (o:Oper) (Q:Exit->Act->World->Prop):Exit->Act->World->Prop
 | .normal=>fun a w=>o.wp P a w (fun a' w'=>Q .normal a' w') Q
 | ex=>Q ex
theorem H0 {listed:Array Bool} {j:Nat} {d:Bool} (h:j<listed.size):(listed.push false).getD j d=listed.getD j d:=by
 simp [F2,kW,Nat.ne_of_lt h]
theorem Zi {listed:Array Bool} {d:Bool} : (listed.push false).getD listed.size d=false:=by
 simp [F2,kW]
theorem Afd {init:Array Oper} {o:Oper} {Q:Exit->Act->World->Prop} (hg:o.guard=none) (ie:∀ j,j<init.size->j ∈ reachAt (init.push o) init.size) (fk:∀ e ∈ depsOf (init.push o) init.size,e<init.size)
  (yc:∀ i o',init[i]?=some o'->(∀ e ∈ depsOf init i,e<i)/\∀ g w,o'.guard=some (g,w)->g<init.size) :
  ∀ (fuel:Nat) (listed:Array Bool) (a:Act) (w:World),listed.size=init.size->(∀ j,listed.getD j false=true->∀ e ∈ depsOf init j,listed.getD e false=true) ->
   wpAny P .any init (Aod P o Q) fuel listed a w->wpAny P .any (init.push o) Q (fuel+1) (listed.push false) a w:=by
 have gz:∀ i,i<init.size->(init.push o)[i]?=init[i]?:=fun i hi=>by rw [kW,if_neg aA]
 have gy:(init.push o)[init.size]?=some o:=by simp
 have hdo:∀ i,i<init.size->depsOf (init.push o) i=depsOf init i:=fun i hi=>by unfold depsOf; rw [gz i hi]
 have jn:∀ (listed:Array Bool),listed.size=init.size->∀ i,i<init.size->(i ∈ Region.ready .any (init.push o) (listed.push false)↔i ∈ Region.ready .any init listed):=by
  intro listed lp i hi;constructor
  ·intro h;obtain ⟨h0,o',gc,hd⟩:=Ga h;rw [H0 aA] at h0;rw [gz i hi] at gc;rw [hdo i hi] at hd;refine Qw h0 gc fun e he=>?_;have:=hd e he;have hlt:=(yc i o' gc).1 e he;rwa [H0 aA] at this
  ·intro h;obtain ⟨h0,o',gc,hd⟩:=Ga h;refine Qw (by rw [H0 aA]; exact h0) (by rw [gz i hi]; exact gc) fun e he=>?_;rw [hdo i hi] at he;have hlt:=(yc i o' gc).1 e he;rw [H0 aA]; exact hd e he
 have yd:∀ (listed:Array Bool),listed.size=init.size->Region.ready .any init listed=[]->∀ j,j<init.size->listed.getD j false=true:=by
  intro listed lp ee j;induction j using Ss with
  | _ j ihj =>
   intro hj;cases hl:listed.getD j false with
   | true=>rfl
   | false =>
    exfalso;have:j ∈ Region.ready .any init listed:=by
     refine Qw ?_ (Fx hj) fun e he=>?_
     ·have jm:j<listed.size:=aA
      simpa [Sp,jm] using hl
     ·have:=(yc j _ (Fx hj)).1 e he;exact ihj e this aA
    rw [ee] at this; simp at this
 have a0g:∀ (listed:Array Bool),listed.size=init.size->(∀ j,listed.getD j false=true->∀ e ∈ depsOf init j,listed.getD e false=true)->init.size ∈ Region.ready .any (init.push o) (listed.push false)->Region.ready .any init listed=[]:=by
  intro listed lp hcl h;obtain ⟨-,o',-,hd⟩:=Ga h;have hc2:∀ j,(listed.push false).getD j false=true->∀ e ∈ depsOf (init.push o) j,(listed.push false).getD e false=true:=by
   intro j hj e he;by_cases hjn:j<init.size
   ·rw [H0 aA] at hj;rw [hdo j hjn] at he;have hlt:=(yc j _ (Fx hjn)).1 e he;rw [H0 aA]; exact hcl j hj e he
   ·exfalso;by_cases rj:j=init.size
    ·rw [rj,<- lp,Zi] at hj; cases hj
    ·rw [F2,Array.getElem?_eq_none aC] at hj; cases hj
  have ar:∀ j,j<init.size->listed.getD j false=true:=fun j hj=>by
   have:=Dr hc2 hd j (ie j hj);rwa [H0 aA] at this
  cases hr:Region.ready .any init listed with
  | nil=>rfl
  | cons x l =>
   have hx:x ∈ Region.ready .any init listed:=by rw [hr]; simp
   obtain ⟨h0,o',gc,-⟩:=Ga hx;have hxl:=(Ck.1 gc).1;have h1:=ar x hxl;exact Ya39
 have ye:∀ (fuel:Nat) (listed:Array Bool) (a:Act) (w:World),listed.size=init.size->(∀ j,j<init.size->listed.getD j false=true)->Aod P o Q .normal a w ->
   wpOp P (init.push o) Q init.size (wpAny P .any (init.push o) Q fuel ((listed.push false).setIfInBounds init.size true)) a w:=by
  intro fuel listed a w lp ar h;have ee:Region.ready .any (init.push o) ((listed.push false).setIfInBounds init.size true)=[]:=by
   cases hr:Region.ready .any (init.push o) ((listed.push false).setIfInBounds init.size true) with
   | nil=>rfl
   | cons x l =>
    exfalso;have hx:x ∈ Region.ready .any (init.push o) ((listed.push false).setIfInBounds init.size true):=by rw [hr]; simp
    obtain ⟨h0,o',gc,-⟩:=Ga hx;have hxl:=(Ck.1 gc).1;rw [Array.size_push] at hxl;rw [F2,iH] at h0;split at h0
    ·split at h0
     ·cases h0
     ·rename_i h1 h2; exact h2 aC
    ·have h1:=ar x aA;rw [<- F2,H0 aA] at h0;exact Ya39
  unfold wpOp;rw [gy];simp only;have hw:Sk o (yielded (init.push o) a.tmps)=true:=by unfold Sk; rw [hg]
  rw [if_pos hw];left;refine Oper.wp_mono (fun a' w' hq=>?_) h;cases fuel with
  | zero=>exact ⟨ee,hq⟩
  | succ fuel=>exact ⟨fun _=>hq,fun i hi=>by rw [ee] at hi; simp at hi⟩
 intro fuel;induction fuel with
 | zero =>
  intro listed a w lp hcl h;obtain ⟨ee,hq⟩:=h;have ar:=yd listed lp ee;have dd:init.size ∈ Region.ready .any (init.push o) (listed.push false):=by
   exact Ya2z
  refine ⟨fun hn=>by rw [hn] at dd; simp at dd,fun i hi=>?_⟩;by_cases yf:i<init.size
  ·rw [jn listed lp i yf,ee] at hi; simp at hi
  ·have fv:i=init.size:=by
    exact Ya1z
   subst fv;exact ye 0 listed a w lp ar hq
 | succ fuel ih =>
  intro listed a w lp hcl h;obtain ⟨h1,h2⟩:=h;refine ⟨fun hn=>?_,fun i hi=>?_⟩
  ·exfalso;have ee:Region.ready .any init listed=[]:=by
    cases hr:Region.ready .any init listed with
    | nil=>rfl
    | cons x l =>
     have hx:x ∈ Region.ready .any init listed:=by rw [hr]; simp
     obtain ⟨-,o',gc,-⟩:=Ga hx;have:=(jn listed lp x (Ck.1 gc).1).2 hx;rw [hn] at this; simp at this
   have ar:=yd listed lp ee;have dd:init.size ∈ Region.ready .any (init.push o) (listed.push false):=by
    exact Ya2z
   rw [hn] at dd; simp at dd
  ·by_cases yf:i<init.size
   ·have au:=(jn listed lp i yf).1 hi;have h3:=h2 i au;obtain ⟨h0,o',gc,hd⟩:=Ga au;have az:(listed.push false).setIfInBounds i true=(listed.setIfInBounds i true).push false:=by
     apply kF;simp [List.set_append,lp,yf]
    have wo:∀ j,(listed.setIfInBounds i true).getD j false=true->∀ e ∈ depsOf init j,(listed.setIfInBounds i true).getD e false=true:=by
     intro j hj e he;have hup:∀ e,listed.getD e false=true->(listed.setIfInBounds i true).getD e false=true:=fun e he=>by
      rw [F2,iH];split
      ·rw [if_pos (by rename_i h; omega)]; rfl
      ·rw [<- F2]; exact he
     by_cases hji:j=i
     ·subst hji; exact hup e (hd e he)
     ·refine hup e (hcl j ?_ e he);rw [F2,iH,if_neg (fun h=>hji h.symm),<- F2] at hj;exact hj
    have hk:∀ a' w',wpAny P .any init (Aod P o Q) fuel (listed.setIfInBounds i true) a' w'->wpAny P .any (init.push o) Q (fuel+1) ((listed.push false).setIfInBounds i true) a' w':=fun a' w' h=>by
     rw [az]; exact ih _ a' w' (by simpa using lp) wo h
    unfold wpOp at h3 ⊢;rw [gz i yf];rw [gc] at h3 ⊢;simp only at h3 ⊢;have hy:Sk o' (yielded (init.push o) a.tmps)=Sk o' (yielded init a.tmps):=by
     unfold Sk;cases hgd:o'.guard with
     | none=>rfl
     | some x =>
      obtain ⟨g,b⟩:=x;have hgl:=(yc i o' gc).2 g b hgd;simp only [yielded,gz g hgl]
    rw [hy];split
    ·rename_i hw;rw [if_pos hw] at h3;rcases h3 with h3|⟨h3,h4⟩
     ·exact .inl (Oper.wp_mono hk (Au6 (fun c a w h=>h) (fun ⟨a,w,h⟩=>⟨a,w,h⟩) h3))
     ·exact .inr ⟨h3,let ⟨a,w,h⟩:=h4; ⟨a,w,h⟩⟩
    ·rename_i hw;rw [if_neg hw] at h3;exact hk _ _ h3
   ·have fv:i=init.size:=by
     exact Ya1z
    subst fv;have ee:=a0g listed lp hcl hi;exact ye (fuel+1) listed a w lp (yd listed lp ee) (h1 ee)
end
section
variable {P:Program}
theorem Aik {C:Cx} {sz m:Nat} {y:AV} {ys:List AV} {vy:Value} (hy:VR C y vy) (h:litC sz y=some (m,ys)) (h0:0<m) (hs:0<sz) :
  ∃ b o cap vs,vy=.slice (some ⟨b,o,none⟩) m cap/\VRs C ys vs/\vs.length=m*sz/\Lie C.w C.Avoid b o vs/\(∀ v ∈ vs,v.oneCell'=true):=by
 unfold litC at h;split at h
 ·rename_i es c;split at h
  ·rename_i hh;simp only [Bg,Cf] at h;obtain ⟨rfl,rfl⟩:=h;simp only [VR] at hy;obtain ⟨a,len,cap,rfl,e1,e2,e3,e4⟩:=hy;rcases e4 with rfl|⟨b,o,sz',rfl,hr⟩
   ·simp at h0
   ·have hne:es≠[]:=by intro e; subst e; simp at h0
    have:=Pq hr hh.1 hne;subst this;obtain ⟨l,g1,g2,g3⟩:=Hu hr;exact ⟨b,o,cap,l,by rw [e1],Ks g2,g1,g3,X6 g2⟩
  ·simp at h
 ·rename_i len cs;split at h
  ·rename_i hh;simp only [Bg,Cf] at h;obtain ⟨rfl,rfl⟩:=h;simp only [VR] at hy;obtain ⟨b,vs,rfl,hl,hv⟩:=hy;have:=Bh hv;exact ⟨b,0,len,vs,rfl,hv,aA,hl,Qb hv hh.2⟩
  ·simp at h
 ·simp at h
def Cx.turn (C:Cx) (w:World) (id b:Nat) (cs:List AV):Cx:={ C with w:=w,φ:=fun i=>if i=id then b else C.φ i,S:=put C.S id ⟨C.n,cs⟩,n:=C.n+1 }
theorem Ahj {C:Cx} {w:World} {id b:Nat} {cs:List AV} {x o:Nat} (hm:(C.turn w id b cs).Mut x o):C.Mut x o\/x=b:=by
 rcases hm with ⟨i,hi,e⟩|h
 ·simp only [Cx.turn,Am] at hi e;split at e
  ·exact .inr e.symm
  ·exact .inl (.inl ⟨i,hi,e⟩)
 ·exact .inl (.inr h)
theorem Le.turn {C:Cx} {w:World} {id b:Nat} {cs:List AV} (hid:id<C.S.length) (hb:b=C.φ id\/C.w.heap.size<=b) (hos:w.os=C.w.os) (xz:w.tape=C.w.tape) (ll:w.output=C.w.output) (x5:C.w.heap.size<=w.heap.size)
  (hcell:∀ x o v,C.w.cell? ⟨x,o,none⟩=some v->¬ C.Mut x o->w.cell? ⟨x,o,none⟩=some v) (x6:∀ x,x<C.w.heap.size->(∀ o,¬ C.Mut x o)->w.heap[x]?=C.w.heap[x]?)
  (sx:∀ (b:Nat) (cs:Array Value) (t:TypeId) (fz:Nat × Nat),C.w.heap[b]?=some (kD cs t fz)->∃ cs':Array Value,w.heap[b]?=some (kD cs' t fz)/\cs'.size=cs.size):Le C (C.turn w id b cs):=by
 refine ⟨hos,xz,ll,x5,rfl,kL _,fun x o hx hm=>?_,hcell,x6,sx,fun i e he hn=>?_,fun _ k hk=>⟨k,hk,Ce _,fun _=>rfl⟩⟩
 ·rcases Ahj hm with h|rfl
  ·exact h
  ·rcases hb with rfl|hb
   ·exact .inl ⟨id,hid,rfl⟩
   ·omega
 ·by_cases h:id=i
  ·subst h;have:=En he;subst this;simp at hn
  ·simp only [Cx.turn] at he ⊢;rw [Ae h] at he;exact ⟨e,he,rfl,by rw [if_neg (fun x=>h x.symm)]⟩
theorem SR.turn [Globs] {C:Cx} (aq:SR C) {w:World} {id b:Nat} {cs:List AV} {arr:Array Value} {t:TypeId} (hid:id<C.S.length) (hb:b=C.φ id\/C.w.heap.size<=b) (hle:Le C (C.turn w id b cs)) (gn:w.heap[b]?=some (.cells arr t (0,0)))
  (x7:∀ i,i<C.S.length->i≠id->w.heap[C.φ i]?=C.w.heap[C.φ i]?) (hv:∃ vs r,arr.toList=vs++r/\VRs C cs vs):SR (C.turn w id b cs):=by
 have hne:∀ i,i<C.S.length->i≠id->C.φ i≠b:=fun i hi h e=>by
  rcases hb with hb|hb
  ·exact h (aq.ne i id hi hid (by rw [e,hb]))
  ·have:=Qq aq hi; omega
 refine ⟨fun i x hx=>?_,fun i j hi hj h=>?_,aq.tok,fun i j o hi hj h h1 h2=>?_,fun x o hm=>?_,fun x o ha=>F7 (aq.avlt x o ha) hle.size,fun i o hi h1 h2=>F7 (aq.tlt i o hi h1 h2) hle.size,Rh aq hle⟩
 ·by_cases h:id=i
  ·subst h;have:=En hx;subst this;obtain ⟨vs,r,hv1,hv2⟩:=hv;exact ⟨I9 _,arr,t,by simp only [Cx.turn,if_true]; exact gn,vs,r,hv1,VRs.mono hle _ _ hv2⟩
  ·have hx':nth C.S i=some x:=by simp only [Cx.turn] at hx; rw [<- Ae h]; exact hx
   obtain ⟨h1,a',t',h2,vs,r,wl,h3⟩:=aq.ent i x hx';refine ⟨Nat.lt_succ_of_lt h1,a',t',?_,vs,r,wl,VRs.mono hle _ _ h3⟩;simp only [Cx.turn];rw [if_neg (fun e=>h e.symm),x7 i (Bl hx') (fun e=>h e.symm)]; exact h2
 ·simp only [Cx.turn,Am] at hi hj h;by_cases au:i=id <;> by_cases fu:j=id
  ·omega
  ·rw [if_pos au,if_neg fu] at h;exact absurd h.symm (hne j hj fu)
  ·rw [if_neg au,if_pos fu] at h;exact absurd h (hne i hi au)
  ·rw [if_neg au,if_neg fu] at h;exact aq.ne i j hi hj h
 ·simp only [Cx.turn,Am] at hi h hj h1 h2;by_cases au:i=id
  ·rw [if_pos au] at h;rcases hb with rfl|hb
   ·exact aq.apart id j o hid hj h h1 h2
   ·have:=aq.tlt j o hj h1 h2; omega
  ·rw [if_neg au] at h;exact aq.apart i j o hi hj h h1 h2
 ·rcases Ahj hm with h|rfl
  ·exact aq.own x o h
  ·rcases hb with rfl|hb
   ·exact aq.own _ o (.inl ⟨id,hid,rfl⟩)
   ·intro ha;have:=aq.avlt _ o ha; omega
theorem Akg [Globs] {C:Cx} (aq:SR C) {t ty:TypeId} {x y av:AV} {vx vy:Value} {S':List Ent} {n':Nat} (hx:VR C x vx) (hy:VR C y vy) (h:apO P t x y C.S C.n=some (av,S',n')) :
  ∃ v C',(Sg #[t,t] ty #[vx,vy]).run P C.w=.ok v C'.w/\Le C C'/\SR C'/\C'.S=S'/\C'.tk=C.tk/\C'.n=n'/\VR C' av v:=by
 unfold apO at h;split at h;case h_2=>simp at h
 rename_i sz hT;split at h;case h_2=>simp at h
 rename_i m ys hL;split at h;case isFalse=>simp at h
 rename_i hm;obtain ⟨dc,hmr⟩:=hm;simp only [roomy,decide_eq_true_eq] at hmr;obtain ⟨e,i,z,hu,hi,hz,hsz,hpos,vp,hby,-⟩:=Yj hT;obtain ⟨b2,o2,cap2,news,rfl,bm,b7,a0d,cr⟩:=Aik hy hL dc hpos;have jk:∀ (j:Nat) u,news[j]?=some u->C.w.cell? (kK ⟨b2,o2,none⟩ j)=some u:=fun j u hj=>by rw [D7]; exact (Lm a0d j u hj).1
 unfold apO2 at h;split at h
 ·simp only [Bg,Cf] at h;obtain ⟨rfl,rfl,rfl⟩:=h;simp only [VR] at hx;obtain ⟨a,len,cap,rfl,hlen,hcap,hC,hE⟩:=hx;obtain ⟨rfl,hcl⟩:a=none/\cap=len:=hC;simp only [Cv] at hlen;subst hlen;subst hcl;have g9:m*i.bytes<=140737488355328:=by
   have:m*i.bytes<=1048576*1048576:=Pz hmr hby
   omega
  have hrun:=run_append_nil (P:=P) C.w t ty e i z hu hi hz ⟨b2,o2,none⟩ m cap2 news dR jk aA aA aA;generalize hA:(news.toArray++Ow z.cells (grownCap C.w m 0 e - m))=arr at hrun;have lh:=grownCap_ge C.w m 0 e;have a3a:arr.size=grownCap C.w m 0 e*sz:=by
   rw [<- hA];simp only [Array.size_append,List.size_toArray,size_zeroCells,vp,b7];rw [Nat.sub_mul];have:=F8 sz lh;omega
  have hd:Below C.w.heap.size C.w C.w.drew:=(F1 _ _).drew;have a2k:SR (C.at C.w.drew):=SR.of_below aq hd;have hv:∃ vs r,arr.toList=vs++r/\VRs (C.at C.w.drew) ys vs:=⟨news,(Ow z.cells (grownCap C.w m 0 e - m)).toList,by rw [<- hA]; simp,VRs.mono (Le.of_below hd) _ _ bm⟩;refine ⟨_,(C.at C.w.drew).more arr e ys,hrun,(Le.of_below hd).trans (Le.more a2k _ _ _),SR.moreP a2k hv,rfl,rfl,rfl,?_⟩;simp only [VR];refine ⟨C.w.heap.size,_,_,rfl,lh,.inr rfl,I9 _,fun e' mf p6=>⟨?_,arr,e,?_,aA⟩⟩
  ·simp [Cx.more,Cx.at]
  ·exact Az C.w.drew _
 ·rename_i id ep len sz';split at h;case isFalse=>simp at h
  rename_i hh;obtain ⟨rfl,bw⟩:=hh;split at h;case h_2=>simp at h
  rename_i cs gp;split at h;case isFalse=>simp at h
  rename_i hh;obtain ⟨hcl,b8⟩:=hh;simp only [roomy,decide_eq_true_eq] at b8;simp only [Bg,Cf] at h;obtain ⟨rfl,rfl,rfl⟩:=h;obtain ⟨en,h1,h2,rfl⟩:=Ds gp;simp only [VR] at hx;obtain ⟨b,a,cap,rfl,hcap,ha,hn,hb⟩:=hx;obtain rfl:=ha.resolve_left aA;obtain ⟨rfl,arr,tt,h3,dw⟩:=hb en h1 h2;obtain ⟨-,arr',tt',yg,olds,r,hor,kn⟩:=aq.ent id en h1;rw [h3] at yg;simp only [Bg,kO] at yg;obtain ⟨rfl,rfl,-⟩:=yg;have dx:=Bl h1;have oj:=Bh kn;have a3a:arr.size=olds.length+r.length:=by rw [<- Iy,hor,Cn]
  have jy:len*sz'+m*sz'=(len+m)*sz':=(V9 _ _ _).symm;have a0s:VRs C (en.cells++ys) (olds++news):=Hv kn bm;by_cases fy:len+m<=cap
  ·have xo:(len+m)*sz'<=cap*sz':=F8 _ fy;have hrun:=Lp (P:=P) C.w t ty e i hu hi (C.φ id) len cap tt arr h3 ⟨b2,o2,none⟩ m cap2 news dR jk cr fy (by rw [hsz,b7]; omega);rw [hsz] at hrun;generalize hA:(arr.toList.take (len*sz')++news++arr.toList.drop (len*sz'+news.length)).toArray=arr1 at hrun;have me:arr1.size=arr.size:=by rw [<- hA]; simp; omega
   have jz:arr.toList.take (len*sz')=olds:=by rw [hor,Oq aA,Ff aA]
   have hv:∃ vs r,arr1.toList=vs++r/\VRs C (en.cells++ys) vs:=⟨olds++news,arr.toList.drop (len*sz'+news.length),by rw [<- hA,jz],a0s⟩;have xn:(C.w.setRow (C.φ id) arr1).heap[C.φ id]?=some (.cells arr1 tt (0,0)):=setRow_heap _ _ _ _ _ _ h3;have hle:Le C (C.turn (C.w.setRow (C.φ id) arr1) id (C.φ id) (en.cells++ys)):=by
    have hm:∀ o,C.Mut (C.φ id) o:=fun o=>.inl ⟨id,dx,rfl⟩;refine Le.turn dx (.inl rfl) rfl rfl rfl (by simp) (fun x o v hv hn=>?_) (fun x _ hn=>?_) (fun x d t' fz hd=>?_)
    ·have hne:x≠C.φ id:=fun h=>hn (h ▸ hm o);have:=setRow_other C.w (C.φ id) x arr1 hne;simpa [Mx,this] using hv
    ·exact setRow_other C.w (C.φ id) x arr1 fun h=>hn 0 (h ▸ hm 0)
    ·by_cases h:x=C.φ id
     ·subst h;rw [h3] at hd;simp only [Bg,kO] at hd;obtain ⟨rfl,rfl,rfl⟩:=hd;exact ⟨arr1,xn,me⟩
     ·exact ⟨d,Za4o,rfl⟩
   refine ⟨_,_,hrun,hle,SR.turn aq dx (.inl rfl) hle xn (fun i hi hne=>setRow_other _ _ _ _ fun h=>hne (aq.ne i id hi dx h)) hv,rfl,rfl,rfl,?_⟩;simp only [VR];refine ⟨C.φ id,_,_,rfl,fy,.inr rfl,I9 _,fun e' mf p6=>⟨by simp [Cx.turn],arr1,tt,xn,aA⟩⟩
  ·have jd:cap<len+m:=aA
   have g9:(len+m)*i.bytes<=140737488355328:=by
    have:(len+m)*i.bytes<=1048576*1048576:=Pz b8 hby
    omega
   have hcells:∀ (j:Nat) v,olds[j]?=some v->C.w.cell? (kK ⟨C.φ id,0,none⟩ j)=some v:=fun j v hj=>by
    rw [D7,Fk];have:arr.toList[j]?=some v:=by rw [hor,Cy (F9.1 hj).1]; exact hj
    simp [Mx,h3]; simpa using this
   have hrun:=run_append_grow (P:=P) C.w t ty e i z hu hi hz ⟨C.φ id,0,none⟩ len cap olds (by rw [hsz]; omega) hcells ⟨b2,o2,none⟩ m cap2 news dR jk jd aA (growslice_fits jd g9);generalize hA:(olds.toArray++news.toArray++Ow z.cells (grownCap C.w (len+m) cap e - (len+m)))=arr1 at hrun;have lh:=grownCap_ge C.w (len+m) cap e;have a4q:arr1.size=grownCap C.w (len+m) cap e*sz':=by
    rw [<- hA];simp only [Array.size_append,List.size_toArray,size_zeroCells,vp,b7];rw [Nat.sub_mul];have:=F8 sz' lh;omega
   have hbel:Below C.w.heap.size C.w (C.w.drew.alloc (.cells arr1 e)):=((F1 _ _).drew).alloc (by simp) _;have xn:(C.w.drew.alloc (.cells arr1 e)).heap[C.w.heap.size]?=some (.cells arr1 e (0,0)):=Az C.w.drew _;have hle:Le C (C.turn (C.w.drew.alloc (.cells arr1 e)) id C.w.heap.size (en.cells++ys)) :=
    Le.turn dx (.inr (Ce _)) hbel.os hbel.tape hbel.output hbel.size (fun x o v hv _=>Za4e) (fun x hx _=>hbel.block x hx) (fun x d t' fz hd=>⟨d,Dw hbel hd,rfl⟩)
   have hv:∃ vs r,arr1.toList=vs++r/\VRs C (en.cells++ys) vs:=⟨olds++news,(Ow z.cells (grownCap C.w (len+m) cap e - (len+m))).toList,by rw [<- hA]; simp,a0s⟩;refine ⟨_,_,hrun,hle,SR.turn aq dx (.inr (Ce _)) hle xn (fun i hi _=>hbel.block _ (Qq aq hi)) hv,rfl,rfl,rfl,?_⟩;simp only [VR];refine ⟨C.w.heap.size,_,_,rfl,lh,.inr rfl,I9 _,fun e' mf p6=>⟨by simp [Cx.turn],arr1,e,xn,aA⟩⟩
 ·simp at h
end
section
variable {P:Program}
theorem Le.take {C:Cx} (k:Nat):Le C { C with S:=C.S.take k }:=by
 refine ⟨rfl,rfl,rfl,Ce _,rfl,Ce _,?_,fun _ _ _ h _=>h,fun _ _ _=>rfl,fun _ cs _ _ h=>⟨cs,h,rfl⟩,?_,fun _ q h=>⟨q,h,Ce _,fun _=>rfl⟩⟩
 ·rintro b o - (⟨i,hi,h⟩|h)
  ·exact .inl ⟨i,cQ,h⟩
  ·exact .inr h
 ·intro i e h _;rw [Af,Oc] at h;split at h
  ·exact ⟨e,by rw [Af]; exact h,rfl,rfl⟩
  ·simp at h
theorem SR.take [Globs] {C:Cx} (hs:SR C) (k:Nat):SR { C with S:=C.S.take k }:=by
 have hle:=Le.take (C:=C) k;refine ⟨fun i e h=>?_,fun i j hi hj h=>hs.ne i j cQ (by simp at hj; omega) h,hs.tok,fun i j o hi=>hs.apart i j o cQ,?_,hs.avlt,hs.tlt,Rh hs hle⟩
 ·rw [Af,Oc] at h;split at h
  ·obtain ⟨h1,cs,t,h2,vs,r,wl,h3⟩:=hs.ent i e (by rw [Af]; exact h);exact ⟨h1,cs,t,h2,vs,r,wl,VRs.mono hle _ _ h3⟩
  ·simp at h
 ·rintro b o (⟨i,hi,h⟩|h)
  ·exact hs.own b o (.inl ⟨i,cQ,h⟩)
  ·exact hs.own b o (.inr h)
def Ll [Globs] (P:Program) (call:Dv):Prop :=
 ∀ f args S tk n r S' tk' n', call f args S tk n = some (r, S', tk', n') → (∃ fn, P.funcs[f]? = some fn ∧ (fn.name == "runtime.NumGoroutine") = false ∧ fn.body.isNone = false) ∧
  ∀ (C:Cx) (vs:Array Value),C.S=S->C.tk=tk->C.n=n->SR C->VRs C args vs.toList ->
   Calls P f vs C.w fun e w'=>∃ v C',e=.returned v/\C'.w=w'/\Le C C'/\SR C'/\C'.S=S'/\C'.tk=tk'/\C'.n=n'/\VR C' r v
theorem Hr {o:Oper} {a:Act} {w w':World} {v:Value} {next:Act->World->Prop} {Q:Exit->Act->World->Prop} (h:(execOp a.eval o).run P w=.ok (.value v) w') (hn:next (a.put o.dst v) w'):o.wp P a w next Q:=by
 unfold Oper.wp; rw [h]; exact hn
theorem H4 [Globs] {call:Dv} (hc:Ll P call) {C:Cx} {st st':St} {a:Act} {o:Oper} {av:AV} (hr:Rel C st a) (h:evO P call o st=some (av,st')) {next:Act->World->Prop} {Q:Exit->Act->World->Prop}
  (hn:∀ v C',Le C C'->SR C'->C'.S=st'.S->C'.tk=st'.tk->C'.n=st'.n->VR C' av v->next (a.put o.dst v) C'.w):o.wp P a C.w next Q/\st'.T=st.T:=by
 have hρ:=Ae9 hr.tmps;have quiet:∀ av',evQ P o (opv st.T)=some av'->(av',st)=(av,st')->o.wp P a C.w next Q/\st'.T=st.T:=by
  intro av' hq e;simp only [Cf] at e;obtain ⟨rfl,rfl⟩:=e;obtain ⟨v,w',h1,h2,h3⟩:=Alt hr.sr hρ hq;exact ⟨Hr h1 (hn v (C.at w') (Le.of_below h2) (SR.of_below hr.sr h2) hr.S hr.tk hr.n h3),rfl⟩
 unfold evO at h;split at h
 ·rename_i t x e;simp only [Cd,Cf] at h;obtain ⟨v,h,rfl,rfl⟩:=h;rw [<- hr.S] at h;obtain ⟨u,h1,h2⟩:=Abv hr.sr (hρ x) h;exact ⟨Hr (v:=u) (w':=C.w) (by simp [execOp,e,h1]) (hn u C (Le.refl C) hr.sr hr.S hr.tk hr.n h2),rfl⟩
 ·rename_i t x y e;simp only [Cd,Cf] at h;obtain ⟨S',h,rfl,rfl⟩:=h;rw [<- hr.S] at h;obtain ⟨C',h1,h2,h3,h4,h5,h6⟩:=An6 hr.sr (hρ x) (hρ y) h;refine ⟨?_,rfl⟩;unfold Oper.wp;have:(execOp a.eval o).run P C.w=.ok .skip C'.w:=by simp [execOp,e,h1]
  rw [this];exact hn undef C' h2 h3 h4 (h5.trans hr.tk) (h6.trans hr.n) bW
 ·rename_i t e;simp only [Cd,Cf] at h;obtain ⟨cs,h,rfl,rfl⟩:=h;obtain ⟨zv,h1,rfl⟩:=K0 (w:=C.w) h;refine ⟨Hr (v:=.pointer (some ⟨C.w.heap.size,0,none⟩)) (w':=C.w.alloc (.cells zv.cells t)) ?_ ?_,rfl⟩
  ·simp only [execOp,e,Instr.alloc,F3,h1,Fv,newVar,Jp,I4]
  ·have:=hn (.pointer (some ⟨C.w.heap.size,0,none⟩)) (C.more zv.cells t (zv.cells.toList.map cst1)) (Le.more hr.sr _ _ _) (SR.more hr.sr (Ka _)) Za47 hr.tk Za5e (by rw [<- hr.S,<- hr.n]; exact Aru);exact this
 ·rename_i t x e;simp only [Cd,Cf] at h;obtain ⟨cs,h,rfl,rfl⟩:=h;have hv:=Hj h (hρ x);refine ⟨Hr (v:=.pointer (some ⟨C.w.heap.size,0,none⟩)) (w':=C.w.alloc (.cells (a.eval x).cells t)) ?_ ?_,rfl⟩
  ·simp only [execOp,e,Instr.box,F3,Fv,newVar,Jp,I4]
  ·have:=hn (.pointer (some ⟨C.w.heap.size,0,none⟩)) (C.more (a.eval x).cells t cs) (Le.more hr.sr _ _ _) (SR.more hr.sr hv) Za47 hr.tk Za5e (by rw [<- hr.S,<- hr.n]; exact Aru);exact this
 ·rename_i t l c e;simp only [Cd,Prod.exists] at h;obtain ⟨l',sz,cs,h,hh⟩:=h;obtain ⟨el,m,arr,r1,r2,r3,r4,r5⟩:=Amw (hρ l) (hρ c) h;have hrun:(execOp a.eval o).run P C.w=.ok (.value (.slice (some ⟨C.w.heap.size,0,none⟩) l' m)) (C.w.alloc (.cells arr el)):=by simp [execOp,e,r1]
  have hb:Below C.w.heap.size C.w (C.w.alloc (.cells arr el)):=(F1 _ _).alloc (Ce _) _;have gn:cs.length=arr.size:=by rw [<- r2]; simp
  split at hh
  ·rename_i jd;simp only [Cf] at hh;obtain ⟨rfl,rfl⟩:=hh;have hlm:l'*sz<=m*sz:=F8 _ r3;have ab:Be C.tk .tight sz=true:=rfl;have hn':Nq C .tight C.w.heap.size (l'*sz) (m*sz):=.inr (.inl (Ce _));have hle:Le C (C.tok (C.w.alloc (.cells arr el)) .tight (C.w.heap.size,l'*sz,m*sz)) :=
    Le.of_tok ab hn' rfl rfl rfl hb.size (fun x o v hv _=>by rw [lP hb (Ha hv)]; exact hv) (fun x hlt _=>hb.block x hlt) (fun b d t fz hd=>⟨d,Dw hb hd,rfl⟩)
   have aq:=SR.of_tok hr.sr ab hn' (fun _=>(Ck.1 (Az C.w (.cells arr el))).1) hle (fun i hi=>hb.block _ (Qq hr.sr hi));have hcap:CapR (C.tok (C.w.alloc (.cells arr el)) .tight (C.w.heap.size,l'*sz,m*sz)) (.tok C.tk.length 0 sz) (some ⟨C.w.heap.size,0,none⟩) l' m:=K8 (c:=.tight) ab (.inr ⟨arr,el,rfl,rfl,Az _ _,aA⟩);have hv:VR (C.tok (C.w.alloc (.cells arr el)) .tight (C.w.heap.size,l'*sz,m*sz)) (mkV (len0 l) st.tk.length l' sz cs) (.slice (some ⟨C.w.heap.size,0,none⟩) l' m):=by
    unfold mkV;split
    ·rename_i bw;have qx:l'=0:=by
      cases l with
      | const v=>cases v with
       | int k z =>
        unfold len0 at bw
        split at bw
        ·rename_i k' he
         simp only [Operand.const.injEq,jO.injEq] at he
         obtain ⟨rfl,rfl⟩:=he
         simp [opv,cst,cst1,intN] at r5; exact r5.symm
        ·simp at bw
       | _=>simp [len0] at bw
      | _=>simp [len0] at bw
     subst qx;simp only [VR];refine ⟨_,0,m,rfl,rfl,Ci _,?_,.inl trivial⟩;rw [<- hr.tk];exact hcap
    ·unfold Ms;split
     ·rename_i es xw;split
      ·rename_i hp;obtain ⟨g1,g2,g3,g4⟩:=Nk xw;simp only [tokA,VR];refine ⟨_,l',m,rfl,by simp [g1],r3,by rw [<- hr.tk]; exact hcap,.inr ⟨C.w.heap.size,0,sz,rfl,?_⟩⟩;obtain ⟨e1,e2,e3,e4,e5,e6,e7,e8,e9,e10,e11⟩:=N0 (w:=C.w.alloc (.cells arr el)) (x:=(C.w.heap.size,l'*sz,m*sz)) ab;have ri:(es.map (·.map w1)).flatten=((arr.toList.map cst1).take (l'*sz)).map w1:=by rw [r2,<- g3,List.map_flatten]
       have yb:VRs C ((arr.toList.map cst1).take (l'*sz)) (arr.toList.take (l'*sz)):=(K4 (Ka _) (Nm (by rw [r2]; exact g4))).1;refine Hi (l:=arr.toList.take (l'*sz)) (fun e he=>?_) ?_ (Ln fun j v hj=>?_)
       ·exact Ya2u
       ·rw [ri];refine PRs.stays hle.stays _ _ (Kr (C:=C) ?_ (Xa yb));rw [r2,<- g3,Fc];intro c hc;exact Ya0v
       ·rw [Fk];have jm:j<l'*sz:=by
         exact Ya1u
        rw [Ij jm] at hj;constructor
        ·rw [e1];simp only [Mx,Az];simpa using hj
        ·rintro (fc|ft)
         ·rw [e2] at fc;have:=hr.sr.avlt _ _ fc; omega
         ·rcases Ug ab hn' ft with h|⟨-,h1,h2,-⟩
          ·exact hr.sr.fresh (Ce _) (.inr h)
          ·omega
      ·simp only [tokA,VR]
     ·simp only [tokA,VR]
   exact ⟨Hr hrun (hn _ _ hle aq hr.S (by show C.tk++[0]=_; rw [hr.tk]) hr.n hv),rfl⟩
  ·simp only [Cf] at hh;obtain ⟨rfl,rfl⟩:=hh;subst r2;refine ⟨Hr hrun (hn _ (C.more arr el (arr.toList.map cst1)) (Le.more hr.sr _ _ _) (SR.more hr.sr (Ka _)) Za47 hr.tk Za5e ?_),rfl⟩;simp only [VR];refine ⟨C.w.heap.size,some ⟨C.w.heap.size,0,none⟩,m,rfl,r3,.inr rfl,by rw [<- hr.n]; exact I9 _,fun e' mf p6=>⟨?_,arr,el,Az _ _,?_⟩⟩
   ·rw [<- hr.S];simp [Cx.more]
   ·simp only [Fg,Iy] at r4;omega
 ·rename_i c e;split at h
  ·rename_i hb;split at h
   ·rename_i x y t t' iw ht;split at h
    ·split at h
     ·rename_i vq;subst vq;simp only [Cd,Cf,Prod.exists] at h;obtain ⟨v,S',n',h,rfl,rfl⟩:=h;have aa:=Lx hr.tmps c.args.toList;rw [iw] at aa;obtain ⟨ux,uy,hu⟩:=Acz aa;rw [hu] at aa;simp only [VRs,and_true] at aa;rw [<- hr.S,<- hr.n] at h;obtain ⟨w,C',h1,h2,h3,h4,h5,h6,h7⟩:=Akg (ty:=o.type) hr.sr aa.1 aa.2 h;have ha:c.args.map a.eval=#[ux,uy]:=dD
      have q7:c.argTypes=#[t,t]:=dN
      exact ⟨Hr (v:=w) (w':=C'.w) eY (hn w C' h2 h3 h4 (h5.trans hr.tk) h6 h7),rfl⟩
     ·simp at h
    split at h
    ·rename_i vq;subst vq;simp only [Cd,Cf,Prod.exists] at h;obtain ⟨v,tk',h,rfl,rfl⟩:=h;have aa:=Lx hr.tmps c.args.toList;rw [iw] at aa;obtain ⟨ux,uy,hu⟩:∃ ux uy,c.args.toList.map a.eval=[ux,uy]:=by
      have:=Bh aa;match hl:c.args.toList.map a.eval with
      | [p,q]=>exact ⟨p,q,rfl⟩
      | []=>rw [hl] at this; simp at this
      | [_]=>rw [hl] at this; simp at this
      | _ :: _ :: _ :: _=>rw [hl] at this; simp at this
     rw [hu] at aa;simp only [VRs,and_true] at aa;rw [<- hr.tk,<- hr.S] at h;obtain ⟨w,C',h1,h2,h3,h4,h5,h6,h7⟩:=Ahx (ty:=o.type) hr.sr aa.1 aa.2 h;have ha:c.args.map a.eval=#[ux,uy]:=dD
     have q7:c.argTypes=#[t,t]:=dN
     exact Ya2i
    ·simp only [Cd,Cf,Prod.exists] at h;obtain ⟨v,tk',h,rfl,rfl⟩:=h;have aa:=Lx hr.tmps c.args.toList;rw [iw] at aa;obtain ⟨ux,uy,hu⟩:=Acz aa;rw [hu] at aa;simp only [VRs,and_true] at aa;rw [<- hr.tk] at h;obtain ⟨w,C',h1,h2,h3,h4,h5,h6,h7⟩:=Aki (ty:=o.type) hr.sr aa.1 aa.2 h;have ha:c.args.map a.eval=#[ux,uy]:=dD
     have q7:c.argTypes=#[t,t']:=dN
     exact Ya2i
   ·simp at h
  ·rename_i hb;split at h
   ·rename_i x y t t' iw ht;simp only [Cd,Cf,Prod.exists] at h;obtain ⟨m,S',h,rfl,rfl⟩:=h;have aa:=Lx hr.tmps c.args.toList;rw [iw] at aa;obtain ⟨ux,uy,hu⟩:=Acz aa;rw [hu] at aa;simp only [VRs,and_true] at aa;rw [<- hr.S] at h;obtain ⟨C',h1,h2,h3,h4,h5,h6⟩:=Alh (ty:=o.type) (t':=t') hr.sr aa.1 aa.2 h;have ha:c.args.map a.eval=#[ux,uy]:=dD
    have q7:c.argTypes=#[t,t']:=dN
    exact ⟨Hr (v:=.int .i64 (m:Int)) (w':=C'.w) eY (hn _ C' h2 h3 h4 (h5.trans hr.tk) (h6.trans hr.n) bW),rfl⟩
   ·simp at h
  ·exact Ya38
  ·split at h
   ·rename_i f args gt;simp only [Cd,Cf,Prod.exists] at h;obtain ⟨r,S',tk',n',h,rfl,rfl⟩:=h;refine ⟨?_,rfl⟩;unfold Gy at gt;split at gt
    ·rename_i x m hx;split at gt
     ·rename_i ti vi yh;simp only [Cd,Cf] at gt;obtain ⟨f',hm,rfl,rfl⟩:=gt;have rk:=hρ x;rw [yh] at rk;simp only [VR] at rk;obtain ⟨u,rk,hu⟩:=rk;obtain ⟨⟨fn,g1,g2,g3⟩,bo⟩:=hc _ _ _ _ _ _ _ _ _ h;have aa:VRs C (vi :: c.args.toList.map (opv st.T)) (u :: c.args.toList.map a.eval):=by simp only [VRs]; exact ⟨hu,Lx hr.tmps c.args.toList⟩
      have hC:=bo C (#[u]++c.args.map a.eval) hr.S hr.tk hr.n hr.sr (by simpa using aa);have hrun:(execOp a.eval o).run P C.w=.ok (.enter f' (#[u]++c.args.map a.eval)) C.w:=by
       have b7 : ¬ fn.name = "runtime.NumGoroutine" := eR
       have cl:¬ fn.body=none:=Za2r
       have hmr:=Aio (P:=P) (w:=C.w) (u:=u) hm;have hz0:(#[Value.iface ti u]++c.args.map a.eval)[0]?=some (.iface ti u):=by simp [Array.getElem?_append]
       have hz1:(#[Value.iface ti u]++c.args.map a.eval).extract 1 (#[Value.iface ti u]++c.args.map a.eval).size=c.args.map a.eval:=by
        apply kF; simp [Ff]
       simp only [execOp,e,resolve,hx,rk,invoke,F3,I4,Fv,hz0,hz1,callMethod];simp [callFunc,hmr,g1,b7,cl]
      exact Ya0a
     ·simp at gt
    ·rename_i x hx;split at gt
     ·rename_i f' caps yh;simp only [Bg,Cf] at gt;obtain ⟨rfl,rfl⟩:=gt;have rk:=hρ x;rw [yh] at rk;simp only [VR] at rk;obtain ⟨us,rk,yi⟩:=rk;obtain ⟨⟨fn,g1,g2,g3⟩,bo⟩:=hc _ _ _ _ _ _ _ _ _ h;have aa:=Hv (Lx hr.tmps c.args.toList) yi;have hC:=bo C (c.args.map a.eval++us) hr.S hr.tk hr.n hr.sr (by simpa using aa);have hrun:(execOp a.eval o).run P C.w=.ok (.enter f' (c.args.map a.eval++us)) C.w:=by
       have b7 : ¬ fn.name = "runtime.NumGoroutine" := eR
       exact Ya23
      exact Ya0a
     ·rename_i f' caps yh;simp only [Bg,Cf] at gt;obtain ⟨rfl,rfl⟩:=gt;have rk:=hρ x;rw [yh] at rk;simp only [VR] at rk;obtain ⟨us,rk,yi⟩:=rk;obtain ⟨⟨fn,g1,g2,g3⟩,bo⟩:=hc _ _ _ _ _ _ _ _ _ h;have aa:=Hv yi (Lx hr.tmps c.args.toList);have hC:=bo C (us++c.args.map a.eval) hr.S hr.tk hr.n hr.sr (by simpa using aa);have hrun:(execOp a.eval o).run P C.w=.ok (.enter f' (us++c.args.map a.eval)) C.w:=by
       have b7 : ¬ fn.name = "runtime.NumGoroutine" := eR
       exact Ya23
      exact Ya0a
     ·simp at gt
    ·simp at gt
   ·simp at h
 ·exact Ya38
theorem J1 {C:Cx} {T:List AV} {a:Act} {ops:Array Oper} {o:Oper} {b:Bool} (ht:VRs C T a.tmps.toList) (h:J7 ops.toList T o=some b):Sk o (yielded ops a.tmps)=b:=by
 unfold J7 at h;unfold Sk;split at h
 ·rename_i hg; rw [hg]; simpa using h
 ·rename_i g want hg;rw [hg];simp only;split at h
  ·simp at h
  ·rename_i d hd;have d8:(ops[g]?).bind (·.dst)=some d:=by rw [Af] at hd; simpa using hd
   unfold yielded;rw [d8];simp only [Ov];by_cases hlt:d<T.length
   ·obtain ⟨v,h1,h2⟩:=W9 ht (Al3 hlt);have qa:a.tmps[d]?=some v:=aY
    rw [qa];split at h
    ·exact Ya3k
    ·exact Ya3k
    ·simp at h
   ·rw [P8 (iW hlt)] at h;simp at h
theorem Rel.put [Globs] {C C':Cx} {st st':St} {a:Act} {d:Option Tmp} {v:Value} {av:AV} (hr:Rel C st a) (hle:Le C C') (hs:SR C') (h1:C'.S=st'.S) (h2:C'.tk=st'.tk) (h3:C'.n=st'.n) (hv:VR C' av v) (hT:st'.T=st.T) :
  Rel C' { st' with T:=putT st'.T d av } (a.put d v) :=
 ⟨h1,h2,h3,Yh (by rw [hT]; exact VRs.mono hle _ _ hr.tmps) hv,by cases d <;> exact hr.defers,hs⟩
theorem Rg [Globs] {call:Dv} (hc:Ll P call) {ops:Array Oper} {Q:Exit->Act->World->Prop} : ∀ {l:List Oper} {C:Cx} {st st':St} {a:Act},Rel C st a->evOs P call ops.toList l st=some st' ->
  (∀ a' C',Le C C'->Rel C' st' a'->Q .normal a' C'.w)->wpList P ops Q l a C.w
 | [],C,st,st',a,hr,h,hQ=>by
  simp only [evOs,Bg] at h; subst h;exact hQ a C (Le.refl C) hr
 | o :: l,C,st,st',a,hr,h,hQ=>by
  simp only [evOs] at h;split at h
  ·simp at h
  ·rename_i hw;have:=J1 hr.tmps hw;unfold wpList;rw [if_neg (by rw [this]; simp)];exact Rg hc (hr.put (Le.refl C) hr.sr hr.S hr.tk hr.n bW rfl) h hQ
  ·rename_i hw;have:=J1 hr.tmps hw;unfold wpList;rw [if_pos this];split at h
   ·rename_i v st1 ho;split at h;case isFalse=>simp at h
    have hT:st1.T=st.T:=(H4 (next:=fun _ _=>True) (Q:=Q) hc hr ho (fun _ _ _ _ _ _ _ _=>trivial)).2;refine .inl (H4 hc hr ho fun u C' k1 k2 k3 k4 k5 k6=>?_).1;exact Rg hc (hr.put k1 k2 k3 k4 k5 k6 hT) h fun a' C'' k ju=>hQ a' C'' (k1.trans k) ju
   ·simp at h
theorem Aeu {c:Code} {Q:Exit->Act->World->Prop} (J:Nat->Act->World->Prop) (round:∀ n a w,J n a w->c.wp P (Exit.then (fun a' w'=>∃ m,m<n/\J m a' w') Q) a w) {n:Nat} {a:Act} {w:World} (h0:J n a w):(lO c).wp P Q a w:=by
 intro b k cs;have key:∀ n a w,J n a w->∃ e a' w',Q e a' w'/\Arrives P (lone (b.at a (.code c :: .inLoop c :: k)) cs w) b k cs e a' w':=by
  intro n;induction n using Ss with
  | _ n ih =>
   intro a w hJ;obtain ⟨e,a₁,w₁,hq,gn⟩:=round n a w hJ b (.inLoop c :: k) cs;cases e with
   | normal =>
    obtain ⟨m,hlt,hJ₁⟩:=hq;obtain ⟨e₂,a₂,w₂,hq₂,harr₂⟩:=ih m hlt a₁ w₁ hJ₁;exact ⟨e₂,a₂,w₂,hq₂,.of_steps (Steps.trans gn (.one step_inLoop)) harr₂⟩
   | exit id=>exact ⟨_,a₁,w₁,hq,.pass (x:=.inLoop c) rfl (fun _ _=>.inl (by simp)) gn⟩
   | goto l=>exact ⟨_,a₁,w₁,hq,.pass (x:=.inLoop c) rfl (fun _ _=>.inl (by simp)) gn⟩
   | ret=>exact ⟨_,a₁,w₁,hq,.pass (x:=.inLoop c) rfl (fun _ _=>.inl (by simp)) gn⟩
   | panic ch=>exact ⟨_,a₁,w₁,hq,.pass (x:=.inLoop c) rfl (fun _ _=>.inl (by simp)) gn⟩
   | outgrown=>exact ⟨_,a₁,w₁,hq,.pass (x:=.inLoop c) rfl (fun _ _=>.inl (by simp)) gn⟩
 obtain ⟨e,a',w',hq,gn⟩:=key n a w h0;exact ⟨e,a',w',hq,.of_steps (.one step_loop) gn⟩
def exOf:Ex->Exit
 | .normal=>.normal
 | .exit id=>.exit id
 | .ret=>.ret
def Avd [Globs] (call:Dv):Prop:=∀ f args S tk n r S' tk' n',call f args S tk n=some (r,S',tk',n')->S'=S/\tk'=tk/\(shF f=true\/(n'=n/\∀ S2 tk2 n2,call f args S2 tk2 n2=some (r,S2,tk2,n2)))
def Ue [Globs] (call:Dv):Prop:=∀ f args S tk n r S' tk' n',call f args S tk n=some (r,S',tk',n')->(xF f && Globs.dr)=true\/(S'=S/\tk'=tk/\(shF f=true\/(n'=n/\∀ S2 tk2 n2,call f args S2 tk2 n2=some (r,S2,tk2,n2))))
def extC (P:Program) [Ext P]:Dv:=fun f args S tk n=>if Ext.on P f=true then Ext.call P f args S tk n else none
class Ahm [Globs] (P:Program) [Ext P]:Prop where
 ok:Ll P (extC P)
 indep:∀ M,@Avd (gM M) (@Gp (gM M) P _ (extC P))
theorem Yl [Globs] [Ext P] {M:Md} {call:Dv} (h:Ll P call):Ll P (@Gp (gM M) P _ call):=by
 intro f args S tk n r S' tk' n' hh;unfold Gp at hh;split at hh
 ·exact h f args S tk n r S' tk' n' hh
 ·simp at hh
def Asn (P:Program) (real ops:Array Oper):Option (Nat × Oper)->Prop
 | none=>real=ops
 | some (p,al)=>real.size=ops.size/\(∀ i:Nat,i≠p->real[i]?=ops[i]?)/\(∀ (i:Nat) (o:Oper),ops[i]?=some o->isMk o=false)/\real[p]?=some al/\al.guard=none/\al.dst.isSome=true/\(∃ t cs,al.op=.alloc t/\A2 P t=some cs)/\ops[p]?=some { al with op:=.move (.global 0) }
def Wb (P:Program) (lt:Option (Nat × Oper)) (st:St):St :=
 match lt with
 | none=>st
 | some (_,al)=>match al.op with
  | .alloc t=>{ st with T:=putT st.T al.dst (.ref st.S.length st.n 0),S:=st.S++[⟨st.n,(A2 P t).getD []⟩],n:=st.n+1 }
  | _=>st
def Aew [Globs] (P:Program) (ok:St->List Oper->Bool):Prop:=P.follows .mixedOrders=true /\
 ∀ (call:Dv),Ll P call->∀ (real ops:Array Oper) (lt:Option (Nat × Oper)),Asn P real ops lt->@Ue (gM (mdOf ops.toList)) call->∀ (C:Cx) (st st':St) (a:Act) (Q:Exit->Act->World->Prop),ok st ops.toList=true->Rel C st a->@evOs (gM (mdOf ops.toList)) P call ops.toList ops.toList st=some st' ->
  (∀ a' C',Le C C'->Rel C' (Wb P lt st') a'->Q .normal a' C'.w)->wpAny P .any real Q real.size (Su real.size false) a { C.w with drawn:=C.w.drawn+1 }
theorem Pa:∀ {L:List Oper} {p:Nat} {al:Oper} {x:Oper},Nt L=some (p,al)->Aqk al=true/\L[p]?=some al/\(openL (L++[x])).length=L.length/\(openL (L++[x]))[p]?=some { al with op:=.move (.global 0) }/\(∀ i,i≠p->(openL (L++[x]))[i]?=L[i]?)/\∀ o ∈ openL (L++[x]),isMk o=false
 | [],_,_,_,h=>by simp [Nt] at h
 | o :: l,p,al,x,h=>by
  have hop:∀ (l:List Oper),openL (o :: l++[x])=Wx o :: openL (l++[x]):=fun l=>by cases l <;> rfl
  have keep:∀ (l:List Oper),l.any isMk=false->openL (l++[x])=l:=by
   intro l;induction l with
   | nil=>intro _; rfl
   | cons y l ih =>
    intro hl;simp only [List.any_cons,F0] at hl;have e:openL (y :: l++[x])=Wx y :: openL (l++[x]):=by cases l <;> rfl
    rw [e,ih hl.2];unfold Wx;rw [if_neg (by rw [hl.1]; simp)]
  unfold Nt at h;rw [hop];split at h
  ·rename_i gd;split at h
   ·rename_i hc;simp only [Ch,Ig] at hc;simp only [Bg,Cf] at h;obtain ⟨rfl,rfl⟩:=h;rw [keep l hc.2];refine ⟨hc.1,rfl,rfl,?_,fun i hi=>?_,fun y hy=>?_⟩
    ·unfold Wx; rw [if_pos gd]; rfl
    ·cases i with
     | zero=>exact absurd rfl hi
     | succ i=>rfl
    ·rcases C4.1 hy with rfl|hy
     ·unfold Wx; rw [if_pos gd]; rfl
     ·simpa using List.any_eq_false.1 hc.2 y hy
   ·cases h
  ·rename_i gd;simp only [Cd,Cf,Prod.exists] at h;obtain ⟨p',al',h,rfl,rfl⟩:=h;obtain ⟨a1,a2,a3,a4,a5,a6⟩:=Pa (x:=x) h;have e:Wx o=o:=by unfold Wx; rw [if_neg gd]
   rw [e];refine ⟨a1,a2,by simp [a3],a4,fun i hi=>?_,fun y hy=>?_⟩
   ·cases i with
    | zero=>rfl
    | succ i=>exact a5 i aA
   ·rcases C4.1 hy with rfl|hy
    ·simpa using gd
    ·exact a6 y hy
theorem Xn [Globs] {L:List Oper} {p:Nat} {al o:Oper} (h:L7 L=some (p,al,o)):∃ a,L=a++[o]/\Au0 a o=true/\isSt o=true/\Nt a=some (p,al):=by
 unfold L7 at h;split at h
 ·rename_i o' ho;split at h
  ·rename_i ht;simp only [Ch] at ht;simp only [Cd,Cf,Prod.exists] at h;obtain ⟨p',al',h,rfl,rfl,rfl⟩:=h;exact ⟨_,by rw [List.getLast?_eq_some_iff] at ho; obtain ⟨l,rfl⟩:=ho; simp,ht.1.2,ht.1.1,h⟩
  ·cases h
 ·cases h
theorem At6 {P:Program} {a:List Oper} {p:Nat} {al o:Oper} {t:TypeId} {cs:List AV} (h:Nt a=some (p,al)) (ht:al.op=.alloc t) (hz:A2 P t=some cs):Asn P a.toArray (openL (a++[o])).toArray (some (p,al)):=by
 obtain ⟨a1,a2,a3,a4,a5,a6⟩:=Pa (x:=o) h;unfold Aqk at a1;simp only [Ch,Ii] at a1;refine ⟨by simp [a3],fun i hi=>?_,fun i o' ho=>?_,by simpa using a2,a1.1.2,a1.2,⟨t,cs,ht,hz⟩,by simpa using a4⟩
 ·have:=a5 i hi;simp only [iL];exact this.symm
 ·exact a6 o' (Ip fX)
theorem Pl {L a:List Oper} {o:Oper} (h:Hq L=some (a,o)):L=a++[o]/\Aoc a o=true:=by
 unfold Hq at h;split at h
 ·rename_i o' ho;split at h
  ·rename_i ht;simp only [Bg,Cf] at h;obtain ⟨rfl,rfl⟩:=h;exact ⟨by rw [List.getLast?_eq_some_iff] at ho; obtain ⟨l,rfl⟩:=ho; simp,ht⟩
  ·cases h
 ·cases h
theorem Afr {kp:Bool} {m:Nat} {S:List Ent} : cutS kp m S=S.take (bif kp then S.length else m):=by
 cases kp <;> simp [cutS]
theorem Ad3 [Globs] {kp:Bool} {f:St->Option (Ex × St)} {c:Code} (hf:∀ (C:Cx) (st:St) (ex:Ex) (st':St) (a:Act) (Q:Exit->Act->World->Prop),f st=some (ex,st')->Rel C st a->(∀ a' C',Le C C'->Rel C' st' a'->Q (exOf ex) a' C'.w)->c.wp P Q a C.w)
  {k:Nat} {C:Cx} {st st':St} {ex:Ex} {a:Act} {Q:Exit->Act->World->Prop} (h:L9 kp f k st=some (ex,st')) (hr:Rel C st a) (hQ:∀ a' C',Le C C'->Rel C' st' a'->Q (exOf ex) a' C'.w):(lO c).wp P Q a C.w:=by
 refine Aeu (fun n a w=>∃ C1 st1,C1.w=w/\Le C C1/\Rel C1 st1 a/\L9 kp f n st1=some (ex,st')) ?_ (n:=k) ⟨C,st,rfl,Le.refl C,hr,h⟩;rintro n a1 w1 ⟨C1,st1,rfl,hle,bz,h1⟩;cases n with
 | zero=>simp [L9] at h1
 | succ n =>
  simp only [L9] at h1;split at h1
  ·rename_i st2 h2;refine hf C1 st1 .normal st2 a1 _ h2 bz fun a2 C2 ta ae=>?_;rw [Afr] at h1;generalize (bif kp then st2.S.length else st1.S.length)=mm at h1;refine ⟨n,I9 n,{ C2 with S:=C2.S.take mm },{ st2 with S:=st2.S.take mm },rfl,(hle.trans ta).trans (Le.take _),⟨by rw [ae.S],ae.tk,ae.n,VRs.mono (Le.take _) _ _ ae.tmps,ae.defers,ae.sr.take _⟩,h1⟩
  ·rename_i hne;refine hf C1 st1 ex st' a1 _ h1 bz fun a2 C2 ta ae=>?_;have:=hQ a2 C2 (hle.trans ta) ae;cases ex with
   | normal=>exact absurd h1 (hne st')
   | exit id=>exact this
   | ret=>exact this
theorem Ge [Globs] [Ext P] {call:Dv} (hc:Ll P call) (hi:∀ M,@Ue (gM M) (@Gp (gM M) P _ call)) {ok:St->List Oper->Bool} (hd:Aew P ok) {n:Nat} : ∀ (c:Code) (C:Cx) (st:St) (ex:Ex) (st':St) (a:Act) (Q:Exit->Act->World->Prop),evC P call ok n c st=some (ex,st')->Rel C st a ->
  (∀ a' C',Le C C'->Rel C' st' a'->Q (exOf ex) a' C'.w)->c.wp P Q a C.w
 | .skip,C,st,ex,st',a,Q,h,hr,hQ=>by
  simp only [evC,Bg,Cf] at h;obtain ⟨rfl,rfl⟩:=h;exact wp_skip (hQ a C (Le.refl C) hr)
 | .region id ops draw,C,st,ex,st',a,Q,h,hr,hQ=>by
  simp only [evC] at h;cases draw with
  | false =>
   rw [if_neg (by simp)] at h;simp only [Cd,Cf] at h;obtain ⟨st1,h,rfl,rfl⟩:=h;refine wp_region ?_;have:=Rg (Q:=Q) hc hr h hQ;have e:=wpOps_eq_wpList (P:=P) (ops:=ops) (Q:=Q) ops.toList 0 (fun j=>by simp);rw [List.range_eq_range'];simp only [Iy] at e;rw [e]; exact this
  | true =>
   rw [if_pos rfl] at h;split at h
   ·rename_i ini o ws;obtain ⟨hL,ht⟩:=Pl ws;split at h
    ·rename_i ab;split at h
     ·rename_i st1 h1;simp only [Cd,Cf] at h;obtain ⟨st2,h2,rfl,rfl⟩:=h;unfold Aoc at ht;simp only [Ch,Fc,iR,decide_eq_true_eq,Ii] at ht;obtain ⟨⟨⟨⟨-,hg⟩,cq⟩,hla⟩,hde⟩:=ht;have yj:ops=ini.toArray.push o:=by
       apply kF;rw [hL]; simp
      subst yj;have rn:ini.toArray.push o=(ini++[o]).toArray:=by simp
      refine wp_region_any hd.1 ?_;have hw:=hd.2 _ (Yl hc) ini.toArray ini.toArray none rfl (hi _) C st st1 a (Aod P o Q) (by simpa using ab) hr aY fun a' C' hle ju=>by
       show o.wp P a' C'.w (fun a' w'=>Q .normal a' w') Q;simp only [evOs,J7,hg] at h2;split at h2
       ·rename_i v s3 ho;split at h2;case isFalse=>simp at h2
        have hT:s3.T=st1.T:=(H4 (next:=fun _ _=>True) (Q:=Q) hc ju ho (fun _ _ _ _ _ _ _ _=>trivial)).2;exact Ya0x
       ·simp at h2
      exact Yac
     ·simp at h
    ·simp at h
   ·split at h
    ·rename_i p al o hlt;obtain ⟨ini,hL,ht,ai,om⟩:=Xn hlt;rw [hL] at h;split at h
     ·rename_i ab;split at h
      ·rename_i st1 h1;simp only [Cd,Cf] at h;obtain ⟨st2,h2,rfl,rfl⟩:=h;unfold Au0 at ht;simp only [Ch,Fc,iR,decide_eq_true_eq,Ii] at ht;obtain ⟨⟨⟨hg,cq⟩,hla⟩,hde⟩:=ht;have hal:=(Pa (x:=o) om).1;unfold Aqk at hal;simp only [Ch,Ii] at hal;obtain ⟨t,hta⟩:∃ t,al.op=.alloc t:=by
        have:=hal.1.1;split at this
        ·rename_i t h; exact ⟨t,h⟩
        ·cases this
       have a3b:=hal.1.2;simp only [evOs,J7,a3b] at h2;split at h2;case h_2=>simp at h2
       rename_i v s3 c9;split at h2;case isFalse=>simp at h2
       have a2l:=c9;simp only [evO,hta,Cd,Cf] at a2l;obtain ⟨cs,hz,rfl,rfl⟩:=a2l;have a3c:({ T:=putT st1.T al.dst (.ref st1.S.length st1.n 0),S:=st1.S++[⟨st1.n,cs⟩],tk:=st1.tk,n:=st1.n+1 } : St)=Wb P (some (p,al)) st1:=by
        simp only [Wb,hta,hz,Oi]
       simp only at h2;rw [a3c] at h2;have yj:ops=ini.toArray.push o:=by
        apply kF;rw [hL]; simp
       subst yj;have rn:ini.toArray.push o=(ini++[o]).toArray:=by simp
       refine wp_region_any hd.1 ?_;have hw:=hd.2 _ (Yl hc) ini.toArray (openL (ini++[o])).toArray (some (p,al)) (At6 om hta hz) (hi _) C st st1 a (Aod P o Q) (by simpa using ab) hr aY fun a' C' hle ju=>by
        show o.wp P a' C'.w (fun a' w'=>Q .normal a' w') Q;simp only [hg] at h2;split at h2
        ·rename_i v s3 ho;split at h2;case isFalse=>simp at h2
         have hT:s3.T=(Wb P (some (p,al)) st1).T:=(H4 (next:=fun _ _=>True) (Q:=Q) hc ju ho (fun _ _ _ _ _ _ _ _=>trivial)).2;exact Ya0x
        ·simp at h2
       exact Yac
      ·simp at h
     ·simp at h
    ·split at h
     ·rename_i ab;simp only [Cd,Cf] at h;obtain ⟨st1,h,rfl,rfl⟩:=h;exact wp_region_any hd.1 (hd.2 _ (Yl hc) ops ops none rfl (hi _) C st st1 a Q ab hr h hQ)
     ·simp at h
 | .seq x y,C,st,ex,st',a,Q,h,hr,hQ=>by
  simp only [evC] at h;split at h
  ·rename_i st1 h1;refine wp_seq (Ge hc hi hd x C st .normal st1 a _ h1 hr fun a1 C1 lq bz=>?_);exact Ge hc hi hd y C1 st1 ex st' a1 Q h bz fun a2 C2 ta ae=>hQ a2 C2 (lq.trans ta) ae
  ·rename_i hne;refine wp_seq (Ge hc hi hd x C st ex st' a _ h hr fun a1 C1 lq bz=>?_);have:=hQ a1 C1 lq bz;cases ex with
   | normal=>exact absurd h (hne st')
   | exit id=>exact this
   | ret=>exact this
 | .cond x y z,C,st,ex,st',a,Q,h,hr,hQ=>by
  simp only [evC] at h;split at h
  ·rename_i t ht;have hv:=Ae9 hr.tmps x;rw [ht] at hv; simp only [VR] at hv;cases t with
   | true =>
    rw [if_pos rfl] at h;exact wp_cond_true hv (Ge hc hi hd y C st ex st' a Q h hr hQ)
   | false =>
    rw [if_neg (by simp)] at h;exact wp_cond_false hv (Ge hc hi hd z C st ex st' a Q h hr hQ)
  ·simp at h
 | .block id x,C,st,ex,st',a,Q,h,hr,hQ=>by
  simp only [evC] at h;split at h
  ·rename_i id' st1 h1;refine wp_block (Ge hc hi hd x C st (.exit id') st1 a _ h1 hr fun a1 C1 lq bz=>?_);simp only [exOf,Exit.inBlock];split at h
   ·rename_i hid;simp only [Bg,Cf] at h;obtain ⟨rfl,rfl⟩:=h;rw [if_pos hid]; exact hQ a1 C1 lq bz
   ·rename_i hid;simp only [Bg,Cf] at h;obtain ⟨rfl,rfl⟩:=h;rw [if_neg hid]; exact hQ a1 C1 lq bz
  ·rename_i hne;refine wp_block (Ge hc hi hd x C st ex st' a _ h hr fun a1 C1 lq bz=>?_);have:=hQ a1 C1 lq bz;cases ex with
   | normal=>exact this
   | exit id=>exact absurd h (hne id st')
   | ret=>exact this
 | .loop x,C,st,ex,st',a,Q,h,hr,hQ=>by
  simp only [evC] at h;exact Ad3 (fun C st ex st' a Q=>Ge hc hi hd x C st ex st' a Q) h hr hQ
 | .exit id,C,st,ex,st',a,Q,h,hr,hQ=>by
  simp only [evC,Bg,Cf] at h;obtain ⟨rfl,rfl⟩:=h;exact wp_exit (hQ a C (Le.refl C) hr)
 | .ret,C,st,ex,st',a,Q,h,hr,hQ=>by
  simp only [evC,Bg,Cf] at h;obtain ⟨rfl,rfl⟩:=h;exact wp_ret (hQ a C (Le.refl C) hr)
 | .rangeFunc _ _ _ _,_,_,_,_,_,_,h,_,_=>dU
 | .scope x,C,st,ex,st',a,Q,h,hr,hQ=>by
  simp only [evC] at h;refine wp_scope_straight (Ge hc hi hd x C st ex st' a _ h hr fun a1 C1 lq bz=>?_);have:=hQ a1 C1 lq bz;cases ex <;> exact this
 | .label l,C,st,ex,st',a,Q,h,hr,hQ=>by
  simp only [evC,Bg,Cf] at h;obtain ⟨rfl,rfl⟩:=h;exact wp_label (hQ a C (Le.refl C) hr)
 | .goto _,_,_,_,_,_,_,h,_,_=>dU
 | .refuse _,_,_,_,_,_,_,h,_,_=>dU
end
section
variable {P:Program}
def Ag1 (P:Program) (tmps:Array Value):ResultVar->Sem Value
 | .tmp t=>pure (tmps.getD t undef)
 | .cell a t=>do loadVar t (<- asAddr (tmps.getD a undef))
theorem Art {C:Cx} {T:List AV} {tmps:Array Value} (h:VRs C T tmps.toList) (t:Tmp):VR C (getT T t) (tmps.getD t undef) :=
 Ae9 (a:=⟨tmps,[]⟩) h (.tmp t)
theorem Aem [Globs] {C:Cx} {st:St} {a:Act} (hr:Rel C st a) {rv:ResultVar} {v:AV} (h:resA1 P st rv=some v):Has P C (Ag1 P a.tmps rv) v:=by
 cases rv with
 | tmp t =>
  simp only [resA1,Bg] at h; subst h;exact ⟨_,rfl,Art hr.tmps t⟩
 | cell p t =>
  simp only [resA1] at h;rw [<- hr.S] at h;obtain ⟨u,h1,h2⟩:=Abv hr.sr (Art hr.tmps p) h;refine ⟨u,?_,h2⟩;simp only [Ag1];generalize a.tmps.getD p undef=x at h1;cases x with
  | pointer b =>
   cases b with
   | none=>simp [jT,So] at h1
   | some b=>simpa [jT,So,asAddr] using h1
  | _=>simp [jT,So] at h1
theorem Agl [Globs] {C:Cx} {st:St} {a:Act} (hr:Rel C st a):∀ {rs:List ResultVar} {vs:List AV},mapO (resA1 P st) rs=some vs->∃ us,(rs.mapM (Ag1 P a.tmps)).run P C.w=.ok us C.w/\VRs C vs us
 | [],vs,h=>by
  simp only [mapO,Bg] at h; subst h;exact ⟨[],by simp,cI⟩
 | r :: rs,vs,h=>by
  simp only [mapO] at h;split at h
  ·rename_i b l h1 h2;simp only [Bg] at h; subst h;obtain ⟨u,g1,g2⟩:=Aem hr h1;obtain ⟨us,g3,g4⟩:=Agl hr h2;exact ⟨u :: us,by rw [List.mapM_cons]; simp only [F3,g1,Fv,g3,I4],by simp only [VRs]; exact ⟨g2,g4⟩⟩
  ·simp at h
theorem Ai0 [Globs] {C:Cx} {st:St} {a:Act} (hr:Rel C st a) {fn:Func} {v:AV} (h:resA P fn.results.toList st=some v):Has P C (results fn a.tmps) v:=by
 simp only [resA,Cd] at h;obtain ⟨vs,h,rfl⟩:=h;obtain ⟨us,h1,h2⟩:=Agl hr h;have hrun:(results fn a.tmps).run P C.w=.ok (if h:us.toArray.size=1 then us.toArray[0] else .tuple us.toArray) C.w:=by
  have e:results fn a.tmps=(do
   let vs <- fn.results.mapM (Ag1 P a.tmps)
   pure (if h:vs.size=1 then vs[0] else .tuple vs)):=by
   unfold results;congr 1
  rw [e,F3,Array.mapM_eq_mapM_toList,Sem.run_map,h1];rfl
 have hlen:=Bh h2;match us,vs,h2,hlen,hrun with
 | [u],[v],h2,_,hrun =>
  simp only [VRs] at h2;exact ⟨u,by rw [hrun]; simp,h2.1⟩
 | [],[],h2,_,hrun=>exact ⟨.tuple #[],by rw [hrun]; simp,Za4f⟩
 | u :: u' :: us,v :: v' :: vs,h2,_,hrun=>exact ⟨.tuple (u :: u' :: us).toArray,by rw [hrun]; simp,Za4f⟩
theorem VR_w3 {C:Cx} {c x} (h:VR C c x):VR C (w3 c) x:=by
 cases c with
 | tup cs =>
  simp only [w3,VR] at h ⊢;obtain ⟨vs,e,hr⟩:=h;exact ⟨vs,e,Akb hr⟩
 | _=>exact As6 h
theorem Xw {C C':Cx} {c x} (ai:Stays C.w C'.w C.Avoid C'.Avoid) (hp:pure1 c=true) (h:VR C c x):VR C' c x:=Yg (PR.stays ai _ _ (Ae1 hp h))
theorem Vz {C C':Cx} (ai:Stays C.w C'.w C.Avoid C'.Avoid):∀ {cs vs},cs.all pure1=true->VRs C cs vs->VRs C' cs vs
 | [],[],_,_=>cI
 | c :: cs,v :: vs,hp,h=>by
  simp only [Sw,Ch] at hp;simp only [VRs] at h ⊢;exact ⟨Xw ai hp.1 h.1,Vz ai hp.2 h.2⟩
 | [],_ :: _,_,h=>aW
 | _ :: _,[],_,h=>aW
theorem Xx {C C':Cx} {c x} (ai:Stays C.w C'.w C.Avoid C'.Avoid) (hp:pure2 c=true) (h:VR C c x):VR C' c x:=by
 cases c with
 | agg cs =>
  simp only [VR] at h ⊢;obtain ⟨vs,e,hr⟩:=h;exact ⟨vs,e,Vz ai hp hr⟩
 | _=>exact Xw ai hp h
theorem Pg {C C':Cx} (ai:Stays C.w C'.w C.Avoid C'.Avoid):∀ {cs vs},cs.all pure2=true->VRs C cs vs->VRs C' cs vs
 | [],[],_,_=>cI
 | c :: cs,v :: vs,hp,h=>by
  simp only [Sw,Ch] at hp;simp only [VRs] at h ⊢;exact ⟨Xx ai hp.1 h.1,Pg ai hp.2 h.2⟩
 | [],_ :: _,_,h=>aW
 | _ :: _,[],_,h=>aW
theorem Aiw {C C':Cx} {c x} (ai:Stays C.w C'.w C.Avoid C'.Avoid) (hp:pure3 c=true) (h:VR C c x):VR C' c x:=by
 cases c with
 | tup cs =>
  simp only [VR] at h ⊢;obtain ⟨vs,e,hr⟩:=h;exact ⟨vs,e,Pg ai hp hr⟩
 | _=>exact Xx ai hp h
theorem Afb {C:Cx} : ∀ n:Nat,VRs C (Cg n AV.bot) (Cg n undef)
 | 0=>by simp [VRs]
 | n+1=>by simp only [Oo,VRs,VR]; exact ⟨trivial,Afb n⟩
theorem Rf [Globs] [Ext P] {call:Dv} (hc:Ll P call) (hi:∀ M,@Ue (gM M) (@Gp (gM M) P _ call)) {ok:St->List Oper->Bool} (hd:Aew P ok) {k:Nat} {f:FuncId} {fn:Func} {c:Code} (hf:P.funcs[f]?=some fn) (hb:fn.body=some c) {C:Cx} (hs:SR C) {args:List AV} {vs:Array Value} (hv:VRs C args vs.toList) {r:AV} {st:St}
  (h:outA P fn (evC P call ok k c ⟨args++Cg (fn.ntmps - args.length) .bot,C.S,C.tk,C.n⟩)=some (r,st)) :
  Calls P f vs C.w fun e w'=>∃ v C',e=.returned v/\C'.w=w'/\Le C C'/\SR C'/\C'.S=st.S/\C'.tk=st.tk/\C'.n=st.n/\VR C' r v:=by
 have hlen:vs.size=args.length:=by have:=Bh hv; simpa using this.symm
 refine calls_of_wp hf hb ?_;have hrel:Rel C ⟨args++Cg (fn.ntmps - args.length) .bot,C.S,C.tk,C.n⟩ { tmps:=vs++Su (fn.ntmps - vs.size) undef,defers:=[] } :=
  ⟨rfl,rfl,rfl,by rw [hlen]; simpa using Hv hv (Afb _),rfl,hs⟩
 have fin:∀ {ex:Ex} {st':St},(ex=.normal\/ex=.ret)->(resA P fn.results.toList st').map (fun r=>(r,st'))=some (r,st)->∀ a' C',Le C C'->Rel C' st' a' ->
   bodyPost P fn (fun e w'=>∃ v C',e=.returned v/\C'.w=w'/\Le C C'/\SR C'/\C'.S=st.S/\C'.tk=st.tk/\C'.n=st.n/\VR C' r v) (exOf ex) a' C'.w:=by
  intro ex st' j0 he a' C' hle hr;simp only [Cd,Cf] at he;obtain ⟨r',he,rfl,rfl⟩:=he;obtain ⟨v,h1,h2⟩:=Ai0 hr he;rcases j0 with rfl|rfl
  ·exact Ya3y
  ·exact Ya3y
 generalize he:evC P call ok k c ⟨args++Cg (fn.ntmps - args.length) .bot,C.S,C.tk,C.n⟩=out at h;match out with
 | none=>simp [outA] at h
 | some (.exit _,_)=>simp [outA] at h
 | some (.normal,st')=>exact Ge hc hi hd c C _ .normal st' _ _ he hrel (fin (.inl rfl) h)
 | some (.ret,st')=>exact Ge hc hi hd c C _ .ret st' _ _ he hrel (fin (.inr rfl) h)
def Cx.alone (C:Cx):Cx:={ w:=C.w,av:=C.Avoid,φ:=C.φ,ψ:=C.ψ,S:=[],tk:=[],n:=0 }
theorem Um {C:Cx} {b o:Nat} : ¬ C.alone.Mut b o:=by
 rintro (⟨i,hi,_⟩|⟨i,hi,_⟩) <;> simp [Cx.alone] at hi
theorem SR.alone [Globs] {C:Cx} (hs:SR C):SR C.alone:=by
 refine ⟨fun i e h=>by simp [Cx.alone,nth] at h,fun i j hi=>fH,fun i j o hi=>fH,fun i j o hi=>fH,fun b o h=>absurd h Um,fun b o h=>?_,fun i o hi=>fH,fun g o h=>⟨(hs.glob g o h).1,fun i=>.inl ((hs.glob g o h).2 i)⟩⟩;rcases Ia b C.w.heap.size with h'|h'
 ·exact h'
 ·exact absurd h (hs.fresh h')
theorem Awk [Globs] {C:Cx} (hs:SR C) {m id o:Nat} (hid:id<C.S.length) (hm:m<=id):¬ ({ C with S:=C.S.take m } : Cx).Avoid (C.φ id) o:=by
 rintro (h|⟨i,hi,h⟩|⟨i,hi,h1,h2,h3⟩)
 ·exact hs.own _ o (.inl ⟨id,hid,rfl⟩) h
 ·simp only [Im] at hi;have:=hs.ne i id aA hid h;omega
 ·exact hs.apart id i o hid hi h1.symm h2 h3
theorem Abj [Globs] {C:Cx} (hs:SR C) (m:Nat) {c x} (h:VR C c x):VR { C with S:=C.S.take m } (fz1 m C.S c) x:=by
 have keep:VR { C with S:=C.S.take m } c x:=VR.mono (Le.take m) _ _ h;cases c with
 | sref id ep off len sz =>
  simp only [fz1];split
  ·rename_i hm;unfold fzB;split
   ·rename_i cs gp;obtain ⟨e,h1,h2,rfl⟩:=Ds gp;unfold Ms;split
    ·rename_i es xw;split
     ·rename_i hp;simp only [VR] at h;obtain ⟨b,a,cap,rfl,hcap,ha,hn,hb⟩:=h;obtain rfl:=(hb e h1 h2).1;obtain ⟨hlt,arr,t,h3,h4⟩:=hs.ent id e h1;obtain ⟨pd,h4⟩:=entP h4;obtain ⟨g1,g2,g3,g4⟩:=Nk xw;have g4':len*sz<=((e.cells++pd).drop off).length:=by simp at g4 ⊢; omega
      have g3':es.flatten=((e.cells++pd).drop off).take (len*sz):=by rw [g3,iY,Oq g4]
      simp only [VR];refine ⟨a,len,cap,rfl,by simp [g1],hcap,trivial,?_⟩;by_cases h0:len=0
      ·left;subst h0;rw [F4 g1]; rfl
      ·right;obtain rfl:=ha.resolve_left h0;have sw:=Bh h4;simp only [Iy] at sw;refine ⟨C.φ id,off,sz,rfl,Hi (l:=(arr.toList.drop off).take (len*sz)) (fun e he=>?_) ?_ (Ln fun j v hj=>⟨?_,Awk hs (Bl h1) hm⟩)⟩
       ·exact Ya2u
       ·have ri:(es.map (·.map w1)).flatten=(((e.cells++pd).drop off).take (len*sz)).map w1:=by rw [<- g3',List.map_flatten]
        have yb:VRs C (((e.cells++pd).drop off).take (len*sz)) ((arr.toList.drop off).take (len*sz)):=(K4 (M1 off h4) (Nm g4')).1;rw [ri];refine Kr (C:={ C with S:=C.S.take m }) ?_ (VRs.mono (Le.take m) _ _ (Xa yb));rw [<- g3',Fc];intro c hc;exact Ya0v
       ·have fu:j<len*sz:=by
         exact Ya1u
        exact Ya2c
     ·simp only [VR]
    ·simp only [VR]
   ·simp only [VR]
  ·exact keep
 | _=>exact keep
theorem Xl [Globs] {C:Cx} (hs:SR C) (m:Nat):∀ {cs vs},VRs C cs vs->VRs { C with S:=C.S.take m } (cs.map (fz1 m C.S)) vs
 | [],[],_=>eH
 | c :: cs,v :: vs,h=>by simp only [VRs,Cm] at h ⊢; exact ⟨Abj hs m h.1,Xl hs m h.2⟩
 | [],_ :: _,h=>aW
 | _ :: _,[],h=>aW
theorem Abk [Globs] {C:Cx} (hs:SR C) (m:Nat) {c x} (h:VR C c x):VR { C with S:=C.S.take m } (fz2 m C.S c) x:=by
 cases c with
 | agg cs =>
  simp only [fz2,VR] at h ⊢;obtain ⟨vs,e,hr⟩:=h;exact ⟨vs,e,Xl hs m hr⟩
 | _=>exact Abj hs m h
theorem Xm [Globs] {C:Cx} (hs:SR C) (m:Nat):∀ {cs vs},VRs C cs vs->VRs { C with S:=C.S.take m } (cs.map (fz2 m C.S)) vs
 | [],[],_=>eH
 | c :: cs,v :: vs,h=>by simp only [VRs,Cm] at h ⊢; exact ⟨Abk hs m h.1,Xm hs m h.2⟩
 | [],_ :: _,h=>aW
 | _ :: _,[],h=>aW
theorem Abl [Globs] {C:Cx} (hs:SR C) (m:Nat) {c x} (h:VR C c x):VR { C with S:=C.S.take m } (fz3 m C.S c) x:=by
 cases c with
 | tup cs =>
  simp only [fz3,VR] at h ⊢;obtain ⟨vs,e,hr⟩:=h;exact ⟨vs,e,Xm hs m hr⟩
 | _=>exact Abk hs m h
theorem Adu [Globs] [Ext P] {ok:St->List Oper->Bool} {k:Nat} {f:FuncId} {args:List AV} {S:List Ent} {tk:List Nat} {n:Nat} (hf:Ext.on P f=true):evF P ok (k+1) f args S tk n=extC P f args S tk n:=by
 simp only [evF,extC,hf,if_true]
structure Wm (A:Nat->Bool) (m:Nat) (S0:List Ent) (tk0:List Nat) (st:St):Prop where
 S:st.S.take m=S0
 le:m<=st.S.length
 tk:st.tk=tk0
 own:∀ q,A q=true->getT st.T q=.bot\/getT st.T q=.prim undef\/∃ id ep off,getT st.T q=.ref id ep off/\m<=id
theorem Al5:∀ {T:List AV} {d:Nat} {v:AV},d<T.length->getT (put T d v) d=v
 | _ :: _,0,_,_=>rfl
 | _ :: T,d+1,_,h=>Al5 (T:=T) aO
 | [],_,_,h=>aR
theorem Agb:∀ {T:List AV} {d q:Nat} {v:AV},d≠q->getT (put T d v) q=getT T q
 | [],_,_,_,_=>rfl
 | _ :: _,0,0,_,h=>absurd rfl h
 | _ :: _,0,_+1,_,_=>rfl
 | _ :: _,_+1,0,_,_=>rfl
 | _ :: T,d+1,q+1,_,h=>Agb (T:=T) aA
theorem Ani:∀ {T:List AV} {d:Nat} {v:AV},T.length<=d->put T d v=T
 | [],_,_,_=>rfl
 | _ :: _,0,_,h=>aR
 | _ :: T,d+1,_,h=>by simp only [put]; rw [Ani (T:=T) aO]
theorem Abn {T:List AV} {d:Option Nat} {v:AV} {q:Nat} : getT (putT T d v) q=getT T q\/(d=some q/\getT (putT T d v) q=v):=by
 cases d with
 | none=>exact .inl rfl
 | some d =>
  simp only [putT];by_cases h:d=q
  ·subst h;rcases Ia d T.length with hl|hl
   ·exact .inr ⟨rfl,Al5 hl⟩
   ·left; rw [Ani hl]
  ·exact .inl (Agb h)
theorem Ahf {α:Type} : ∀ {l:List α} {i m:Nat} {v:α},m<=i->(put l i v).take m=l.take m
 | [],_,_,_,_=>rfl
 | _ :: _,0,m,_,h=>by
  have:m=0:=aA
  subst this; rfl
 | _ :: _,_+1,0,_,_=>rfl
 | _ :: l,i+1,m+1,v,h=>by simp only [put,He,Ahf (l:=l) (i:=i) (m:=m) (v:=v) aA]
theorem At4 [Globs] {call:Dv} {o:Oper} {all:List Oper} {nn m:Nat} {S0:List Ent} {tk0:List Nat} {st st':St} {v:AV} (hA:o ∈ all) (hk:Vh all nn o=true) (hI:Wm (fun q=>decide (nn<=q) && Mg all q) m S0 tk0 st) (h:evO P call o st=some (v,st')) :
  Wm (fun q=>decide (nn<=q) && Mg all q) m S0 tk0 { st' with T:=putT st'.T o.dst v }:=by
 have slot:st'.T=st.T->(Lf o=true->∃ id ep off,v=.ref id ep off/\m<=id)->∀ q,(decide (nn<=q) && Mg all q)=true->getT (putT st'.T o.dst v) q=.bot\/getT (putT st'.T o.dst v) q=.prim undef\/∃ id ep off,getT (putT st'.T o.dst v) q=.ref id ep off/\m<=id:=by
  intro hT hv q hq;rcases Abn (T:=st'.T) (d:=o.dst) (v:=v) (q:=q) with e|⟨e1,e2⟩
  ·rw [e,hT]; exact hI.own q hq
  ·simp only [Ch] at hq;have:=Fc.1 hq.2 o hA;rw [e1] at this;simp only [bne_self_eq_false,Oe] at this;obtain ⟨id,ep,off,rfl,hm⟩:=hv this;exact .inr (.inr ⟨id,ep,off,e2,hm⟩)
 unfold evO at h;unfold Vh at hk;split at h
 ·rename_i t x e;simp only [Cd,Cf] at h;obtain ⟨_,_,rfl,rfl⟩:=h;exact ⟨hI.S,hI.le,hI.tk,slot rfl (fun hm=>fQ)⟩
 ·rename_i t x y e;rw [e] at hk;simp only [Cd,Cf] at h;obtain ⟨S',hs,rfl,rfl⟩:=h;cases x with
  | tmp q =>
   simp only at hk;unfold stA at hs;split at hs
   ·rename_i id ep off sz vs hx _ _;simp only [opv] at hx;split at hs
    ·split at hs
     ·split at hs
      ·simp only [Bg] at hs; subst hs;have hid:m<=id:=by
        rcases hI.own q hk with h1|h1|⟨id',ep',off',h1,h2⟩
        ·rw [h1] at hx; simp at hx
        ·rw [h1] at hx; simp at hx
        ·rw [h1] at hx; simp only [AV.ref.injEq] at hx; omega
       exact ⟨by show (put st.S id _).take m=S0; rw [Ahf hid]; exact hI.S,by show m<=(put st.S id _).length; rw [Am]; exact hI.le,hI.tk,slot rfl (fun hm=>fQ)⟩
      ·simp at hs
     ·simp at hs
    ·simp at hs
   ·simp at hs
  | _=>simp at hk
 ·rename_i t e;exact Ya14
 ·rename_i t x e;exact Ya14
 ·rename_i t l c e;rw [e] at hk;simp only [Ig] at hk;simp only [Cd,Prod.exists,hk] at h;obtain ⟨l',sz,cs,_,hh⟩:=h;rw [if_neg (by simp)] at hh;simp only [Cf] at hh;obtain ⟨rfl,rfl⟩:=hh;exact ⟨Za0n,Za07,hI.tk,slot rfl (fun hm=>fQ)⟩
 ·rename_i c e;rw [e] at hk;simp only at hk;split at h
  ·rename_i hb; rw [hb] at hk; simp at hk
  ·rename_i hb; rw [hb] at hk; simp at hk
  ·simp only [Cd,Cf] at h; obtain ⟨_,_,rfl,rfl⟩:=h;exact ⟨hI.S,hI.le,hI.tk,slot rfl (fun hm=>fQ)⟩
  ·rename_i h1 h2 h3;exfalso;cases hc:c.callee with
   | builtin b=>cases b <;> first|exact h1 hc|exact h2 hc|exact h3 _ hc
   | value x=>rw [hc] at hk; simp at hk
   | invoke x m=>rw [hc] at hk; simp at hk
 ·rename_i h1 h2 h3 h4 h5 h6;simp only [Cd,Cf] at h; obtain ⟨_,_,rfl,rfl⟩:=h;refine ⟨hI.S,hI.le,hI.tk,slot rfl (fun hm=>?_)⟩;unfold Lf at hm;split at hm
  ·exact absurd dH (h3 _)
  ·exact absurd dH (h4 _ _)
  ·simp at hm
theorem M8 [G:Globs] {call:Dv} {allr all:List Oper} {nn m:Nat} {S0:List Ent} {tk0:List Nat} : ∀ {l:List Oper} {st st':St},(∀ o ∈ l,o ∈ all/\Vh all nn o=true)->Wm (fun q=>decide (nn<=q) && Mg all q) m S0 tk0 st->evOs P call allr l st=some st'->Wm (fun q=>decide (nn<=q) && Mg all q) m S0 tk0 st'
 | [],st,st',_,hI,h=>by simp only [evOs,Bg] at h; subst h; exact hI
 | o :: l,st,st',hq,hI,h=>by
  simp only [evOs] at h;split at h
  ·simp at h
  ·refine M8 (fun o ho=>hq o (by simp [ho])) ?_ h;refine ⟨hI.S,hI.le,hI.tk,fun q vr=>?_⟩;rcases Abn (T:=st.T) (d:=o.dst) (v:=.prim undef) (q:=q) with e|⟨_,e⟩
   ·simp only [e]; exact hI.own q vr
   ·exact .inr (.inl e)
  ·split at h
   ·rename_i v s1 ho;split at h;case isFalse=>simp at h
    obtain ⟨a1,a2⟩:=hq o (by simp);exact M8 (fun o ho=>hq o (by simp [ho])) (At4 a1 a2 hI ho) h
   ·simp at h
theorem Abt {kp:Bool} {A:Nat->Bool} {m:Nat} {S0:List Ent} {tk0:List Nat} {f:St->Option (Ex × St)} (hf:∀ st ex st',Wm A m S0 tk0 st->f st=some (ex,st')->Wm A m S0 tk0 st'):∀ {k:Nat} {st st':St} {ex:Ex},Wm A m S0 tk0 st->L9 kp f k st=some (ex,st')->Wm A m S0 tk0 st'
 | 0,_,_,_,_,h=>by simp [L9] at h
 | k+1,st,st',ex,hI,h=>by
  simp only [L9] at h;split at h
  ·rename_i s1 h1;have h2:=hf _ _ _ hI h1;have fe:m<=bif kp then s1.S.length else st.S.length:=by cases kp <;> first|exact hI.le|exact h2.le
   rw [Afr] at h;generalize (bif kp then s1.S.length else st.S.length)=mm at h fe;refine Abt (st:={ s1 with S:=s1.S.take mm }) hf ⟨?_,?_,h2.tk,h2.own⟩ h
   ·show (s1.S.take mm).take m=S0;rw [lF,Nat.min_eq_left fe]; exact h2.S
   ·show m<=(s1.S.take mm).length;rw [Im];exact Nat.le_min.2 ⟨fe,h2.le⟩
  ·exact hf _ _ _ hI h
theorem Amh [Globs] {L:List Oper} {p:Nat} {al o:Oper} {all:List Oper} {nn:Nat} (h:L7 L=some (p,al,o)):¬ ∀ o ∈ L,o ∈ all/\Vh all nn o=true:=by
 intro hq;unfold L7 at h;split at h
 ·split at h
  ·rename_i hc;simp only [Ch,List.any_eq_true] at hc;obtain ⟨x,hx,wt⟩:=hc.2;have hk:=(hq x (List.dropLast_subset _ hx)).2;unfold xOp at wt;unfold Vh at hk;split at wt
   ·rename_i c ew;rw [ew] at hk;simp only at hk;unfold Aev at wt;split at wt <;> rename_i ao <;> simp_all
   ·simp at wt
  ·simp at h
 ·simp at h
theorem G2 [Globs] [Ext P] {call:Dv} {ok:St->List Oper->Bool} {n nn m:Nat} {all:List Oper} {S0:List Ent} {tk0:List Nat} : ∀ (c:Code) (st:St) (ex:Ex) (st':St),(∀ o ∈ opsOf c,o ∈ all/\Vh all nn o=true)->Wm (fun q=>decide (nn<=q) && Mg all q) m S0 tk0 st->evC P call ok n c st=some (ex,st')->Wm (fun q=>decide (nn<=q) && Mg all q) m S0 tk0 st'
 | .skip,st,ex,st',_,hI,h=>eW
 | .exit _,st,ex,st',_,hI,h=>eW
 | .ret,st,ex,st',_,hI,h=>eW
 | .region _ ops draw,st,ex,st',hq,hI,h=>by
  simp only [opsOf] at hq;simp only [evC] at h;split at h
  ·split at h
   ·rename_i ini o ws;obtain ⟨hL,-⟩:=Pl ws;rw [hL] at hq;split at h
    ·split at h
     ·rename_i s1 h1;simp only [Cd,Cf] at h;obtain ⟨s2,h2,_,rfl⟩:=h;exact M8 (fun x hx=>hq x (Cu.2 (.inr hx))) (M8 (G:=gM _) (fun x hx=>hq x (Cu.2 (.inl hx))) hI h1) h2
     ·simp at h
    ·simp at h
   ·split at h
    ·rename_i hlt;exact absurd hq (Amh hlt)
    ·split at h
     ·simp only [Cd,Cf] at h;obtain ⟨s1,h,_,rfl⟩:=h;exact M8 (G:=gM _) hq hI h
     ·simp at h
  ·simp only [Cd,Cf] at h;obtain ⟨s1,h,_,rfl⟩:=h;exact M8 hq hI h
 | .seq a b,st,ex,st',hq,hI,h=>by
  simp only [opsOf,Cu] at hq;simp only [evC] at h;split at h
  ·rename_i s1 h1;exact G2 b _ _ _ (fun o ho=>hq o (.inr ho)) (G2 a _ _ _ (fun o ho=>hq o (.inl ho)) hI h1) h
  ·exact G2 a _ _ _ (fun o ho=>hq o (.inl ho)) hI h
 | .cond x a b,st,ex,st',hq,hI,h=>by
  simp only [opsOf,Cu] at hq;simp only [evC] at h;split at h
  ·split at h
   ·exact G2 a _ _ _ (fun o ho=>hq o (.inl ho)) hI h
   ·exact G2 b _ _ _ (fun o ho=>hq o (.inr ho)) hI h
  ·simp at h
 | .block id c,st,ex,st',hq,hI,h=>by
  simp only [opsOf] at hq;simp only [evC] at h;split at h
  ·rename_i id' s1 h1;have:=G2 c _ _ _ hq hI h1;split at h
   ·exact Ya35
   ·exact Ya35
  ·exact G2 c _ _ _ hq hI h
 | .loop c,st,ex,st',hq,hI,h=>by
  simp only [opsOf] at hq;simp only [evC] at h;exact Abt (fun s e s' hs hh=>G2 c s e s' hq hs hh) hI h
 | .rangeFunc _ _ _ _,_,_,_,_,_,h=>dU
 | .scope c,st,ex,st',hq,hI,h=>by
  simp only [opsOf] at hq;simp only [evC] at h;exact G2 c _ _ _ hq hI h
 | .label _,st,ex,st',_,hI,h=>eW
 | .goto _,_,_,_,_,_,h=>dU
 | .refuse _,_,_,_,_,_,h=>dU
theorem Al4 {args:List AV} {q n:Nat} (h:args.length<=q):getT (args++Cg n .bot) q=.bot:=by
 induction args generalizing q with
 | nil =>
  simp only [Ct];induction n generalizing q with
  | zero=>rfl
  | succ n ih=>cases q with
   | zero=>rfl
   | succ q=>exact ih (by simp)
 | cons x args ih=>cases q with
  | zero=>simp at h
  | succ q=>exact ih aO
theorem Uy [Globs] [Ext P] [hX:Ahm P] {ok:St->List Oper->Bool} : ∀ k M,@Ue (gM M) (@Gp (gM M) P _ (evF P ok k))
 | 0,M=>by intro f args S tk n r S' tk' n' h; simp [Gp,evF] at h
 | k+1,M=>by
  intro f args S tk n r S' tk' n' h;by_cases wu:Ext.on P f=true
  ·have e:∀ S tk n,@Gp (gM M) P _ (evF P ok (k+1)) f args S tk n=@Gp (gM M) P _ (extC P) f args S tk n:=by
    intro S tk n; simp only [Gp,Adu wu]
   rw [e] at h;obtain ⟨g1,g2,g4⟩:=hX.indep M _ _ _ _ _ _ _ _ _ h;exact .inr ⟨g1,g2,g4.imp _root_.id fun g4=>⟨g4.1,fun S2 tk2 n2=>by rw [e]; exact g4.2 S2 tk2 n2⟩⟩
  by_cases hxf:(@xF (gM M) f && @Globs.dr (gM M))=true
  ·exact .inl hxf
  right;unfold Gp at h;split at h
  ·rename_i hp;by_cases jv:((args.map w2).all pure2 && !Ext.mv P f)=true
   ·have ez:=jv;simp only [Ch,Ig] at ez;obtain ⟨hp1,td⟩:=ez;simp only [evF] at h;rw [if_neg wu] at h;split at h
    ·rename_i fn hf;split at h
     ·rename_i c hb;split at h
      ·simp at h
      ·rename_i a7;simp only [td,hp1,if_true,C7,if_false] at h;split at h
       ·rename_i r' ho;simp only [Bg,Cf] at h;obtain ⟨rfl,rfl,rfl,rfl⟩:=h;refine ⟨rfl,rfl,.inr ⟨rfl,fun S2 tk2 n2=>?_⟩⟩;unfold Gp;rw [if_pos hp];simp only [evF,hf,hb];rw [if_neg wu,if_neg a7,if_neg (by rw [td]; simp),if_pos hp1,ho]
       ·simp at h
     ·simp at h
    ·simp at h
   ·have wv:(@shF (gM M) f && Ns P f args.length && !Ext.mv P f && !Ext.on P f)=true:=by
     cases hx:((args.map w2).all pure2 && !Ext.mv P f) with
     | true=>exact absurd hx jv
     | false=>rw [hx] at hp; simpa [hxf] using hp
    simp only [Ch,Ig] at wv;obtain ⟨⟨⟨h1,h2⟩,td⟩,-⟩:=wv;have hpp:¬ (args.map w2).all pure2=true:=fun h=>jv (by simp [h,td]);simp only [evF] at h;rw [if_neg wu] at h;unfold Ns at h2;split at h
    ·rename_i fn hf;rw [hf] at h2;simp only at h2;split at h
     ·rename_i c hb;rw [hb] at h2;simp only at h2;split at h
      ·simp at h
      ·simp only [td,hpp,C7,if_false] at h;split at h
       ·rename_i r' st ho;simp only [Bg,Cf] at h;obtain ⟨rfl,rfl,rfl,rfl⟩:=h;have ll:∃ ex,evC P (evF P ok k) ok k c ⟨args++Cg (fn.ntmps - args.length) .bot,S,tk,n⟩=some (ex,st):=by
         generalize evC P (evF P ok k) ok k c ⟨args++Cg (fn.ntmps - args.length) .bot,S,tk,n⟩=o at ho;unfold outA at ho;split at ho
         ·exact Ya21
         ·exact Ya21
         ·simp at ho
        obtain ⟨ex,j0⟩:=ll;have hK:=G2 (all:=opsOf c) (nn:=args.length) (m:=S.length) (S0:=S) (tk0:=tk) c _ _ _ (fun o ho=>⟨ho,Fc.1 h2 o ho⟩)
         ⟨C8,Ce _,rfl,fun q hq=>.inl (Al4 (by simp only [Ch,decide_eq_true_eq] at hq; exact hq.1))⟩ j0
        exact ⟨hK.S,hK.tk,.inl h1⟩
       ·simp at h
     ·simp at h
    ·simp at h
  ·simp at h
theorem Abd [Globs] [Ext P] [hX:Ahm P] {ok:St->List Oper->Bool} (hd:Aew P ok):∀ k,Ll P (evF P ok k)
 | 0=>by intro f args S tk n r S' tk' n' h; simp [evF] at h
 | k+1=>by
  have hc:=Abd hd k;intro f args S tk n r S' tk' n' h;by_cases wu:Ext.on P f=true
  ·rw [Adu wu] at h;exact hX.ok _ _ _ _ _ _ _ _ _ h
  simp only [evF] at h;rw [if_neg wu] at h;split at h
  ·rename_i fn hf;split at h
   ·rename_i c hb;split at h
    ·simp at h
    ·rename_i a7;refine ⟨⟨fn,hf,dF,by rw [hb]; rfl⟩,?_⟩;rintro C vs rfl rfl rfl hs hv;split at h
     ·split at h
      ·rename_i r' st ho;simp only [Bg,Cf] at h;obtain ⟨rfl,rfl,rfl,rfl⟩:=h;exact Rf hc (Uy k) hd (k:=k) hf hb hs hv ho
      ·simp at h
     split at h
     ·rename_i hp;split at h
      ·rename_i r' ho;simp only [Bg,Cf] at h;obtain ⟨rfl,rfl,rfl,rfl⟩:=h;have ai:Stays C.w C.alone.w C.Avoid C.alone.Avoid:=fun b o v h1 h2=>⟨h1,fun h3=>h3.elim h2 Um⟩;have hv':=Pg ai hp (Akb hv);have one:∀ {as:List AV} {r0:AV},VRs C.alone as vs.toList->runP P ok (evF P ok k) k fn c as=some r0->Calls P f vs C.w fun e w'=>∃ v C',e=.returned v/\C'.w=w'/\Le C C'/\SR C'/\C'.S=C.S/\C'.tk=C.tk/\C'.n=C.n/\VR C' r0 v:=by
        intro as r0 hv' hrun;unfold runP at hrun;split at hrun
        ·rename_i r' st ho;split at hrun
         ·rename_i hp3;simp only [Bg] at hrun;subst hrun;refine Calls.mono (Rf hc (Uy k) hd (k:=k) hf hb hs.alone hv' ho) ?_;rintro e w' ⟨v,C',rfl,rfl,hle,hs',hS',-,-,h2⟩;have hbel:Below C.w.heap.size C.w C'.w:=⟨hle.os,hle.tape,hle.output,hle.size,fun b hb=>hle.keep b hb fun o=>Um⟩;refine ⟨v,C.at C'.w,rfl,rfl,Le.of_below hbel,SR.of_below hs hbel,rfl,rfl,rfl,?_⟩;have h3:=Abl hs' 0 h2;rw [hS'] at h3;refine Aiw (C:={ C' with S:=st.S.take 0 }) (fun b o x h1 h2=>⟨h1,fun h3=>h2 (.inl ?_)⟩) hp3 (VR_w3 h3);show C'.av b o;rw [hle.av]; exact h3
         ·simp at hrun
        ·simp at hrun
       split at ho
       ·unfold runN at ho;split at ho
        ·rename_i l hl;split at ho
         ·rename_i q1 q2;simp only [Bg] at ho;subst ho;rw [hl] at hv';cases hvl:vs.toList with
          | nil=>rw [hvl] at hv'; simp only [VRs] at hv'
          | cons x xs =>
           rw [hvl] at hv';simp only [VRs] at hv';obtain ⟨hx,hxs⟩:=hv';simp only [VR] at hx;obtain ⟨a,len,cap,rfl,h1,h2,-,h4⟩:=hx;cases a with
           | none=>exact one (as:=.frz [] .nl :: l) (by rw [hvl]; simp only [VRs,VR]; exact ⟨⟨none,len,cap,rfl,h1,h2,rfl,.inl trivial⟩,hxs⟩) q1
           | some a=>exact one (as:=.frz [] .nn :: l) (by rw [hvl]; simp only [VRs,VR]; exact ⟨⟨some a,len,cap,rfl,h1,h2,rfl,.inl trivial⟩,hxs⟩) q2
         ·simp at ho
        ·exact one hv' ho
       ·exact one hv' ho
      ·simp at h
     ·split at h
      ·rename_i r' st ho;simp only [Bg,Cf] at h;obtain ⟨rfl,rfl,rfl,rfl⟩:=h;refine Calls.mono (Rf hc (Uy k) hd (k:=k) hf hb hs hv ho) ?_;rintro e w' ⟨v,C',rfl,rfl,hle,hs',e1,e2,e3,h2⟩;have h3:=Abl hs' C.S.length h2;rw [e1] at h3;exact ⟨v,{ C' with S:=C'.S.take C.S.length },rfl,rfl,hle.trans (Le.take _),hs'.take _,by rw [<- e1],e2,e3,by rw [e1]; exact h3⟩
      ·simp at h
   ·simp at h
  ·simp at h
end
end
end Go.Proofs.YthelkgdmgihhiaaGreat
