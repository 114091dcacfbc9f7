/- Part 7. -/
import Derived.Test.YtcjffhadclngmaaGreatZC6
import Derived.Orders
import Derived.Scope
open Array renaming getElem?_eq_some_iff->Ck,getElem?_eq_getElem->Fi,getD_eq_getD_getElem?->Fv,length_toList->I4,getD->Se,replicate->Sl,getElem?_setIfInBounds->Sz,toList_inj->iH,ext'->jW,getElem?_push->kP
open Bool renaming and_eq_true->Ci,false_eq_true->Ef,or_eq_false_iff->Ff,not_eq_true'->Ob,false_or->Oi
open Go.Addr renaming add->kA
open Go.Builtin renaming zeroCells->Ow,append_->O6
open Go.Code renaming loop->lC
open Go.Instr renaming sureAddr->Sc,loadAt->jG
open Go.Obj renaming cells->jT
open Go.Obj.cells renaming injEq->kI
open Go.Region renaming wanted->O8
open Go.Result renaming andThen_ok->Fh
open Go.RowKit.Below renaming refl->Fp,cell->lD
open Go.Sem renaming run_bind->Fw,run_pure->I9
open Go.Value renaming int->jV
open Go.World renaming cell?->N5
open List renaming replicate->Cf,length_append->Cm,length_nil->Co,nil_append->Cq,map_cons->Ct,mem_cons->Cv,range->Cz,getElem?_append_left->C3,mem_append->C5,take_of_length_le->C6,map_nil->Ei,all_eq_true->Fb,length_map->Fj,take_length->Fm,mem_map->Ft,getElem?_eq_some_iff->Fx,eq_nil_of_length_eq_zero->Fz,take_succ_cons->F7,length_take->Iu,mem_of_getElem?->I8,getElem?_take->Od,replicate_succ->Om,take_append_of_le_length->Oo,getElem?_take_of_lt->Ot,foldl_cons->Sj,all_cons->Uo,getElem?_toArray->Uu,mem_range->Zk,mem_flatten->iG,drop_append->iI,getElem?_drop->iY,take_take->kU
open Nat renaming le_refl->Ce,zero_le->Cl,zero_add->El,le_trans->Fs,lt_of_lt_of_le->F1,mul_le_mul_right->F2,le_add_right->Ia,lt_or_ge->Im,mul_le_mul->Iv,lt_succ_self->L3,add_mul->O7,le_of_not_lt->O9,strongRecOn->Sk,le_succ->kC
open Option renaming map_eq_some_iff->Cd,isNone_iff_eq_none->Ig,getD_some->Nl,bind_some->Ou
open Option.some renaming injEq->A8
open Prod.mk renaming injEq->Cg
namespace Go.Proofs.YtcjffhadclngmaaGreat
section
open Go.RowKit
section
variable {P:Program} {ops:Array Oper}
theorem Gc {listed:Array Bool} {i:Nat} (h:i ∈ Region.ready .any ops listed):listed.getD i true=false/\∃ o,ops[i]?=some o/\∀ e ∈ depsOf ops i,listed.getD e false=true:=by
 obtain ⟨h0,o,ho,hd⟩:=mem_ready.1 h;refine ⟨h0,o,ho,fun e he=>?_⟩;unfold depsOf at he;rw [ho] at he;simp only [Ft,List.mem_filter] at he;obtain ⟨x,⟨hx,hb⟩,rfl⟩:=he;exact hd x eD hb
theorem Q8 {listed:Array Bool} {i:Nat} {o:Oper} (h0:listed.getD i true=false) (ho:ops[i]?=some o) (hd:∀ e ∈ depsOf ops i,listed.getD e false=true):i ∈ Region.ready .any ops listed:=by
 refine mem_ready.2 ⟨h0,o,ho,fun e he hb=>hd _ ?_⟩;exact Ya2w
theorem Dt {listed:Array Bool} (hc:∀ j,listed.getD j false=true->∀ e ∈ depsOf ops j,listed.getD e false=true) {i:Nat} (hd:∀ e ∈ depsOf ops i,listed.getD e false=true) :
  ∀ e ∈ reachAt ops i,listed.getD e false=true:=by
 unfold reachAt;generalize (Cz i).reverse=l;have key:∀ (l:List Nat) (s:List Nat),(∀ e ∈ s,listed.getD e false=true)->∀ e ∈ l.foldl (fun s j=>if s.contains j then depsOf ops j++s else s) s,listed.getD e false=true:=by
  intro l;induction l with
  | nil=>intro s hs; exact hs
  | cons j l ih =>
   intro s hs;simp only [Sj];apply ih;split
   ·rename_i hj;intro e he;rcases C5.1 he with h|h
    ·exact hc j (hs j bH) e h
    ·exact hs e h
   ·exact hs
 exact key l _ hd
theorem Auc {o:Oper} {a:Act} {w:World} {K:Act->World->Prop} {Q Q':Exit->Act->World->Prop} (hp:∀ c a w,Q (.panic c) a w->Q' (.panic c) a w) (hl:LetsOut Q->LetsOut Q') (hh:o.wp P a w K Q):o.wp P a w K Q':=by
 unfold Oper.wp at *;generalize (execOp a.eval o).run P w=r at *;cases r with
 | ok n w' =>
  cases n <;> simp only [Oper.upon] at hh ⊢ <;>
   first
    | exact hh
    | exact Calls.mono hh (fun e w'' he=>by cases e <;> first|exact he|exact hp _ _ _ he|exact hl he)
    | exact Rows.mono hh (fun _ _ he=>he)
 | halt x w'=>cases x <;> simp only [Oper.upon] at hh ⊢ <;> first|exact hh|exact hp _ _ _ hh|exact hl hh
def Aoc (P:Program) (o:Oper) (Q:Exit->Act->World->Prop):Exit->Act->World->Prop
 | .normal=>fun a w=>o.wp P a w (fun a' w'=>Q .normal a' w') Q
 | ex=>Q ex
theorem Hz {listed:Array Bool} {j:Nat} {d:Bool} (h:j<listed.size):(listed.push false).getD j d=listed.getD j d:=by
 simp [Fv,kP,Nat.ne_of_lt h]
theorem Z3 {listed:Array Bool} {d:Bool} : (listed.push false).getD listed.size d=false:=by
 simp [Fv,kP]
theorem Af6 {init:Array Oper} {o:Oper} {Q:Exit->Act->World->Prop} (hg:o.guard=none) (jl:∀ j,j<init.size->j ∈ reachAt (init.push o) init.size) (gp:∀ e ∈ depsOf (init.push o) init.size,e<init.size)
  (a0g:∀ i o',init[i]?=some o'->(∀ e ∈ depsOf init i,e<i)/\∀ g w,o'.guard=some (g,w)->g<init.size) :
  ∀ (fuel:Nat) (listed:Array Bool) (a:Act) (w:World),listed.size=init.size->(∀ j,listed.getD j false=true->∀ e ∈ depsOf init j,listed.getD e false=true) ->
   wpAny P .any init (Aoc P o Q) fuel listed a w->wpAny P .any (init.push o) Q (fuel+1) (listed.push false) a w:=by
 have ji:∀ i,i<init.size->(init.push o)[i]?=init[i]?:=fun i hi=>by rw [kP,if_neg aA]
 have jh:(init.push o)[init.size]?=some o:=by simp
 have hdo:∀ i,i<init.size->depsOf (init.push o) i=depsOf init i:=fun i hi=>by unfold depsOf; rw [ji i hi]
 have kh:∀ (listed:Array Bool),listed.size=init.size->∀ i,i<init.size->(i ∈ Region.ready .any (init.push o) (listed.push false)↔i ∈ Region.ready .any init listed):=by
  intro listed lh i hi;constructor
  ·intro h;obtain ⟨h0,o',il,hd⟩:=Gc h;rw [Hz aA] at h0;rw [ji i hi] at il;rw [hdo i hi] at hd;refine Q8 h0 il fun e he=>?_;have:=hd e he;have hlt:=(a0g i o' il).1 e he;rwa [Hz aA] at this
  ·intro h;obtain ⟨h0,o',il,hd⟩:=Gc h;refine Q8 (by rw [Hz aA]; exact h0) (by rw [ji i hi]; exact il) fun e he=>?_;rw [hdo i hi] at he;have hlt:=(a0g i o' il).1 e he;rw [Hz aA]; exact hd e he
 have a0h:∀ (listed:Array Bool),listed.size=init.size->Region.ready .any init listed=[]->∀ j,j<init.size->listed.getD j false=true:=by
  intro listed lh ei j;induction j using Sk with
  | _ j ihj =>
   intro hj;cases hl:listed.getD j false with
   | true=>rfl
   | false =>
    exfalso;have:j ∈ Region.ready .any init listed:=by
     refine Q8 ?_ (Fi hj) fun e he=>?_
     ·have gj:j<listed.size:=aA
      simpa [Se,gj] using hl
     ·have:=(a0g j _ (Fi hj)).1 e he;exact ihj e this aA
    rw [ei] at this; simp at this
 have a1t:∀ (listed:Array Bool),listed.size=init.size->(∀ j,listed.getD j false=true->∀ e ∈ depsOf init j,listed.getD e false=true)->init.size ∈ Region.ready .any (init.push o) (listed.push false)->Region.ready .any init listed=[]:=by
  intro listed lh hcl h;obtain ⟨-,o',-,hd⟩:=Gc h;have hc2:∀ j,(listed.push false).getD j false=true->∀ e ∈ depsOf (init.push o) j,(listed.push false).getD e false=true:=by
   intro j hj e he;by_cases hjn:j<init.size
   ·rw [Hz aA] at hj;rw [hdo j hjn] at he;have hlt:=(a0g j _ (Fi hjn)).1 e he;rw [Hz aA]; exact hcl j hj e he
   ·exfalso;by_cases vw:j=init.size
    ·rw [vw,<- lh,Z3] at hj; cases hj
    ·rw [Fv,Array.getElem?_eq_none aD] at hj; cases hj
  have d8:∀ j,j<init.size->listed.getD j false=true:=fun j hj=>by
   have:=Dt hc2 hd j (jl j hj);rwa [Hz aA] at this
  cases hr:Region.ready .any init listed with
  | nil=>rfl
  | cons x l =>
   have hx:x ∈ Region.ready .any init listed:=by rw [hr]; simp
   obtain ⟨h0,o',il,-⟩:=Gc hx;have hxl:=(Ck.1 il).1;have h1:=d8 x hxl;exact Ya33
 have a0i:∀ (fuel:Nat) (listed:Array Bool) (a:Act) (w:World),listed.size=init.size->(∀ j,j<init.size->listed.getD j false=true)->Aoc P o Q .normal a w ->
   wpOp P (init.push o) Q init.size (wpAny P .any (init.push o) Q fuel ((listed.push false).setIfInBounds init.size true)) a w:=by
  intro fuel listed a w lh d8 h;have ei:Region.ready .any (init.push o) ((listed.push false).setIfInBounds init.size true)=[]:=by
   cases hr:Region.ready .any (init.push o) ((listed.push false).setIfInBounds init.size true) with
   | nil=>rfl
   | cons x l =>
    exfalso;have hx:x ∈ Region.ready .any (init.push o) ((listed.push false).setIfInBounds init.size true):=by rw [hr]; simp
    obtain ⟨h0,o',il,-⟩:=Gc hx;have hxl:=(Ck.1 il).1;rw [Array.size_push] at hxl;rw [Fv,Sz] at h0;split at h0
    ·split at h0
     ·cases h0
     ·rename_i h1 h2; exact h2 aD
    ·have h1:=d8 x aA;rw [<- Fv,Hz aA] at h0;exact Ya33
  unfold wpOp;rw [jh];simp only;have hw:O8 o (yielded (init.push o) a.tmps)=true:=by unfold O8; rw [hg]
  rw [if_pos hw];left;refine Oper.wp_mono (fun a' w' hq=>?_) h;cases fuel with
  | zero=>exact ⟨ei,hq⟩
  | succ fuel=>exact ⟨fun _=>hq,fun i hi=>by rw [ei] at hi; simp at hi⟩
 intro fuel;induction fuel with
 | zero =>
  intro listed a w lh hcl h;obtain ⟨ei,hq⟩:=h;have d8:=a0h listed lh ei;have gd:init.size ∈ Region.ready .any (init.push o) (listed.push false):=by
   exact Ya2v
  refine ⟨fun hn=>by rw [hn] at gd; simp at gd,fun i hi=>?_⟩;by_cases a0j:i<init.size
  ·rw [kh listed lh i a0j,ei] at hi; simp at hi
  ·have m6:i=init.size:=by
    exact Ya1x
   subst m6;exact a0i 0 listed a w lh d8 hq
 | succ fuel ih =>
  intro listed a w lh hcl h;obtain ⟨h1,h2⟩:=h;refine ⟨fun hn=>?_,fun i hi=>?_⟩
  ·exfalso;have ei:Region.ready .any init listed=[]:=by
    cases hr:Region.ready .any init listed with
    | nil=>rfl
    | cons x l =>
     have hx:x ∈ Region.ready .any init listed:=by rw [hr]; simp
     obtain ⟨-,o',il,-⟩:=Gc hx;have:=(kh listed lh x (Ck.1 il).1).2 hx;rw [hn] at this; simp at this
   have d8:=a0h listed lh ei;have gd:init.size ∈ Region.ready .any (init.push o) (listed.push false):=by
    exact Ya2v
   rw [hn] at gd; simp at gd
  ·by_cases a0j:i<init.size
   ·have bc:=(kh listed lh i a0j).1 hi;have h3:=h2 i bc;obtain ⟨h0,o',il,hd⟩:=Gc bc;have aw:(listed.push false).setIfInBounds i true=(listed.setIfInBounds i true).push false:=by
     apply jW;simp [List.set_append,lh,a0j]
    have yo:∀ j,(listed.setIfInBounds i true).getD j false=true->∀ e ∈ depsOf init j,(listed.setIfInBounds i true).getD e false=true:=by
     intro j hj e he;have hup:∀ e,listed.getD e false=true->(listed.setIfInBounds i true).getD e false=true:=fun e he=>by
      rw [Fv,Sz];split
      ·rw [if_pos (by rename_i h; omega)]; rfl
      ·rw [<- Fv]; exact he
     by_cases hji:j=i
     ·subst hji; exact hup e (hd e he)
     ·refine hup e (hcl j ?_ e he);rw [Fv,Sz,if_neg (fun h=>hji h.symm),<- Fv] at hj;exact hj
    have hk:∀ a' w',wpAny P .any init (Aoc P o Q) fuel (listed.setIfInBounds i true) a' w'->wpAny P .any (init.push o) Q (fuel+1) ((listed.push false).setIfInBounds i true) a' w':=fun a' w' h=>by
     rw [aw]; exact ih _ a' w' (by simpa using lh) yo h
    unfold wpOp at h3 ⊢;rw [ji i a0j];rw [il] at h3 ⊢;simp only at h3 ⊢;have hy:O8 o' (yielded (init.push o) a.tmps)=O8 o' (yielded init a.tmps):=by
     unfold O8;cases hgd:o'.guard with
     | none=>rfl
     | some x =>
      obtain ⟨g,b⟩:=x;have hgl:=(a0g i o' il).2 g b hgd;simp only [yielded,ji g hgl]
    rw [hy];split
    ·rename_i hw;rw [if_pos hw] at h3;rcases h3 with h3|⟨h3,h4⟩
     ·exact .inl (Oper.wp_mono hk (Auc (fun c a w h=>h) (fun ⟨a,w,h⟩=>⟨a,w,h⟩) h3))
     ·exact .inr ⟨h3,let ⟨a,w,h⟩:=h4; ⟨a,w,h⟩⟩
    ·rename_i hw;rw [if_neg hw] at h3;exact hk _ _ h3
   ·have m6:i=init.size:=by
     exact Ya1x
    subst m6;have ei:=a1t listed lh hcl hi;exact a0i (fuel+1) listed a w lh (a0h listed lh ei) (h1 ei)
end
section
variable {P:Program}
theorem Ai3 {C:Cx} {sz m:Nat} {y:AV} {ys:List AV} {vy:Value} (hy:VR C y vy) (h:litC sz y=some (m,ys)) (h0:0<m) (hs:0<sz) :
  ∃ b o cap vs,vy=.slice (some ⟨b,o,none⟩) m cap/\VRs C ys vs/\vs.length=m*sz/\Lie C.w C.Avoid b o vs/\(∀ v ∈ vs,v.oneCell'=true):=by
 unfold litC at h;split at h
 ·rename_i es c;split at h
  ·rename_i hh;simp only [A8,Cg] at h;obtain ⟨rfl,rfl⟩:=h;simp only [VR] at hy;obtain ⟨a,len,cap,rfl,e1,e2,e3,e4⟩:=hy;rcases e4 with rfl|⟨b,o,sz',rfl,hr⟩
   ·simp at h0
   ·have hne:es≠[]:=by intro e; subst e; simp at h0
    have:=Pr hr hh.1 hne;subst this;obtain ⟨l,g1,g2,g3⟩:=Hs hr;exact ⟨b,o,cap,l,by rw [e1],Kx g2,g1,g3,Yp g2⟩
  ·simp at h
 ·rename_i len cs;split at h
  ·rename_i hh;simp only [A8,Cg] at h;obtain ⟨rfl,rfl⟩:=h;simp only [VR] at hy;obtain ⟨b,vs,rfl,hl,hv⟩:=hy;have:=Bc hv;exact ⟨b,0,len,vs,rfl,hv,aA,hl,Qf hv hh.2⟩
  ·simp at h
 ·simp at h
def Cx.turn (C:Cx) (w:World) (id b:Nat) (cs:List AV):Cx:={ C with w:=w,φ:=fun i=>if i=id then b else C.φ i,S:=put C.S id ⟨C.n,cs⟩,n:=C.n+1 }
theorem Ah9 {C:Cx} {w:World} {id b:Nat} {cs:List AV} {x o:Nat} (hm:(C.turn w id b cs).Mut x o):C.Mut x o\/x=b:=by
 rcases hm with ⟨i,hi,e⟩|h
 ·simp only [Cx.turn,Ai] at hi e;split at e
  ·exact .inr e.symm
  ·exact .inl (.inl ⟨i,hi,e⟩)
 ·exact .inl (.inr h)
theorem Le.turn {C:Cx} {w:World} {id b:Nat} {cs:List AV} (hid:id<C.S.length) (hb:b=C.φ id\/C.w.heap.size<=b) (hos:w.os=C.w.os) (a0b:w.tape=C.w.tape) (cl:w.output=C.w.output) (a0c:C.w.heap.size<=w.heap.size)
  (hcell:∀ x o v,C.w.cell? ⟨x,o,none⟩=some v->¬ C.Mut x o->w.cell? ⟨x,o,none⟩=some v) (ot:∀ x,x<C.w.heap.size->(∀ o,¬ C.Mut x o)->w.heap[x]?=C.w.heap[x]?)
  (vr:∀ (b:Nat) (cs:Array Value) (t:TypeId) (fz:Nat × Nat),C.w.heap[b]?=some (jT cs t fz)->∃ cs':Array Value,w.heap[b]?=some (jT cs' t fz)/\cs'.size=cs.size):Le C (C.turn w id b cs):=by
 refine ⟨hos,a0b,cl,a0c,rfl,kC _,fun x o hx hm=>?_,hcell,ot,vr,fun i e he hn=>?_,fun _ k hk=>⟨k,hk,Ce _,fun _=>rfl⟩⟩
 ·rcases Ah9 hm with h|rfl
  ·exact h
  ·rcases hb with rfl|hb
   ·exact .inl ⟨id,hid,rfl⟩
   ·omega
 ·by_cases h:id=i
  ·subst h;have:=Er he;subst this;simp at hn
  ·simp only [Cx.turn] at he ⊢;rw [Ab h] at he;exact ⟨e,he,rfl,by rw [if_neg (fun x=>h x.symm)]⟩
theorem SR.turn [Globs] {C:Cx} (ar:SR C) {w:World} {id b:Nat} {cs:List AV} {arr:Array Value} {t:TypeId} (hid:id<C.S.length) (hb:b=C.φ id\/C.w.heap.size<=b) (hle:Le C (C.turn w id b cs)) (jb:w.heap[b]?=some (.cells arr t (0,0)))
  (a0d:∀ i,i<C.S.length->i≠id->w.heap[C.φ i]?=C.w.heap[C.φ i]?) (hv:∃ vs r,arr.toList=vs++r/\VRs C cs vs):SR (C.turn w id b cs):=by
 have hne:∀ i,i<C.S.length->i≠id->C.φ i≠b:=fun i hi h e=>by
  rcases hb with hb|hb
  ·exact h (ar.ne i id hi hid (by rw [e,hb]))
  ·have:=Q1 ar hi; omega
 refine ⟨fun i x hx=>?_,fun i j hi hj h=>?_,ar.tok,fun i j o hi hj h h1 h2=>?_,fun x o hm=>?_,fun x o ha=>F1 (ar.avlt x o ha) hle.size,fun i o hi h1 h2=>F1 (ar.tlt i o hi h1 h2) hle.size,Rp ar hle⟩
 ·by_cases h:id=i
  ·subst h;have:=Er hx;subst this;obtain ⟨vs,r,hv1,vn⟩:=hv;exact ⟨L3 _,arr,t,by simp only [Cx.turn,if_true]; exact jb,vs,r,hv1,VRs.mono hle _ _ vn⟩
  ·have hx':nth C.S i=some x:=by simp only [Cx.turn] at hx; rw [<- Ab h]; exact hx
   obtain ⟨h1,a',t',h2,vs,r,yn,h3⟩:=ar.ent i x hx';refine ⟨Nat.lt_succ_of_lt h1,a',t',?_,vs,r,yn,VRs.mono hle _ _ h3⟩;simp only [Cx.turn];rw [if_neg (fun e=>h e.symm),a0d i (Br hx') (fun e=>h e.symm)]; exact h2
 ·simp only [Cx.turn,Ai] at hi hj h;by_cases bc:i=id <;> by_cases i7:j=id
  ·omega
  ·rw [if_pos bc,if_neg i7] at h;exact absurd h.symm (hne j hj i7)
  ·rw [if_neg bc,if_pos i7] at h;exact absurd h (hne i hi bc)
  ·rw [if_neg bc,if_neg i7] at h;exact ar.ne i j hi hj h
 ·simp only [Cx.turn,Ai] at hi h hj h1 h2;by_cases bc:i=id
  ·rw [if_pos bc] at h;rcases hb with rfl|hb
   ·exact ar.apart id j o hid hj h h1 h2
   ·have:=ar.tlt j o hj h1 h2; omega
  ·rw [if_neg bc] at h;exact ar.apart i j o hi hj h h1 h2
 ·rcases Ah9 hm with h|rfl
  ·exact ar.own x o h
  ·rcases hb with rfl|hb
   ·exact ar.own _ o (.inl ⟨id,hid,rfl⟩)
   ·intro ha;have:=ar.avlt _ o ha; omega
theorem Akn [Globs] {C:Cx} (ar:SR C) {t ty:TypeId} {x y av:AV} {vx vy:Value} {S':List Ent} {n':Nat} (hx:VR C x vx) (hy:VR C y vy) (h:apO P t x y C.S C.n=some (av,S',n')) :
  ∃ v C',(O6 #[t,t] ty #[vx,vy]).run P C.w=.ok v C'.w/\Le C C'/\SR C'/\C'.S=S'/\C'.tk=C.tk/\C'.n=n'/\VR C' av v:=by
 unfold apO at h;split at h;case h_2=>simp at h
 rename_i sz hT;split at h;case h_2=>simp at h
 rename_i m ys hL;split at h;case isFalse=>simp at h
 rename_i hm;obtain ⟨bh,hmr⟩:=hm;simp only [roomy,decide_eq_true_eq] at hmr;obtain ⟨e,i,z,hu,hi,hz,hsz,hpos,yb,hby,-⟩:=Y7 hT;obtain ⟨b2,o2,cap2,news,rfl,bm,bo,a1q,dm⟩:=Ai3 hy hL bh hpos;have j9:∀ (j:Nat) u,news[j]?=some u->C.w.cell? (kA ⟨b2,o2,none⟩ j)=some u:=fun j u hj=>by rw [D9]; exact (Ly a1q j u hj).1
 unfold apO2 at h;split at h
 ·simp only [A8,Cg] at h;obtain ⟨rfl,rfl,rfl⟩:=h;simp only [VR] at hx;obtain ⟨a,len,cap,rfl,hlen,hcap,hC,hE⟩:=hx;obtain ⟨rfl,hcl⟩:a=none/\cap=len:=hC;simp only [Co] at hlen;subst hlen;subst hcl;have jk:m*i.bytes<=140737488355328:=by
   have:m*i.bytes<=1048576*1048576:=Iv hmr hby
   omega
  have hrun:=run_append_nil (P:=P) C.w t ty e i z hu hi hz ⟨b2,o2,none⟩ m cap2 news dH j9 aA aA aA;generalize hA:(news.toArray++Ow z.cells (grownCap C.w m 0 e - m))=arr at hrun;have mf:=grownCap_ge C.w m 0 e;have a49:arr.size=grownCap C.w m 0 e*sz:=by
   rw [<- hA];simp only [Array.size_append,List.size_toArray,size_zeroCells,yb,bo];rw [Nat.sub_mul];have:=F2 sz mf;omega
  have hd:Below C.w.heap.size C.w C.w.drew:=(Fp _ _).drew;have a4a:SR (C.at C.w.drew):=SR.of_below ar hd;have hv:∃ vs r,arr.toList=vs++r/\VRs (C.at C.w.drew) ys vs:=⟨news,(Ow z.cells (grownCap C.w m 0 e - m)).toList,by rw [<- hA]; simp,VRs.mono (Le.of_below hd) _ _ bm⟩;refine ⟨_,(C.at C.w.drew).more arr e ys,hrun,(Le.of_below hd).trans (Le.more a4a _ _ _),SR.moreP a4a hv,rfl,rfl,rfl,?_⟩;simp only [VR];refine ⟨C.w.heap.size,_,_,rfl,mf,.inr rfl,L3 _,fun e' sc r8=>⟨?_,arr,e,?_,aA⟩⟩
  ·simp [Cx.more,Cx.at]
  ·exact A0 C.w.drew _
 ·rename_i id ep len sz';split at h;case isFalse=>simp at h
  rename_i hh;obtain ⟨rfl,c8⟩:=hh;split at h;case h_2=>simp at h
  rename_i cs j1;split at h;case isFalse=>simp at h
  rename_i hh;obtain ⟨hcl,cz⟩:=hh;simp only [roomy,decide_eq_true_eq] at cz;simp only [A8,Cg] at h;obtain ⟨rfl,rfl,rfl⟩:=h;obtain ⟨en,h1,h2,rfl⟩:=D4 j1;simp only [VR] at hx;obtain ⟨b,a,cap,rfl,hcap,ha,hn,hb⟩:=hx;obtain rfl:=ha.resolve_left aA;obtain ⟨rfl,arr,tt,h3,fj⟩:=hb en h1 h2;obtain ⟨-,arr',tt',h3',olds,r,z7,ja⟩:=ar.ent id en h1;rw [h3] at h3';simp only [A8,kI] at h3';obtain ⟨rfl,rfl,-⟩:=h3';have eg:=Br h1;have u7:=Bc ja;have a49:arr.size=olds.length+r.length:=by rw [<- I4,z7,Cm]
  have k9:len*sz'+m*sz'=(len+m)*sz':=(O7 _ _ _).symm;have a2a:VRs C (en.cells++ys) (olds++news):=Ht ja bm;by_cases ik:len+m<=cap
  ·have og:(len+m)*sz'<=cap*sz':=F2 _ ik;have hrun:=L4 (P:=P) C.w t ty e i hu hi (C.φ id) len cap tt arr h3 ⟨b2,o2,none⟩ m cap2 news dH j9 dm ik (by rw [hsz,bo]; omega);rw [hsz] at hrun;generalize hA:(arr.toList.take (len*sz')++news++arr.toList.drop (len*sz'+news.length)).toArray=arr1 at hrun;have o3:arr1.size=arr.size:=by rw [<- hA]; simp; omega
   have io:arr.toList.take (len*sz')=olds:=by rw [z7,Oo aA,C6 aA]
   have hv:∃ vs r,arr1.toList=vs++r/\VRs C (en.cells++ys) vs:=⟨olds++news,arr.toList.drop (len*sz'+news.length),by rw [<- hA,io],a2a⟩;have z6:(C.w.setRow (C.φ id) arr1).heap[C.φ id]?=some (.cells arr1 tt (0,0)):=setRow_heap _ _ _ _ _ _ h3;have hle:Le C (C.turn (C.w.setRow (C.φ id) arr1) id (C.φ id) (en.cells++ys)):=by
    have hm:∀ o,C.Mut (C.φ id) o:=fun o=>.inl ⟨id,eg,rfl⟩;refine Le.turn eg (.inl rfl) rfl rfl rfl (by simp) (fun x o v hv hn=>?_) (fun x _ hn=>?_) (fun x d t' fz hd=>?_)
    ·have hne:x≠C.φ id:=fun h=>hn (h ▸ hm o);have:=setRow_other C.w (C.φ id) x arr1 hne;simpa [N5,this] using hv
    ·exact setRow_other C.w (C.φ id) x arr1 fun h=>hn 0 (h ▸ hm 0)
    ·by_cases h:x=C.φ id
     ·subst h;rw [h3] at hd;simp only [A8,kI] at hd;obtain ⟨rfl,rfl,rfl⟩:=hd;exact ⟨arr1,z6,o3⟩
     ·exact ⟨d,Za4s,rfl⟩
   refine ⟨_,_,hrun,hle,SR.turn ar eg (.inl rfl) hle z6 (fun i hi hne=>setRow_other _ _ _ _ fun h=>hne (ar.ne i id hi eg h)) hv,rfl,rfl,rfl,?_⟩;simp only [VR];refine ⟨C.φ id,_,_,rfl,ik,.inr rfl,L3 _,fun e' sc r8=>⟨by simp [Cx.turn],arr1,tt,z6,aA⟩⟩
  ·have j2:cap<len+m:=aA
   have jk:(len+m)*i.bytes<=140737488355328:=by
    have:(len+m)*i.bytes<=1048576*1048576:=Iv cz hby
    omega
   have hcells:∀ (j:Nat) v,olds[j]?=some v->C.w.cell? (kA ⟨C.φ id,0,none⟩ j)=some v:=fun j v hj=>by
    rw [D9,El];have:arr.toList[j]?=some v:=by rw [z7,C3 (Fx.1 hj).1]; exact hj
    simp [N5,h3]; simpa using this
   have hrun:=run_append_grow (P:=P) C.w t ty e i z hu hi hz ⟨C.φ id,0,none⟩ len cap olds (by rw [hsz]; omega) hcells ⟨b2,o2,none⟩ m cap2 news dH j9 j2 aA (growslice_fits j2 jk);generalize hA:(olds.toArray++news.toArray++Ow z.cells (grownCap C.w (len+m) cap e - (len+m)))=arr1 at hrun;have mf:=grownCap_ge C.w (len+m) cap e;have a6w:arr1.size=grownCap C.w (len+m) cap e*sz':=by
    rw [<- hA];simp only [Array.size_append,List.size_toArray,size_zeroCells,yb,bo];rw [Nat.sub_mul];have:=F2 sz' mf;omega
   have hbel:Below C.w.heap.size C.w (C.w.drew.alloc (.cells arr1 e)):=((Fp _ _).drew).alloc (by simp) _;have z6:(C.w.drew.alloc (.cells arr1 e)).heap[C.w.heap.size]?=some (.cells arr1 e (0,0)):=A0 C.w.drew _;have hle:Le C (C.turn (C.w.drew.alloc (.cells arr1 e)) id C.w.heap.size (en.cells++ys)) :=
    Le.turn eg (.inr (Ce _)) hbel.os hbel.tape hbel.output hbel.size (fun x o v hv _=>Za4h) (fun x hx _=>hbel.block x hx) (fun x d t' fz hd=>⟨d,Dw hbel hd,rfl⟩)
   have hv:∃ vs r,arr1.toList=vs++r/\VRs C (en.cells++ys) vs:=⟨olds++news,(Ow z.cells (grownCap C.w (len+m) cap e - (len+m))).toList,by rw [<- hA]; simp,a2a⟩;refine ⟨_,_,hrun,hle,SR.turn ar eg (.inr (Ce _)) hle z6 (fun i hi _=>hbel.block _ (Q1 ar hi)) hv,rfl,rfl,rfl,?_⟩;simp only [VR];refine ⟨C.w.heap.size,_,_,rfl,mf,.inr rfl,L3 _,fun e' sc r8=>⟨by simp [Cx.turn],arr1,e,z6,aA⟩⟩
 ·simp at h
end
section
variable {P:Program}
theorem Le.take {C:Cx} (k:Nat):Le C { C with S:=C.S.take k }:=by
 refine ⟨rfl,rfl,rfl,Ce _,rfl,Ce _,?_,fun _ _ _ h _=>h,fun _ _ _=>rfl,fun _ cs _ _ h=>⟨cs,h,rfl⟩,?_,fun _ q h=>⟨q,h,Ce _,fun _=>rfl⟩⟩
 ·rintro b o - (⟨i,hi,h⟩|h)
  ·exact .inl ⟨i,cG,h⟩
  ·exact .inr h
 ·intro i e h _;rw [Ag,Od] at h;split at h
  ·exact ⟨e,by rw [Ag]; exact h,rfl,rfl⟩
  ·simp at h
theorem SR.take [Globs] {C:Cx} (hs:SR C) (k:Nat):SR { C with S:=C.S.take k }:=by
 have hle:=Le.take (C:=C) k;refine ⟨fun i e h=>?_,fun i j hi hj h=>hs.ne i j cG (by simp at hj; omega) h,hs.tok,fun i j o hi=>hs.apart i j o cG,?_,hs.avlt,hs.tlt,Rp hs hle⟩
 ·rw [Ag,Od] at h;split at h
  ·obtain ⟨h1,cs,t,h2,vs,r,yn,h3⟩:=hs.ent i e (by rw [Ag]; exact h);exact ⟨h1,cs,t,h2,vs,r,yn,VRs.mono hle _ _ h3⟩
  ·simp at h
 ·rintro b o (⟨i,hi,h⟩|h)
  ·exact hs.own b o (.inl ⟨i,cG,h⟩)
  ·exact hs.own b o (.inr h)
def Lw [Globs] (P:Program) (call:Dv):Prop :=
 ∀ f args S tk n r S' tk' n', call f args S tk n = some (r, S', tk', n') → (∃ fn, P.funcs[f]? = some fn ∧ (fn.name == "runtime.NumGoroutine") = false ∧ fn.body.isNone = false) ∧
  ∀ (C:Cx) (vs:Array Value),C.S=S->C.tk=tk->C.n=n->SR C->VRs C args vs.toList ->
   Calls P f vs C.w fun e w'=>∃ v C',e=.returned v/\C'.w=w'/\Le C C'/\SR C'/\C'.S=S'/\C'.tk=tk'/\C'.n=n'/\VR C' r v
theorem Hp {o:Oper} {a:Act} {w w':World} {v:Value} {next:Act->World->Prop} {Q:Exit->Act->World->Prop} (h:(execOp a.eval o).run P w=.ok (.value v) w') (hn:next (a.put o.dst v) w'):o.wp P a w next Q:=by
 unfold Oper.wp; rw [h]; exact hn
theorem H4 [Globs] {call:Dv} (hc:Lw P call) {C:Cx} {st st':St} {a:Act} {o:Oper} {av:AV} (hr:Rel C st a) (h:evO P call o st=some (av,st')) {next:Act->World->Prop} {Q:Exit->Act->World->Prop}
  (hn:∀ v C',Le C C'->SR C'->C'.S=st'.S->C'.tk=st'.tk->C'.n=st'.n->VR C' av v->next (a.put o.dst v) C'.w):o.wp P a C.w next Q/\st'.T=st.T:=by
 have hρ:=Af2 hr.tmps;have quiet:∀ av',evQ P o (opv st.T)=some av'->(av',st)=(av,st')->o.wp P a C.w next Q/\st'.T=st.T:=by
  intro av' hq e;simp only [Cg] at e;obtain ⟨rfl,rfl⟩:=e;obtain ⟨v,w',h1,h2,h3⟩:=Alr hr.sr hρ hq;exact ⟨Hp h1 (hn v (C.at w') (Le.of_below h2) (SR.of_below hr.sr h2) hr.S hr.tk hr.n h3),rfl⟩
 unfold evO at h;split at h
 ·rename_i t x e;simp only [Cd,Cg] at h;obtain ⟨v,h,rfl,rfl⟩:=h;rw [<- hr.S] at h;obtain ⟨u,h1,h2⟩:=Acp hr.sr (hρ x) h;exact ⟨Hp (v:=u) (w':=C.w) (by simp [execOp,e,h1]) (hn u C (Le.refl C) hr.sr hr.S hr.tk hr.n h2),rfl⟩
 ·rename_i t x y e;simp only [Cd,Cg] at h;obtain ⟨S',h,rfl,rfl⟩:=h;rw [<- hr.S] at h;obtain ⟨C',h1,h2,h3,h4,h5,h6⟩:=An6 hr.sr (hρ x) (hρ y) h;refine ⟨?_,rfl⟩;unfold Oper.wp;have:(execOp a.eval o).run P C.w=.ok .skip C'.w:=by simp [execOp,e,h1]
  rw [this];exact hn undef C' h2 h3 h4 (h5.trans hr.tk) (h6.trans hr.n) bR
 ·rename_i t e;simp only [Cd,Cg] at h;obtain ⟨cs,h,rfl,rfl⟩:=h;obtain ⟨zv,h1,rfl⟩:=Li (w:=C.w) h;refine ⟨Hp (v:=.pointer (some ⟨C.w.heap.size,0,none⟩)) (w':=C.w.alloc (.cells zv.cells t)) ?_ ?_,rfl⟩
  ·simp only [execOp,e,Instr.alloc,Fw,h1,Fh,newVar,Jt,I9]
  ·have:=hn (.pointer (some ⟨C.w.heap.size,0,none⟩)) (C.more zv.cells t (zv.cells.toList.map cst1)) (Le.more hr.sr _ _ _) (SR.more hr.sr (Kc _)) Za48 hr.tk Za5m (by rw [<- hr.S,<- hr.n]; exact Arm);exact this
 ·rename_i t x e;simp only [Cd,Cg] at h;obtain ⟨cs,h,rfl,rfl⟩:=h;have hv:=Hg h (hρ x);refine ⟨Hp (v:=.pointer (some ⟨C.w.heap.size,0,none⟩)) (w':=C.w.alloc (.cells (a.eval x).cells t)) ?_ ?_,rfl⟩
  ·simp only [execOp,e,Instr.box,Fw,Fh,newVar,Jt,I9]
  ·have:=hn (.pointer (some ⟨C.w.heap.size,0,none⟩)) (C.more (a.eval x).cells t cs) (Le.more hr.sr _ _ _) (SR.more hr.sr hv) Za48 hr.tk Za5m (by rw [<- hr.S,<- hr.n]; exact Arm);exact this
 ·rename_i t l c e;simp only [Cd,Prod.exists] at h;obtain ⟨l',sz,cs,h,hh⟩:=h;obtain ⟨el,m,arr,r1,r2,r3,r4,r5⟩:=Amt (hρ l) (hρ c) h;have hrun:(execOp a.eval o).run P C.w=.ok (.value (.slice (some ⟨C.w.heap.size,0,none⟩) l' m)) (C.w.alloc (.cells arr el)):=by simp [execOp,e,r1]
  have hb:Below C.w.heap.size C.w (C.w.alloc (.cells arr el)):=(Fp _ _).alloc (Ce _) _;have jb:cs.length=arr.size:=by rw [<- r2]; simp
  split at hh
  ·rename_i j2;simp only [Cg] at hh;obtain ⟨rfl,rfl⟩:=hh;have u9:l'*sz<=m*sz:=F2 _ r3;have ah:Bn C.tk .tight sz=true:=rfl;have hn':Nz C .tight C.w.heap.size (l'*sz) (m*sz):=.inr (.inl (Ce _));have hle:Le C (C.tok (C.w.alloc (.cells arr el)) .tight (C.w.heap.size,l'*sz,m*sz)) :=
    Le.of_tok ah hn' rfl rfl rfl hb.size (fun x o v hv _=>by rw [lD hb (G5 hv)]; exact hv) (fun x hlt _=>hb.block x hlt) (fun b d t fz hd=>⟨d,Dw hb hd,rfl⟩)
   have ar:=SR.of_tok hr.sr ah hn' (fun _=>(Ck.1 (A0 C.w (.cells arr el))).1) hle (fun i hi=>hb.block _ (Q1 hr.sr hi));have hcap:CapR (C.tok (C.w.alloc (.cells arr el)) .tight (C.w.heap.size,l'*sz,m*sz)) (.tok C.tk.length 0 sz) (some ⟨C.w.heap.size,0,none⟩) l' m:=Ln (c:=.tight) ah (.inr ⟨arr,el,rfl,rfl,A0 _ _,aA⟩);have hv:VR (C.tok (C.w.alloc (.cells arr el)) .tight (C.w.heap.size,l'*sz,m*sz)) (mkV (len0 l) st.tk.length l' sz cs) (.slice (some ⟨C.w.heap.size,0,none⟩) l' m):=by
    unfold mkV;split
    ·rename_i c8;have tp:l'=0:=by
      cases l with
      | const v=>cases v with
       | int k z =>
        unfold len0 at c8
        split at c8
        ·rename_i k' he
         simp only [Operand.const.injEq,jV.injEq] at he
         obtain ⟨rfl,rfl⟩:=he
         simp [opv,cst,cst1,intN] at r5; exact r5.symm
        ·simp at c8
       | _=>simp [len0] at c8
      | _=>simp [len0] at c8
     subst tp;simp only [VR];refine ⟨_,0,m,rfl,rfl,Cl _,?_,.inl trivial⟩;rw [<- hr.tk];exact hcap
    ·unfold M2;split
     ·rename_i es hes;split
      ·rename_i hp;obtain ⟨g1,g2,g3,g4⟩:=Nr hes;simp only [tokA,VR];refine ⟨_,l',m,rfl,by simp [g1],r3,by rw [<- hr.tk]; exact hcap,.inr ⟨C.w.heap.size,0,sz,rfl,?_⟩⟩;obtain ⟨e1,e2,e3,e4,e5,e6,e7,e8,e9,e10,e11⟩:=N7 (w:=C.w.alloc (.cells arr el)) (x:=(C.w.heap.size,l'*sz,m*sz)) ah;have uc:(es.map (·.map w1)).flatten=((arr.toList.map cst1).take (l'*sz)).map w1:=by rw [r2,<- g3,List.map_flatten]
       have hvs:VRs C ((arr.toList.map cst1).take (l'*sz)) (arr.toList.take (l'*sz)):=(Ll (Kc _) (Nu (by rw [r2]; exact g4))).1;refine He (l:=arr.toList.take (l'*sz)) (fun e he=>?_) ?_ (Lz fun j v hj=>?_)
       ·exact Ya2s
       ·rw [uc];refine PRs.stays hle.stays _ _ (Kw (C:=C) ?_ (Xo hvs));rw [r2,<- g3,Fb];exact Ya0r
       ·rw [El];have gj:j<l'*sz:=by
         exact Ya1s
        rw [Ot gj] at hj;constructor
        ·rw [e1];simp only [N5,A0];simpa using hj
        ·rintro (fy|gf)
         ·rw [e2] at fy;have:=hr.sr.avlt _ _ fy; omega
         ·rcases Up ah hn' gf with h|⟨-,h1,h2,-⟩
          ·exact hr.sr.fresh (Ce _) (.inr h)
          ·omega
      ·simp only [tokA,VR]
     ·simp only [tokA,VR]
   exact ⟨Hp hrun (hn _ _ hle ar hr.S (by show C.tk++[0]=_; rw [hr.tk]) hr.n hv),rfl⟩
  ·simp only [Cg] at hh;obtain ⟨rfl,rfl⟩:=hh;subst r2;refine ⟨Hp hrun (hn _ (C.more arr el (arr.toList.map cst1)) (Le.more hr.sr _ _ _) (SR.more hr.sr (Kc _)) Za48 hr.tk Za5m ?_),rfl⟩;simp only [VR];refine ⟨C.w.heap.size,some ⟨C.w.heap.size,0,none⟩,m,rfl,r3,.inr rfl,by rw [<- hr.n]; exact L3 _,fun e' sc r8=>⟨?_,arr,el,A0 _ _,?_⟩⟩
   ·rw [<- hr.S];simp [Cx.more]
   ·simp only [Fj,I4] at r4;omega
 ·rename_i c e;split at h
  ·rename_i hb;split at h
   ·rename_i x y t t' j8 ht;split at h
    ·split at h
     ·rename_i yd;subst yd;simp only [Cd,Cg,Prod.exists] at h;obtain ⟨v,S',n',h,rfl,rfl⟩:=h;have ab:=L8 hr.tmps c.args.toList;rw [j8] at ab;obtain ⟨ux,uy,hu⟩:=Ads ab;rw [hu] at ab;simp only [VRs,and_true] at ab;rw [<- hr.S,<- hr.n] at h;obtain ⟨w,C',h1,h2,h3,h4,h5,h6,h7⟩:=Akn (ty:=o.type) hr.sr ab.1 ab.2 h;have ha:c.args.map a.eval=#[ux,uy]:=cU
      have tu:c.argTypes=#[t,t]:=dD
      exact ⟨Hp (v:=w) (w':=C'.w) eR (hn w C' h2 h3 h4 (h5.trans hr.tk) h6 h7),rfl⟩
     ·simp at h
    split at h
    ·rename_i yd;subst yd;simp only [Cd,Cg,Prod.exists] at h;obtain ⟨v,tk',h,rfl,rfl⟩:=h;have ab:=L8 hr.tmps c.args.toList;rw [j8] at ab;obtain ⟨ux,uy,hu⟩:∃ ux uy,c.args.toList.map a.eval=[ux,uy]:=by
      have:=Bc ab;match hl:c.args.toList.map a.eval with
      | [p,q]=>exact ⟨p,q,rfl⟩
      | []=>rw [hl] at this; simp at this
      | [_]=>rw [hl] at this; simp at this
      | _ :: _ :: _ :: _=>rw [hl] at this; simp at this
     rw [hu] at ab;simp only [VRs,and_true] at ab;rw [<- hr.tk,<- hr.S] at h;obtain ⟨w,C',h1,h2,h3,h4,h5,h6,h7⟩:=Aim (ty:=o.type) hr.sr ab.1 ab.2 h;have ha:c.args.map a.eval=#[ux,uy]:=cU
     have tu:c.argTypes=#[t,t]:=dD
     exact Ya2h
    ·simp only [Cd,Cg,Prod.exists] at h;obtain ⟨v,tk',h,rfl,rfl⟩:=h;have ab:=L8 hr.tmps c.args.toList;rw [j8] at ab;obtain ⟨ux,uy,hu⟩:=Ads ab;rw [hu] at ab;simp only [VRs,and_true] at ab;rw [<- hr.tk] at h;obtain ⟨w,C',h1,h2,h3,h4,h5,h6,h7⟩:=Akp (ty:=o.type) hr.sr ab.1 ab.2 h;have ha:c.args.map a.eval=#[ux,uy]:=cU
     have tu:c.argTypes=#[t,t']:=dD
     exact Ya2h
   ·simp at h
  ·rename_i hb;split at h
   ·rename_i x y t t' j8 ht;simp only [Cd,Cg,Prod.exists] at h;obtain ⟨m,S',h,rfl,rfl⟩:=h;have ab:=L8 hr.tmps c.args.toList;rw [j8] at ab;obtain ⟨ux,uy,hu⟩:=Ads ab;rw [hu] at ab;simp only [VRs,and_true] at ab;rw [<- hr.S] at h;obtain ⟨C',h1,h2,h3,h4,h5,h6⟩:=Alg (ty:=o.type) (t':=t') hr.sr ab.1 ab.2 h;have ha:c.args.map a.eval=#[ux,uy]:=cU
    have tu:c.argTypes=#[t,t']:=dD
    exact ⟨Hp (v:=.int .i64 (m:Int)) (w':=C'.w) eR (hn _ C' h2 h3 h4 (h5.trans hr.tk) (h6.trans hr.n) bR),rfl⟩
   ·simp at h
  ·exact Ya32
  ·split at h
   ·rename_i f args je;simp only [Cd,Cg,Prod.exists] at h;obtain ⟨r,S',tk',n',h,rfl,rfl⟩:=h;refine ⟨?_,rfl⟩;unfold Gv at je;split at je
    ·rename_i x m hx;split at je
     ·rename_i ti vi hfx;simp only [Cd,Cg] at je;obtain ⟨f',hm,rfl,rfl⟩:=je;have ud:=hρ x;rw [hfx] at ud;simp only [VR] at ud;obtain ⟨u,ud,hu⟩:=ud;obtain ⟨⟨fn,g1,g2,g3⟩,au⟩:=hc _ _ _ _ _ _ _ _ _ h;have ab:VRs C (vi :: c.args.toList.map (opv st.T)) (u :: c.args.toList.map a.eval):=by simp only [VRs]; exact ⟨hu,L8 hr.tmps c.args.toList⟩
      have hC:=au C (#[u]++c.args.map a.eval) hr.S hr.tk hr.n hr.sr (by simpa using ab);have hrun:(execOp a.eval o).run P C.w=.ok (.enter f' (#[u]++c.args.map a.eval)) C.w:=by
       have bo : ¬ fn.name = "runtime.NumGoroutine" := eI
       have cu:¬ fn.body=none:=Za2m
       have hmr:=Ai8 (P:=P) (w:=C.w) (u:=u) hm;have hz0:(#[Value.iface ti u]++c.args.map a.eval)[0]?=some (.iface ti u):=by simp [Array.getElem?_append]
       have hz1:(#[Value.iface ti u]++c.args.map a.eval).extract 1 (#[Value.iface ti u]++c.args.map a.eval).size=c.args.map a.eval:=by
        apply jW; simp [C6]
       simp only [execOp,e,resolve,hx,ud,invoke,Fw,I9,Fh,hz0,hz1,callMethod];simp [callFunc,hmr,g1,bo,cu]
      exact Ya08
     ·simp at je
    ·rename_i x hx;split at je
     ·rename_i f' caps hfx;simp only [A8,Cg] at je;obtain ⟨rfl,rfl⟩:=je;have ud:=hρ x;rw [hfx] at ud;simp only [VR] at ud;obtain ⟨us,ud,a0k⟩:=ud;obtain ⟨⟨fn,g1,g2,g3⟩,au⟩:=hc _ _ _ _ _ _ _ _ _ h;have ab:=Ht (L8 hr.tmps c.args.toList) a0k;have hC:=au C (c.args.map a.eval++us) hr.S hr.tk hr.n hr.sr (by simpa using ab);have hrun:(execOp a.eval o).run P C.w=.ok (.enter f' (c.args.map a.eval++us)) C.w:=by
       have bo : ¬ fn.name = "runtime.NumGoroutine" := eI
       exact Ya23
      exact Ya08
     ·rename_i f' caps hfx;simp only [A8,Cg] at je;obtain ⟨rfl,rfl⟩:=je;have ud:=hρ x;rw [hfx] at ud;simp only [VR] at ud;obtain ⟨us,ud,a0k⟩:=ud;obtain ⟨⟨fn,g1,g2,g3⟩,au⟩:=hc _ _ _ _ _ _ _ _ _ h;have ab:=Ht a0k (L8 hr.tmps c.args.toList);have hC:=au C (us++c.args.map a.eval) hr.S hr.tk hr.n hr.sr (by simpa using ab);have hrun:(execOp a.eval o).run P C.w=.ok (.enter f' (us++c.args.map a.eval)) C.w:=by
       have bo : ¬ fn.name = "runtime.NumGoroutine" := eI
       exact Ya23
      exact Ya08
     ·simp at je
    ·simp at je
   ·simp at h
 ·exact Ya32
theorem J6 {C:Cx} {T:List AV} {a:Act} {ops:Array Oper} {o:Oper} {b:Bool} (ht:VRs C T a.tmps.toList) (h:Ka ops.toList T o=some b):O8 o (yielded ops a.tmps)=b:=by
 unfold Ka at h;unfold O8;split at h
 ·rename_i hg; rw [hg]; simpa using h
 ·rename_i g want hg;rw [hg];simp only;split at h
  ·simp at h
  ·rename_i d hd;have ip:(ops[g]?).bind (·.dst)=some d:=by rw [Ag] at hd; simpa using hd
   unfold yielded;rw [ip];simp only [Ou];by_cases hlt:d<T.length
   ·obtain ⟨v,h1,h2⟩:=Xn ht (Alz hlt);have ve:a.tmps[d]?=some v:=aU
    rw [ve];split at h
    ·exact Ya3f
    ·exact Ya3f
    ·simp at h
   ·rw [Qc (O9 hlt)] at h;simp at h
theorem Rel.put [Globs] {C C':Cx} {st st':St} {a:Act} {d:Option Tmp} {v:Value} {av:AV} (hr:Rel C st a) (hle:Le C C') (hs:SR C') (h1:C'.S=st'.S) (h2:C'.tk=st'.tk) (h3:C'.n=st'.n) (hv:VR C' av v) (hT:st'.T=st.T) :
  Rel C' { st' with T:=putT st'.T d av } (a.put d v) :=
 ⟨h1,h2,h3,Y5 (by rw [hT]; exact VRs.mono hle _ _ hr.tmps) hv,by cases d <;> exact hr.defers,hs⟩
theorem Ro [Globs] {call:Dv} (hc:Lw P call) {ops:Array Oper} {Q:Exit->Act->World->Prop} : ∀ {l:List Oper} {C:Cx} {st st':St} {a:Act},Rel C st a->evOs P call ops.toList l st=some st' ->
  (∀ a' C',Le C C'->Rel C' st' a'->Q .normal a' C'.w)->wpList P ops Q l a C.w
 | [],C,st,st',a,hr,h,hQ=>by
  simp only [evOs,A8] at h; subst h;exact hQ a C (Le.refl C) hr
 | o :: l,C,st,st',a,hr,h,hQ=>by
  simp only [evOs] at h;split at h
  ·simp at h
  ·rename_i hw;have:=J6 hr.tmps hw;unfold wpList;rw [if_neg (by rw [this]; simp)];exact Ro hc (hr.put (Le.refl C) hr.sr hr.S hr.tk hr.n bR rfl) h hQ
  ·rename_i hw;have:=J6 hr.tmps hw;unfold wpList;rw [if_pos this];split at h
   ·rename_i v st1 ho;split at h;case isFalse=>simp at h
    have hT:st1.T=st.T:=(H4 (next:=fun _ _=>True) (Q:=Q) hc hr ho (fun _ _ _ _ _ _ _ _=>trivial)).2;refine .inl (H4 hc hr ho fun u C' k1 k2 k3 k4 k5 k6=>?_).1;exact Ro hc (hr.put k1 k2 k3 k4 k5 k6 hT) h fun a' C'' k j3=>hQ a' C'' (k1.trans k) j3
   ·simp at h
theorem Afo {c:Code} {Q:Exit->Act->World->Prop} (J:Nat->Act->World->Prop) (round:∀ n a w,J n a w->c.wp P (Exit.then (fun a' w'=>∃ m,m<n/\J m a' w') Q) a w) {n:Nat} {a:Act} {w:World} (h0:J n a w):(lC c).wp P Q a w:=by
 intro b k cs;have key:∀ n a w,J n a w->∃ e a' w',Q e a' w'/\Arrives P (lone (b.at a (.code c :: .inLoop c :: k)) cs w) b k cs e a' w':=by
  intro n;induction n using Sk with
  | _ n ih =>
   intro a w hJ;obtain ⟨e,a₁,w₁,hq,jb⟩:=round n a w hJ b (.inLoop c :: k) cs;cases e with
   | normal =>
    obtain ⟨m,hlt,hJ₁⟩:=hq;obtain ⟨e₂,a₂,w₂,hq₂,harr₂⟩:=ih m hlt a₁ w₁ hJ₁;exact ⟨e₂,a₂,w₂,hq₂,.of_steps (Steps.trans jb (.one step_inLoop)) harr₂⟩
   | exit id=>exact ⟨_,a₁,w₁,hq,.pass (x:=.inLoop c) rfl (fun _ _=>.inl (by simp)) jb⟩
   | goto l=>exact ⟨_,a₁,w₁,hq,.pass (x:=.inLoop c) rfl (fun _ _=>.inl (by simp)) jb⟩
   | ret=>exact ⟨_,a₁,w₁,hq,.pass (x:=.inLoop c) rfl (fun _ _=>.inl (by simp)) jb⟩
   | panic ch=>exact ⟨_,a₁,w₁,hq,.pass (x:=.inLoop c) rfl (fun _ _=>.inl (by simp)) jb⟩
   | outgrown=>exact ⟨_,a₁,w₁,hq,.pass (x:=.inLoop c) rfl (fun _ _=>.inl (by simp)) jb⟩
 obtain ⟨e,a',w',hq,jb⟩:=key n a w h0;exact ⟨e,a',w',hq,.of_steps (.one step_loop) jb⟩
def exOf:Ex->Exit
 | .normal=>.normal
 | .exit id=>.exit id
 | .ret=>.ret
def Auh [Globs] (call:Dv):Prop:=∀ f args S tk n r S' tk' n',call f args S tk n=some (r,S',tk',n')->S'=S/\tk'=tk/\(shF f=true\/(n'=n/\∀ S2 tk2 n2,call f args S2 tk2 n2=some (r,S2,tk2,n2)))
def Ul [Globs] (call:Dv):Prop:=∀ f args S tk n r S' tk' n',call f args S tk n=some (r,S',tk',n')->(xF f && Globs.dr)=true\/(S'=S/\tk'=tk/\(shF f=true\/(n'=n/\∀ S2 tk2 n2,call f args S2 tk2 n2=some (r,S2,tk2,n2))))
def extC (P:Program) [Ext P]:Dv:=fun f args S tk n=>if Ext.on P f=true then Ext.call P f args S tk n else none
class Aid [Globs] (P:Program) [Ext P]:Prop where
 ok:Lw P (extC P)
 indep:∀ M,@Auh (gM M) (@Gn (gM M) P _ (extC P))
theorem Zb [Globs] [Ext P] {M:Md} {call:Dv} (h:Lw P call):Lw P (@Gn (gM M) P _ call):=by
 intro f args S tk n r S' tk' n' hh;unfold Gn at hh;split at hh
 ·exact h f args S tk n r S' tk' n' hh
 ·simp at hh
def Asc (P:Program) (real ops:Array Oper):Option (Nat × Oper)->Prop
 | none=>real=ops
 | some (p,al)=>real.size=ops.size/\(∀ i:Nat,i≠p->real[i]?=ops[i]?)/\(∀ (i:Nat) (o:Oper),ops[i]?=some o->isMk o=false)/\real[p]?=some al/\al.guard=none/\al.dst.isSome=true/\(∃ t cs,al.op=.alloc t/\A3 P t=some cs)/\ops[p]?=some { al with op:=.move (.global 0) }
def Wp (P:Program) (lt:Option (Nat × Oper)) (st:St):St :=
 match lt with
 | none=>st
 | some (_,al)=>match al.op with
  | .alloc t=>{ st with T:=putT st.T al.dst (.ref st.S.length st.n 0),S:=st.S++[⟨st.n,(A3 P t).getD []⟩],n:=st.n+1 }
  | _=>st
def Afs [Globs] (P:Program) (ok:St->List Oper->Bool):Prop:=P.follows .mixedOrders=true /\
 ∀ (call:Dv),Lw P call->∀ (real ops:Array Oper) (lt:Option (Nat × Oper)),Asc P real ops lt->@Ul (gM (mdOf ops.toList)) call->∀ (C:Cx) (st st':St) (a:Act) (Q:Exit->Act->World->Prop),ok st ops.toList=true->Rel C st a->@evOs (gM (mdOf ops.toList)) P call ops.toList ops.toList st=some st' ->
  (∀ a' C',Le C C'->Rel C' (Wp P lt st') a'->Q .normal a' C'.w)->wpAny P .any real Q real.size (Sl real.size false) a { C.w with drawn:=C.w.drawn+1 }
theorem Pe:∀ {L:List Oper} {p:Nat} {al:Oper} {x:Oper},N1 L=some (p,al)->Ap8 al=true/\L[p]?=some al/\(openL (L++[x])).length=L.length/\(openL (L++[x]))[p]?=some { al with op:=.move (.global 0) }/\(∀ i,i≠p->(openL (L++[x]))[i]?=L[i]?)/\∀ o ∈ openL (L++[x]),isMk o=false
 | [],_,_,_,h=>by simp [N1] at h
 | o :: l,p,al,x,h=>by
  have hop:∀ (l:List Oper),openL (o :: l++[x])=Xa o :: openL (l++[x]):=fun l=>by cases l <;> rfl
  have keep:∀ (l:List Oper),l.any isMk=false->openL (l++[x])=l:=by
   intro l;induction l with
   | nil=>intro _; rfl
   | cons y l ih =>
    intro hl;simp only [List.any_cons,Ff] at hl;have e:openL (y :: l++[x])=Xa y :: openL (l++[x]):=by cases l <;> rfl
    rw [e,ih hl.2];unfold Xa;rw [if_neg (by rw [hl.1]; simp)]
  unfold N1 at h;rw [hop];split at h
  ·rename_i mh;split at h
   ·rename_i hc;simp only [Ci,Ob] at hc;simp only [A8,Cg] at h;obtain ⟨rfl,rfl⟩:=h;rw [keep l hc.2];refine ⟨hc.1,rfl,rfl,?_,fun i hi=>?_,fun y hy=>?_⟩
    ·unfold Xa; rw [if_pos mh]; rfl
    ·cases i with
     | zero=>exact absurd rfl hi
     | succ i=>rfl
    ·rcases Cv.1 hy with rfl|hy
     ·unfold Xa; rw [if_pos mh]; rfl
     ·simpa using List.any_eq_false.1 hc.2 y hy
   ·cases h
  ·rename_i mh;simp only [Cd,Cg,Prod.exists] at h;obtain ⟨p',al',h,rfl,rfl⟩:=h;obtain ⟨a1,a2,a3,a4,a5,a6⟩:=Pe (x:=x) h;have e:Xa o=o:=by unfold Xa; rw [if_neg mh]
   rw [e];refine ⟨a1,a2,by simp [a3],a4,fun i hi=>?_,fun y hy=>?_⟩
   ·cases i with
    | zero=>rfl
    | succ i=>exact a5 i aA
   ·rcases Cv.1 hy with rfl|hy
    ·simpa using mh
    ·exact a6 y hy
theorem X1 [Globs] {L:List Oper} {p:Nat} {al o:Oper} (h:Mj L=some (p,al,o)):∃ a,L=a++[o]/\At7 a o=true/\isSt o=true/\N1 a=some (p,al):=by
 unfold Mj at h;split at h
 ·rename_i o' ho;split at h
  ·rename_i ht;simp only [Ci] at ht;simp only [Cd,Cg,Prod.exists] at h;obtain ⟨p',al',h,rfl,rfl,rfl⟩:=h;exact ⟨_,by rw [List.getLast?_eq_some_iff] at ho; obtain ⟨l,rfl⟩:=ho; simp,ht.1.2,ht.1.1,h⟩
  ·cases h
 ·cases h
theorem Atk {P:Program} {a:List Oper} {p:Nat} {al o:Oper} {t:TypeId} {cs:List AV} (h:N1 a=some (p,al)) (ht:al.op=.alloc t) (hz:A3 P t=some cs):Asc P a.toArray (openL (a++[o])).toArray (some (p,al)):=by
 obtain ⟨a1,a2,a3,a4,a5,a6⟩:=Pe (x:=o) h;unfold Ap8 at a1;simp only [Ci,Ig] at a1;refine ⟨by simp [a3],fun i hi=>?_,fun i o' ho=>?_,by simpa using a2,a1.1.2,a1.2,⟨t,cs,ht,hz⟩,by simpa using a4⟩
 ·have:=a5 i hi;simp only [Uu];exact this.symm
 ·exact a6 o' (I8 fW)
theorem Pm {L a:List Oper} {o:Oper} (h:Ho L=some (a,o)):L=a++[o]/\Aob a o=true:=by
 unfold Ho at h;split at h
 ·rename_i o' ho;split at h
  ·rename_i ht;simp only [A8,Cg] at h;obtain ⟨rfl,rfl⟩:=h;exact ⟨by rw [List.getLast?_eq_some_iff] at ho; obtain ⟨l,rfl⟩:=ho; simp,ht⟩
  ·cases h
 ·cases h
theorem Agm {kp:Bool} {m:Nat} {S:List Ent} : cutS kp m S=S.take (bif kp then S.length else m):=by
 cases kp <;> simp [cutS]
theorem Aez [Globs] {kp:Bool} {f:St->Option (Ex × St)} {c:Code} (hf:∀ (C:Cx) (st:St) (ex:Ex) (st':St) (a:Act) (Q:Exit->Act->World->Prop),f st=some (ex,st')->Rel C st a->(∀ a' C',Le C C'->Rel C' st' a'->Q (exOf ex) a' C'.w)->c.wp P Q a C.w)
  {k:Nat} {C:Cx} {st st':St} {ex:Ex} {a:Act} {Q:Exit->Act->World->Prop} (h:Ml kp f k st=some (ex,st')) (hr:Rel C st a) (hQ:∀ a' C',Le C C'->Rel C' st' a'->Q (exOf ex) a' C'.w):(lC c).wp P Q a C.w:=by
 refine Afo (fun n a w=>∃ C1 st1,C1.w=w/\Le C C1/\Rel C1 st1 a/\Ml kp f n st1=some (ex,st')) ?_ (n:=k) ⟨C,st,rfl,Le.refl C,hr,h⟩;rintro n a1 w1 ⟨C1,st1,rfl,hle,bz,h1⟩;cases n with
 | zero=>simp [Ml] at h1
 | succ n =>
  simp only [Ml] at h1;split at h1
  ·rename_i st2 h2;refine hf C1 st1 .normal st2 a1 _ h2 bz fun a2 C2 qy ae=>?_;rw [Agm] at h1;generalize (bif kp then st2.S.length else st1.S.length)=mm at h1;refine ⟨n,L3 n,{ C2 with S:=C2.S.take mm },{ st2 with S:=st2.S.take mm },rfl,(hle.trans qy).trans (Le.take _),⟨by rw [ae.S],ae.tk,ae.n,VRs.mono (Le.take _) _ _ ae.tmps,ae.defers,ae.sr.take _⟩,h1⟩
  ·rename_i hne;refine hf C1 st1 ex st' a1 _ h1 bz fun a2 C2 qy ae=>?_;have:=hQ a2 C2 (hle.trans qy) ae;cases ex with
   | normal=>exact absurd h1 (hne st')
   | exit id=>exact this
   | ret=>exact this
theorem Gi [Globs] [Ext P] {call:Dv} (hc:Lw P call) (hi:∀ M,@Ul (gM M) (@Gn (gM M) P _ call)) {ok:St->List Oper->Bool} (hd:Afs P ok) {n:Nat} : ∀ (c:Code) (C:Cx) (st:St) (ex:Ex) (st':St) (a:Act) (Q:Exit->Act->World->Prop),evC P call ok n c st=some (ex,st')->Rel C st a ->
  (∀ a' C',Le C C'->Rel C' st' a'->Q (exOf ex) a' C'.w)->c.wp P Q a C.w
 | .skip,C,st,ex,st',a,Q,h,hr,hQ=>by
  simp only [evC,A8,Cg] at h;obtain ⟨rfl,rfl⟩:=h;exact wp_skip (hQ a C (Le.refl C) hr)
 | .region id ops draw,C,st,ex,st',a,Q,h,hr,hQ=>by
  simp only [evC] at h;cases draw with
  | false =>
   rw [if_neg (by simp)] at h;simp only [Cd,Cg] at h;obtain ⟨st1,h,rfl,rfl⟩:=h;refine wp_region ?_;have:=Ro (Q:=Q) hc hr h hQ;have e:=wpOps_eq_wpList (P:=P) (ops:=ops) (Q:=Q) ops.toList 0 (fun j=>by simp);rw [List.range_eq_range'];simp only [I4] at e;rw [e]; exact this
  | true =>
   rw [if_pos rfl] at h;split at h
   ·rename_i ini o yp;obtain ⟨hL,ht⟩:=Pm yp;split at h
    ·rename_i ah;split at h
     ·rename_i st1 h1;simp only [Cd,Cg] at h;obtain ⟨st2,h2,rfl,rfl⟩:=h;unfold Aob at ht;simp only [Ci,Fb,Zk,decide_eq_true_eq,Ig] at ht;obtain ⟨⟨⟨⟨-,hg⟩,b9⟩,hla⟩,hde⟩:=ht;have a0l:ops=ini.toArray.push o:=by
       apply jW;rw [hL]; simp
      subst a0l;have ue:ini.toArray.push o=(ini++[o]).toArray:=by simp
      refine wp_region_any hd.1 ?_;have hw:=hd.2 _ (Zb hc) ini.toArray ini.toArray none rfl (hi _) C st st1 a (Aoc P o Q) (by simpa using ah) hr aU fun a' C' hle j3=>by
       show o.wp P a' C'.w (fun a' w'=>Q .normal a' w') Q;simp only [evOs,Ka,hg] at h2;split at h2
       ·rename_i v s3 ho;split at h2;case isFalse=>simp at h2
        have hT:s3.T=st1.T:=(H4 (next:=fun _ _=>True) (Q:=Q) hc j3 ho (fun _ _ _ _ _ _ _ _=>trivial)).2;exact Ya0w
       ·simp at h2
      exact Yad
     ·simp at h
    ·simp at h
   ·split at h
    ·rename_i p al o hlt;obtain ⟨ini,hL,ht,aj,j4⟩:=X1 hlt;rw [hL] at h;split at h
     ·rename_i ah;split at h
      ·rename_i st1 h1;simp only [Cd,Cg] at h;obtain ⟨st2,h2,rfl,rfl⟩:=h;unfold At7 at ht;simp only [Ci,Fb,Zk,decide_eq_true_eq,Ig] at ht;obtain ⟨⟨⟨hg,b9⟩,hla⟩,hde⟩:=ht;have hal:=(Pe (x:=o) j4).1;unfold Ap8 at hal;simp only [Ci,Ig] at hal;obtain ⟨t,hta⟩:∃ t,al.op=.alloc t:=by
        have:=hal.1.1;split at this
        ·rename_i t h; exact ⟨t,h⟩
        ·cases this
       have a5a:=hal.1.2;simp only [evOs,Ka,a5a] at h2;split at h2;case h_2=>simp at h2
       rename_i v s3 ky;split at h2;case isFalse=>simp at h2
       have a4b:=ky;simp only [evO,hta,Cd,Cg] at a4b;obtain ⟨cs,hz,rfl,rfl⟩:=a4b;have a5b:({ T:=putT st1.T al.dst (.ref st1.S.length st1.n 0),S:=st1.S++[⟨st1.n,cs⟩],tk:=st1.tk,n:=st1.n+1 } : St)=Wp P (some (p,al)) st1:=by
        simp only [Wp,hta,hz,Nl]
       simp only at h2;rw [a5b] at h2;have a0l:ops=ini.toArray.push o:=by
        apply jW;rw [hL]; simp
       subst a0l;have ue:ini.toArray.push o=(ini++[o]).toArray:=by simp
       refine wp_region_any hd.1 ?_;have hw:=hd.2 _ (Zb hc) ini.toArray (openL (ini++[o])).toArray (some (p,al)) (Atk j4 hta hz) (hi _) C st st1 a (Aoc P o Q) (by simpa using ah) hr aU fun a' C' hle j3=>by
        show o.wp P a' C'.w (fun a' w'=>Q .normal a' w') Q;simp only [hg] at h2;split at h2
        ·rename_i v s3 ho;split at h2;case isFalse=>simp at h2
         have hT:s3.T=(Wp P (some (p,al)) st1).T:=(H4 (next:=fun _ _=>True) (Q:=Q) hc j3 ho (fun _ _ _ _ _ _ _ _=>trivial)).2;exact Ya0w
        ·simp at h2
       exact Yad
      ·simp at h
     ·simp at h
    ·split at h
     ·rename_i ah;simp only [Cd,Cg] at h;obtain ⟨st1,h,rfl,rfl⟩:=h;exact wp_region_any hd.1 (hd.2 _ (Zb hc) ops ops none rfl (hi _) C st st1 a Q ah hr h hQ)
     ·simp at h
 | .seq x y,C,st,ex,st',a,Q,h,hr,hQ=>by
  simp only [evC] at h;split at h
  ·rename_i st1 h1;refine wp_seq (Gi hc hi hd x C st .normal st1 a _ h1 hr fun a1 C1 q6 bz=>?_);exact Gi hc hi hd y C1 st1 ex st' a1 Q h bz fun a2 C2 qy ae=>hQ a2 C2 (q6.trans qy) ae
  ·rename_i hne;refine wp_seq (Gi hc hi hd x C st ex st' a _ h hr fun a1 C1 q6 bz=>?_);have:=hQ a1 C1 q6 bz;cases ex with
   | normal=>exact absurd h (hne st')
   | exit id=>exact this
   | ret=>exact this
 | .cond x y z,C,st,ex,st',a,Q,h,hr,hQ=>by
  simp only [evC] at h;split at h
  ·rename_i t ht;have hv:=Af2 hr.tmps x;rw [ht] at hv; simp only [VR] at hv;cases t with
   | true =>
    rw [if_pos rfl] at h;exact wp_cond_true hv (Gi hc hi hd y C st ex st' a Q h hr hQ)
   | false =>
    rw [if_neg (by simp)] at h;exact wp_cond_false hv (Gi hc hi hd z C st ex st' a Q h hr hQ)
  ·simp at h
 | .block id x,C,st,ex,st',a,Q,h,hr,hQ=>by
  simp only [evC] at h;split at h
  ·rename_i id' st1 h1;refine wp_block (Gi hc hi hd x C st (.exit id') st1 a _ h1 hr fun a1 C1 q6 bz=>?_);simp only [exOf,Exit.inBlock];split at h
   ·rename_i hid;simp only [A8,Cg] at h;obtain ⟨rfl,rfl⟩:=h;rw [if_pos hid]; exact hQ a1 C1 q6 bz
   ·rename_i hid;simp only [A8,Cg] at h;obtain ⟨rfl,rfl⟩:=h;rw [if_neg hid]; exact hQ a1 C1 q6 bz
  ·rename_i hne;refine wp_block (Gi hc hi hd x C st ex st' a _ h hr fun a1 C1 q6 bz=>?_);have:=hQ a1 C1 q6 bz;cases ex with
   | normal=>exact this
   | exit id=>exact absurd h (hne id st')
   | ret=>exact this
 | .loop x,C,st,ex,st',a,Q,h,hr,hQ=>by
  simp only [evC] at h;exact Aez (fun C st ex st' a Q=>Gi hc hi hd x C st ex st' a Q) h hr hQ
 | .exit id,C,st,ex,st',a,Q,h,hr,hQ=>by
  simp only [evC,A8,Cg] at h;obtain ⟨rfl,rfl⟩:=h;exact wp_exit (hQ a C (Le.refl C) hr)
 | .ret,C,st,ex,st',a,Q,h,hr,hQ=>by
  simp only [evC,A8,Cg] at h;obtain ⟨rfl,rfl⟩:=h;exact wp_ret (hQ a C (Le.refl C) hr)
 | .rangeFunc _ _ _ _,_,_,_,_,_,_,h,_,_=>dK
 | .scope x,C,st,ex,st',a,Q,h,hr,hQ=>by
  simp only [evC] at h;refine wp_scope_straight (Gi hc hi hd x C st ex st' a _ h hr fun a1 C1 q6 bz=>?_);have:=hQ a1 C1 q6 bz;cases ex <;> exact this
 | .label l,C,st,ex,st',a,Q,h,hr,hQ=>by
  simp only [evC,A8,Cg] at h;obtain ⟨rfl,rfl⟩:=h;exact wp_label (hQ a C (Le.refl C) hr)
 | .goto _,_,_,_,_,_,_,h,_,_=>dK
 | .refuse _,_,_,_,_,_,_,h,_,_=>dK
end
section
variable {P:Program}
def Aht (P:Program) (tmps:Array Value):ResultVar->Sem Value
 | .tmp t=>pure (tmps.getD t undef)
 | .cell a t=>do loadVar t (<- asAddr (tmps.getD a undef))
theorem Arl {C:Cx} {T:List AV} {tmps:Array Value} (h:VRs C T tmps.toList) (t:Tmp):VR C (getT T t) (tmps.getD t undef) :=
 Af2 (a:=⟨tmps,[]⟩) h (.tmp t)
theorem Afh [Globs] {C:Cx} {st:St} {a:Act} (hr:Rel C st a) {rv:ResultVar} {v:AV} (h:resA1 P st rv=some v):Has P C (Aht P a.tmps rv) v:=by
 cases rv with
 | tmp t =>
  simp only [resA1,A8] at h; subst h;exact ⟨_,rfl,Arl hr.tmps t⟩
 | cell p t =>
  simp only [resA1] at h;rw [<- hr.S] at h;obtain ⟨u,h1,h2⟩:=Acp hr.sr (Arl hr.tmps p) h;refine ⟨u,?_,h2⟩;simp only [Aht];generalize a.tmps.getD p undef=x at h1;cases x with
  | pointer b =>
   cases b with
   | none=>simp [jG,Sc] at h1
   | some b=>simpa [jG,Sc,asAddr] using h1
  | _=>simp [jG,Sc] at h1
theorem Ahd [Globs] {C:Cx} {st:St} {a:Act} (hr:Rel C st a):∀ {rs:List ResultVar} {vs:List AV},mapO (resA1 P st) rs=some vs->∃ us,(rs.mapM (Aht P a.tmps)).run P C.w=.ok us C.w/\VRs C vs us
 | [],vs,h=>by
  simp only [mapO,A8] at h; subst h;exact ⟨[],by simp,bZ⟩
 | r :: rs,vs,h=>by
  simp only [mapO] at h;split at h
  ·rename_i b l h1 h2;simp only [A8] at h; subst h;obtain ⟨u,g1,g2⟩:=Afh hr h1;obtain ⟨us,g3,g4⟩:=Ahd hr h2;exact ⟨u :: us,by rw [List.mapM_cons]; simp only [Fw,g1,Fh,g3,I9],by simp only [VRs]; exact ⟨g2,g4⟩⟩
  ·simp at h
theorem Aji [Globs] {C:Cx} {st:St} {a:Act} (hr:Rel C st a) {fn:Func} {v:AV} (h:resA P fn.results.toList st=some v):Has P C (results fn a.tmps) v:=by
 simp only [resA,Cd] at h;obtain ⟨vs,h,rfl⟩:=h;obtain ⟨us,h1,h2⟩:=Ahd hr h;have hrun:(results fn a.tmps).run P C.w=.ok (if h:us.toArray.size=1 then us.toArray[0] else .tuple us.toArray) C.w:=by
  have e:results fn a.tmps=(do
   let vs <- fn.results.mapM (Aht P a.tmps)
   pure (if h:vs.size=1 then vs[0] else .tuple vs)):=by
   unfold results;congr 1
  rw [e,Fw,Array.mapM_eq_mapM_toList,Sem.run_map,h1];rfl
 have hlen:=Bc h2;match us,vs,h2,hlen,hrun with
 | [u],[v],h2,_,hrun =>
  simp only [VRs] at h2;exact ⟨u,by rw [hrun]; simp,h2.1⟩
 | [],[],h2,_,hrun=>exact ⟨.tuple #[],by rw [hrun]; simp,Za4i⟩
 | u :: u' :: us,v :: v' :: vs,h2,_,hrun=>exact ⟨.tuple (u :: u' :: us).toArray,by rw [hrun]; simp,Za4i⟩
theorem VR_w3 {C:Cx} {c x} (h:VR C c x):VR C (w3 c) x:=by
 cases c with
 | tup cs =>
  simp only [w3,VR] at h ⊢;obtain ⟨vs,e,hr⟩:=h;exact ⟨vs,e,Akj hr⟩
 | _=>exact Asw h
theorem Yc {C C':Cx} {c x} (aj:Stays C.w C'.w C.Avoid C'.Avoid) (hp:pure1 c=true) (h:VR C c x):VR C' c x:=Y4 (PR.stays aj _ _ (Afw hp h))
theorem Wf {C C':Cx} (aj:Stays C.w C'.w C.Avoid C'.Avoid):∀ {cs vs},cs.all pure1=true->VRs C cs vs->VRs C' cs vs
 | [],[],_,_=>bZ
 | c :: cs,v :: vs,hp,h=>by
  simp only [Uo,Ci] at hp;simp only [VRs] at h ⊢;exact ⟨Yc aj hp.1 h.1,Wf aj hp.2 h.2⟩
 | [],_ :: _,_,h=>aT
 | _ :: _,[],_,h=>aT
theorem Yd {C C':Cx} {c x} (aj:Stays C.w C'.w C.Avoid C'.Avoid) (hp:pure2 c=true) (h:VR C c x):VR C' c x:=by
 cases c with
 | agg cs =>
  simp only [VR] at h ⊢;obtain ⟨vs,e,hr⟩:=h;exact ⟨vs,e,Wf aj hp hr⟩
 | _=>exact Yc aj hp h
theorem Pi {C C':Cx} (aj:Stays C.w C'.w C.Avoid C'.Avoid):∀ {cs vs},cs.all pure2=true->VRs C cs vs->VRs C' cs vs
 | [],[],_,_=>bZ
 | c :: cs,v :: vs,hp,h=>by
  simp only [Uo,Ci] at hp;simp only [VRs] at h ⊢;exact ⟨Yd aj hp.1 h.1,Pi aj hp.2 h.2⟩
 | [],_ :: _,_,h=>aT
 | _ :: _,[],_,h=>aT
theorem Aje {C C':Cx} {c x} (aj:Stays C.w C'.w C.Avoid C'.Avoid) (hp:pure3 c=true) (h:VR C c x):VR C' c x:=by
 cases c with
 | tup cs =>
  simp only [VR] at h ⊢;obtain ⟨vs,e,hr⟩:=h;exact ⟨vs,e,Pi aj hp hr⟩
 | _=>exact Yd aj hp h
theorem Af4 {C:Cx} : ∀ n:Nat,VRs C (Cf n AV.bot) (Cf n undef)
 | 0=>by simp [VRs]
 | n+1=>by simp only [Om,VRs,VR]; exact ⟨trivial,Af4 n⟩
theorem Rm [Globs] [Ext P] {call:Dv} (hc:Lw P call) (hi:∀ M,@Ul (gM M) (@Gn (gM M) P _ call)) {ok:St->List Oper->Bool} (hd:Afs P ok) {k:Nat} {f:FuncId} {fn:Func} {c:Code} (hf:P.funcs[f]?=some fn) (hb:fn.body=some c) {C:Cx} (hs:SR C) {args:List AV} {vs:Array Value} (hv:VRs C args vs.toList) {r:AV} {st:St}
  (h:outA P fn (evC P call ok k c ⟨args++Cf (fn.ntmps - args.length) .bot,C.S,C.tk,C.n⟩)=some (r,st)) :
  Calls P f vs C.w fun e w'=>∃ v C',e=.returned v/\C'.w=w'/\Le C C'/\SR C'/\C'.S=st.S/\C'.tk=st.tk/\C'.n=st.n/\VR C' r v:=by
 have hlen:vs.size=args.length:=by have:=Bc hv; simpa using this.symm
 refine calls_of_wp hf hb ?_;have hrel:Rel C ⟨args++Cf (fn.ntmps - args.length) .bot,C.S,C.tk,C.n⟩ { tmps:=vs++Sl (fn.ntmps - vs.size) undef,defers:=[] } :=
  ⟨rfl,rfl,rfl,by rw [hlen]; simpa using Ht hv (Af4 _),rfl,hs⟩
 have fin:∀ {ex:Ex} {st':St},(ex=.normal\/ex=.ret)->(resA P fn.results.toList st').map (fun r=>(r,st'))=some (r,st)->∀ a' C',Le C C'->Rel C' st' a' ->
   bodyPost P fn (fun e w'=>∃ v C',e=.returned v/\C'.w=w'/\Le C C'/\SR C'/\C'.S=st.S/\C'.tk=st.tk/\C'.n=st.n/\VR C' r v) (exOf ex) a' C'.w:=by
  intro ex st' gg he a' C' hle hr;simp only [Cd,Cg] at he;obtain ⟨r',he,rfl,rfl⟩:=he;obtain ⟨v,h1,h2⟩:=Aji hr he;rcases gg with rfl|rfl
  ·exact Ya3u
  ·exact Ya3u
 generalize he:evC P call ok k c ⟨args++Cf (fn.ntmps - args.length) .bot,C.S,C.tk,C.n⟩=out at h;match out with
 | none=>simp [outA] at h
 | some (.exit _,_)=>simp [outA] at h
 | some (.normal,st')=>exact Gi hc hi hd c C _ .normal st' _ _ he hrel (fin (.inl rfl) h)
 | some (.ret,st')=>exact Gi hc hi hd c C _ .ret st' _ _ he hrel (fin (.inr rfl) h)
def Cx.alone (C:Cx):Cx:={ w:=C.w,av:=C.Avoid,φ:=C.φ,ψ:=C.ψ,S:=[],tk:=[],n:=0 }
theorem Ux {C:Cx} {b o:Nat} : ¬ C.alone.Mut b o:=by
 rintro (⟨i,hi,_⟩|⟨i,hi,_⟩) <;> simp [Cx.alone] at hi
theorem SR.alone [Globs] {C:Cx} (hs:SR C):SR C.alone:=by
 refine ⟨fun i e h=>by simp [Cx.alone,nth] at h,fun i j hi=>fE,fun i j o hi=>fE,fun i j o hi=>fE,fun b o h=>absurd h Ux,fun b o h=>?_,fun i o hi=>fE,fun g o h=>⟨(hs.glob g o h).1,fun i=>.inl ((hs.glob g o h).2 i)⟩⟩;rcases Im b C.w.heap.size with h'|h'
 ·exact h'
 ·exact absurd h (hs.fresh h')
theorem Avi [Globs] {C:Cx} (hs:SR C) {m id o:Nat} (hid:id<C.S.length) (hm:m<=id):¬ ({ C with S:=C.S.take m } : Cx).Avoid (C.φ id) o:=by
 rintro (h|⟨i,hi,h⟩|⟨i,hi,h1,h2,h3⟩)
 ·exact hs.own _ o (.inl ⟨id,hid,rfl⟩) h
 ·simp only [Iu] at hi;have:=hs.ne i id aA hid h;omega
 ·exact hs.apart id i o hid hi h1.symm h2 h3
theorem Acf [Globs] {C:Cx} (hs:SR C) (m:Nat) {c x} (h:VR C c x):VR { C with S:=C.S.take m } (fz1 m C.S c) x:=by
 have keep:VR { C with S:=C.S.take m } c x:=VR.mono (Le.take m) _ _ h;cases c with
 | sref id ep off len sz =>
  simp only [fz1];split
  ·rename_i hm;unfold fzB;split
   ·rename_i cs j1;obtain ⟨e,h1,h2,rfl⟩:=D4 j1;unfold M2;split
    ·rename_i es hes;split
     ·rename_i hp;simp only [VR] at h;obtain ⟨b,a,cap,rfl,hcap,ha,hn,hb⟩:=h;obtain rfl:=(hb e h1 h2).1;obtain ⟨hlt,arr,t,h3,h4⟩:=hs.ent id e h1;obtain ⟨pd,h4⟩:=entP h4;obtain ⟨g1,g2,g3,g4⟩:=Nr hes;have g4':len*sz<=((e.cells++pd).drop off).length:=by simp at g4 ⊢; omega
      have g3':es.flatten=((e.cells++pd).drop off).take (len*sz):=by rw [g3,iI,Oo g4]
      simp only [VR];refine ⟨a,len,cap,rfl,by simp [g1],hcap,trivial,?_⟩;by_cases h0:len=0
      ·left;subst h0;rw [Fz g1]; rfl
      ·right;obtain rfl:=ha.resolve_left h0;have oq:=Bc h4;simp only [I4] at oq;refine ⟨C.φ id,off,sz,rfl,He (l:=(arr.toList.drop off).take (len*sz)) (fun e he=>?_) ?_ (Lz fun j v hj=>⟨?_,Avi hs (Br h1) hm⟩)⟩
       ·exact Ya2s
       ·have uc:(es.map (·.map w1)).flatten=(((e.cells++pd).drop off).take (len*sz)).map w1:=by rw [<- g3',List.map_flatten]
        have hvs:VRs C (((e.cells++pd).drop off).take (len*sz)) ((arr.toList.drop off).take (len*sz)):=(Ll (Na off h4) (Nu g4')).1;rw [uc];refine Kw (C:={ C with S:=C.S.take m }) ?_ (VRs.mono (Le.take m) _ _ (Xo hvs));rw [<- g3',Fb];exact Ya0r
       ·have i7:j<len*sz:=by
         exact Ya1s
        exact Ya2b
     ·simp only [VR]
    ·simp only [VR]
   ·simp only [VR]
  ·exact keep
 | _=>exact keep
theorem Xz [Globs] {C:Cx} (hs:SR C) (m:Nat):∀ {cs vs},VRs C cs vs->VRs { C with S:=C.S.take m } (cs.map (fz1 m C.S)) vs
 | [],[],_=>dU
 | c :: cs,v :: vs,h=>by simp only [VRs,Ct] at h ⊢; exact ⟨Acf hs m h.1,Xz hs m h.2⟩
 | [],_ :: _,h=>aT
 | _ :: _,[],h=>aT
theorem Acg [Globs] {C:Cx} (hs:SR C) (m:Nat) {c x} (h:VR C c x):VR { C with S:=C.S.take m } (fz2 m C.S c) x:=by
 cases c with
 | agg cs =>
  simp only [fz2,VR] at h ⊢;obtain ⟨vs,e,hr⟩:=h;exact ⟨vs,e,Xz hs m hr⟩
 | _=>exact Acf hs m h
theorem X0 [Globs] {C:Cx} (hs:SR C) (m:Nat):∀ {cs vs},VRs C cs vs->VRs { C with S:=C.S.take m } (cs.map (fz2 m C.S)) vs
 | [],[],_=>dU
 | c :: cs,v :: vs,h=>by simp only [VRs,Ct] at h ⊢; exact ⟨Acg hs m h.1,X0 hs m h.2⟩
 | [],_ :: _,h=>aT
 | _ :: _,[],h=>aT
theorem Ach [Globs] {C:Cx} (hs:SR C) (m:Nat) {c x} (h:VR C c x):VR { C with S:=C.S.take m } (fz3 m C.S c) x:=by
 cases c with
 | tup cs =>
  simp only [fz3,VR] at h ⊢;obtain ⟨vs,e,hr⟩:=h;exact ⟨vs,e,X0 hs m hr⟩
 | _=>exact Acg hs m h
theorem Aen [Globs] [Ext P] {ok:St->List Oper->Bool} {k:Nat} {f:FuncId} {args:List AV} {S:List Ent} {tk:List Nat} {n:Nat} (hf:Ext.on P f=true):evF P ok (k+1) f args S tk n=extC P f args S tk n:=by
 simp only [evF,extC,hf,if_true]
structure W4 (A:Nat->Bool) (m:Nat) (S0:List Ent) (tk0:List Nat) (st:St):Prop where
 S:st.S.take m=S0
 le:m<=st.S.length
 tk:st.tk=tk0
 own:∀ q,A q=true->getT st.T q=.bot\/getT st.T q=.prim undef\/∃ id ep off,getT st.T q=.ref id ep off/\m<=id
theorem Al1:∀ {T:List AV} {d:Nat} {v:AV},d<T.length->getT (put T d v) d=v
 | _ :: _,0,_,_=>rfl
 | _ :: T,d+1,_,h=>Al1 (T:=T) aM
 | [],_,_,h=>aN
theorem Ag1:∀ {T:List AV} {d q:Nat} {v:AV},d≠q->getT (put T d v) q=getT T q
 | [],_,_,_,_=>rfl
 | _ :: _,0,0,_,h=>absurd rfl h
 | _ :: _,0,_+1,_,_=>rfl
 | _ :: _,_+1,0,_,_=>rfl
 | _ :: T,d+1,q+1,_,h=>Ag1 (T:=T) aA
theorem Ang:∀ {T:List AV} {d:Nat} {v:AV},T.length<=d->put T d v=T
 | [],_,_,_=>rfl
 | _ :: _,0,_,h=>aN
 | _ :: T,d+1,_,h=>by simp only [put]; rw [Ang (T:=T) aM]
theorem Acj {T:List AV} {d:Option Nat} {v:AV} {q:Nat} : getT (putT T d v) q=getT T q\/(d=some q/\getT (putT T d v) q=v):=by
 cases d with
 | none=>exact .inl rfl
 | some d =>
  simp only [putT];by_cases h:d=q
  ·subst h;rcases Im d T.length with hl|hl
   ·exact .inr ⟨rfl,Al1 hl⟩
   ·left; rw [Ang hl]
  ·exact .inl (Ag1 h)
theorem Ah5 {α:Type} : ∀ {l:List α} {i m:Nat} {v:α},m<=i->(put l i v).take m=l.take m
 | [],_,_,_,_=>rfl
 | _ :: _,0,m,_,h=>by
  have:m=0:=aA
  subst this; rfl
 | _ :: _,_+1,0,_,_=>rfl
 | _ :: l,i+1,m+1,v,h=>by simp only [put,F7,Ah5 (l:=l) (i:=i) (m:=m) (v:=v) aA]
theorem Atj [Globs] {call:Dv} {o:Oper} {all:List Oper} {nn m:Nat} {S0:List Ent} {tk0:List Nat} {st st':St} {v:AV} (hA:o ∈ all) (hk:Vw all nn o=true) (hI:W4 (fun q=>decide (nn<=q) && Mq all q) m S0 tk0 st) (h:evO P call o st=some (v,st')) :
  W4 (fun q=>decide (nn<=q) && Mq all q) m S0 tk0 { st' with T:=putT st'.T o.dst v }:=by
 have slot:st'.T=st.T->(Lq o=true->∃ id ep off,v=.ref id ep off/\m<=id)->∀ q,(decide (nn<=q) && Mq all q)=true->getT (putT st'.T o.dst v) q=.bot\/getT (putT st'.T o.dst v) q=.prim undef\/∃ id ep off,getT (putT st'.T o.dst v) q=.ref id ep off/\m<=id:=by
  intro hT hv q hq;rcases Acj (T:=st'.T) (d:=o.dst) (v:=v) (q:=q) with e|⟨e1,e2⟩
  ·rw [e,hT]; exact hI.own q hq
  ·simp only [Ci] at hq;have:=Fb.1 hq.2 o hA;rw [e1] at this;simp only [bne_self_eq_false,Oi] at this;obtain ⟨id,ep,off,rfl,hm⟩:=hv this;exact .inr (.inr ⟨id,ep,off,e2,hm⟩)
 unfold evO at h;unfold Vw at hk;split at h
 ·rename_i t x e;simp only [Cd,Cg] at h;obtain ⟨_,_,rfl,rfl⟩:=h;exact ⟨hI.S,hI.le,hI.tk,slot rfl (fun hm=>fO)⟩
 ·rename_i t x y e;rw [e] at hk;simp only [Cd,Cg] at h;obtain ⟨S',hs,rfl,rfl⟩:=h;cases x with
  | tmp q =>
   simp only at hk;unfold stA at hs;split at hs
   ·rename_i id ep off sz vs hx _ _;simp only [opv] at hx;split at hs
    ·split at hs
     ·split at hs
      ·simp only [A8] at hs; subst hs;have hid:m<=id:=by
        rcases hI.own q hk with h1|h1|⟨id',ep',off',h1,h2⟩
        ·rw [h1] at hx; simp at hx
        ·rw [h1] at hx; simp at hx
        ·rw [h1] at hx; simp only [AV.ref.injEq] at hx; omega
       exact ⟨by show (put st.S id _).take m=S0; rw [Ah5 hid]; exact hI.S,by show m<=(put st.S id _).length; rw [Ai]; exact hI.le,hI.tk,slot rfl (fun hm=>fO)⟩
      ·simp at hs
     ·simp at hs
    ·simp at hs
   ·simp at hs
  | _=>simp at hk
 ·rename_i t e;exact Ya14
 ·rename_i t x e;exact Ya14
 ·rename_i t l c e;rw [e] at hk;simp only [Ob] at hk;simp only [Cd,Prod.exists,hk] at h;obtain ⟨l',sz,cs,_,hh⟩:=h;rw [if_neg (by simp)] at hh;simp only [Cg] at hh;obtain ⟨rfl,rfl⟩:=hh;exact ⟨Za0e,Zax,hI.tk,slot rfl (fun hm=>fO)⟩
 ·rename_i c e;rw [e] at hk;simp only at hk;split at h
  ·rename_i hb; rw [hb] at hk; simp at hk
  ·rename_i hb; rw [hb] at hk; simp at hk
  ·simp only [Cd,Cg] at h; obtain ⟨_,_,rfl,rfl⟩:=h;exact ⟨hI.S,hI.le,hI.tk,slot rfl (fun hm=>fO)⟩
  ·rename_i h1 h2 h3;exfalso;cases hc:c.callee with
   | builtin b=>cases b <;> first|exact h1 hc|exact h2 hc|exact h3 _ hc
   | value x=>rw [hc] at hk; simp at hk
   | invoke x m=>rw [hc] at hk; simp at hk
 ·rename_i h1 h2 h3 h4 h5 h6;simp only [Cd,Cg] at h; obtain ⟨_,_,rfl,rfl⟩:=h;refine ⟨hI.S,hI.le,hI.tk,slot rfl (fun hm=>?_)⟩;unfold Lq at hm;split at hm
  ·exact absurd cY (h3 _)
  ·exact absurd cY (h4 _ _)
  ·simp at hm
theorem Ni [G:Globs] {call:Dv} {allr all:List Oper} {nn m:Nat} {S0:List Ent} {tk0:List Nat} : ∀ {l:List Oper} {st st':St},(∀ o ∈ l,o ∈ all/\Vw all nn o=true)->W4 (fun q=>decide (nn<=q) && Mq all q) m S0 tk0 st->evOs P call allr l st=some st'->W4 (fun q=>decide (nn<=q) && Mq all q) m S0 tk0 st'
 | [],st,st',_,hI,h=>by simp only [evOs,A8] at h; subst h; exact hI
 | o :: l,st,st',hq,hI,h=>by
  simp only [evOs] at h;split at h
  ·simp at h
  ·refine Ni (fun o ho=>hq o (by simp [ho])) ?_ h;refine ⟨hI.S,hI.le,hI.tk,fun q hqq=>?_⟩;rcases Acj (T:=st.T) (d:=o.dst) (v:=.prim undef) (q:=q) with e|⟨_,e⟩
   ·simp only [e]; exact hI.own q hqq
   ·exact .inr (.inl e)
  ·split at h
   ·rename_i v s1 ho;split at h;case isFalse=>simp at h
    obtain ⟨a1,a2⟩:=hq o (by simp);exact Ni (fun o ho=>hq o (by simp [ho])) (Atj a1 a2 hI ho) h
   ·simp at h
theorem Acn {kp:Bool} {A:Nat->Bool} {m:Nat} {S0:List Ent} {tk0:List Nat} {f:St->Option (Ex × St)} (hf:∀ st ex st',W4 A m S0 tk0 st->f st=some (ex,st')->W4 A m S0 tk0 st'):∀ {k:Nat} {st st':St} {ex:Ex},W4 A m S0 tk0 st->Ml kp f k st=some (ex,st')->W4 A m S0 tk0 st'
 | 0,_,_,_,_,h=>by simp [Ml] at h
 | k+1,st,st',ex,hI,h=>by
  simp only [Ml] at h;split at h
  ·rename_i s1 h1;have h2:=hf _ _ _ hI h1;have db:m<=bif kp then s1.S.length else st.S.length:=by cases kp <;> first|exact hI.le|exact h2.le
   rw [Agm] at h;generalize (bif kp then s1.S.length else st.S.length)=mm at h db;refine Acn (st:={ s1 with S:=s1.S.take mm }) hf ⟨?_,?_,h2.tk,h2.own⟩ h
   ·show (s1.S.take mm).take m=S0;rw [kU,Nat.min_eq_left db]; exact h2.S
   ·show m<=(s1.S.take mm).length;rw [Iu];exact Nat.le_min.2 ⟨db,h2.le⟩
  ·exact hf _ _ _ hI h
theorem Ama [Globs] {L:List Oper} {p:Nat} {al o:Oper} {all:List Oper} {nn:Nat} (h:Mj L=some (p,al,o)):¬ ∀ o ∈ L,o ∈ all/\Vw all nn o=true:=by
 intro hq;unfold Mj at h;split at h
 ·split at h
  ·rename_i hc;simp only [Ci,List.any_eq_true] at hc;obtain ⟨x,hx,vf⟩:=hc.2;have hk:=(hq x (List.dropLast_subset _ hx)).2;unfold xOp at vf;unfold Vw at hk;split at vf
   ·rename_i c jg;rw [jg] at hk;simp only at hk;unfold Afp at vf;split at vf <;> rename_i ao <;> simp_all
   ·simp at vf
  ·simp at h
 ·simp at h
theorem Gz [Globs] [Ext P] {call:Dv} {ok:St->List Oper->Bool} {n nn m:Nat} {all:List Oper} {S0:List Ent} {tk0:List Nat} : ∀ (c:Code) (st:St) (ex:Ex) (st':St),(∀ o ∈ opsOf c,o ∈ all/\Vw all nn o=true)->W4 (fun q=>decide (nn<=q) && Mq all q) m S0 tk0 st->evC P call ok n c st=some (ex,st')->W4 (fun q=>decide (nn<=q) && Mq all q) m S0 tk0 st'
 | .skip,st,ex,st',_,hI,h=>eP
 | .exit _,st,ex,st',_,hI,h=>eP
 | .ret,st,ex,st',_,hI,h=>eP
 | .region _ ops draw,st,ex,st',hq,hI,h=>by
  simp only [opsOf] at hq;simp only [evC] at h;split at h
  ·split at h
   ·rename_i ini o yp;obtain ⟨hL,-⟩:=Pm yp;rw [hL] at hq;split at h
    ·split at h
     ·rename_i s1 h1;simp only [Cd,Cg] at h;obtain ⟨s2,h2,_,rfl⟩:=h;exact Ni (fun x hx=>hq x (C5.2 (.inr hx))) (Ni (G:=gM _) (fun x hx=>hq x (C5.2 (.inl hx))) hI h1) h2
     ·simp at h
    ·simp at h
   ·split at h
    ·rename_i hlt;exact absurd hq (Ama hlt)
    ·split at h
     ·simp only [Cd,Cg] at h;obtain ⟨s1,h,_,rfl⟩:=h;exact Ni (G:=gM _) hq hI h
     ·simp at h
  ·simp only [Cd,Cg] at h;obtain ⟨s1,h,_,rfl⟩:=h;exact Ni hq hI h
 | .seq a b,st,ex,st',hq,hI,h=>by
  simp only [opsOf,C5] at hq;simp only [evC] at h;split at h
  ·rename_i s1 h1;exact Gz b _ _ _ (fun o ho=>hq o (.inr ho)) (Gz a _ _ _ (fun o ho=>hq o (.inl ho)) hI h1) h
  ·exact Gz a _ _ _ (fun o ho=>hq o (.inl ho)) hI h
 | .cond x a b,st,ex,st',hq,hI,h=>by
  simp only [opsOf,C5] at hq;simp only [evC] at h;split at h
  ·split at h
   ·exact Gz a _ _ _ (fun o ho=>hq o (.inl ho)) hI h
   ·exact Gz b _ _ _ (fun o ho=>hq o (.inr ho)) hI h
  ·simp at h
 | .block id c,st,ex,st',hq,hI,h=>by
  simp only [opsOf] at hq;simp only [evC] at h;split at h
  ·rename_i id' s1 h1;have:=Gz c _ _ _ hq hI h1;split at h
   ·exact Ya2z
   ·exact Ya2z
  ·exact Gz c _ _ _ hq hI h
 | .loop c,st,ex,st',hq,hI,h=>by
  simp only [opsOf] at hq;simp only [evC] at h;exact Acn (fun s e s' hs hh=>Gz c s e s' hq hs hh) hI h
 | .rangeFunc _ _ _ _,_,_,_,_,_,h=>dK
 | .scope c,st,ex,st',hq,hI,h=>by
  simp only [opsOf] at hq;simp only [evC] at h;exact Gz c _ _ _ hq hI h
 | .label _,st,ex,st',_,hI,h=>eP
 | .goto _,_,_,_,_,_,h=>dK
 | .refuse _,_,_,_,_,_,h=>dK
theorem Al0 {args:List AV} {q n:Nat} (h:args.length<=q):getT (args++Cf n .bot) q=.bot:=by
 induction args generalizing q with
 | nil =>
  simp only [Cq];induction n generalizing q with
  | zero=>rfl
  | succ n ih=>cases q with
   | zero=>rfl
   | succ q=>exact ih (by simp)
 | cons x args ih=>cases q with
  | zero=>simp at h
  | succ q=>exact ih aM
theorem Ve [Globs] [Ext P] [hX:Aid P] {ok:St->List Oper->Bool} : ∀ k M,@Ul (gM M) (@Gn (gM M) P _ (evF P ok k))
 | 0,M=>by intro f args S tk n r S' tk' n' h; simp [Gn,evF] at h
 | k+1,M=>by
  intro f args S tk n r S' tk' n' h;by_cases yq:Ext.on P f=true
  ·have e:∀ S tk n,@Gn (gM M) P _ (evF P ok (k+1)) f args S tk n=@Gn (gM M) P _ (extC P) f args S tk n:=by
    intro S tk n; simp only [Gn,Aen yq]
   rw [e] at h;obtain ⟨g1,g2,g4⟩:=hX.indep M _ _ _ _ _ _ _ _ _ h;exact .inr ⟨g1,g2,g4.imp _root_.id fun g4=>⟨g4.1,fun S2 tk2 n2=>by rw [e]; exact g4.2 S2 tk2 n2⟩⟩
  by_cases hxf:(@xF (gM M) f && @Globs.dr (gM M))=true
  ·exact .inl hxf
  right;unfold Gn at h;split at h
  ·rename_i hp;by_cases kt:((args.map w2).all pure2 && !Ext.mv P f)=true
   ·have fv:=kt;simp only [Ci,Ob] at fv;obtain ⟨hp1,vz⟩:=fv;simp only [evF] at h;rw [if_neg yq] at h;split at h
    ·rename_i fn hf;split at h
     ·rename_i c hb;split at h
      ·simp at h
      ·rename_i bg;simp only [vz,hp1,if_true,Ef,if_false] at h;split at h
       ·rename_i r' ho;simp only [A8,Cg] at h;obtain ⟨rfl,rfl,rfl,rfl⟩:=h;refine ⟨rfl,rfl,.inr ⟨rfl,fun S2 tk2 n2=>?_⟩⟩;unfold Gn;rw [if_pos hp];simp only [evF,hf,hb];rw [if_neg yq,if_neg bg,if_neg (by rw [vz]; simp),if_pos hp1,ho]
       ·simp at h
     ·simp at h
    ·simp at h
   ·have sd:(@shF (gM M) f && Tj P f args.length && !Ext.mv P f && !Ext.on P f)=true:=by
     cases hx:((args.map w2).all pure2 && !Ext.mv P f) with
     | true=>exact absurd hx kt
     | false=>rw [hx] at hp; simpa [hxf] using hp
    simp only [Ci,Ob] at sd;obtain ⟨⟨⟨h1,h2⟩,vz⟩,-⟩:=sd;have hpp:¬ (args.map w2).all pure2=true:=fun h=>kt (by simp [h,vz]);simp only [evF] at h;rw [if_neg yq] at h;unfold Tj at h2;split at h
    ·rename_i fn hf;rw [hf] at h2;simp only at h2;split at h
     ·rename_i c hb;rw [hb] at h2;simp only at h2;split at h
      ·simp at h
      ·simp only [vz,hpp,Ef,if_false] at h;split at h
       ·rename_i r' st ho;simp only [A8,Cg] at h;obtain ⟨rfl,rfl,rfl,rfl⟩:=h;have cl:∃ ex,evC P (evF P ok k) ok k c ⟨args++Cf (fn.ntmps - args.length) .bot,S,tk,n⟩=some (ex,st):=by
         generalize evC P (evF P ok k) ok k c ⟨args++Cf (fn.ntmps - args.length) .bot,S,tk,n⟩=o at ho;unfold outA at ho;split at ho
         ·exact Ya21
         ·exact Ya21
         ·simp at ho
        obtain ⟨ex,gg⟩:=cl;have hK:=Gz (all:=opsOf c) (nn:=args.length) (m:=S.length) (S0:=S) (tk0:=tk) c _ _ _ (fun o ho=>⟨ho,Fb.1 h2 o ho⟩)
         ⟨Fm,Ce _,rfl,fun q hq=>.inl (Al0 (by simp only [Ci,decide_eq_true_eq] at hq; exact hq.1))⟩ gg
        exact ⟨hK.S,hK.tk,.inl h1⟩
       ·simp at h
     ·simp at h
    ·simp at h
  ·simp at h
theorem Ab4 [Globs] [Ext P] [hX:Aid P] {ok:St->List Oper->Bool} (hd:Afs P ok):∀ k,Lw P (evF P ok k)
 | 0=>by intro f args S tk n r S' tk' n' h; simp [evF] at h
 | k+1=>by
  have hc:=Ab4 hd k;intro f args S tk n r S' tk' n' h;by_cases yq:Ext.on P f=true
  ·rw [Aen yq] at h;exact hX.ok _ _ _ _ _ _ _ _ _ h
  simp only [evF] at h;rw [if_neg yq] at h;split at h
  ·rename_i fn hf;split at h
   ·rename_i c hb;split at h
    ·simp at h
    ·rename_i bg;refine ⟨⟨fn,hf,cX,by rw [hb]; rfl⟩,?_⟩;rintro C vs rfl rfl rfl hs hv;split at h
     ·split at h
      ·rename_i r' st ho;simp only [A8,Cg] at h;obtain ⟨rfl,rfl,rfl,rfl⟩:=h;exact Rm hc (Ve k) hd (k:=k) hf hb hs hv ho
      ·simp at h
     split at h
     ·rename_i hp;split at h
      ·rename_i r' ho;simp only [A8,Cg] at h;obtain ⟨rfl,rfl,rfl,rfl⟩:=h;have aj:Stays C.w C.alone.w C.Avoid C.alone.Avoid:=fun b o v h1 h2=>⟨h1,fun h3=>h3.elim h2 Ux⟩;have hv':=Pi aj hp (Akj hv);have one:∀ {as:List AV} {r0:AV},VRs C.alone as vs.toList->runP P ok (evF P ok k) k fn c as=some r0->Calls P f vs C.w fun e w'=>∃ v C',e=.returned v/\C'.w=w'/\Le C C'/\SR C'/\C'.S=C.S/\C'.tk=C.tk/\C'.n=C.n/\VR C' r0 v:=by
        intro as r0 hv' hrun;unfold runP at hrun;split at hrun
        ·rename_i r' st ho;split at hrun
         ·rename_i hp3;simp only [A8] at hrun;subst hrun;refine Calls.mono (Rm hc (Ve k) hd (k:=k) hf hb hs.alone hv' ho) ?_;rintro e w' ⟨v,C',rfl,rfl,hle,hs',hS',-,-,h2⟩;have hbel:Below C.w.heap.size C.w C'.w:=⟨hle.os,hle.tape,hle.output,hle.size,fun b hb=>hle.keep b hb fun o=>Ux⟩;refine ⟨v,C.at C'.w,rfl,rfl,Le.of_below hbel,SR.of_below hs hbel,rfl,rfl,rfl,?_⟩;have h3:=Ach hs' 0 h2;rw [hS'] at h3;refine Aje (C:={ C' with S:=st.S.take 0 }) (fun b o x h1 h2=>⟨h1,fun h3=>h2 (.inl ?_)⟩) hp3 (VR_w3 h3);show C'.av b o;rw [hle.av]; exact h3
         ·simp at hrun
        ·simp at hrun
       split at ho
       ·unfold runN at ho;split at ho
        ·rename_i l hl;split at ho
         ·rename_i q1 q2;simp only [A8] at ho;subst ho;rw [hl] at hv';cases yc:vs.toList with
          | nil=>rw [yc] at hv'; simp only [VRs] at hv'
          | cons x xs =>
           rw [yc] at hv';simp only [VRs] at hv';obtain ⟨hx,hxs⟩:=hv';simp only [VR] at hx;obtain ⟨a,len,cap,rfl,h1,h2,-,h4⟩:=hx;cases a with
           | none=>exact one (as:=.frz [] .nl :: l) (by rw [yc]; simp only [VRs,VR]; exact ⟨⟨none,len,cap,rfl,h1,h2,rfl,.inl trivial⟩,hxs⟩) q1
           | some a=>exact one (as:=.frz [] .nn :: l) (by rw [yc]; simp only [VRs,VR]; exact ⟨⟨some a,len,cap,rfl,h1,h2,rfl,.inl trivial⟩,hxs⟩) q2
         ·simp at ho
        ·exact one hv' ho
       ·exact one hv' ho
      ·simp at h
     ·split at h
      ·rename_i r' st ho;simp only [A8,Cg] at h;obtain ⟨rfl,rfl,rfl,rfl⟩:=h;refine Calls.mono (Rm hc (Ve k) hd (k:=k) hf hb hs hv ho) ?_;rintro e w' ⟨v,C',rfl,rfl,hle,hs',e1,e2,e3,h2⟩;have h3:=Ach hs' C.S.length h2;rw [e1] at h3;exact ⟨v,{ C' with S:=C'.S.take C.S.length },rfl,rfl,hle.trans (Le.take _),hs'.take _,by rw [<- e1],e2,e3,by rw [e1]; exact h3⟩
      ·simp at h
   ·simp at h
  ·simp at h
end
end
end Go.Proofs.YtcjffhadclngmaaGreat
