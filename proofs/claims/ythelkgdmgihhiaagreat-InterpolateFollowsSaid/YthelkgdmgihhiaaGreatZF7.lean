/- Part 7. -/
import Derived.Test.YthelkgdmgihhiaaGreatZF6
import Derived.Orders
import Derived.Scope
open Array renaming getElem?_eq_some_iff->Cj,getElem?_eq_getElem->Ft,getD_eq_getD_getElem?->Fz,length_toList->It,getD->Sk,replicate->Sp,getElem?_setIfInBounds->S9,toList_inj->iN,ext'->jU,getElem?_push->kP
open Bool renaming and_eq_true->Ch,false_eq_true->C6,or_eq_false_iff->Fv,not_eq_true'->Ih,false_or->N2
open Go.Addr renaming add->kB
open Go.Builtin renaming zeroCells->Oo,append_->O8
open Go.Code renaming loop->lE
open Go.Instr renaming sureAddr->Sj,loadAt->jH
open Go.Obj renaming cells->jR
open Go.Obj.cells renaming injEq->kG
open Go.Region renaming wanted->Sc
open Go.Result renaming andThen_ok->Fs
open Go.RowKit.Below renaming refl->Fw,cell->lF
open Go.Sem renaming run_bind->F0,run_pure->Iu
open Go.Value renaming int->jC
open Go.World renaming cell?->I7
open List renaming replicate->Cg,length_append->Cm,map_cons->Cn,nil_append->Cr,map_nil->Cs,length_nil->Cu,getElem?_append_left->Cv,mem_append->C3,mem_cons->C4,range->C8,all_eq_true->C9,take_length->Fb,take_of_length_le->Fc,length_map->Fg,eq_nil_of_length_eq_zero->F2,getElem?_eq_some_iff->F5,mem_map->F9,take_succ_cons->Ga,mem_of_getElem?->Il,length_take->I1,getElem?_take_of_lt->I5,getElem?_take->Ms,replicate_succ->Og,take_append_of_le_length->Oh,all_cons->Ox,foldl_cons->Sn,getElem?_drop->S7,getElem?_toArray->iA,mem_range->iG,mem_flatten->iM,drop_append->iO,take_take->kV
open Nat renaming le_refl->Ce,zero_le->Cl,zero_add->Fm,le_trans->Fp,lt_of_lt_of_le->F3,mul_le_mul_right->F6,lt_or_ge->Ig,lt_succ_self->I4,le_add_right->I6,mul_le_mul->O5,strongRecOn->So,add_mul->Sx,le_of_not_lt->iL,le_succ->kC
open Option renaming map_eq_some_iff->Cc,isNone_iff_eq_none->Ie,bind_some->Oj,getD_some->Ol
open Option.some renaming injEq->Ba
open Prod.mk renaming injEq->Cf
namespace Go.Proofs.YthelkgdmgihhiaaGreat
section
open Go.RowKit
section
variable {P:Program} {ops:Array Oper}
theorem Eu {listed:Array Bool} {i:Nat} (h:i ∈ Region.ready .any ops listed):listed.getD i true=false/\∃ o,ops[i]?=some o/\∀ e ∈ depsOf ops i,listed.getD e false=true:=by
 obtain ⟨h0,o,ho,hd⟩:=mem_ready.1 h;refine ⟨h0,o,ho,fun e he=>?_⟩;unfold depsOf at he;rw [ho] at he;simp only [F9,List.mem_filter] at he;obtain ⟨x,⟨hx,hb⟩,rfl⟩:=he;exact hd x dA hb
theorem Qe {listed:Array Bool} {i:Nat} {o:Oper} (h0:listed.getD i true=false) (ho:ops[i]?=some o) (hd:∀ e ∈ depsOf ops i,listed.getD e false=true):i ∈ Region.ready .any ops listed:=by
 refine mem_ready.2 ⟨h0,o,ho,fun e he hb=>hd _ ?_⟩;exact Ya2w
theorem Dl {listed:Array Bool} (hc:∀ j,listed.getD j false=true->∀ e ∈ depsOf ops j,listed.getD e false=true) {i:Nat} (hd:∀ e ∈ depsOf ops i,listed.getD e false=true) :
  ∀ e ∈ reachAt ops i,listed.getD e false=true:=by
 unfold reachAt;generalize (C8 i).reverse=l;have key:∀ (l:List Nat) (s:List Nat),(∀ e ∈ s,listed.getD e false=true)->∀ e ∈ l.foldl (fun s j=>if s.contains j then depsOf ops j++s else s) s,listed.getD e false=true:=by
  intro l;induction l with
  | nil=>intro s hs; exact hs
  | cons j l ih =>
   intro s hs;simp only [Sn];apply ih;split
   ·rename_i hj;intro e he;rcases C3.1 he with h|h
    ·exact hc j (hs j bL) e h
    ·exact hs e h
   ·exact hs
 exact key l _ hd
theorem Ath {o:Oper} {a:Act} {w:World} {K:Act->World->Prop} {Q Q':Exit->Act->World->Prop} (hp:∀ c a w,Q (.panic c) a w->Q' (.panic c) a w) (hl:LetsOut Q->LetsOut Q') (hh:o.wp P a w K Q):o.wp P a w K Q':=by
 unfold Oper.wp at *;generalize (execOp a.eval o).run P w=r at *;cases r with
 | ok n w' =>
  cases n <;> simp only [Oper.upon] at hh ⊢ <;>
   first
    | exact hh
    | exact Calls.mono hh (fun e w'' he=>by cases e <;> first|exact he|exact hp _ _ _ he|exact hl he)
    | exact Rows.mono hh (fun _ _ he=>he)
 | halt x w'=>cases x <;> simp only [Oper.upon] at hh ⊢ <;> first|exact hh|exact hp _ _ _ hh|exact hl hh
def Anb (P:Program) (o:Oper) (Q:Exit->Act->World->Prop):Exit->Act->World->Prop
 | .normal=>fun a w=>o.wp P a w (fun a' w'=>Q .normal a' w') Q
 | ex=>Q ex
theorem Hi {listed:Array Bool} {j:Nat} {d:Bool} (h:j<listed.size):(listed.push false).getD j d=listed.getD j d:=by
 simp [Fz,kP,Nat.ne_of_lt h]
theorem Ys {listed:Array Bool} {d:Bool} : (listed.push false).getD listed.size d=false:=by
 simp [Fz,kP]
theorem Aen {init:Array Oper} {o:Oper} {Q:Exit->Act->World->Prop} (hg:o.guard=none) (gj:∀ j,j<init.size->j ∈ reachAt (init.push o) init.size) (fd:∀ e ∈ depsOf (init.push o) init.size,e<init.size)
  (xn:∀ i o',init[i]?=some o'->(∀ e ∈ depsOf init i,e<i)/\∀ g w,o'.guard=some (g,w)->g<init.size) :
  ∀ (fuel:Nat) (listed:Array Bool) (a:Act) (w:World),listed.size=init.size->(∀ j,listed.getD j false=true->∀ e ∈ depsOf init j,listed.getD e false=true) ->
   wpAny P .any init (Anb P o Q) fuel listed a w->wpAny P .any (init.push o) Q (fuel+1) (listed.push false) a w:=by
 have gg:∀ i,i<init.size->(init.push o)[i]?=init[i]?:=fun i hi=>by rw [kP,if_neg aA]
 have gf:(init.push o)[init.size]?=some o:=by simp
 have hdo:∀ i,i<init.size->depsOf (init.push o) i=depsOf init i:=fun i hi=>by unfold depsOf; rw [gg i hi]
 have jf:∀ (listed:Array Bool),listed.size=init.size->∀ i,i<init.size->(i ∈ Region.ready .any (init.push o) (listed.push false)↔i ∈ Region.ready .any init listed):=by
  intro listed k7 i hi;constructor
  ·intro h;obtain ⟨h0,o',fk,hd⟩:=Eu h;rw [Hi aA] at h0;rw [gg i hi] at fk;rw [hdo i hi] at hd;refine Qe h0 fk fun e he=>?_;have:=hd e he;have hlt:=(xn i o' fk).1 e he;rwa [Hi aA] at this
  ·intro h;obtain ⟨h0,o',fk,hd⟩:=Eu h;refine Qe (by rw [Hi aA]; exact h0) (by rw [gg i hi]; exact fk) fun e he=>?_;rw [hdo i hi] at he;have hlt:=(xn i o' fk).1 e he;rw [Hi aA]; exact hd e he
 have xo:∀ (listed:Array Bool),listed.size=init.size->Region.ready .any init listed=[]->∀ j,j<init.size->listed.getD j false=true:=by
  intro listed k7 d7 j;induction j using So with
  | _ j ihj =>
   intro hj;cases hl:listed.getD j false with
   | true=>rfl
   | false =>
    exfalso;have:j ∈ Region.ready .any init listed:=by
     refine Qe ?_ (Ft hj) fun e he=>?_
     ·have jd:j<listed.size:=aA
      simpa [Sk,jd] using hl
     ·have:=(xn j _ (Ft hj)).1 e he;exact ihj e this aA
    rw [d7] at this; simp at this
 have a0d:∀ (listed:Array Bool),listed.size=init.size->(∀ j,listed.getD j false=true->∀ e ∈ depsOf init j,listed.getD e false=true)->init.size ∈ Region.ready .any (init.push o) (listed.push false)->Region.ready .any init listed=[]:=by
  intro listed k7 hcl h;obtain ⟨-,o',-,hd⟩:=Eu h;have hc2:∀ j,(listed.push false).getD j false=true->∀ e ∈ depsOf (init.push o) j,(listed.push false).getD e false=true:=by
   intro j hj e he;by_cases hjn:j<init.size
   ·rw [Hi aA] at hj;rw [hdo j hjn] at he;have hlt:=(xn j _ (Ft hjn)).1 e he;rw [Hi aA]; exact hcl j hj e he
   ·exfalso;by_cases qo:j=init.size
    ·rw [qo,<- k7,Ys] at hj; cases hj
    ·rw [Fz,Array.getElem?_eq_none aC] at hj; cases hj
  have bj:∀ j,j<init.size->listed.getD j false=true:=fun j hj=>by
   have:=Dl hc2 hd j (gj j hj);rwa [Hi aA] at this
  cases hr:Region.ready .any init listed with
  | nil=>rfl
  | cons x l =>
   have hx:x ∈ Region.ready .any init listed:=by rw [hr]; simp
   obtain ⟨h0,o',fk,-⟩:=Eu hx;have hxl:=(Cj.1 fk).1;have h1:=bj x hxl;exact Ya34
 have xp:∀ (fuel:Nat) (listed:Array Bool) (a:Act) (w:World),listed.size=init.size->(∀ j,j<init.size->listed.getD j false=true)->Anb P o Q .normal a w ->
   wpOp P (init.push o) Q init.size (wpAny P .any (init.push o) Q fuel ((listed.push false).setIfInBounds init.size true)) a w:=by
  intro fuel listed a w k7 bj h;have d7:Region.ready .any (init.push o) ((listed.push false).setIfInBounds init.size true)=[]:=by
   cases hr:Region.ready .any (init.push o) ((listed.push false).setIfInBounds init.size true) with
   | nil=>rfl
   | cons x l =>
    exfalso;have hx:x ∈ Region.ready .any (init.push o) ((listed.push false).setIfInBounds init.size true):=by rw [hr]; simp
    obtain ⟨h0,o',fk,-⟩:=Eu hx;have hxl:=(Cj.1 fk).1;rw [Array.size_push] at hxl;rw [Fz,S9] at h0;split at h0
    ·split at h0
     ·cases h0
     ·rename_i h1 h2; exact h2 aC
    ·have h1:=bj x aA;rw [<- Fz,Hi aA] at h0;exact Ya34
  unfold wpOp;rw [gf];simp only;have hw:Sc o (yielded (init.push o) a.tmps)=true:=by unfold Sc; rw [hg]
  rw [if_pos hw];left;refine Oper.wp_mono (fun a' w' hq=>?_) h;cases fuel with
  | zero=>exact ⟨d7,hq⟩
  | succ fuel=>exact ⟨fun _=>hq,fun i hi=>by rw [d7] at hi; simp at hi⟩
 intro fuel;induction fuel with
 | zero =>
  intro listed a w k7 hcl h;obtain ⟨d7,hq⟩:=h;have bj:=xo listed k7 d7;have g8:init.size ∈ Region.ready .any (init.push o) (listed.push false):=by
   exact Ya2u
  refine ⟨fun hn=>by rw [hn] at g8; simp at g8,fun i hi=>?_⟩;by_cases xq:i<init.size
  ·rw [jf listed k7 i xq,d7] at hi; simp at hi
  ·have g9:i=init.size:=by
    exact Ya1t
   subst g9;exact xp 0 listed a w k7 bj hq
 | succ fuel ih =>
  intro listed a w k7 hcl h;obtain ⟨h1,h2⟩:=h;refine ⟨fun hn=>?_,fun i hi=>?_⟩
  ·exfalso;have d7:Region.ready .any init listed=[]:=by
    cases hr:Region.ready .any init listed with
    | nil=>rfl
    | cons x l =>
     have hx:x ∈ Region.ready .any init listed:=by rw [hr]; simp
     obtain ⟨-,o',fk,-⟩:=Eu hx;have:=(jf listed k7 x (Cj.1 fk).1).2 hx;rw [hn] at this; simp at this
   have bj:=xo listed k7 d7;have g8:init.size ∈ Region.ready .any (init.push o) (listed.push false):=by
    exact Ya2u
   rw [hn] at g8; simp at g8
  ·by_cases xq:i<init.size
   ·have ar:=(jf listed k7 i xq).1 hi;have h3:=h2 i ar;obtain ⟨h0,o',fk,hd⟩:=Eu ar;have aw:(listed.push false).setIfInBounds i true=(listed.setIfInBounds i true).push false:=by
     apply jU;simp [List.set_append,k7,xq]
    have vt:∀ j,(listed.setIfInBounds i true).getD j false=true->∀ e ∈ depsOf init j,(listed.setIfInBounds i true).getD e false=true:=by
     intro j hj e he;have hup:∀ e,listed.getD e false=true->(listed.setIfInBounds i true).getD e false=true:=fun e he=>by
      rw [Fz,S9];split
      ·rw [if_pos (by rename_i h; omega)]; rfl
      ·rw [<- Fz]; exact he
     by_cases hji:j=i
     ·subst hji; exact hup e (hd e he)
     ·refine hup e (hcl j ?_ e he);rw [Fz,S9,if_neg (fun h=>hji h.symm),<- Fz] at hj;exact hj
    have hk:∀ a' w',wpAny P .any init (Anb P o Q) fuel (listed.setIfInBounds i true) a' w'->wpAny P .any (init.push o) Q (fuel+1) ((listed.push false).setIfInBounds i true) a' w':=fun a' w' h=>by
     rw [aw]; exact ih _ a' w' (by simpa using k7) vt h
    unfold wpOp at h3 ⊢;rw [gg i xq];rw [fk] at h3 ⊢;simp only at h3 ⊢;have hy:Sc o' (yielded (init.push o) a.tmps)=Sc o' (yielded init a.tmps):=by
     unfold Sc;cases hgd:o'.guard with
     | none=>rfl
     | some x =>
      obtain ⟨g,b⟩:=x;have hgl:=(xn i o' fk).2 g b hgd;simp only [yielded,gg g hgl]
    rw [hy];split
    ·rename_i hw;rw [if_pos hw] at h3;rcases h3 with h3|⟨h3,h4⟩
     ·exact .inl (Oper.wp_mono hk (Ath (fun c a w h=>h) (fun ⟨a,w,h⟩=>⟨a,w,h⟩) h3))
     ·exact .inr ⟨h3,let ⟨a,w,h⟩:=h4; ⟨a,w,h⟩⟩
    ·rename_i hw;rw [if_neg hw] at h3;exact hk _ _ h3
   ·have g9:i=init.size:=by
     exact Ya1t
    subst g9;have d7:=a0d listed k7 hcl hi;exact xp (fuel+1) listed a w k7 (xo listed k7 d7) (h1 d7)
end
section
variable {P:Program}
theorem Ahs {C:Cx} {sz m:Nat} {y:AV} {ys:List AV} {vy:Value} (hy:VR C y vy) (h:litC sz y=some (m,ys)) (h0:0<m) (hs:0<sz) :
  ∃ b o cap vs,vy=.slice (some ⟨b,o,none⟩) m cap/\VRs C ys vs/\vs.length=m*sz/\Lie C.w C.Avoid b o vs/\(∀ v ∈ vs,v.oneCell'=true):=by
 unfold litC at h;split at h
 ·rename_i es c;split at h
  ·rename_i hh;simp only [Ba,Cf] at h;obtain ⟨rfl,rfl⟩:=h;simp only [VR] at hy;obtain ⟨a,len,cap,rfl,e1,e2,e3,e4⟩:=hy;rcases e4 with rfl|⟨b,o,sz',rfl,hr⟩
   ·simp at h0
   ·have hne:es≠[]:=by intro e; subst e; simp at h0
    have:=N4 hr hh.1 hne;subst this;obtain ⟨l,g1,g2,g3⟩:=Hd hr;exact ⟨b,o,cap,l,by rw [e1],Kc g2,g1,g3,Xf g2⟩
  ·simp at h
 ·rename_i len cs;split at h
  ·rename_i hh;simp only [Ba,Cf] at h;obtain ⟨rfl,rfl⟩:=h;simp only [VR] at hy;obtain ⟨b,vs,rfl,hl,hv⟩:=hy;have:=Bb hv;exact ⟨b,0,len,vs,rfl,hv,aA,hl,Ps hv hh.2⟩
  ·simp at h
 ·simp at h
def Cx.turn (C:Cx) (w:World) (id b:Nat) (cs:List AV):Cx:={ C with w:=w,φ:=fun i=>if i=id then b else C.φ i,S:=put C.S id ⟨C.n,cs⟩,n:=C.n+1 }
theorem Agt {C:Cx} {w:World} {id b:Nat} {cs:List AV} {x o:Nat} (hm:(C.turn w id b cs).Mut x o):C.Mut x o\/x=b:=by
 rcases hm with ⟨i,hi,e⟩|h
 ·simp only [Cx.turn,Am] at hi e;split at e
  ·exact .inr e.symm
  ·exact .inl (.inl ⟨i,hi,e⟩)
 ·exact .inl (.inr h)
theorem Le.turn {C:Cx} {w:World} {id b:Nat} {cs:List AV} (hid:id<C.S.length) (hb:b=C.φ id\/C.w.heap.size<=b) (hos:w.os=C.w.os) (xe:w.tape=C.w.tape) (ky:w.output=C.w.output) (xf:C.w.heap.size<=w.heap.size)
  (hcell:∀ x o v,C.w.cell? ⟨x,o,none⟩=some v->¬ C.Mut x o->w.cell? ⟨x,o,none⟩=some v) (xg:∀ x,x<C.w.heap.size->(∀ o,¬ C.Mut x o)->w.heap[x]?=C.w.heap[x]?)
  (r6:∀ (b:Nat) (cs:Array Value) (t:TypeId) (fz:Nat × Nat),C.w.heap[b]?=some (jR cs t fz)->∃ cs':Array Value,w.heap[b]?=some (jR cs' t fz)/\cs'.size=cs.size):Le C (C.turn w id b cs):=by
 refine ⟨hos,xe,ky,xf,rfl,kC _,fun x o hx hm=>?_,hcell,xg,r6,fun i e he hn=>?_,fun _ k hk=>⟨k,hk,Ce _,fun _=>rfl⟩⟩
 ·rcases Agt hm with h|rfl
  ·exact h
  ·rcases hb with rfl|hb
   ·exact .inl ⟨id,hid,rfl⟩
   ·omega
 ·by_cases h:id=i
  ·subst h;have:=Eg he;subst this;simp at hn
  ·simp only [Cx.turn] at he ⊢;rw [Ae h] at he;exact ⟨e,he,rfl,by rw [if_neg (fun x=>h x.symm)]⟩
theorem SR.turn [Globs] {C:Cx} (aq:SR C) {w:World} {id b:Nat} {cs:List AV} {arr:Array Value} {t:TypeId} (hid:id<C.S.length) (hb:b=C.φ id\/C.w.heap.size<=b) (hle:Le C (C.turn w id b cs)) (f8:w.heap[b]?=some (.cells arr t (0,0)))
  (xh:∀ i,i<C.S.length->i≠id->w.heap[C.φ i]?=C.w.heap[C.φ i]?) (hv:∃ vs r,arr.toList=vs++r/\VRs C cs vs):SR (C.turn w id b cs):=by
 have hne:∀ i,i<C.S.length->i≠id->C.φ i≠b:=fun i hi h e=>by
  rcases hb with hb|hb
  ·exact h (aq.ne i id hi hid (by rw [e,hb]))
  ·have:=P8 aq hi; omega
 refine ⟨fun i x hx=>?_,fun i j hi hj h=>?_,aq.tok,fun i j o hi hj h h1 h2=>?_,fun x o hm=>?_,fun x o ha=>F3 (aq.avlt x o ha) hle.size,fun i o hi h1 h2=>F3 (aq.tlt i o hi h1 h2) hle.size,Qw aq hle⟩
 ·by_cases h:id=i
  ·subst h;have:=Eg hx;subst this;obtain ⟨vs,r,zq,zr⟩:=hv;exact ⟨I4 _,arr,t,by simp only [Cx.turn,if_true]; exact f8,vs,r,zq,VRs.mono hle _ _ zr⟩
  ·have hx':nth C.S i=some x:=by simp only [Cx.turn] at hx; rw [<- Ae h]; exact hx
   obtain ⟨h1,a',t',h2,vs,r,vr,h3⟩:=aq.ent i x hx';refine ⟨Nat.lt_succ_of_lt h1,a',t',?_,vs,r,vr,VRs.mono hle _ _ h3⟩;simp only [Cx.turn];rw [if_neg (fun e=>h e.symm),xh i (Bn hx') (fun e=>h e.symm)]; exact h2
 ·simp only [Cx.turn,Am] at hi hj h;by_cases ar:i=id <;> by_cases fh:j=id
  ·omega
  ·rw [if_pos ar,if_neg fh] at h;exact absurd h.symm (hne j hj fh)
  ·rw [if_neg ar,if_pos fh] at h;exact absurd h (hne i hi ar)
  ·rw [if_neg ar,if_neg fh] at h;exact aq.ne i j hi hj h
 ·simp only [Cx.turn,Am] at hi h hj h1 h2;by_cases ar:i=id
  ·rw [if_pos ar] at h;rcases hb with rfl|hb
   ·exact aq.apart id j o hid hj h h1 h2
   ·have:=aq.tlt j o hj h1 h2; omega
  ·rw [if_neg ar] at h;exact aq.apart i j o hi hj h h1 h2
 ·rcases Agt hm with h|rfl
  ·exact aq.own x o h
  ·rcases hb with rfl|hb
   ·exact aq.own _ o (.inl ⟨id,hid,rfl⟩)
   ·intro ha;have:=aq.avlt _ o ha; omega
theorem Ajn [Globs] {C:Cx} (aq:SR C) {t ty:TypeId} {x y av:AV} {vx vy:Value} {S':List Ent} {n':Nat} (hx:VR C x vx) (hy:VR C y vy) (h:apO P t x y C.S C.n=some (av,S',n')) :
  ∃ v C',(O8 #[t,t] ty #[vx,vy]).run P C.w=.ok v C'.w/\Le C C'/\SR C'/\C'.S=S'/\C'.tk=C.tk/\C'.n=n'/\VR C' av v:=by
 unfold apO at h;split at h;case h_2=>simp at h
 rename_i sz hT;split at h;case h_2=>simp at h
 rename_i m ys hL;split at h;case isFalse=>simp at h
 rename_i hm;obtain ⟨dc,hmr⟩:=hm;simp only [roomy,decide_eq_true_eq] at hmr;obtain ⟨e,i,z,hu,hi,hz,hsz,hpos,uz,hby,-⟩:=Xs hT;obtain ⟨b2,o2,cap2,news,rfl,bo,ci,a0a,cu⟩:=Ahs hy hL dc hpos;have jb:∀ (j:Nat) u,news[j]?=some u->C.w.cell? (kB ⟨b2,o2,none⟩ j)=some u:=fun j u hj=>by rw [Dz]; exact (K4 a0a j u hj).1
 unfold apO2 at h;split at h
 ·simp only [Ba,Cf] at h;obtain ⟨rfl,rfl,rfl⟩:=h;simp only [VR] at hx;obtain ⟨a,len,cap,rfl,hlen,hcap,hC,hE⟩:=hx;obtain ⟨rfl,hcl⟩:a=none/\cap=len:=hC;simp only [Cu] at hlen;subst hlen;subst hcl;have gi:m*i.bytes<=140737488355328:=by
   have:m*i.bytes<=1048576*1048576:=O5 hmr hby
   omega
  have hrun:=run_append_nil (P:=P) C.w t ty e i z hu hi hz ⟨b2,o2,none⟩ m cap2 news dL jb aA aA aA;generalize hA:(news.toArray++Oo z.cells (grownCap C.w m 0 e - m))=arr at hrun;have kv:=grownCap_ge C.w m 0 e;have a21:arr.size=grownCap C.w m 0 e*sz:=by
   rw [<- hA];simp only [Array.size_append,List.size_toArray,size_zeroCells,uz,ci];rw [Nat.sub_mul];have:=F6 sz kv;omega
  have hd:Below C.w.heap.size C.w C.w.drew:=(Fw _ _).drew;have a2e:SR (C.at C.w.drew):=SR.of_below aq hd;have hv:∃ vs r,arr.toList=vs++r/\VRs (C.at C.w.drew) ys vs:=⟨news,(Oo z.cells (grownCap C.w m 0 e - m)).toList,by rw [<- hA]; simp,VRs.mono (Le.of_below hd) _ _ bo⟩;refine ⟨_,(C.at C.w.drew).more arr e ys,hrun,(Le.of_below hd).trans (Le.more a2e _ _ _),SR.moreP a2e hv,rfl,rfl,rfl,?_⟩;simp only [VR];refine ⟨C.w.heap.size,_,_,rfl,kv,.inr rfl,I4 _,fun e' pg o7=>⟨?_,arr,e,?_,aA⟩⟩
  ·simp [Cx.more,Cx.at]
  ·exact Ax C.w.drew _
 ·rename_i id ep len sz';split at h;case isFalse=>simp at h
  rename_i hh;obtain ⟨rfl,b8⟩:=hh;split at h;case h_2=>simp at h
  rename_i cs ig;split at h;case isFalse=>simp at h
  rename_i hh;obtain ⟨hcl,b7⟩:=hh;simp only [roomy,decide_eq_true_eq] at b7;simp only [Ba,Cf] at h;obtain ⟨rfl,rfl,rfl⟩:=h;obtain ⟨en,h1,h2,rfl⟩:=Du ig;simp only [VR] at hx;obtain ⟨b,a,cap,rfl,hcap,ha,hn,hb⟩:=hx;obtain rfl:=ha.resolve_left aA;obtain ⟨rfl,arr,tt,h3,ey⟩:=hb en h1 h2;obtain ⟨-,arr',tt',xr,olds,r,hor,j5⟩:=aq.ent id en h1;rw [h3] at xr;simp only [Ba,kG] at xr;obtain ⟨rfl,rfl,-⟩:=xr;have dt:=Bn h1;have qp:=Bb j5;have a21:arr.size=olds.length+r.length:=by rw [<- It,hor,Cm]
  have jr:len*sz'+m*sz'=(len+m)*sz':=(Sx _ _ _).symm;have a0o:VRs C (en.cells++ys) (olds++news):=He j5 bo;by_cases fj:len+m<=cap
  ·have wv:(len+m)*sz'<=cap*sz':=F6 _ fj;have hrun:=K7 (P:=P) C.w t ty e i hu hi (C.φ id) len cap tt arr h3 ⟨b2,o2,none⟩ m cap2 news dL jb cu fj (by rw [hsz,ci]; omega);rw [hsz] at hrun;generalize hA:(arr.toList.take (len*sz')++news++arr.toList.drop (len*sz'+news.length)).toArray=arr1 at hrun;have lx:arr1.size=arr.size:=by rw [<- hA]; simp; omega
   have js:arr.toList.take (len*sz')=olds:=by rw [hor,Oh aA,Fc aA]
   have hv:∃ vs r,arr1.toList=vs++r/\VRs C (en.cells++ys) vs:=⟨olds++news,arr.toList.drop (len*sz'+news.length),by rw [<- hA,js],a0o⟩;have wu:(C.w.setRow (C.φ id) arr1).heap[C.φ id]?=some (.cells arr1 tt (0,0)):=setRow_heap _ _ _ _ _ _ h3;have hle:Le C (C.turn (C.w.setRow (C.φ id) arr1) id (C.φ id) (en.cells++ys)):=by
    have hm:∀ o,C.Mut (C.φ id) o:=fun o=>.inl ⟨id,dt,rfl⟩;refine Le.turn dt (.inl rfl) rfl rfl rfl (by simp) (fun x o v hv hn=>?_) (fun x _ hn=>?_) (fun x d t' fz hd=>?_)
    ·have hne:x≠C.φ id:=fun h=>hn (h ▸ hm o);have:=setRow_other C.w (C.φ id) x arr1 hne;simpa [I7,this] using hv
    ·exact setRow_other C.w (C.φ id) x arr1 fun h=>hn 0 (h ▸ hm 0)
    ·by_cases h:x=C.φ id
     ·subst h;rw [h3] at hd;simp only [Ba,kG] at hd;obtain ⟨rfl,rfl,rfl⟩:=hd;exact ⟨arr1,wu,lx⟩
     ·exact ⟨d,Za4q,rfl⟩
   refine ⟨_,_,hrun,hle,SR.turn aq dt (.inl rfl) hle wu (fun i hi hne=>setRow_other _ _ _ _ fun h=>hne (aq.ne i id hi dt h)) hv,rfl,rfl,rfl,?_⟩;simp only [VR];refine ⟨C.φ id,_,_,rfl,fj,.inr rfl,I4 _,fun e' pg o7=>⟨by simp [Cx.turn],arr1,tt,wu,aA⟩⟩
  ·have iu:cap<len+m:=aA
   have gi:(len+m)*i.bytes<=140737488355328:=by
    have:(len+m)*i.bytes<=1048576*1048576:=O5 b7 hby
    omega
   have hcells:∀ (j:Nat) v,olds[j]?=some v->C.w.cell? (kB ⟨C.φ id,0,none⟩ j)=some v:=fun j v hj=>by
    rw [Dz,Fm];have:arr.toList[j]?=some v:=by rw [hor,Cv (F5.1 hj).1]; exact hj
    simp [I7,h3]; simpa using this
   have hrun:=run_append_grow (P:=P) C.w t ty e i z hu hi hz ⟨C.φ id,0,none⟩ len cap olds (by rw [hsz]; omega) hcells ⟨b2,o2,none⟩ m cap2 news dL jb iu aA (growslice_fits iu gi);generalize hA:(olds.toArray++news.toArray++Oo z.cells (grownCap C.w (len+m) cap e - (len+m)))=arr1 at hrun;have kv:=grownCap_ge C.w (len+m) cap e;have a4f:arr1.size=grownCap C.w (len+m) cap e*sz':=by
    rw [<- hA];simp only [Array.size_append,List.size_toArray,size_zeroCells,uz,ci];rw [Nat.sub_mul];have:=F6 sz' kv;omega
   have hbel:Below C.w.heap.size C.w (C.w.drew.alloc (.cells arr1 e)):=((Fw _ _).drew).alloc (by simp) _;have wu:(C.w.drew.alloc (.cells arr1 e)).heap[C.w.heap.size]?=some (.cells arr1 e (0,0)):=Ax C.w.drew _;have hle:Le C (C.turn (C.w.drew.alloc (.cells arr1 e)) id C.w.heap.size (en.cells++ys)) :=
    Le.turn dt (.inr (Ce _)) hbel.os hbel.tape hbel.output hbel.size (fun x o v hv _=>Za4f) (fun x hx _=>hbel.block x hx) (fun x d t' fz hd=>⟨d,Dr hbel hd,rfl⟩)
   have hv:∃ vs r,arr1.toList=vs++r/\VRs C (en.cells++ys) vs:=⟨olds++news,(Oo z.cells (grownCap C.w (len+m) cap e - (len+m))).toList,by rw [<- hA]; simp,a0o⟩;refine ⟨_,_,hrun,hle,SR.turn aq dt (.inr (Ce _)) hle wu (fun i hi _=>hbel.block _ (P8 aq hi)) hv,rfl,rfl,rfl,?_⟩;simp only [VR];refine ⟨C.w.heap.size,_,_,rfl,kv,.inr rfl,I4 _,fun e' pg o7=>⟨by simp [Cx.turn],arr1,e,wu,aA⟩⟩
 ·simp at h
end
section
variable {P:Program}
theorem Le.take {C:Cx} (k:Nat):Le C { C with S:=C.S.take k }:=by
 refine ⟨rfl,rfl,rfl,Ce _,rfl,Ce _,?_,fun _ _ _ h _=>h,fun _ _ _=>rfl,fun _ cs _ _ h=>⟨cs,h,rfl⟩,?_,fun _ q h=>⟨q,h,Ce _,fun _=>rfl⟩⟩
 ·rintro b o - (⟨i,hi,h⟩|h)
  ·exact .inl ⟨i,cN,h⟩
  ·exact .inr h
 ·intro i e h _;rw [Af,Ms] at h;split at h
  ·exact ⟨e,by rw [Af]; exact h,rfl,rfl⟩
  ·simp at h
theorem SR.take [Globs] {C:Cx} (hs:SR C) (k:Nat):SR { C with S:=C.S.take k }:=by
 have hle:=Le.take (C:=C) k;refine ⟨fun i e h=>?_,fun i j hi hj h=>hs.ne i j cN (by simp at hj; omega) h,hs.tok,fun i j o hi=>hs.apart i j o cN,?_,hs.avlt,hs.tlt,Qw hs hle⟩
 ·rw [Af,Ms] at h;split at h
  ·obtain ⟨h1,cs,t,h2,vs,r,vr,h3⟩:=hs.ent i e (by rw [Af]; exact h);exact ⟨h1,cs,t,h2,vs,r,vr,VRs.mono hle _ _ h3⟩
  ·simp at h
 ·rintro b o (⟨i,hi,h⟩|h)
  ·exact hs.own b o (.inl ⟨i,cN,h⟩)
  ·exact hs.own b o (.inr h)
def K2 [Globs] (P:Program) (call:Bo):Prop :=
 ∀ f args S tk n r S' tk' n', call f args S tk n = some (r, S', tk', n') → (∃ fn, P.funcs[f]? = some fn ∧ (fn.name == "runtime.NumGoroutine") = false ∧ fn.body.isNone = false) ∧
  ∀ (C:Cx) (vs:Array Value),C.S=S->C.tk=tk->C.n=n->SR C->VRs C args vs.toList ->
   Calls P f vs C.w fun e w'=>∃ v C',e=.returned v/\C'.w=w'/\Le C C'/\SR C'/\C'.S=S'/\C'.tk=tk'/\C'.n=n'/\VR C' r v
theorem Hb {o:Oper} {a:Act} {w w':World} {v:Value} {next:Act->World->Prop} {Q:Exit->Act->World->Prop} (h:(execOp a.eval o).run P w=.ok (.value v) w') (hn:next (a.put o.dst v) w'):o.wp P a w next Q:=by
 unfold Oper.wp; rw [h]; exact hn
theorem Hm [Globs] {call:Bo} (hc:K2 P call) {C:Cx} {st st':St} {a:Act} {o:Oper} {av:AV} (hr:Rel C st a) (h:evO P call o st=some (av,st')) {next:Act->World->Prop} {Q:Exit->Act->World->Prop}
  (hn:∀ v C',Le C C'->SR C'->C'.S=st'.S->C'.tk=st'.tk->C'.n=st'.n->VR C' av v->next (a.put o.dst v) C'.w):o.wp P a C.w next Q/\st'.T=st.T:=by
 have hρ:=Aej hr.tmps;have quiet:∀ av',evQ P o (opv st.T)=some av'->(av',st)=(av,st')->o.wp P a C.w next Q/\st'.T=st.T:=by
  intro av' hq e;simp only [Cf] at e;obtain ⟨rfl,rfl⟩:=e;obtain ⟨v,w',h1,h2,h3⟩:=Aky hr.sr hρ hq;exact ⟨Hb h1 (hn v (C.at w') (Le.of_below h2) (SR.of_below hr.sr h2) hr.S hr.tk hr.n h3),rfl⟩
 unfold evO at h;split at h
 ·rename_i t x e;simp only [Cc,Cf] at h;obtain ⟨v,h,rfl,rfl⟩:=h;rw [<- hr.S] at h;obtain ⟨u,h1,h2⟩:=Aa2 hr.sr (hρ x) h;exact ⟨Hb (v:=u) (w':=C.w) (by simp [execOp,e,h1]) (hn u C (Le.refl C) hr.sr hr.S hr.tk hr.n h2),rfl⟩
 ·rename_i t x y e;simp only [Cc,Cf] at h;obtain ⟨S',h,rfl,rfl⟩:=h;rw [<- hr.S] at h;obtain ⟨C',h1,h2,h3,h4,h5,h6⟩:=Am5 hr.sr (hρ x) (hρ y) h;refine ⟨?_,rfl⟩;unfold Oper.wp;have:(execOp a.eval o).run P C.w=.ok .skip C'.w:=by simp [execOp,e,h1]
  rw [this];exact hn undef C' h2 h3 h4 (h5.trans hr.tk) (h6.trans hr.n) bU
 ·rename_i t e;simp only [Cc,Cf] at h;obtain ⟨cs,h,rfl,rfl⟩:=h;obtain ⟨zv,h1,rfl⟩:=Kl (w:=C.w) h;refine ⟨Hb (v:=.pointer (some ⟨C.w.heap.size,0,none⟩)) (w':=C.w.alloc (.cells zv.cells t)) ?_ ?_,rfl⟩
  ·simp only [execOp,e,Instr.alloc,F0,h1,Fs,newVar,Jb,Iu]
  ·have:=hn (.pointer (some ⟨C.w.heap.size,0,none⟩)) (C.more zv.cells t (zv.cells.toList.map cst1)) (Le.more hr.sr _ _ _) (SR.more hr.sr (Js _)) Za48 hr.tk Za5i (by rw [<- hr.S,<- hr.n]; exact Aqn);exact this
 ·rename_i t x e;simp only [Cc,Cf] at h;obtain ⟨cs,h,rfl,rfl⟩:=h;have hv:=G6 h (hρ x);refine ⟨Hb (v:=.pointer (some ⟨C.w.heap.size,0,none⟩)) (w':=C.w.alloc (.cells (a.eval x).cells t)) ?_ ?_,rfl⟩
  ·simp only [execOp,e,Instr.box,F0,Fs,newVar,Jb,Iu]
  ·have:=hn (.pointer (some ⟨C.w.heap.size,0,none⟩)) (C.more (a.eval x).cells t cs) (Le.more hr.sr _ _ _) (SR.more hr.sr hv) Za48 hr.tk Za5i (by rw [<- hr.S,<- hr.n]; exact Aqn);exact this
 ·rename_i t l c e;simp only [Cc,Prod.exists] at h;obtain ⟨l',sz,cs,h,hh⟩:=h;obtain ⟨el,m,arr,r1,r2,r3,r4,r5⟩:=Al0 (hρ l) (hρ c) h;have hrun:(execOp a.eval o).run P C.w=.ok (.value (.slice (some ⟨C.w.heap.size,0,none⟩) l' m)) (C.w.alloc (.cells arr el)):=by simp [execOp,e,r1]
  have hb:Below C.w.heap.size C.w (C.w.alloc (.cells arr el)):=(Fw _ _).alloc (Ce _) _;have f8:cs.length=arr.size:=by rw [<- r2]; simp
  split at hh
  ·rename_i iu;simp only [Cf] at hh;obtain ⟨rfl,rfl⟩:=hh;have hlm:l'*sz<=m*sz:=F6 _ r3;have ab:Be C.tk .tight sz=true:=rfl;have hn':M6 C .tight C.w.heap.size (l'*sz) (m*sz):=.inr (.inl (Ce _));have hle:Le C (C.tok (C.w.alloc (.cells arr el)) .tight (C.w.heap.size,l'*sz,m*sz)) :=
    Le.of_tok ab hn' rfl rfl rfl hb.size (fun x o v hv _=>by rw [lF hb (Gx hv)]; exact hv) (fun x hlt _=>hb.block x hlt) (fun b d t fz hd=>⟨d,Dr hb hd,rfl⟩)
   have aq:=SR.of_tok hr.sr ab hn' (fun _=>(Cj.1 (Ax C.w (.cells arr el))).1) hle (fun i hi=>hb.block _ (P8 hr.sr hi));have hcap:CapR (C.tok (C.w.alloc (.cells arr el)) .tight (C.w.heap.size,l'*sz,m*sz)) (.tok C.tk.length 0 sz) (some ⟨C.w.heap.size,0,none⟩) l' m:=Kr (c:=.tight) ab (.inr ⟨arr,el,rfl,rfl,Ax _ _,aA⟩);have hv:VR (C.tok (C.w.alloc (.cells arr el)) .tight (C.w.heap.size,l'*sz,m*sz)) (mkV (len0 l) st.tk.length l' sz cs) (.slice (some ⟨C.w.heap.size,0,none⟩) l' m):=by
    unfold mkV;split
    ·rename_i b8;have p9:l'=0:=by
      cases l with
      | const v=>cases v with
       | int k z =>
        unfold len0 at b8
        split at b8
        ·rename_i k' he
         simp only [Operand.const.injEq,jC.injEq] at he
         obtain ⟨rfl,rfl⟩:=he
         simp [opv,cst,cst1,intN] at r5; exact r5.symm
        ·simp at b8
       | _=>simp [len0] at b8
      | _=>simp [len0] at b8
     subst p9;simp only [VR];refine ⟨_,0,m,rfl,rfl,Cl _,?_,.inl trivial⟩;rw [<- hr.tk];exact hcap
    ·unfold L8;split
     ·rename_i es xc;split
      ·rename_i hp;obtain ⟨g1,g2,g3,g4⟩:=Mz xc;simp only [tokA,VR];refine ⟨_,l',m,rfl,by simp [g1],r3,by rw [<- hr.tk]; exact hcap,.inr ⟨C.w.heap.size,0,sz,rfl,?_⟩⟩;obtain ⟨e1,e2,e3,e4,e5,e6,e7,e8,e9,e10,e11⟩:=Nh (w:=C.w.alloc (.cells arr el)) (x:=(C.w.heap.size,l'*sz,m*sz)) ab;have ql:(es.map (·.map w1)).flatten=((arr.toList.map cst1).take (l'*sz)).map w1:=by rw [r2,<- g3,List.map_flatten]
       have xm:VRs C ((arr.toList.map cst1).take (l'*sz)) (arr.toList.take (l'*sz)):=(Ko (Js _) (M1 (by rw [r2]; exact g4))).1;refine G5 (l:=arr.toList.take (l'*sz)) (fun e he=>?_) ?_ (K5 fun j v hj=>?_)
       ·exact Ya2p
       ·rw [ql];refine PRs.stays hle.stays _ _ (Ka (C:=C) ?_ (Wl xm));rw [r2,<- g3,C9];intro c hc;exact Ya0s
       ·rw [Fm];have jd:j<l'*sz:=by
         exact Ya1p
        rw [I5 jd] at hj;constructor
        ·rw [e1];simp only [I7,Ax];simpa using hj
        ·rintro (eg|fg)
         ·rw [e2] at eg;have:=hr.sr.avlt _ _ eg; omega
         ·rcases Tt ab hn' fg with h|⟨-,h1,h2,-⟩
          ·exact hr.sr.fresh (Ce _) (.inr h)
          ·omega
      ·simp only [tokA,VR]
     ·simp only [tokA,VR]
   exact ⟨Hb hrun (hn _ _ hle aq hr.S (by show C.tk++[0]=_; rw [hr.tk]) hr.n hv),rfl⟩
  ·simp only [Cf] at hh;obtain ⟨rfl,rfl⟩:=hh;subst r2;refine ⟨Hb hrun (hn _ (C.more arr el (arr.toList.map cst1)) (Le.more hr.sr _ _ _) (SR.more hr.sr (Js _)) Za48 hr.tk Za5i ?_),rfl⟩;simp only [VR];refine ⟨C.w.heap.size,some ⟨C.w.heap.size,0,none⟩,m,rfl,r3,.inr rfl,by rw [<- hr.n]; exact I4 _,fun e' pg o7=>⟨?_,arr,el,Ax _ _,?_⟩⟩
   ·rw [<- hr.S];simp [Cx.more]
   ·simp only [Fg,It] at r4;omega
 ·rename_i c e;split at h
  ·rename_i hb;split at h
   ·rename_i x y t t' ja ht;split at h
    ·split at h
     ·rename_i u0;subst u0;simp only [Cc,Cf,Prod.exists] at h;obtain ⟨v,S',n',h,rfl,rfl⟩:=h;have aa:=Lg hr.tmps c.args.toList;rw [ja] at aa;obtain ⟨ux,uy,hu⟩:=Ab5 aa;rw [hu] at aa;simp only [VRs,and_true] at aa;rw [<- hr.S,<- hr.n] at h;obtain ⟨w,C',h1,h2,h3,h4,h5,h6,h7⟩:=Ajn (ty:=o.type) hr.sr aa.1 aa.2 h;have ha:c.args.map a.eval=#[ux,uy]:=cZ
      have qd:c.argTypes=#[t,t]:=dI
      exact ⟨Hb (v:=w) (w':=C'.w) eY (hn w C' h2 h3 h4 (h5.trans hr.tk) h6 h7),rfl⟩
     ·simp at h
    split at h
    ·rename_i u0;subst u0;simp only [Cc,Cf,Prod.exists] at h;obtain ⟨v,tk',h,rfl,rfl⟩:=h;have aa:=Lg hr.tmps c.args.toList;rw [ja] at aa;obtain ⟨ux,uy,hu⟩:∃ ux uy,c.args.toList.map a.eval=[ux,uy]:=by
      have:=Bb aa;match hl:c.args.toList.map a.eval with
      | [p,q]=>exact ⟨p,q,rfl⟩
      | []=>rw [hl] at this; simp at this
      | [_]=>rw [hl] at this; simp at this
      | _ :: _ :: _ :: _=>rw [hl] at this; simp at this
     rw [hu] at aa;simp only [VRs,and_true] at aa;rw [<- hr.tk,<- hr.S] at h;obtain ⟨w,C',h1,h2,h3,h4,h5,h6,h7⟩:=Ag8 (ty:=o.type) hr.sr aa.1 aa.2 h;have ha:c.args.map a.eval=#[ux,uy]:=cZ
     have qd:c.argTypes=#[t,t]:=dI
     exact Ya2e
    ·simp only [Cc,Cf,Prod.exists] at h;obtain ⟨v,tk',h,rfl,rfl⟩:=h;have aa:=Lg hr.tmps c.args.toList;rw [ja] at aa;obtain ⟨ux,uy,hu⟩:=Ab5 aa;rw [hu] at aa;simp only [VRs,and_true] at aa;rw [<- hr.tk] at h;obtain ⟨w,C',h1,h2,h3,h4,h5,h6,h7⟩:=Ajp (ty:=o.type) hr.sr aa.1 aa.2 h;have ha:c.args.map a.eval=#[ux,uy]:=cZ
     have qd:c.argTypes=#[t,t']:=dI
     exact Ya2e
   ·simp at h
  ·rename_i hb;split at h
   ·rename_i x y t t' ja ht;simp only [Cc,Cf,Prod.exists] at h;obtain ⟨m,S',h,rfl,rfl⟩:=h;have aa:=Lg hr.tmps c.args.toList;rw [ja] at aa;obtain ⟨ux,uy,hu⟩:=Ab5 aa;rw [hu] at aa;simp only [VRs,and_true] at aa;rw [<- hr.S] at h;obtain ⟨C',h1,h2,h3,h4,h5,h6⟩:=Akh (ty:=o.type) (t':=t') hr.sr aa.1 aa.2 h;have ha:c.args.map a.eval=#[ux,uy]:=cZ
    have qd:c.argTypes=#[t,t']:=dI
    exact ⟨Hb (v:=.int .i64 (m:Int)) (w':=C'.w) eY (hn _ C' h2 h3 h4 (h5.trans hr.tk) (h6.trans hr.n) bU),rfl⟩
   ·simp at h
  ·exact Ya33
  ·split at h
   ·rename_i f args gc;simp only [Cc,Cf,Prod.exists] at h;obtain ⟨r,S',tk',n',h,rfl,rfl⟩:=h;refine ⟨?_,rfl⟩;unfold Ew at gc;split at gc
    ·rename_i x m hx;split at gc
     ·rename_i ti vi xt;simp only [Cc,Cf] at gc;obtain ⟨f',hm,rfl,rfl⟩:=gc;have qq:=hρ x;rw [xt] at qq;simp only [VR] at qq;obtain ⟨u,qq,hu⟩:=qq;obtain ⟨⟨fn,g1,g2,g3⟩,az⟩:=hc _ _ _ _ _ _ _ _ _ h;have aa:VRs C (vi :: c.args.toList.map (opv st.T)) (u :: c.args.toList.map a.eval):=by simp only [VRs]; exact ⟨hu,Lg hr.tmps c.args.toList⟩
      have hC:=az C (#[u]++c.args.map a.eval) hr.S hr.tk hr.n hr.sr (by simpa using aa);have hrun:(execOp a.eval o).run P C.w=.ok (.enter f' (#[u]++c.args.map a.eval)) C.w:=by
       have ci : ¬ fn.name = "runtime.NumGoroutine" := eR
       have cj:¬ fn.body=none:=Za2q
       have hmr:=Ahw (P:=P) (w:=C.w) (u:=u) hm;have hz0:(#[Value.iface ti u]++c.args.map a.eval)[0]?=some (.iface ti u):=by simp [Array.getElem?_append]
       have hz1:(#[Value.iface ti u]++c.args.map a.eval).extract 1 (#[Value.iface ti u]++c.args.map a.eval).size=c.args.map a.eval:=by
        apply jU; simp [Fc]
       simp only [execOp,e,resolve,hx,qq,invoke,F0,Iu,Fs,hz0,hz1,callMethod];simp [callFunc,hmr,g1,ci,cj]
      exact Ya07
     ·simp at gc
    ·rename_i x hx;split at gc
     ·rename_i f' caps xt;simp only [Ba,Cf] at gc;obtain ⟨rfl,rfl⟩:=gc;have qq:=hρ x;rw [xt] at qq;simp only [VR] at qq;obtain ⟨us,qq,xu⟩:=qq;obtain ⟨⟨fn,g1,g2,g3⟩,az⟩:=hc _ _ _ _ _ _ _ _ _ h;have aa:=He (Lg hr.tmps c.args.toList) xu;have hC:=az C (c.args.map a.eval++us) hr.S hr.tk hr.n hr.sr (by simpa using aa);have hrun:(execOp a.eval o).run P C.w=.ok (.enter f' (c.args.map a.eval++us)) C.w:=by
       have ci : ¬ fn.name = "runtime.NumGoroutine" := eR
       exact Ya1z
      exact Ya07
     ·rename_i f' caps xt;simp only [Ba,Cf] at gc;obtain ⟨rfl,rfl⟩:=gc;have qq:=hρ x;rw [xt] at qq;simp only [VR] at qq;obtain ⟨us,qq,xu⟩:=qq;obtain ⟨⟨fn,g1,g2,g3⟩,az⟩:=hc _ _ _ _ _ _ _ _ _ h;have aa:=He xu (Lg hr.tmps c.args.toList);have hC:=az C (us++c.args.map a.eval) hr.S hr.tk hr.n hr.sr (by simpa using aa);have hrun:(execOp a.eval o).run P C.w=.ok (.enter f' (us++c.args.map a.eval)) C.w:=by
       have ci : ¬ fn.name = "runtime.NumGoroutine" := eR
       exact Ya1z
      exact Ya07
     ·simp at gc
    ·simp at gc
   ·simp at h
 ·exact Ya33
theorem Jl {C:Cx} {T:List AV} {a:Act} {ops:Array Oper} {o:Oper} {b:Bool} (ht:VRs C T a.tmps.toList) (h:H9 ops.toList T o=some b):Sc o (yielded ops a.tmps)=b:=by
 unfold H9 at h;unfold Sc;split at h
 ·rename_i hg; rw [hg]; simpa using h
 ·rename_i g want hg;rw [hg];simp only;split at h
  ·simp at h
  ·rename_i d hd;have fm:(ops[g]?).bind (·.dst)=some d:=by rw [Af] at hd; simpa using hd
   unfold yielded;rw [fm];simp only [Oj];by_cases hlt:d<T.length
   ·obtain ⟨v,h1,h2⟩:=Wk ht (Ak8 hlt);have qe:a.tmps[d]?=some v:=aW
    rw [qe];split at h
    ·exact Ya3f
    ·exact Ya3f
    ·simp at h
   ·rw [Po (iL hlt)] at h;simp at h
theorem Rel.put [Globs] {C C':Cx} {st st':St} {a:Act} {d:Option Tmp} {v:Value} {av:AV} (hr:Rel C st a) (hle:Le C C') (hs:SR C') (h1:C'.S=st'.S) (h2:C'.tk=st'.tk) (h3:C'.n=st'.n) (hv:VR C' av v) (hT:st'.T=st.T) :
  Rel C' { st' with T:=putT st'.T d av } (a.put d v) :=
 ⟨h1,h2,h3,Xq (by rw [hT]; exact VRs.mono hle _ _ hr.tmps) hv,by cases d <;> exact hr.defers,hs⟩
theorem Qu [Globs] {call:Bo} (hc:K2 P call) {ops:Array Oper} {Q:Exit->Act->World->Prop} : ∀ {l:List Oper} {C:Cx} {st st':St} {a:Act},Rel C st a->evOs P call ops.toList l st=some st' ->
  (∀ a' C',Le C C'->Rel C' st' a'->Q .normal a' C'.w)->wpList P ops Q l a C.w
 | [],C,st,st',a,hr,h,hQ=>by
  simp only [evOs,Ba] at h; subst h;exact hQ a C (Le.refl C) hr
 | o :: l,C,st,st',a,hr,h,hQ=>by
  simp only [evOs] at h;split at h
  ·simp at h
  ·rename_i hw;have:=Jl hr.tmps hw;unfold wpList;rw [if_neg (by rw [this]; simp)];exact Qu hc (hr.put (Le.refl C) hr.sr hr.S hr.tk hr.n bU rfl) h hQ
  ·rename_i hw;have:=Jl hr.tmps hw;unfold wpList;rw [if_pos this];split at h
   ·rename_i v st1 ho;split at h;case isFalse=>simp at h
    have hT:st1.T=st.T:=(Hm (next:=fun _ _=>True) (Q:=Q) hc hr ho (fun _ _ _ _ _ _ _ _=>trivial)).2;refine .inl (Hm hc hr ho fun u C' k1 k2 k3 k4 k5 k6=>?_).1;exact Qu hc (hr.put k1 k2 k3 k4 k5 k6 hT) h fun a' C'' k dz=>hQ a' C'' (k1.trans k) dz
   ·simp at h
theorem Ad6 {c:Code} {Q:Exit->Act->World->Prop} (J:Nat->Act->World->Prop) (round:∀ n a w,J n a w->c.wp P (Exit.then (fun a' w'=>∃ m,m<n/\J m a' w') Q) a w) {n:Nat} {a:Act} {w:World} (h0:J n a w):(lE c).wp P Q a w:=by
 intro b k cs;have key:∀ n a w,J n a w->∃ e a' w',Q e a' w'/\Arrives P (lone (b.at a (.code c :: .inLoop c :: k)) cs w) b k cs e a' w':=by
  intro n;induction n using So with
  | _ n ih =>
   intro a w hJ;obtain ⟨e,a₁,w₁,hq,f8⟩:=round n a w hJ b (.inLoop c :: k) cs;cases e with
   | normal =>
    obtain ⟨m,hlt,hJ₁⟩:=hq;obtain ⟨e₂,a₂,w₂,hq₂,harr₂⟩:=ih m hlt a₁ w₁ hJ₁;exact ⟨e₂,a₂,w₂,hq₂,.of_steps (Steps.trans f8 (.one step_inLoop)) harr₂⟩
   | exit id=>exact ⟨_,a₁,w₁,hq,.pass (x:=.inLoop c) rfl (fun _ _=>.inl (by simp)) f8⟩
   | goto l=>exact ⟨_,a₁,w₁,hq,.pass (x:=.inLoop c) rfl (fun _ _=>.inl (by simp)) f8⟩
   | ret=>exact ⟨_,a₁,w₁,hq,.pass (x:=.inLoop c) rfl (fun _ _=>.inl (by simp)) f8⟩
   | panic ch=>exact ⟨_,a₁,w₁,hq,.pass (x:=.inLoop c) rfl (fun _ _=>.inl (by simp)) f8⟩
   | outgrown=>exact ⟨_,a₁,w₁,hq,.pass (x:=.inLoop c) rfl (fun _ _=>.inl (by simp)) f8⟩
 obtain ⟨e,a',w',hq,f8⟩:=key n a w h0;exact ⟨e,a',w',hq,.of_steps (.one step_loop) f8⟩
def exOf:Ex->Exit
 | .normal=>.normal
 | .exit id=>.exit id
 | .ret=>.ret
def Atn [Globs] (call:Bo):Prop:=∀ f args S tk n r S' tk' n',call f args S tk n=some (r,S',tk',n')->S'=S/\tk'=tk/\(shF f=true\/(n'=n/\∀ S2 tk2 n2,call f args S2 tk2 n2=some (r,S2,tk2,n2)))
def Tr [Globs] (call:Bo):Prop:=∀ f args S tk n r S' tk' n',call f args S tk n=some (r,S',tk',n')->(xF f && Globs.dr)=true\/(S'=S/\tk'=tk/\(shF f=true\/(n'=n/\∀ S2 tk2 n2,call f args S2 tk2 n2=some (r,S2,tk2,n2))))
def extC (P:Program) [Ext P]:Bo:=fun f args S tk n=>if Ext.on P f=true then Ext.call P f args S tk n else none
class Agx [Globs] (P:Program) [Ext P]:Prop where
 ok:K2 P (extC P)
 indep:∀ M,@Atn (gM M) (@Gc (gM M) P _ (extC P))
theorem Xt [Globs] [Ext P] {M:Md} {call:Bo} (h:K2 P call):K2 P (@Gc (gM M) P _ call):=by
 intro f args S tk n r S' tk' n' hh;unfold Gc at hh;split at hh
 ·exact h f args S tk n r S' tk' n' hh
 ·simp at hh
def Arj (P:Program) (real ops:Array Oper):Option (Nat × Oper)->Prop
 | none=>real=ops
 | some (p,al)=>real.size=ops.size/\(∀ i:Nat,i≠p->real[i]?=ops[i]?)/\(∀ (i:Nat) (o:Oper),ops[i]?=some o->isMk o=false)/\real[p]?=some al/\al.guard=none/\al.dst.isSome=true/\(∃ t cs,al.op=.alloc t/\A2 P t=some cs)/\ops[p]?=some { al with op:=.move (.global 0) }
def Vp (P:Program) (lt:Option (Nat × Oper)) (st:St):St :=
 match lt with
 | none=>st
 | some (_,al)=>match al.op with
  | .alloc t=>{ st with T:=putT st.T al.dst (.ref st.S.length st.n 0),S:=st.S++[⟨st.n,(A2 P t).getD []⟩],n:=st.n+1 }
  | _=>st
def Ad8 [Globs] (P:Program) (ok:St->List Oper->Bool):Prop:=P.follows .mixedOrders=true /\
 ∀ (call:Bo),K2 P call->∀ (real ops:Array Oper) (lt:Option (Nat × Oper)),Arj P real ops lt->@Tr (gM (mdOf ops.toList)) call->∀ (C:Cx) (st st':St) (a:Act) (Q:Exit->Act->World->Prop),ok st ops.toList=true->Rel C st a->@evOs (gM (mdOf ops.toList)) P call ops.toList ops.toList st=some st' ->
  (∀ a' C',Le C C'->Rel C' (Vp P lt st') a'->Q .normal a' C'.w)->wpAny P .any real Q real.size (Sp real.size false) a { C.w with drawn:=C.w.drawn+1 }
theorem Nq:∀ {L:List Oper} {p:Nat} {al:Oper} {x:Oper},Na L=some (p,al)->Apd al=true/\L[p]?=some al/\(openL (L++[x])).length=L.length/\(openL (L++[x]))[p]?=some { al with op:=.move (.global 0) }/\(∀ i,i≠p->(openL (L++[x]))[i]?=L[i]?)/\∀ o ∈ openL (L++[x]),isMk o=false
 | [],_,_,_,h=>by simp [Na] at h
 | o :: l,p,al,x,h=>by
  have hop:∀ (l:List Oper),openL (o :: l++[x])=V8 o :: openL (l++[x]):=fun l=>by cases l <;> rfl
  have keep:∀ (l:List Oper),l.any isMk=false->openL (l++[x])=l:=by
   intro l;induction l with
   | nil=>intro _; rfl
   | cons y l ih =>
    intro hl;simp only [List.any_cons,Fv] at hl;have e:openL (y :: l++[x])=V8 y :: openL (l++[x]):=by cases l <;> rfl
    rw [e,ih hl.2];unfold V8;rw [if_neg (by rw [hl.1]; simp)]
  unfold Na at h;rw [hop];split at h
  ·rename_i j7;split at h
   ·rename_i hc;simp only [Ch,Ih] at hc;simp only [Ba,Cf] at h;obtain ⟨rfl,rfl⟩:=h;rw [keep l hc.2];refine ⟨hc.1,rfl,rfl,?_,fun i hi=>?_,fun y hy=>?_⟩
    ·unfold V8; rw [if_pos j7]; rfl
    ·cases i with
     | zero=>exact absurd rfl hi
     | succ i=>rfl
    ·rcases C4.1 hy with rfl|hy
     ·unfold V8; rw [if_pos j7]; rfl
     ·simpa using List.any_eq_false.1 hc.2 y hy
   ·cases h
  ·rename_i j7;simp only [Cc,Cf,Prod.exists] at h;obtain ⟨p',al',h,rfl,rfl⟩:=h;obtain ⟨a1,a2,a3,a4,a5,a6⟩:=Nq (x:=x) h;have e:V8 o=o:=by unfold V8; rw [if_neg j7]
   rw [e];refine ⟨a1,a2,by simp [a3],a4,fun i hi=>?_,fun y hy=>?_⟩
   ·cases i with
    | zero=>rfl
    | succ i=>exact a5 i aA
   ·rcases C4.1 hy with rfl|hy
    ·simpa using j7
    ·exact a6 y hy
theorem Ww [Globs] {L:List Oper} {p:Nat} {al o:Oper} (h:Kt L=some (p,al,o)):∃ a,L=a++[o]/\Atc a o=true/\isSt o=true/\Na a=some (p,al):=by
 unfold Kt at h;split at h
 ·rename_i o' ho;split at h
  ·rename_i ht;simp only [Ch] at ht;simp only [Cc,Cf,Prod.exists] at h;obtain ⟨p',al',h,rfl,rfl,rfl⟩:=h;exact ⟨_,by rw [List.getLast?_eq_some_iff] at ho; obtain ⟨l,rfl⟩:=ho; simp,ht.1.2,ht.1.1,h⟩
  ·cases h
 ·cases h
theorem Asn {P:Program} {a:List Oper} {p:Nat} {al o:Oper} {t:TypeId} {cs:List AV} (h:Na a=some (p,al)) (ht:al.op=.alloc t) (hz:A2 P t=some cs):Arj P a.toArray (openL (a++[o])).toArray (some (p,al)):=by
 obtain ⟨a1,a2,a3,a4,a5,a6⟩:=Nq (x:=o) h;unfold Apd at a1;simp only [Ch,Ie] at a1;refine ⟨by simp [a3],fun i hi=>?_,fun i o' ho=>?_,by simpa using a2,a1.1.2,a1.2,⟨t,cs,ht,hz⟩,by simpa using a4⟩
 ·have:=a5 i hi;simp only [iA];exact this.symm
 ·exact a6 o' (Il fY)
theorem N0 {L a:List Oper} {o:Oper} (h:Gr L=some (a,o)):L=a++[o]/\Ana a o=true:=by
 unfold Gr at h;split at h
 ·rename_i o' ho;split at h
  ·rename_i ht;simp only [Ba,Cf] at h;obtain ⟨rfl,rfl⟩:=h;exact ⟨by rw [List.getLast?_eq_some_iff] at ho; obtain ⟨l,rfl⟩:=ho; simp,ht⟩
  ·cases h
 ·cases h
theorem Ae0 {kp:Bool} {m:Nat} {S:List Ent} : cutS kp m S=S.take (bif kp then S.length else m):=by
 cases kp <;> simp [cutS]
theorem Ac9 [Globs] {kp:Bool} {f:St->Option (Ex × St)} {c:Code} (hf:∀ (C:Cx) (st:St) (ex:Ex) (st':St) (a:Act) (Q:Exit->Act->World->Prop),f st=some (ex,st')->Rel C st a->(∀ a' C',Le C C'->Rel C' st' a'->Q (exOf ex) a' C'.w)->c.wp P Q a C.w)
  {k:Nat} {C:Cx} {st st':St} {ex:Ex} {a:Act} {Q:Exit->Act->World->Prop} (h:Lo kp f k st=some (ex,st')) (hr:Rel C st a) (hQ:∀ a' C',Le C C'->Rel C' st' a'->Q (exOf ex) a' C'.w):(lE c).wp P Q a C.w:=by
 refine Ad6 (fun n a w=>∃ C1 st1,C1.w=w/\Le C C1/\Rel C1 st1 a/\Lo kp f n st1=some (ex,st')) ?_ (n:=k) ⟨C,st,rfl,Le.refl C,hr,h⟩;rintro n a1 w1 ⟨C1,st1,rfl,hle,bz,h1⟩;cases n with
 | zero=>simp [Lo] at h1
 | succ n =>
  simp only [Lo] at h1;split at h1
  ·rename_i st2 h2;refine hf C1 st1 .normal st2 a1 _ h2 bz fun a2 C2 sb ae=>?_;rw [Ae0] at h1;generalize (bif kp then st2.S.length else st1.S.length)=mm at h1;refine ⟨n,I4 n,{ C2 with S:=C2.S.take mm },{ st2 with S:=st2.S.take mm },rfl,(hle.trans sb).trans (Le.take _),⟨by rw [ae.S],ae.tk,ae.n,VRs.mono (Le.take _) _ _ ae.tmps,ae.defers,ae.sr.take _⟩,h1⟩
  ·rename_i hne;refine hf C1 st1 ex st' a1 _ h1 bz fun a2 C2 sb ae=>?_;have:=hQ a2 C2 (hle.trans sb) ae;cases ex with
   | normal=>exact absurd h1 (hne st')
   | exit id=>exact this
   | ret=>exact this
theorem Ey [Globs] [Ext P] {call:Bo} (hc:K2 P call) (hi:∀ M,@Tr (gM M) (@Gc (gM M) P _ call)) {ok:St->List Oper->Bool} (hd:Ad8 P ok) {n:Nat} : ∀ (c:Code) (C:Cx) (st:St) (ex:Ex) (st':St) (a:Act) (Q:Exit->Act->World->Prop),evC P call ok n c st=some (ex,st')->Rel C st a ->
  (∀ a' C',Le C C'->Rel C' st' a'->Q (exOf ex) a' C'.w)->c.wp P Q a C.w
 | .skip,C,st,ex,st',a,Q,h,hr,hQ=>by
  simp only [evC,Ba,Cf] at h;obtain ⟨rfl,rfl⟩:=h;exact wp_skip (hQ a C (Le.refl C) hr)
 | .region id ops draw,C,st,ex,st',a,Q,h,hr,hQ=>by
  simp only [evC] at h;cases draw with
  | false =>
   rw [if_neg (by simp)] at h;simp only [Cc,Cf] at h;obtain ⟨st1,h,rfl,rfl⟩:=h;refine wp_region ?_;have:=Qu (Q:=Q) hc hr h hQ;have e:=wpOps_eq_wpList (P:=P) (ops:=ops) (Q:=Q) ops.toList 0 (fun j=>by simp);rw [List.range_eq_range'];simp only [It] at e;rw [e]; exact this
  | true =>
   rw [if_pos rfl] at h;split at h
   ·rename_i ini o vu;obtain ⟨hL,ht⟩:=N0 vu;split at h
    ·rename_i ab;split at h
     ·rename_i st1 h1;simp only [Cc,Cf] at h;obtain ⟨st2,h2,rfl,rfl⟩:=h;unfold Ana at ht;simp only [Ch,C9,iG,decide_eq_true_eq,Ie] at ht;obtain ⟨⟨⟨⟨-,hg⟩,cr⟩,hla⟩,hde⟩:=ht;have xv:ops=ini.toArray.push o:=by
       apply jU;rw [hL]; simp
      subst xv;have qu:ini.toArray.push o=(ini++[o]).toArray:=by simp
      refine wp_region_any hd.1 ?_;have hw:=hd.2 _ (Xt hc) ini.toArray ini.toArray none rfl (hi _) C st st1 a (Anb P o Q) (by simpa using ab) hr aW fun a' C' hle dz=>by
       show o.wp P a' C'.w (fun a' w'=>Q .normal a' w') Q;simp only [evOs,H9,hg] at h2;split at h2
       ·rename_i v s3 ho;split at h2;case isFalse=>simp at h2
        have hT:s3.T=st1.T:=(Hm (next:=fun _ _=>True) (Q:=Q) hc dz ho (fun _ _ _ _ _ _ _ _=>trivial)).2;exact Ya0u
       ·simp at h2
      exact Yab
     ·simp at h
    ·simp at h
   ·split at h
    ·rename_i p al o hlt;obtain ⟨ini,hL,ht,aj,nj⟩:=Ww hlt;rw [hL] at h;split at h
     ·rename_i ab;split at h
      ·rename_i st1 h1;simp only [Cc,Cf] at h;obtain ⟨st2,h2,rfl,rfl⟩:=h;unfold Atc at ht;simp only [Ch,C9,iG,decide_eq_true_eq,Ie] at ht;obtain ⟨⟨⟨hg,cr⟩,hla⟩,hde⟩:=ht;have hal:=(Nq (x:=o) nj).1;unfold Apd at hal;simp only [Ch,Ie] at hal;obtain ⟨t,hta⟩:∃ t,al.op=.alloc t:=by
        have:=hal.1.1;split at this
        ·rename_i t h; exact ⟨t,h⟩
        ·cases this
       have a23:=hal.1.2;simp only [evOs,H9,a23] at h2;split at h2;case h_2=>simp at h2
       rename_i v s3 jo;split at h2;case isFalse=>simp at h2
       have a2f:=jo;simp only [evO,hta,Cc,Cf] at a2f;obtain ⟨cs,hz,rfl,rfl⟩:=a2f;have a24:({ T:=putT st1.T al.dst (.ref st1.S.length st1.n 0),S:=st1.S++[⟨st1.n,cs⟩],tk:=st1.tk,n:=st1.n+1 } : St)=Vp P (some (p,al)) st1:=by
        simp only [Vp,hta,hz,Ol]
       simp only at h2;rw [a24] at h2;have xv:ops=ini.toArray.push o:=by
        apply jU;rw [hL]; simp
       subst xv;have qu:ini.toArray.push o=(ini++[o]).toArray:=by simp
       refine wp_region_any hd.1 ?_;have hw:=hd.2 _ (Xt hc) ini.toArray (openL (ini++[o])).toArray (some (p,al)) (Asn nj hta hz) (hi _) C st st1 a (Anb P o Q) (by simpa using ab) hr aW fun a' C' hle dz=>by
        show o.wp P a' C'.w (fun a' w'=>Q .normal a' w') Q;simp only [hg] at h2;split at h2
        ·rename_i v s3 ho;split at h2;case isFalse=>simp at h2
         have hT:s3.T=(Vp P (some (p,al)) st1).T:=(Hm (next:=fun _ _=>True) (Q:=Q) hc dz ho (fun _ _ _ _ _ _ _ _=>trivial)).2;exact Ya0u
        ·simp at h2
       exact Yab
      ·simp at h
     ·simp at h
    ·split at h
     ·rename_i ab;simp only [Cc,Cf] at h;obtain ⟨st1,h,rfl,rfl⟩:=h;exact wp_region_any hd.1 (hd.2 _ (Xt hc) ops ops none rfl (hi _) C st st1 a Q ab hr h hQ)
     ·simp at h
 | .seq x y,C,st,ex,st',a,Q,h,hr,hQ=>by
  simp only [evC] at h;split at h
  ·rename_i st1 h1;refine wp_seq (Ey hc hi hd x C st .normal st1 a _ h1 hr fun a1 C1 k8 bz=>?_);exact Ey hc hi hd y C1 st1 ex st' a1 Q h bz fun a2 C2 sb ae=>hQ a2 C2 (k8.trans sb) ae
  ·rename_i hne;refine wp_seq (Ey hc hi hd x C st ex st' a _ h hr fun a1 C1 k8 bz=>?_);have:=hQ a1 C1 k8 bz;cases ex with
   | normal=>exact absurd h (hne st')
   | exit id=>exact this
   | ret=>exact this
 | .cond x y z,C,st,ex,st',a,Q,h,hr,hQ=>by
  simp only [evC] at h;split at h
  ·rename_i t ht;have hv:=Aej hr.tmps x;rw [ht] at hv; simp only [VR] at hv;cases t with
   | true =>
    rw [if_pos rfl] at h;exact wp_cond_true hv (Ey hc hi hd y C st ex st' a Q h hr hQ)
   | false =>
    rw [if_neg (by simp)] at h;exact wp_cond_false hv (Ey hc hi hd z C st ex st' a Q h hr hQ)
  ·simp at h
 | .block id x,C,st,ex,st',a,Q,h,hr,hQ=>by
  simp only [evC] at h;split at h
  ·rename_i id' st1 h1;refine wp_block (Ey hc hi hd x C st (.exit id') st1 a _ h1 hr fun a1 C1 k8 bz=>?_);simp only [exOf,Exit.inBlock];split at h
   ·rename_i hid;simp only [Ba,Cf] at h;obtain ⟨rfl,rfl⟩:=h;rw [if_pos hid]; exact hQ a1 C1 k8 bz
   ·rename_i hid;simp only [Ba,Cf] at h;obtain ⟨rfl,rfl⟩:=h;rw [if_neg hid]; exact hQ a1 C1 k8 bz
  ·rename_i hne;refine wp_block (Ey hc hi hd x C st ex st' a _ h hr fun a1 C1 k8 bz=>?_);have:=hQ a1 C1 k8 bz;cases ex with
   | normal=>exact this
   | exit id=>exact absurd h (hne id st')
   | ret=>exact this
 | .loop x,C,st,ex,st',a,Q,h,hr,hQ=>by
  simp only [evC] at h;exact Ac9 (fun C st ex st' a Q=>Ey hc hi hd x C st ex st' a Q) h hr hQ
 | .exit id,C,st,ex,st',a,Q,h,hr,hQ=>by
  simp only [evC,Ba,Cf] at h;obtain ⟨rfl,rfl⟩:=h;exact wp_exit (hQ a C (Le.refl C) hr)
 | .ret,C,st,ex,st',a,Q,h,hr,hQ=>by
  simp only [evC,Ba,Cf] at h;obtain ⟨rfl,rfl⟩:=h;exact wp_ret (hQ a C (Le.refl C) hr)
 | .rangeFunc _ _ _ _,_,_,_,_,_,_,h,_,_=>dO
 | .scope x,C,st,ex,st',a,Q,h,hr,hQ=>by
  simp only [evC] at h;refine wp_scope_straight (Ey hc hi hd x C st ex st' a _ h hr fun a1 C1 k8 bz=>?_);have:=hQ a1 C1 k8 bz;cases ex <;> exact this
 | .label l,C,st,ex,st',a,Q,h,hr,hQ=>by
  simp only [evC,Ba,Cf] at h;obtain ⟨rfl,rfl⟩:=h;exact wp_label (hQ a C (Le.refl C) hr)
 | .goto _,_,_,_,_,_,_,h,_,_=>dO
 | .refuse _,_,_,_,_,_,_,h,_,_=>dO
end
section
variable {P:Program}
def Agb (P:Program) (tmps:Array Value):ResultVar->Sem Value
 | .tmp t=>pure (tmps.getD t undef)
 | .cell a t=>do loadVar t (<- asAddr (tmps.getD a undef))
theorem Aqm {C:Cx} {T:List AV} {tmps:Array Value} (h:VRs C T tmps.toList) (t:Tmp):VR C (getT T t) (tmps.getD t undef) :=
 Aej (a:=⟨tmps,[]⟩) h (.tmp t)
theorem Adx [Globs] {C:Cx} {st:St} {a:Act} (hr:Rel C st a) {rv:ResultVar} {v:AV} (h:resA1 P st rv=some v):Has P C (Agb P a.tmps rv) v:=by
 cases rv with
 | tmp t =>
  simp only [resA1,Ba] at h; subst h;exact ⟨_,rfl,Aqm hr.tmps t⟩
 | cell p t =>
  simp only [resA1] at h;rw [<- hr.S] at h;obtain ⟨u,h1,h2⟩:=Aa2 hr.sr (Aqm hr.tmps p) h;refine ⟨u,?_,h2⟩;simp only [Agb];generalize a.tmps.getD p undef=x at h1;cases x with
  | pointer b =>
   cases b with
   | none=>simp [jH,Sj] at h1
   | some b=>simpa [jH,Sj,asAddr] using h1
  | _=>simp [jH,Sj] at h1
theorem Afx [Globs] {C:Cx} {st:St} {a:Act} (hr:Rel C st a):∀ {rs:List ResultVar} {vs:List AV},mapO (resA1 P st) rs=some vs->∃ us,(rs.mapM (Agb P a.tmps)).run P C.w=.ok us C.w/\VRs C vs us
 | [],vs,h=>by
  simp only [mapO,Ba] at h; subst h;exact ⟨[],by simp,cE⟩
 | r :: rs,vs,h=>by
  simp only [mapO] at h;split at h
  ·rename_i b l h1 h2;simp only [Ba] at h; subst h;obtain ⟨u,g1,g2⟩:=Adx hr h1;obtain ⟨us,g3,g4⟩:=Afx hr h2;exact ⟨u :: us,by rw [List.mapM_cons]; simp only [F0,g1,Fs,g3,Iu],by simp only [VRs]; exact ⟨g2,g4⟩⟩
  ·simp at h
theorem Ah8 [Globs] {C:Cx} {st:St} {a:Act} (hr:Rel C st a) {fn:Func} {v:AV} (h:resA P fn.results.toList st=some v):Has P C (results fn a.tmps) v:=by
 simp only [resA,Cc] at h;obtain ⟨vs,h,rfl⟩:=h;obtain ⟨us,h1,h2⟩:=Afx hr h;have hrun:(results fn a.tmps).run P C.w=.ok (if h:us.toArray.size=1 then us.toArray[0] else .tuple us.toArray) C.w:=by
  have e:results fn a.tmps=(do
   let vs <- fn.results.mapM (Agb P a.tmps)
   pure (if h:vs.size=1 then vs[0] else .tuple vs)):=by
   unfold results;congr 1
  rw [e,F0,Array.mapM_eq_mapM_toList,Sem.run_map,h1];rfl
 have hlen:=Bb h2;match us,vs,h2,hlen,hrun with
 | [u],[v],h2,_,hrun =>
  simp only [VRs] at h2;exact ⟨u,by rw [hrun]; simp,h2.1⟩
 | [],[],h2,_,hrun=>exact ⟨.tuple #[],by rw [hrun]; simp,Za4g⟩
 | u :: u' :: us,v :: v' :: vs,h2,_,hrun=>exact ⟨.tuple (u :: u' :: us).toArray,by rw [hrun]; simp,Za4g⟩
theorem VR_w3 {C:Cx} {c x} (h:VR C c x):VR C (w3 c) x:=by
 cases c with
 | tup cs =>
  simp only [w3,VR] at h ⊢;obtain ⟨vs,e,hr⟩:=h;exact ⟨vs,e,Aji hr⟩
 | _=>exact Ar2 h
theorem W6 {C C':Cx} {c x} (aj:Stays C.w C'.w C.Avoid C'.Avoid) (hp:pure1 c=true) (h:VR C c x):VR C' c x:=Xp (PR.stays aj _ _ (Aec hp h))
theorem Vd {C C':Cx} (aj:Stays C.w C'.w C.Avoid C'.Avoid):∀ {cs vs},cs.all pure1=true->VRs C cs vs->VRs C' cs vs
 | [],[],_,_=>cE
 | c :: cs,v :: vs,hp,h=>by
  simp only [Ox,Ch] at hp;simp only [VRs] at h ⊢;exact ⟨W6 aj hp.1 h.1,Vd aj hp.2 h.2⟩
 | [],_ :: _,_,h=>aU
 | _ :: _,[],_,h=>aU
theorem W7 {C C':Cx} {c x} (aj:Stays C.w C'.w C.Avoid C'.Avoid) (hp:pure2 c=true) (h:VR C c x):VR C' c x:=by
 cases c with
 | agg cs =>
  simp only [VR] at h ⊢;obtain ⟨vs,e,hr⟩:=h;exact ⟨vs,e,Vd aj hp hr⟩
 | _=>exact W6 aj hp h
theorem Nv {C C':Cx} (aj:Stays C.w C'.w C.Avoid C'.Avoid):∀ {cs vs},cs.all pure2=true->VRs C cs vs->VRs C' cs vs
 | [],[],_,_=>cE
 | c :: cs,v :: vs,hp,h=>by
  simp only [Ox,Ch] at hp;simp only [VRs] at h ⊢;exact ⟨W7 aj hp.1 h.1,Nv aj hp.2 h.2⟩
 | [],_ :: _,_,h=>aU
 | _ :: _,[],_,h=>aU
theorem Ah4 {C C':Cx} {c x} (aj:Stays C.w C'.w C.Avoid C'.Avoid) (hp:pure3 c=true) (h:VR C c x):VR C' c x:=by
 cases c with
 | tup cs =>
  simp only [VR] at h ⊢;obtain ⟨vs,e,hr⟩:=h;exact ⟨vs,e,Nv aj hp hr⟩
 | _=>exact W7 aj hp h
theorem Ael {C:Cx} : ∀ n:Nat,VRs C (Cg n AV.bot) (Cg n undef)
 | 0=>by simp [VRs]
 | n+1=>by simp only [Og,VRs,VR]; exact ⟨trivial,Ael n⟩
theorem Qt [Globs] [Ext P] {call:Bo} (hc:K2 P call) (hi:∀ M,@Tr (gM M) (@Gc (gM M) P _ call)) {ok:St->List Oper->Bool} (hd:Ad8 P ok) {k:Nat} {f:FuncId} {fn:Func} {c:Code} (hf:P.funcs[f]?=some fn) (hb:fn.body=some c) {C:Cx} (hs:SR C) {args:List AV} {vs:Array Value} (hv:VRs C args vs.toList) {r:AV} {st:St}
  (h:outA P fn (evC P call ok k c ⟨args++Cg (fn.ntmps - args.length) .bot,C.S,C.tk,C.n⟩)=some (r,st)) :
  Calls P f vs C.w fun e w'=>∃ v C',e=.returned v/\C'.w=w'/\Le C C'/\SR C'/\C'.S=st.S/\C'.tk=st.tk/\C'.n=st.n/\VR C' r v:=by
 have hlen:vs.size=args.length:=by have:=Bb hv; simpa using this.symm
 refine calls_of_wp hf hb ?_;have hrel:Rel C ⟨args++Cg (fn.ntmps - args.length) .bot,C.S,C.tk,C.n⟩ { tmps:=vs++Sp (fn.ntmps - vs.size) undef,defers:=[] } :=
  ⟨rfl,rfl,rfl,by rw [hlen]; simpa using He hv (Ael _),rfl,hs⟩
 have fin:∀ {ex:Ex} {st':St},(ex=.normal\/ex=.ret)->(resA P fn.results.toList st').map (fun r=>(r,st'))=some (r,st)->∀ a' C',Le C C'->Rel C' st' a' ->
   bodyPost P fn (fun e w'=>∃ v C',e=.returned v/\C'.w=w'/\Le C C'/\SR C'/\C'.S=st.S/\C'.tk=st.tk/\C'.n=st.n/\VR C' r v) (exOf ex) a' C'.w:=by
  intro ex st' jt he a' C' hle hr;simp only [Cc,Cf] at he;obtain ⟨r',he,rfl,rfl⟩:=he;obtain ⟨v,h1,h2⟩:=Ah8 hr he;rcases jt with rfl|rfl
  ·exact Ya3s
  ·exact Ya3s
 generalize he:evC P call ok k c ⟨args++Cg (fn.ntmps - args.length) .bot,C.S,C.tk,C.n⟩=out at h;match out with
 | none=>simp [outA] at h
 | some (.exit _,_)=>simp [outA] at h
 | some (.normal,st')=>exact Ey hc hi hd c C _ .normal st' _ _ he hrel (fin (.inl rfl) h)
 | some (.ret,st')=>exact Ey hc hi hd c C _ .ret st' _ _ he hrel (fin (.inr rfl) h)
def Cx.alone (C:Cx):Cx:={ w:=C.w,av:=C.Avoid,φ:=C.φ,ψ:=C.ψ,S:=[],tk:=[],n:=0 }
theorem Ty {C:Cx} {b o:Nat} : ¬ C.alone.Mut b o:=by
 rintro (⟨i,hi,_⟩|⟨i,hi,_⟩) <;> simp [Cx.alone] at hi
theorem SR.alone [Globs] {C:Cx} (hs:SR C):SR C.alone:=by
 refine ⟨fun i e h=>by simp [Cx.alone,nth] at h,fun i j hi=>fH,fun i j o hi=>fH,fun i j o hi=>fH,fun b o h=>absurd h Ty,fun b o h=>?_,fun i o hi=>fH,fun g o h=>⟨(hs.glob g o h).1,fun i=>.inl ((hs.glob g o h).2 i)⟩⟩;rcases Ig b C.w.heap.size with h'|h'
 ·exact h'
 ·exact absurd h (hs.fresh h')
theorem Auw [Globs] {C:Cx} (hs:SR C) {m id o:Nat} (hid:id<C.S.length) (hm:m<=id):¬ ({ C with S:=C.S.take m } : Cx).Avoid (C.φ id) o:=by
 rintro (h|⟨i,hi,h⟩|⟨i,hi,h1,h2,h3⟩)
 ·exact hs.own _ o (.inl ⟨id,hid,rfl⟩) h
 ·simp only [I1] at hi;have:=hs.ne i id aA hid h;omega
 ·exact hs.apart id i o hid hi h1.symm h2 h3
theorem Aat [Globs] {C:Cx} (hs:SR C) (m:Nat) {c x} (h:VR C c x):VR { C with S:=C.S.take m } (fz1 m C.S c) x:=by
 have keep:VR { C with S:=C.S.take m } c x:=VR.mono (Le.take m) _ _ h;cases c with
 | sref id ep off len sz =>
  simp only [fz1];split
  ·rename_i hm;unfold fzB;split
   ·rename_i cs ig;obtain ⟨e,h1,h2,rfl⟩:=Du ig;unfold L8;split
    ·rename_i es xc;split
     ·rename_i hp;simp only [VR] at h;obtain ⟨b,a,cap,rfl,hcap,ha,hn,hb⟩:=h;obtain rfl:=(hb e h1 h2).1;obtain ⟨hlt,arr,t,h3,h4⟩:=hs.ent id e h1;obtain ⟨pd,h4⟩:=entP h4;obtain ⟨g1,g2,g3,g4⟩:=Mz xc;have g4':len*sz<=((e.cells++pd).drop off).length:=by simp at g4 ⊢; omega
      have g3':es.flatten=((e.cells++pd).drop off).take (len*sz):=by rw [g3,iO,Oh g4]
      simp only [VR];refine ⟨a,len,cap,rfl,by simp [g1],hcap,trivial,?_⟩;by_cases h0:len=0
      ·left;subst h0;rw [F2 g1]; rfl
      ·right;obtain rfl:=ha.resolve_left h0;have rz:=Bb h4;simp only [It] at rz;refine ⟨C.φ id,off,sz,rfl,G5 (l:=(arr.toList.drop off).take (len*sz)) (fun e he=>?_) ?_ (K5 fun j v hj=>⟨?_,Auw hs (Bn h1) hm⟩)⟩
       ·exact Ya2p
       ·have ql:(es.map (·.map w1)).flatten=(((e.cells++pd).drop off).take (len*sz)).map w1:=by rw [<- g3',List.map_flatten]
        have xm:VRs C (((e.cells++pd).drop off).take (len*sz)) ((arr.toList.drop off).take (len*sz)):=(Ko (Mj off h4) (M1 g4')).1;rw [ql];refine Ka (C:={ C with S:=C.S.take m }) ?_ (VRs.mono (Le.take m) _ _ (Wl xm));rw [<- g3',C9];intro c hc;exact Ya0s
       ·have fh:j<len*sz:=by
         exact Ya1p
        exact Ya28
     ·simp only [VR]
    ·simp only [VR]
   ·simp only [VR]
  ·exact keep
 | _=>exact keep
theorem Wu [Globs] {C:Cx} (hs:SR C) (m:Nat):∀ {cs vs},VRs C cs vs->VRs { C with S:=C.S.take m } (cs.map (fz1 m C.S)) vs
 | [],[],_=>eD
 | c :: cs,v :: vs,h=>by simp only [VRs,Cn] at h ⊢; exact ⟨Aat hs m h.1,Wu hs m h.2⟩
 | [],_ :: _,h=>aU
 | _ :: _,[],h=>aU
theorem Aau [Globs] {C:Cx} (hs:SR C) (m:Nat) {c x} (h:VR C c x):VR { C with S:=C.S.take m } (fz2 m C.S c) x:=by
 cases c with
 | agg cs =>
  simp only [fz2,VR] at h ⊢;obtain ⟨vs,e,hr⟩:=h;exact ⟨vs,e,Wu hs m hr⟩
 | _=>exact Aat hs m h
theorem Wv [Globs] {C:Cx} (hs:SR C) (m:Nat):∀ {cs vs},VRs C cs vs->VRs { C with S:=C.S.take m } (cs.map (fz2 m C.S)) vs
 | [],[],_=>eD
 | c :: cs,v :: vs,h=>by simp only [VRs,Cn] at h ⊢; exact ⟨Aau hs m h.1,Wv hs m h.2⟩
 | [],_ :: _,h=>aU
 | _ :: _,[],h=>aU
theorem Aav [Globs] {C:Cx} (hs:SR C) (m:Nat) {c x} (h:VR C c x):VR { C with S:=C.S.take m } (fz3 m C.S c) x:=by
 cases c with
 | tup cs =>
  simp only [fz3,VR] at h ⊢;obtain ⟨vs,e,hr⟩:=h;exact ⟨vs,e,Wv hs m hr⟩
 | _=>exact Aau hs m h
theorem Ac0 [Globs] [Ext P] {ok:St->List Oper->Bool} {k:Nat} {f:FuncId} {args:List AV} {S:List Ent} {tk:List Nat} {n:Nat} (hf:Ext.on P f=true):evF P ok (k+1) f args S tk n=extC P f args S tk n:=by
 simp only [evF,extC,hf,if_true]
structure V0 (A:Nat->Bool) (m:Nat) (S0:List Ent) (tk0:List Nat) (st:St):Prop where
 S:st.S.take m=S0
 le:m<=st.S.length
 tk:st.tk=tk0
 own:∀ q,A q=true->getT st.T q=.bot\/getT st.T q=.prim undef\/∃ id ep off,getT st.T q=.ref id ep off/\m<=id
theorem Ala:∀ {T:List AV} {d:Nat} {v:AV},d<T.length->getT (put T d v) d=v
 | _ :: _,0,_,_=>rfl
 | _ :: T,d+1,_,h=>Ala (T:=T) aL
 | [],_,_,h=>aO
theorem Afn:∀ {T:List AV} {d q:Nat} {v:AV},d≠q->getT (put T d v) q=getT T q
 | [],_,_,_,_=>rfl
 | _ :: _,0,0,_,h=>absurd rfl h
 | _ :: _,0,_+1,_,_=>rfl
 | _ :: _,_+1,0,_,_=>rfl
 | _ :: T,d+1,q+1,_,h=>Afn (T:=T) aA
theorem Amm:∀ {T:List AV} {d:Nat} {v:AV},T.length<=d->put T d v=T
 | [],_,_,_=>rfl
 | _ :: _,0,_,h=>aO
 | _ :: T,d+1,_,h=>by simp only [put]; rw [Amm (T:=T) aL]
theorem Aaw {T:List AV} {d:Option Nat} {v:AV} {q:Nat} : getT (putT T d v) q=getT T q\/(d=some q/\getT (putT T d v) q=v):=by
 cases d with
 | none=>exact .inl rfl
 | some d =>
  simp only [putT];by_cases h:d=q
  ·subst h;rcases Ig d T.length with hl|hl
   ·exact .inr ⟨rfl,Ala hl⟩
   ·left; rw [Amm hl]
  ·exact .inl (Afn h)
theorem Ago {α:Type} : ∀ {l:List α} {i m:Nat} {v:α},m<=i->(put l i v).take m=l.take m
 | [],_,_,_,_=>rfl
 | _ :: _,0,m,_,h=>by
  have:m=0:=aA
  subst this; rfl
 | _ :: _,_+1,0,_,_=>rfl
 | _ :: l,i+1,m+1,v,h=>by simp only [put,Ga,Ago (l:=l) (i:=i) (m:=m) (v:=v) aA]
theorem Asm [Globs] {call:Bo} {o:Oper} {all:List Oper} {nn m:Nat} {S0:List Ent} {tk0:List Nat} {st st':St} {v:AV} (hA:o ∈ all) (hk:Ut all nn o=true) (hI:V0 (fun q=>decide (nn<=q) && Lu all q) m S0 tk0 st) (h:evO P call o st=some (v,st')) :
  V0 (fun q=>decide (nn<=q) && Lu all q) m S0 tk0 { st' with T:=putT st'.T o.dst v }:=by
 have slot:st'.T=st.T->(Kw o=true->∃ id ep off,v=.ref id ep off/\m<=id)->∀ q,(decide (nn<=q) && Lu all q)=true->getT (putT st'.T o.dst v) q=.bot\/getT (putT st'.T o.dst v) q=.prim undef\/∃ id ep off,getT (putT st'.T o.dst v) q=.ref id ep off/\m<=id:=by
  intro hT hv q hq;rcases Aaw (T:=st'.T) (d:=o.dst) (v:=v) (q:=q) with e|⟨e1,e2⟩
  ·rw [e,hT]; exact hI.own q hq
  ·simp only [Ch] at hq;have:=C9.1 hq.2 o hA;rw [e1] at this;simp only [bne_self_eq_false,N2] at this;obtain ⟨id,ep,off,rfl,hm⟩:=hv this;exact .inr (.inr ⟨id,ep,off,e2,hm⟩)
 unfold evO at h;unfold Ut at hk;split at h
 ·rename_i t x e;simp only [Cc,Cf] at h;obtain ⟨_,_,rfl,rfl⟩:=h;exact ⟨hI.S,hI.le,hI.tk,slot rfl (fun hm=>fQ)⟩
 ·rename_i t x y e;rw [e] at hk;simp only [Cc,Cf] at h;obtain ⟨S',hs,rfl,rfl⟩:=h;cases x with
  | tmp q =>
   simp only at hk;unfold stA at hs;split at hs
   ·rename_i id ep off sz vs hx _ _;simp only [opv] at hx;split at hs
    ·split at hs
     ·split at hs
      ·simp only [Ba] at hs; subst hs;have hid:m<=id:=by
        rcases hI.own q hk with h1|h1|⟨id',ep',off',h1,h2⟩
        ·rw [h1] at hx; simp at hx
        ·rw [h1] at hx; simp at hx
        ·rw [h1] at hx; simp only [AV.ref.injEq] at hx; omega
       exact ⟨by show (put st.S id _).take m=S0; rw [Ago hid]; exact hI.S,by show m<=(put st.S id _).length; rw [Am]; exact hI.le,hI.tk,slot rfl (fun hm=>fQ)⟩
      ·simp at hs
     ·simp at hs
    ·simp at hs
   ·simp at hs
  | _=>simp at hk
 ·rename_i t e;exact Ya11
 ·rename_i t x e;exact Ya11
 ·rename_i t l c e;rw [e] at hk;simp only [Ih] at hk;simp only [Cc,Prod.exists,hk] at h;obtain ⟨l',sz,cs,_,hh⟩:=h;rw [if_neg (by simp)] at hh;simp only [Cf] at hh;obtain ⟨rfl,rfl⟩:=hh;exact ⟨Za0j,Za02,hI.tk,slot rfl (fun hm=>fQ)⟩
 ·rename_i c e;rw [e] at hk;simp only at hk;split at h
  ·rename_i hb; rw [hb] at hk; simp at hk
  ·rename_i hb; rw [hb] at hk; simp at hk
  ·simp only [Cc,Cf] at h; obtain ⟨_,_,rfl,rfl⟩:=h;exact ⟨hI.S,hI.le,hI.tk,slot rfl (fun hm=>fQ)⟩
  ·rename_i h1 h2 h3;exfalso;cases hc:c.callee with
   | builtin b=>cases b <;> first|exact h1 hc|exact h2 hc|exact h3 _ hc
   | value x=>rw [hc] at hk; simp at hk
   | invoke x m=>rw [hc] at hk; simp at hk
 ·rename_i h1 h2 h3 h4 h5 h6;simp only [Cc,Cf] at h; obtain ⟨_,_,rfl,rfl⟩:=h;refine ⟨hI.S,hI.le,hI.tk,slot rfl (fun hm=>?_)⟩;unfold Kw at hm;split at hm
  ·exact absurd dC (h3 _)
  ·exact absurd dC (h4 _ _)
  ·simp at hm
theorem Mp [G:Globs] {call:Bo} {allr all:List Oper} {nn m:Nat} {S0:List Ent} {tk0:List Nat} : ∀ {l:List Oper} {st st':St},(∀ o ∈ l,o ∈ all/\Ut all nn o=true)->V0 (fun q=>decide (nn<=q) && Lu all q) m S0 tk0 st->evOs P call allr l st=some st'->V0 (fun q=>decide (nn<=q) && Lu all q) m S0 tk0 st'
 | [],st,st',_,hI,h=>by simp only [evOs,Ba] at h; subst h; exact hI
 | o :: l,st,st',hq,hI,h=>by
  simp only [evOs] at h;split at h
  ·simp at h
  ·refine Mp (fun o ho=>hq o (by simp [ho])) ?_ h;refine ⟨hI.S,hI.le,hI.tk,fun q hqq=>?_⟩;rcases Aaw (T:=st.T) (d:=o.dst) (v:=.prim undef) (q:=q) with e|⟨_,e⟩
   ·simp only [e]; exact hI.own q hqq
   ·exact .inr (.inl e)
  ·split at h
   ·rename_i v s1 ho;split at h;case isFalse=>simp at h
    obtain ⟨a1,a2⟩:=hq o (by simp);exact Mp (fun o ho=>hq o (by simp [ho])) (Asm a1 a2 hI ho) h
   ·simp at h
theorem Aa0 {kp:Bool} {A:Nat->Bool} {m:Nat} {S0:List Ent} {tk0:List Nat} {f:St->Option (Ex × St)} (hf:∀ st ex st',V0 A m S0 tk0 st->f st=some (ex,st')->V0 A m S0 tk0 st'):∀ {k:Nat} {st st':St} {ex:Ex},V0 A m S0 tk0 st->Lo kp f k st=some (ex,st')->V0 A m S0 tk0 st'
 | 0,_,_,_,_,h=>by simp [Lo] at h
 | k+1,st,st',ex,hI,h=>by
  simp only [Lo] at h;split at h
  ·rename_i s1 h1;have h2:=hf _ _ _ hI h1;have ek:m<=bif kp then s1.S.length else st.S.length:=by cases kp <;> first|exact hI.le|exact h2.le
   rw [Ae0] at h;generalize (bif kp then s1.S.length else st.S.length)=mm at h ek;refine Aa0 (st:={ s1 with S:=s1.S.take mm }) hf ⟨?_,?_,h2.tk,h2.own⟩ h
   ·show (s1.S.take mm).take m=S0;rw [kV,Nat.min_eq_left ek]; exact h2.S
   ·show m<=(s1.S.take mm).length;rw [I1];exact Nat.le_min.2 ⟨ek,h2.le⟩
  ·exact hf _ _ _ hI h
theorem Aln [Globs] {L:List Oper} {p:Nat} {al o:Oper} {all:List Oper} {nn:Nat} (h:Kt L=some (p,al,o)):¬ ∀ o ∈ L,o ∈ all/\Ut all nn o=true:=by
 intro hq;unfold Kt at h;split at h
 ·split at h
  ·rename_i hc;simp only [Ch,List.any_eq_true] at hc;obtain ⟨x,hx,zw⟩:=hc.2;have hk:=(hq x (List.dropLast_subset _ hx)).2;unfold xOp at zw;unfold Ut at hk;split at zw
   ·rename_i c ew;rw [ew] at hk;simp only at hk;unfold Ad7 at zw;split at zw <;> rename_i ao <;> simp_all
   ·simp at zw
  ·simp at h
 ·simp at h
theorem Gp [Globs] [Ext P] {call:Bo} {ok:St->List Oper->Bool} {n nn m:Nat} {all:List Oper} {S0:List Ent} {tk0:List Nat} : ∀ (c:Code) (st:St) (ex:Ex) (st':St),(∀ o ∈ opsOf c,o ∈ all/\Ut all nn o=true)->V0 (fun q=>decide (nn<=q) && Lu all q) m S0 tk0 st->evC P call ok n c st=some (ex,st')->V0 (fun q=>decide (nn<=q) && Lu all q) m S0 tk0 st'
 | .skip,st,ex,st',_,hI,h=>eW
 | .exit _,st,ex,st',_,hI,h=>eW
 | .ret,st,ex,st',_,hI,h=>eW
 | .region _ ops draw,st,ex,st',hq,hI,h=>by
  simp only [opsOf] at hq;simp only [evC] at h;split at h
  ·split at h
   ·rename_i ini o vu;obtain ⟨hL,-⟩:=N0 vu;rw [hL] at hq;split at h
    ·split at h
     ·rename_i s1 h1;simp only [Cc,Cf] at h;obtain ⟨s2,h2,_,rfl⟩:=h;exact Mp (fun x hx=>hq x (C3.2 (.inr hx))) (Mp (G:=gM _) (fun x hx=>hq x (C3.2 (.inl hx))) hI h1) h2
     ·simp at h
    ·simp at h
   ·split at h
    ·rename_i hlt;exact absurd hq (Aln hlt)
    ·split at h
     ·simp only [Cc,Cf] at h;obtain ⟨s1,h,_,rfl⟩:=h;exact Mp (G:=gM _) hq hI h
     ·simp at h
  ·simp only [Cc,Cf] at h;obtain ⟨s1,h,_,rfl⟩:=h;exact Mp hq hI h
 | .seq a b,st,ex,st',hq,hI,h=>by
  simp only [opsOf,C3] at hq;simp only [evC] at h;split at h
  ·rename_i s1 h1;exact Gp b _ _ _ (fun o ho=>hq o (.inr ho)) (Gp a _ _ _ (fun o ho=>hq o (.inl ho)) hI h1) h
  ·exact Gp a _ _ _ (fun o ho=>hq o (.inl ho)) hI h
 | .cond x a b,st,ex,st',hq,hI,h=>by
  simp only [opsOf,C3] at hq;simp only [evC] at h;split at h
  ·split at h
   ·exact Gp a _ _ _ (fun o ho=>hq o (.inl ho)) hI h
   ·exact Gp b _ _ _ (fun o ho=>hq o (.inr ho)) hI h
  ·simp at h
 | .block id c,st,ex,st',hq,hI,h=>by
  simp only [opsOf] at hq;simp only [evC] at h;split at h
  ·rename_i id' s1 h1;have:=Gp c _ _ _ hq hI h1;split at h
   ·exact Ya30
   ·exact Ya30
  ·exact Gp c _ _ _ hq hI h
 | .loop c,st,ex,st',hq,hI,h=>by
  simp only [opsOf] at hq;simp only [evC] at h;exact Aa0 (fun s e s' hs hh=>Gp c s e s' hq hs hh) hI h
 | .rangeFunc _ _ _ _,_,_,_,_,_,h=>dO
 | .scope c,st,ex,st',hq,hI,h=>by
  simp only [opsOf] at hq;simp only [evC] at h;exact Gp c _ _ _ hq hI h
 | .label _,st,ex,st',_,hI,h=>eW
 | .goto _,_,_,_,_,_,h=>dO
 | .refuse _,_,_,_,_,_,h=>dO
theorem Ak9 {args:List AV} {q n:Nat} (h:args.length<=q):getT (args++Cg n .bot) q=.bot:=by
 induction args generalizing q with
 | nil =>
  simp only [Cr];induction n generalizing q with
  | zero=>rfl
  | succ n ih=>cases q with
   | zero=>rfl
   | succ q=>exact ih (by simp)
 | cons x args ih=>cases q with
  | zero=>simp at h
  | succ q=>exact ih aL
theorem Ub [Globs] [Ext P] [hX:Agx P] {ok:St->List Oper->Bool} : ∀ k M,@Tr (gM M) (@Gc (gM M) P _ (evF P ok k))
 | 0,M=>by intro f args S tk n r S' tk' n' h; simp [Gc,evF] at h
 | k+1,M=>by
  intro f args S tk n r S' tk' n' h;by_cases nq:Ext.on P f=true
  ·have e:∀ S tk n,@Gc (gM M) P _ (evF P ok (k+1)) f args S tk n=@Gc (gM M) P _ (extC P) f args S tk n:=by
    intro S tk n; simp only [Gc,Ac0 nq]
   rw [e] at h;obtain ⟨g1,g2,g4⟩:=hX.indep M _ _ _ _ _ _ _ _ _ h;exact .inr ⟨g1,g2,g4.imp _root_.id fun g4=>⟨g4.1,fun S2 tk2 n2=>by rw [e]; exact g4.2 S2 tk2 n2⟩⟩
  by_cases hxf:(@xF (gM M) f && @Globs.dr (gM M))=true
  ·exact .inl hxf
  right;unfold Gc at h;split at h
  ·rename_i hp;by_cases jm:((args.map w2).all pure2 && !Ext.mv P f)=true
   ·have ef:=jm;simp only [Ch,Ih] at ef;obtain ⟨hp1,sc⟩:=ef;simp only [evF] at h;rw [if_neg nq] at h;split at h
    ·rename_i fn hf;split at h
     ·rename_i c hb;split at h
      ·simp at h
      ·rename_i bg;simp only [sc,hp1,if_true,C6,if_false] at h;split at h
       ·rename_i r' ho;simp only [Ba,Cf] at h;obtain ⟨rfl,rfl,rfl,rfl⟩:=h;refine ⟨rfl,rfl,.inr ⟨rfl,fun S2 tk2 n2=>?_⟩⟩;unfold Gc;rw [if_pos hp];simp only [evF,hf,hb];rw [if_neg nq,if_neg bg,if_neg (by rw [sc]; simp),if_pos hp1,ho]
       ·simp at h
     ·simp at h
    ·simp at h
   ·have vv:(@shF (gM M) f && Rt P f args.length && !Ext.mv P f && !Ext.on P f)=true:=by
     cases hx:((args.map w2).all pure2 && !Ext.mv P f) with
     | true=>exact absurd hx jm
     | false=>rw [hx] at hp; simpa [hxf] using hp
    simp only [Ch,Ih] at vv;obtain ⟨⟨⟨h1,h2⟩,sc⟩,-⟩:=vv;have hpp:¬ (args.map w2).all pure2=true:=fun h=>jm (by simp [h,sc]);simp only [evF] at h;rw [if_neg nq] at h;unfold Rt at h2;split at h
    ·rename_i fn hf;rw [hf] at h2;simp only at h2;split at h
     ·rename_i c hb;rw [hb] at h2;simp only at h2;split at h
      ·simp at h
      ·simp only [sc,hpp,C6,if_false] at h;split at h
       ·rename_i r' st ho;simp only [Ba,Cf] at h;obtain ⟨rfl,rfl,rfl,rfl⟩:=h;have ky:∃ ex,evC P (evF P ok k) ok k c ⟨args++Cg (fn.ntmps - args.length) .bot,S,tk,n⟩=some (ex,st):=by
         generalize evC P (evF P ok k) ok k c ⟨args++Cg (fn.ntmps - args.length) .bot,S,tk,n⟩=o at ho;unfold outA at ho;split at ho
         ·exact Ya1w
         ·exact Ya1w
         ·simp at ho
        obtain ⟨ex,jt⟩:=ky;have hK:=Gp (all:=opsOf c) (nn:=args.length) (m:=S.length) (S0:=S) (tk0:=tk) c _ _ _ (fun o ho=>⟨ho,C9.1 h2 o ho⟩)
         ⟨Fb,Ce _,rfl,fun q hq=>.inl (Ak9 (by simp only [Ch,decide_eq_true_eq] at hq; exact hq.1))⟩ jt
        exact ⟨hK.S,hK.tk,.inl h1⟩
       ·simp at h
     ·simp at h
    ·simp at h
  ·simp at h
theorem Aan [Globs] [Ext P] [hX:Agx P] {ok:St->List Oper->Bool} (hd:Ad8 P ok):∀ k,K2 P (evF P ok k)
 | 0=>by intro f args S tk n r S' tk' n' h; simp [evF] at h
 | k+1=>by
  have hc:=Aan hd k;intro f args S tk n r S' tk' n' h;by_cases nq:Ext.on P f=true
  ·rw [Ac0 nq] at h;exact hX.ok _ _ _ _ _ _ _ _ _ h
  simp only [evF] at h;rw [if_neg nq] at h;split at h
  ·rename_i fn hf;split at h
   ·rename_i c hb;split at h
    ·simp at h
    ·rename_i bg;refine ⟨⟨fn,hf,dS,by rw [hb]; rfl⟩,?_⟩;rintro C vs rfl rfl rfl hs hv;split at h
     ·split at h
      ·rename_i r' st ho;simp only [Ba,Cf] at h;obtain ⟨rfl,rfl,rfl,rfl⟩:=h;exact Qt hc (Ub k) hd (k:=k) hf hb hs hv ho
      ·simp at h
     split at h
     ·rename_i hp;split at h
      ·rename_i r' ho;simp only [Ba,Cf] at h;obtain ⟨rfl,rfl,rfl,rfl⟩:=h;have aj:Stays C.w C.alone.w C.Avoid C.alone.Avoid:=fun b o v h1 h2=>⟨h1,fun h3=>h3.elim h2 Ty⟩;have hv':=Nv aj hp (Aji hv);have one:∀ {as:List AV} {r0:AV},VRs C.alone as vs.toList->runP P ok (evF P ok k) k fn c as=some r0->Calls P f vs C.w fun e w'=>∃ v C',e=.returned v/\C'.w=w'/\Le C C'/\SR C'/\C'.S=C.S/\C'.tk=C.tk/\C'.n=C.n/\VR C' r0 v:=by
        intro as r0 hv' hrun;unfold runP at hrun;split at hrun
        ·rename_i r' st ho;split at hrun
         ·rename_i hp3;simp only [Ba] at hrun;subst hrun;refine Calls.mono (Qt hc (Ub k) hd (k:=k) hf hb hs.alone hv' ho) ?_;rintro e w' ⟨v,C',rfl,rfl,hle,hs',hS',-,-,h2⟩;have hbel:Below C.w.heap.size C.w C'.w:=⟨hle.os,hle.tape,hle.output,hle.size,fun b hb=>hle.keep b hb fun o=>Ty⟩;refine ⟨v,C.at C'.w,rfl,rfl,Le.of_below hbel,SR.of_below hs hbel,rfl,rfl,rfl,?_⟩;have h3:=Aav hs' 0 h2;rw [hS'] at h3;refine Ah4 (C:={ C' with S:=st.S.take 0 }) (fun b o x h1 h2=>⟨h1,fun h3=>h2 (.inl ?_)⟩) hp3 (VR_w3 h3);show C'.av b o;rw [hle.av]; exact h3
         ·simp at hrun
        ·simp at hrun
       split at ho
       ·unfold runN at ho;split at ho
        ·rename_i l hl;split at ho
         ·rename_i q1 q2;simp only [Ba] at ho;subst ho;rw [hl] at hv';cases hvl:vs.toList with
          | nil=>rw [hvl] at hv'; simp only [VRs] at hv'
          | cons x xs =>
           rw [hvl] at hv';simp only [VRs] at hv';obtain ⟨hx,hxs⟩:=hv';simp only [VR] at hx;obtain ⟨a,len,cap,rfl,h1,h2,-,h4⟩:=hx;cases a with
           | none=>exact one (as:=.frz [] .nl :: l) (by rw [hvl]; simp only [VRs,VR]; exact ⟨⟨none,len,cap,rfl,h1,h2,rfl,.inl trivial⟩,hxs⟩) q1
           | some a=>exact one (as:=.frz [] .nn :: l) (by rw [hvl]; simp only [VRs,VR]; exact ⟨⟨some a,len,cap,rfl,h1,h2,rfl,.inl trivial⟩,hxs⟩) q2
         ·simp at ho
        ·exact one hv' ho
       ·exact one hv' ho
      ·simp at h
     ·split at h
      ·rename_i r' st ho;simp only [Ba,Cf] at h;obtain ⟨rfl,rfl,rfl,rfl⟩:=h;refine Calls.mono (Qt hc (Ub k) hd (k:=k) hf hb hs hv ho) ?_;rintro e w' ⟨v,C',rfl,rfl,hle,hs',e1,e2,e3,h2⟩;have h3:=Aav hs' C.S.length h2;rw [e1] at h3;exact ⟨v,{ C' with S:=C'.S.take C.S.length },rfl,rfl,hle.trans (Le.take _),hs'.take _,by rw [<- e1],e2,e3,by rw [e1]; exact h3⟩
      ·simp at h
   ·simp at h
  ·simp at h
end
end
end Go.Proofs.YthelkgdmgihhiaaGreat
