/- Part 7. -/
import Derived.Test.YtcandeobhlfkbaaGreatZF6
import Derived.Orders
import Derived.Scope
open Array renaming getElem?_eq_some_iff->Cj,getElem?_eq_getElem->Cy,getD_eq_getD_getElem?->Et,length_toList->Ih,getD->Ip,replicate->Sc,getElem?_setIfInBounds->Sx,toList_inj->fO,ext'->gS,getElem?_push->iK
open Bool renaming and_eq_true->Ch,false_eq_true->C8,or_eq_false_iff->Fe,not_eq_true'->Ir,false_or->I1
open Go.Addr renaming add->iB
open Go.Builtin renaming append_->Oa,zeroCells->Oe
open Go.Calls renaming mono->iU
open Go.Instr renaming sureAddr->O5,loadAt->gH
open Go.Obj renaming cells->gP
open Go.Obj.cells renaming injEq->iF
open Go.Region renaming wanted->F5
open Go.Result renaming andThen_ok->Ev
open Go.RowKit.Below renaming refl->C5,cell->iR
open Go.Sem renaming run_bind->Fj,run_pure->It
open Go.Value renaming int->Sl
open Go.World renaming cell?->Fz
open List renaming replicate->Ci,mem_cons->Cn,map_cons->Cp,length_append->Cs,getElem?_append_left->Ct,length_nil->Cu,all_eq_true->Cv,nil_append->Cw,mem_append->C4,range->De,take_of_length_le->Fc,map_nil->Fi,eq_nil_of_length_eq_zero->Fm,length_map->Fq,getElem?_eq_some_iff->Fu,take_succ_cons->F1,mem_map->F9,take_length->Gl,mem_of_getElem?->Ik,getElem?_take_of_lt->Io,getElem?_take->Iu,length_take->Ix,replicate_succ->Lg,take_append_of_le_length->L1,getElem?_toArray->O6,foldl_cons->Sa,mem_range->Sn,getElem?_drop->Sq,mem_flatten->fN,drop_append->fP,all_cons->fU,take_take->iV
open Nat renaming le_refl->Cc,zero_le->Co,le_trans->Fb,lt_of_lt_of_le->Ff,zero_add->Fg,lt_or_ge->F3,mul_le_mul_right->Ic,lt_succ_self->Iy,le_add_right->Om,mul_le_mul->Ov,strongRecOn->Oy,add_mul->Sg,le_of_not_lt->Zc,le_succ->iC
open Option renaming map_eq_some_iff->Ca,isNone_iff_eq_none->Ia,bind_some->I7,getD_some->fQ
open Option.some renaming injEq->A2
open Prod.mk renaming injEq->Cg
namespace Go.Proofs.YtcandeobhlfkbaaGreat
section
open Go.RowKit
section
variable {P:Program} {ops:Array Oper}
theorem B2 {listed:Array Bool} {i:Nat} (h:i ∈ Region.ready .any ops listed):listed.getD i true=false/\∃ o,ops[i]?=some o/\∀ e ∈ depsOf ops i,listed.getD e false=true:=by
 exact Ya03
theorem N4 {listed:Array Bool} {i:Nat} {o:Oper} (h0:listed.getD i true=false) (ho:ops[i]?=some o) (hd:∀ e ∈ depsOf ops i,listed.getD e false=true):i ∈ Region.ready .any ops listed:=by
 refine mem_ready.2 ⟨h0,o,ho,fun e he hb=>hd _ ?_⟩;exact Yap
theorem Br {listed:Array Bool} (hc:∀ j,listed.getD j false=true->∀ e ∈ depsOf ops j,listed.getD e false=true) {i:Nat} (hd:∀ e ∈ depsOf ops i,listed.getD e false=true) :
  ∀ e ∈ reachAt ops i,listed.getD e false=true:=by
 exact Yag
theorem Aq6 {o:Oper} {a:Act} {w:World} {K:Act->World->Prop} {Q Q':Exit->Act->World->Prop} (hp:∀ c a w,Q (.panic c) a w->Q' (.panic c) a w) (hl:LetsOut Q->LetsOut Q') (hh:o.wp P a w K Q):o.wp P a w K Q':=by
 unfold Oper.wp at *;generalize (execOp a.eval o).run P w=r at *;cases r with
 | ok n w' =>
  cases n <;> simp only [Oper.upon] at hh ⊢ <;>
   first
    | exact hh
    | exact iU hh (fun e w'' he=>by cases e <;> first|exact he|exact hp _ _ _ he|exact hl he)
    | exact Rows.mono hh (fun _ _ he=>he)
 | halt x w'=>cases x <;> simp only [Oper.upon] at hh ⊢ <;> first|exact hh|exact hp _ _ _ hh|exact hl hh
def Alb (P:Program) (o:Oper) (Q:Exit->Act->World->Prop):Exit->Act->World->Prop
 | .normal=>fun a w=>o.wp P a w (fun a' w'=>Q .normal a' w') Q
 | ex=>Q ex
theorem G4 {listed:Array Bool} {j:Nat} {d:Bool} (h:j<listed.size):(listed.push false).getD j d=listed.getD j d:=by
 simp [Et,iK,Nat.ne_of_lt h]
theorem Xp {listed:Array Bool} {d:Bool} : (listed.push false).getD listed.size d=false:=by
 simp [Et,iK]
theorem We {init:Array Oper} {o:Oper} {Q:Exit->Act->World->Prop} (hg:o.guard=none) (ev:∀ j,j<init.size->j ∈ reachAt (init.push o) init.size) (dq:∀ e ∈ depsOf (init.push o) init.size,e<init.size)
  (ul:∀ i o',init[i]?=some o'->(∀ e ∈ depsOf init i,e<i)/\∀ g w,o'.guard=some (g,w)->g<init.size) :
  ∀ (fuel:Nat) (listed:Array Bool) (a:Act) (w:World),listed.size=init.size->(∀ j,listed.getD j false=true->∀ e ∈ depsOf init j,listed.getD e false=true) ->
   wpAny P .any init (Alb P o Q) fuel listed a w->wpAny P .any (init.push o) Q (fuel+1) (listed.push false) a w:=by
 have ek:∀ i,i<init.size->(init.push o)[i]?=init[i]?:=fun i hi=>by rw [iK,if_neg aA]
 have ik:(init.push o)[init.size]?=some o:=by simp
 have y7:∀ i,i<init.size->depsOf (init.push o) i=depsOf init i:=fun i hi=>by unfold depsOf; rw [ek i hi]
 have gb:∀ (listed:Array Bool),listed.size=init.size->∀ i,i<init.size->(i ∈ Region.ready .any (init.push o) (listed.push false)↔i ∈ Region.ready .any init listed):=by
  intro listed jl i hi;constructor
  ·intro h;obtain ⟨h0,o',dx,hd⟩:=B2 h;rw [G4 aA] at h0;rw [ek i hi] at dx;rw [y7 i hi] at hd;refine N4 h0 dx fun e he=>?_;have:=hd e he;have hlt:=(ul i o' dx).1 e he;rwa [G4 aA] at this
  ·intro h;obtain ⟨h0,o',dx,hd⟩:=B2 h;refine N4 (by rw [G4 aA]; exact h0) (by rw [ek i hi]; exact dx) fun e he=>?_;rw [y7 i hi] at he;have hlt:=(ul i o' dx).1 e he;rw [G4 aA]; exact hd e he
 have hnone:∀ (listed:Array Bool),listed.size=init.size->Region.ready .any init listed=[]->∀ j,j<init.size->listed.getD j false=true:=by
  intro listed jl cw j;induction j using Oy with
  | _ j ihj =>
   intro hj;cases hl:listed.getD j false with
   | true=>rfl
   | false =>
    exfalso;have:j ∈ Region.ready .any init listed:=by
     refine N4 ?_ (Cy hj) fun e he=>?_
     ·have fu:j<listed.size:=aA
      simpa [Ip,fu] using hl
     ·have:=(ul j _ (Cy hj)).1 e he;exact ihj e this aA
    rw [cw] at this; simp at this
 have ya:∀ (listed:Array Bool),listed.size=init.size->(∀ j,listed.getD j false=true->∀ e ∈ depsOf init j,listed.getD e false=true)->init.size ∈ Region.ready .any (init.push o) (listed.push false)->Region.ready .any init listed=[]:=by
  intro listed jl hcl h;obtain ⟨-,o',-,hd⟩:=B2 h;have hc2:∀ j,(listed.push false).getD j false=true->∀ e ∈ depsOf (init.push o) j,(listed.push false).getD e false=true:=by
   intro j hj e he;by_cases hjn:j<init.size
   ·rw [G4 aA] at hj;rw [y7 j hjn] at he;have hlt:=(ul j _ (Cy hjn)).1 e he;rw [G4 aA]; exact hcl j hj e he
   ·exfalso;by_cases sv:j=init.size
    ·rw [sv,<- jl,Xp] at hj; cases hj
    ·rw [Et,Array.getElem?_eq_none aB] at hj; cases hj
  have aw:∀ j,j<init.size->listed.getD j false=true:=fun j hj=>by
   have:=Br hc2 hd j (ev j hj);rwa [G4 aA] at this
  cases hr:Region.ready .any init listed with
  | nil=>rfl
  | cons x l =>
   have hx:x ∈ Region.ready .any init listed:=by rw [hr]; simp
   obtain ⟨h0,o',dx,-⟩:=B2 hx;have hxl:=(Cj.1 dx).1;have h1:=aw x hxl;exact Ya2l
 have un:∀ (fuel:Nat) (listed:Array Bool) (a:Act) (w:World),listed.size=init.size->(∀ j,j<init.size->listed.getD j false=true)->Alb P o Q .normal a w ->
   wpOp P (init.push o) Q init.size (wpAny P .any (init.push o) Q fuel ((listed.push false).setIfInBounds init.size true)) a w:=by
  intro fuel listed a w jl aw h;have cw:Region.ready .any (init.push o) ((listed.push false).setIfInBounds init.size true)=[]:=by
   cases hr:Region.ready .any (init.push o) ((listed.push false).setIfInBounds init.size true) with
   | nil=>rfl
   | cons x l =>
    exfalso;have hx:x ∈ Region.ready .any (init.push o) ((listed.push false).setIfInBounds init.size true):=by rw [hr]; simp
    obtain ⟨h0,o',dx,-⟩:=B2 hx;have hxl:=(Cj.1 dx).1;rw [Array.size_push] at hxl;rw [Et,Sx] at h0;split at h0
    ·split at h0
     ·cases h0
     ·rename_i h1 h2; exact h2 aB
    ·have h1:=aw x aA;rw [<- Et,G4 aA] at h0;exact Ya2l
  unfold wpOp;rw [ik];simp only;have hw:F5 o (yielded (init.push o) a.tmps)=true:=by unfold F5; rw [hg]
  rw [if_pos hw];left;refine Oper.wp_mono (fun a' w' hq=>?_) h;cases fuel with
  | zero=>exact ⟨cw,hq⟩
  | succ fuel=>exact ⟨fun _=>hq,fun i hi=>by rw [cw] at hi; simp at hi⟩
 intro fuel;induction fuel with
 | zero =>
  intro listed a w jl hcl h;obtain ⟨cw,hq⟩:=h;have aw:=hnone listed jl cw;have fv:init.size ∈ Region.ready .any (init.push o) (listed.push false):=by
   exact Ya2c
  refine ⟨fun hn=>by rw [hn] at fv; simp at fv,fun i hi=>?_⟩;by_cases uo:i<init.size
  ·rw [gb listed jl i uo,cw] at hi; simp at hi
  ·have fh:i=init.size:=by
    exact Ya1c
   subst fh;exact un 0 listed a w jl aw hq
 | succ fuel ih =>
  intro listed a w jl hcl h;obtain ⟨h1,h2⟩:=h;refine ⟨fun hn=>?_,fun i hi=>?_⟩
  ·exfalso;have cw:Region.ready .any init listed=[]:=by
    cases hr:Region.ready .any init listed with
    | nil=>rfl
    | cons x l =>
     have hx:x ∈ Region.ready .any init listed:=by rw [hr]; simp
     obtain ⟨-,o',dx,-⟩:=B2 hx;have:=(gb listed jl x (Cj.1 dx).1).2 hx;rw [hn] at this; simp at this
   have aw:=hnone listed jl cw;have fv:init.size ∈ Region.ready .any (init.push o) (listed.push false):=by
    exact Ya2c
   rw [hn] at fv; simp at fv
  ·by_cases uo:i<init.size
   ·have aq:=(gb listed jl i uo).1 hi;have h3:=h2 i aq;obtain ⟨h0,o',dx,hd⟩:=B2 aq;have am:(listed.push false).setIfInBounds i true=(listed.setIfInBounds i true).push false:=by
     apply gS;simp [List.set_append,jl,uo]
    have uq:∀ j,(listed.setIfInBounds i true).getD j false=true->∀ e ∈ depsOf init j,(listed.setIfInBounds i true).getD e false=true:=by
     intro j hj e he;have hup:∀ e,listed.getD e false=true->(listed.setIfInBounds i true).getD e false=true:=fun e he=>by
      rw [Et,Sx];split
      ·rw [if_pos (by rename_i h; omega)]; rfl
      ·rw [<- Et]; exact he
     by_cases hji:j=i
     ·subst hji; exact hup e (hd e he)
     ·refine hup e (hcl j ?_ e he);rw [Et,Sx,if_neg (fun h=>hji h.symm),<- Et] at hj;exact hj
    have hk:∀ a' w',wpAny P .any init (Alb P o Q) fuel (listed.setIfInBounds i true) a' w'->wpAny P .any (init.push o) Q (fuel+1) ((listed.push false).setIfInBounds i true) a' w':=fun a' w' h=>by
     rw [am]; exact ih _ a' w' (by simpa using jl) uq h
    unfold wpOp at h3 ⊢;rw [ek i uo];rw [dx] at h3 ⊢;simp only at h3 ⊢;have hy:F5 o' (yielded (init.push o) a.tmps)=F5 o' (yielded init a.tmps):=by
     unfold F5;cases hgd:o'.guard with
     | none=>rfl
     | some x =>
      obtain ⟨g,b⟩:=x;have hgl:=(ul i o' dx).2 g b hgd;simp only [yielded,ek g hgl]
    rw [hy];split
    ·rename_i hw;rw [if_pos hw] at h3;rcases h3 with h3|⟨h3,h4⟩
     ·exact .inl (Oper.wp_mono hk (Aq6 (fun c a w h=>h) (fun ⟨a,w,h⟩=>⟨a,w,h⟩) h3))
     ·exact .inr ⟨h3,let ⟨a,w,h⟩:=h4; ⟨a,w,h⟩⟩
    ·rename_i hw;rw [if_neg hw] at h3;exact hk _ _ h3
   ·have fh:i=init.size:=by
     exact Ya1c
    subst fh;have cw:=ya listed jl hcl hi;exact un (fuel+1) listed a w jl (hnone listed jl cw) (h1 cw)
end
section
variable {P:Program}
theorem Af3 {C:Cx} {sz m:Nat} {y:AV} {ys:List AV} {vy:Value} (hy:VR C y vy) (h:litC sz y=some (m,ys)) (h0:0<m) (hs:0<sz) :
  ∃ b o cap vs,vy=.slice (some ⟨b,o,none⟩) m cap/\VRs C ys vs/\vs.length=m*sz/\Lie C.w C.Avoid b o vs/\(∀ v ∈ vs,v.oneCell'=true):=by
 unfold litC at h;split at h
 ·rename_i es c;split at h
  ·rename_i hh;simp only [A2,Cg] at h;obtain ⟨rfl,rfl⟩:=h;simp only [VR] at hy;obtain ⟨a,len,cap,rfl,e1,e2,e3,e4⟩:=hy;rcases e4 with rfl|⟨b,o,sz',rfl,hr⟩
   ·simp at h0
   ·have hne:es≠[]:=by intro e; subst e; simp at h0
    have:=M7 hr hh.1 hne;subst this;obtain ⟨l,g1,g2,g3⟩:=Gy hr;exact ⟨b,o,cap,l,by rw [e1],Jk g2,g1,g3,V6 g2⟩
  ·simp at h
 ·rename_i len cs;split at h
  ·rename_i hh;simp only [A2,Cg] at h;obtain ⟨rfl,rfl⟩:=h;simp only [VR] at hy;obtain ⟨b,vs,rfl,hl,hv⟩:=hy;have:=A3 hv;exact ⟨b,0,len,vs,rfl,hv,aA,hl,Nm hv hh.2⟩
  ·simp at h
 ·simp at h
def Cx.turn (C:Cx) (w:World) (id b:Nat) (cs:List AV):Cx:={ C with w:=w,φ:=fun i=>if i=id then b else C.φ i,S:=put C.S id ⟨C.n,cs⟩,n:=C.n+1 }
theorem Ae7 {C:Cx} {w:World} {id b:Nat} {cs:List AV} {x o:Nat} (hm:(C.turn w id b cs).Mut x o):C.Mut x o\/x=b:=by
 rcases hm with ⟨i,hi,e⟩|h
 ·simp only [Cx.turn,Ao] at hi e;split at e
  ·exact .inr e.symm
  ·exact .inl (.inl ⟨i,hi,e⟩)
 ·exact .inl (.inr h)
theorem Le.turn {C:Cx} {w:World} {id b:Nat} {cs:List AV} (hid:id<C.S.length) (hb:b=C.φ id\/C.w.heap.size<=b) (hos:w.os=C.w.os) (uc:w.tape=C.w.tape) (me:w.output=C.w.output) (ud:C.w.heap.size<=w.heap.size)
  (hcell:∀ x o v,C.w.cell? ⟨x,o,none⟩=some v->¬ C.Mut x o->w.cell? ⟨x,o,none⟩=some v) (ue:∀ x,x<C.w.heap.size->(∀ o,¬ C.Mut x o)->w.heap[x]?=C.w.heap[x]?)
  (pw:∀ (b:Nat) (cs:Array Value) (t:TypeId) (fz:Nat × Nat),C.w.heap[b]?=some (gP cs t fz)->∃ cs':Array Value,w.heap[b]?=some (gP cs' t fz)/\cs'.size=cs.size):Le C (C.turn w id b cs):=by
 refine ⟨hos,uc,me,ud,rfl,iC _,fun x o hx hm=>?_,hcell,ue,pw,fun i e he hn=>?_,fun _ k hk=>⟨k,hk,Cc _,fun _=>rfl⟩⟩
 ·rcases Ae7 hm with h|rfl
  ·exact h
  ·rcases hb with rfl|hb
   ·exact .inl ⟨id,hid,rfl⟩
   ·omega
 ·by_cases h:id=i
  ·subst h;have:=D8 he;subst this;simp at hn
  ·simp only [Cx.turn] at he ⊢;rw [Ad h] at he;exact ⟨e,he,rfl,by rw [if_neg (fun x=>h x.symm)]⟩
theorem SR.turn [Globs] {C:Cx} (hsr:SR C) {w:World} {id b:Nat} {cs:List AV} {arr:Array Value} {t:TypeId} (hid:id<C.S.length) (hb:b=C.φ id\/C.w.heap.size<=b) (hle:Le C (C.turn w id b cs)) (ee:w.heap[b]?=some (.cells arr t (0,0)))
  (uf:∀ i,i<C.S.length->i≠id->w.heap[C.φ i]?=C.w.heap[C.φ i]?) (hv:∃ vs r,arr.toList=vs++r/\VRs C cs vs):SR (C.turn w id b cs):=by
 have hne:∀ i,i<C.S.length->i≠id->C.φ i≠b:=fun i hi h e=>by
  rcases hb with hb|hb
  ·exact h (hsr.ne i id hi hid (by rw [e,hb]))
  ·have:=Ny hsr hi; omega
 refine ⟨fun i x hx=>?_,fun i j hi hj h=>?_,hsr.tok,fun i j o hi hj h h1 h2=>?_,fun x o hm=>?_,fun x o ha=>Ff (hsr.avlt x o ha) hle.size,fun i o hi h1 h2=>Ff (hsr.tlt i o hi h1 h2) hle.size,Pg hsr hle⟩
 ·by_cases h:id=i
  ·subst h;have:=D8 hx;subst this;obtain ⟨vs,r,hv1,hv2⟩:=hv;exact ⟨Iy _,arr,t,by simp only [Cx.turn,if_true]; exact ee,vs,r,hv1,VRs.mono hle _ _ hv2⟩
  ·have hx':nth C.S i=some x:=by simp only [Cx.turn] at hx; rw [<- Ad h]; exact hx
   obtain ⟨h1,a',t',h2,vs,r,hvr,h3⟩:=hsr.ent i x hx';refine ⟨Nat.lt_succ_of_lt h1,a',t',?_,vs,r,hvr,VRs.mono hle _ _ h3⟩;simp only [Cx.turn];rw [if_neg (fun e=>h e.symm),uf i (Bh hx') (fun e=>h e.symm)]; exact h2
 ·simp only [Cx.turn,Ao] at hi hj h;by_cases aq:i=id <;> by_cases dv:j=id
  ·omega
  ·rw [if_pos aq,if_neg dv] at h;exact absurd h.symm (hne j hj dv)
  ·rw [if_neg aq,if_pos dv] at h;exact absurd h (hne i hi aq)
  ·rw [if_neg aq,if_neg dv] at h;exact hsr.ne i j hi hj h
 ·simp only [Cx.turn,Ao] at hi h hj h1 h2;by_cases aq:i=id
  ·rw [if_pos aq] at h;rcases hb with rfl|hb
   ·exact hsr.apart id j o hid hj h h1 h2
   ·have:=hsr.tlt j o hj h1 h2; omega
  ·rw [if_neg aq] at h;exact hsr.apart i j o hi hj h h1 h2
 ·rcases Ae7 hm with h|rfl
  ·exact hsr.own x o h
  ·rcases hb with rfl|hb
   ·exact hsr.own _ o (.inl ⟨id,hid,rfl⟩)
   ·intro ha;have:=hsr.avlt _ o ha; omega
theorem Ahu [Globs] {C:Cx} (hsr:SR C) {t ty:TypeId} {x y av:AV} {vx vy:Value} {S':List Ent} {n':Nat} (hx:VR C x vx) (hy:VR C y vy) (h:apO P t x y C.S C.n=some (av,S',n')) :
  ∃ v C',(Oa #[t,t] ty #[vx,vy]).run P C.w=.ok v C'.w/\Le C C'/\SR C'/\C'.S=S'/\C'.tk=C.tk/\C'.n=n'/\VR C' av v:=by
 unfold apO at h;split at h;case h_2=>simp at h
 rename_i sz hT;split at h;case h_2=>simp at h
 rename_i m ys hL;split at h;case isFalse=>simp at h
 rename_i hm;obtain ⟨co,hmr⟩:=hm;simp only [roomy,decide_eq_true_eq] at hmr;obtain ⟨e,i,z,hu,hi,hz,hsz,hpos,sd,hby,-⟩:=Wf hT;obtain ⟨b2,o2,cap2,news,rfl,az,b8,xu,hone⟩:=Af3 hy hL co hpos;have fy:∀ (j:Nat) u,news[j]?=some u->C.w.cell? (iB ⟨b2,o2,none⟩ j)=some u:=fun j u hj=>by rw [Du]; exact (Kf xu j u hj).1
 unfold apO2 at h;split at h
 ·simp only [A2,Cg] at h;obtain ⟨rfl,rfl,rfl⟩:=h;simp only [VR] at hx;obtain ⟨a,len,cap,rfl,hlen,hcap,hC,hE⟩:=hx;obtain ⟨rfl,hcl⟩:a=none/\cap=len:=hC;simp only [Cu] at hlen;subst hlen;subst hcl;have eo:m*i.bytes<=140737488355328:=by
   have:m*i.bytes<=1048576*1048576:=Ov hmr hby
   omega
  have hrun:=run_append_nil (P:=P) C.w t ty e i z hu hi hz ⟨b2,o2,none⟩ m cap2 news cV fy aA aA aA;generalize hA:(news.toArray++Oe z.cells (grownCap C.w m 0 e - m))=arr at hrun;have f9:=grownCap_ge C.w m 0 e;have a1t:arr.size=grownCap C.w m 0 e*sz:=by
   rw [<- hA];simp only [Array.size_append,List.size_toArray,size_zeroCells,sd,b8];rw [Nat.sub_mul];have:=Ic sz f9;omega
  have hd:Below C.w.heap.size C.w C.w.drew:=(C5 _ _).drew;have a1b:SR (C.at C.w.drew):=SR.of_below hsr hd;have hv:∃ vs r,arr.toList=vs++r/\VRs (C.at C.w.drew) ys vs:=⟨news,(Oe z.cells (grownCap C.w m 0 e - m)).toList,by rw [<- hA]; simp,VRs.mono (Le.of_below hd) _ _ az⟩;refine ⟨_,(C.at C.w.drew).more arr e ys,hrun,(Le.of_below hd).trans (Le.more a1b _ _ _),SR.moreP a1b hv,rfl,rfl,rfl,?_⟩;simp only [VR];refine ⟨C.w.heap.size,_,_,rfl,f9,.inr rfl,Iy _,fun e' p7 md=>⟨?_,arr,e,?_,aA⟩⟩
  ·simp [Cx.more,Cx.at]
  ·exact An C.w.drew _
 ·rename_i id ep len sz';split at h;case isFalse=>simp at h
  rename_i hh;obtain ⟨rfl,ie⟩:=hh;split at h;case h_2=>simp at h
  rename_i cs jg;split at h;case isFalse=>simp at h
  rename_i hh;obtain ⟨hcl,bh⟩:=hh;simp only [roomy,decide_eq_true_eq] at bh;simp only [A2,Cg] at h;obtain ⟨rfl,rfl,rfl⟩:=h;obtain ⟨en,h1,h2,rfl⟩:=Dz jg;simp only [VR] at hx;obtain ⟨b,a,cap,rfl,hcap,ha,hn,hb⟩:=hx;obtain rfl:=ha.resolve_left aA;obtain ⟨rfl,arr,tt,h3,ag⟩:=hb en h1 h2;obtain ⟨-,arr',tt',h3',olds,r,hor,il⟩:=hsr.ent id en h1;rw [h3] at h3';simp only [A2,iF] at h3';obtain ⟨rfl,rfl,-⟩:=h3';have dm:=Bh h1;have pb:=A3 il;have a1t:arr.size=olds.length+r.length:=by rw [<- Ih,hor,Cs]
  have jj:len*sz'+m*sz'=(len+m)*sz':=(Sg _ _ _).symm;have y8:VRs C (en.cells++ys) (olds++news):=Gz il az;by_cases dw:len+m<=cap
  ·have tz:(len+m)*sz'<=cap*sz':=Ic _ dw;have hrun:=Ki (P:=P) C.w t ty e i hu hi (C.φ id) len cap tt arr h3 ⟨b2,o2,none⟩ m cap2 news cV fy hone dw (by rw [hsz,b8]; omega);rw [hsz] at hrun;generalize hA:(arr.toList.take (len*sz')++news++arr.toList.drop (len*sz'+news.length)).toArray=arr1 at hrun;have jz:arr1.size=arr.size:=by rw [<- hA]; simp; omega
   have jx:arr.toList.take (len*sz')=olds:=by rw [hor,L1 aA,Fc aA]
   have hv:∃ vs r,arr1.toList=vs++r/\VRs C (en.cells++ys) vs:=⟨olds++news,arr.toList.drop (len*sz'+news.length),by rw [<- hA,jx],y8⟩;have tx:(C.w.setRow (C.φ id) arr1).heap[C.φ id]?=some (.cells arr1 tt (0,0)):=setRow_heap _ _ _ _ _ _ h3;have hle:Le C (C.turn (C.w.setRow (C.φ id) arr1) id (C.φ id) (en.cells++ys)):=by
    have hm:∀ o,C.Mut (C.φ id) o:=fun o=>.inl ⟨id,dm,rfl⟩;refine Le.turn dm (.inl rfl) rfl rfl rfl (by simp) (fun x o v hv hn=>?_) (fun x _ hn=>?_) (fun x d t' fz hd=>?_)
    ·have hne:x≠C.φ id:=fun h=>hn (h ▸ hm o);have:=setRow_other C.w (C.φ id) x arr1 hne;simpa [Fz,this] using hv
    ·exact setRow_other C.w (C.φ id) x arr1 fun h=>hn 0 (h ▸ hm 0)
    ·by_cases h:x=C.φ id
     ·subst h;rw [h3] at hd;simp only [A2,iF] at hd;obtain ⟨rfl,rfl,rfl⟩:=hd;exact ⟨arr1,tx,jz⟩
     ·exact ⟨d,Za3u,rfl⟩
   refine ⟨_,_,hrun,hle,SR.turn hsr dm (.inl rfl) hle tx (fun i hi hne=>setRow_other _ _ _ _ fun h=>hne (hsr.ne i id hi dm h)) hv,rfl,rfl,rfl,?_⟩;simp only [VR];refine ⟨C.φ id,_,_,rfl,dw,.inr rfl,Iy _,fun e' p7 md=>⟨by simp [Cx.turn],arr1,tt,tx,aA⟩⟩
  ·have ft:cap<len+m:=aA
   have eo:(len+m)*i.bytes<=140737488355328:=by
    have:(len+m)*i.bytes<=1048576*1048576:=Ov bh hby
    omega
   have hcells:∀ (j:Nat) v,olds[j]?=some v->C.w.cell? (iB ⟨C.φ id,0,none⟩ j)=some v:=fun j v hj=>by
    rw [Du,Fg];have:arr.toList[j]?=some v:=by rw [hor,Ct (Fu.1 hj).1]; exact hj
    simp [Fz,h3]; simpa using this
   have hrun:=run_append_grow (P:=P) C.w t ty e i z hu hi hz ⟨C.φ id,0,none⟩ len cap olds (by rw [hsz]; omega) hcells ⟨b2,o2,none⟩ m cap2 news cV fy ft aA (growslice_fits ft eo);generalize hA:(olds.toArray++news.toArray++Oe z.cells (grownCap C.w (len+m) cap e - (len+m)))=arr1 at hrun;have f9:=grownCap_ge C.w (len+m) cap e;have a2q:arr1.size=grownCap C.w (len+m) cap e*sz':=by
    rw [<- hA];simp only [Array.size_append,List.size_toArray,size_zeroCells,sd,b8];rw [Nat.sub_mul];have:=Ic sz' f9;omega
   have hbel:Below C.w.heap.size C.w (C.w.drew.alloc (.cells arr1 e)):=((C5 _ _).drew).alloc (by simp) _;have tx:(C.w.drew.alloc (.cells arr1 e)).heap[C.w.heap.size]?=some (.cells arr1 e (0,0)):=An C.w.drew _;have hle:Le C (C.turn (C.w.drew.alloc (.cells arr1 e)) id C.w.heap.size (en.cells++ys)) :=
    Le.turn dm (.inr (Cc _)) hbel.os hbel.tape hbel.output hbel.size (fun x o v hv _=>Za3n) (fun x hx _=>hbel.block x hx) (fun x d t' fz hd=>⟨d,Di hbel hd,rfl⟩)
   have hv:∃ vs r,arr1.toList=vs++r/\VRs C (en.cells++ys) vs:=⟨olds++news,(Oe z.cells (grownCap C.w (len+m) cap e - (len+m))).toList,by rw [<- hA]; simp,y8⟩;refine ⟨_,_,hrun,hle,SR.turn hsr dm (.inr (Cc _)) hle tx (fun i hi _=>hbel.block _ (Ny hsr hi)) hv,rfl,rfl,rfl,?_⟩;simp only [VR];refine ⟨C.w.heap.size,_,_,rfl,f9,.inr rfl,Iy _,fun e' p7 md=>⟨by simp [Cx.turn],arr1,e,tx,aA⟩⟩
 ·simp at h
end
section
variable {P:Program}
theorem Le.take {C:Cx} (k:Nat):Le C { C with S:=C.S.take k }:=by
 refine ⟨rfl,rfl,rfl,Cc _,rfl,Cc _,?_,fun _ _ _ h _=>h,fun _ _ _=>rfl,fun _ cs _ _ h=>⟨cs,h,rfl⟩,?_,fun _ q h=>⟨q,h,Cc _,fun _=>rfl⟩⟩
 ·rintro b o - (⟨i,hi,h⟩|h)
  ·exact .inl ⟨i,cB,h⟩
  ·exact .inr h
 ·intro i e h _;rw [Ae,Iu] at h;split at h
  ·exact ⟨e,by rw [Ae]; exact h,rfl,rfl⟩
  ·simp at h
theorem SR.take [Globs] {C:Cx} (hs:SR C) (k:Nat):SR { C with S:=C.S.take k }:=by
 have hle:=Le.take (C:=C) k;refine ⟨fun i e h=>?_,fun i j hi hj h=>hs.ne i j cB (by simp at hj; omega) h,hs.tok,fun i j o hi=>hs.apart i j o cB,?_,hs.avlt,hs.tlt,Pg hs hle⟩
 ·rw [Ae,Iu] at h;split at h
  ·obtain ⟨h1,cs,t,h2,vs,r,hvr,h3⟩:=hs.ent i e (by rw [Ae]; exact h);exact ⟨h1,cs,t,h2,vs,r,hvr,VRs.mono hle _ _ h3⟩
  ·simp at h
 ·rintro b o (⟨i,hi,h⟩|h)
  ·exact hs.own b o (.inl ⟨i,cB,h⟩)
  ·exact hs.own b o (.inr h)
def Kd [Globs] (P:Program) (call:B8):Prop :=
 ∀ f args S tk n r S' tk' n', call f args S tk n = some (r, S', tk', n') → (∃ fn, P.funcs[f]? = some fn ∧ (fn.name == "runtime.NumGoroutine") = false ∧ fn.body.isNone = false) ∧
  ∀ (C:Cx) (vs:Array Value),C.S=S->C.tk=tk->C.n=n->SR C->VRs C args vs.toList ->
   Calls P f vs C.w fun e w'=>∃ v C',e=.returned v/\C'.w=w'/\Le C C'/\SR C'/\C'.S=S'/\C'.tk=tk'/\C'.n=n'/\VR C' r v
theorem Gh {o:Oper} {a:Act} {w w':World} {v:Value} {next:Act->World->Prop} {Q:Exit->Act->World->Prop} (h:(execOp a.eval o).run P w=.ok (.value v) w') (hn:next (a.put o.dst v) w'):o.wp P a w next Q:=by
 unfold Oper.wp; rw [h]; exact hn
theorem G8 [Globs] {call:B8} (hc:Kd P call) {C:Cx} {st st':St} {a:Act} {o:Oper} {av:AV} (hr:Rel C st a) (h:evO P call o st=some (av,st')) {next:Act->World->Prop} {Q:Exit->Act->World->Prop}
  (hn:∀ v C',Le C C'->SR C'->C'.S=st'.S->C'.tk=st'.tk->C'.n=st'.n->VR C' av v->next (a.put o.dst v) C'.w):o.wp P a C.w next Q/\st'.T=st.T:=by
 have hρ:=Ac5 hr.tmps;have quiet:∀ av',evQ P o (opv st.T)=some av'->(av',st)=(av,st')->o.wp P a C.w next Q/\st'.T=st.T:=by
  intro av' hq e;simp only [Cg] at e;obtain ⟨rfl,rfl⟩:=e;obtain ⟨v,w',h1,h2,h3⟩:=Ai1 hr.sr hρ hq;exact ⟨Gh h1 (hn v (C.at w') (Le.of_below h2) (SR.of_below hr.sr h2) hr.S hr.tk hr.n h3),rfl⟩
 unfold evO at h;split at h
 ·rename_i t x e;simp only [Ca,Cg] at h;obtain ⟨v,h,rfl,rfl⟩:=h;rw [<- hr.S] at h;obtain ⟨u,h1,h2⟩:=Z4 hr.sr (hρ x) h;exact ⟨Gh (v:=u) (w':=C.w) (by simp [execOp,e,h1]) (hn u C (Le.refl C) hr.sr hr.S hr.tk hr.n h2),rfl⟩
 ·rename_i t x y e;simp only [Ca,Cg] at h;obtain ⟨S',h,rfl,rfl⟩:=h;rw [<- hr.S] at h;obtain ⟨C',h1,h2,h3,h4,h5,h6⟩:=Ak5 hr.sr (hρ x) (hρ y) h;refine ⟨?_,rfl⟩;unfold Oper.wp;have:(execOp a.eval o).run P C.w=.ok .skip C'.w:=by simp [execOp,e,h1]
  rw [this];exact hn undef C' h2 h3 h4 (h5.trans hr.tk) (h6.trans hr.n) bM
 ·rename_i t e;simp only [Ca,Cg] at h;obtain ⟨cs,h,rfl,rfl⟩:=h;obtain ⟨zv,h1,rfl⟩:=Jw (w:=C.w) h;refine ⟨Gh (v:=.pointer (some ⟨C.w.heap.size,0,none⟩)) (w':=C.w.alloc (.cells zv.cells t)) ?_ ?_,rfl⟩
  ·simp only [execOp,e,Instr.alloc,Fj,h1,Ev,newVar,Ho,It]
  ·have:=hn (.pointer (some ⟨C.w.heap.size,0,none⟩)) (C.more zv.cells t (zv.cells.toList.map cst1)) (Le.more hr.sr _ _ _) (SR.more hr.sr (H5 _)) Za3h hr.tk Za4f (by rw [<- hr.S,<- hr.n]; exact Aoj);exact this
 ·rename_i t x e;simp only [Ca,Cg] at h;obtain ⟨cs,h,rfl,rfl⟩:=h;have hv:=Gr h (hρ x);refine ⟨Gh (v:=.pointer (some ⟨C.w.heap.size,0,none⟩)) (w':=C.w.alloc (.cells (a.eval x).cells t)) ?_ ?_,rfl⟩
  ·simp only [execOp,e,Instr.box,Fj,Ev,newVar,Ho,It]
  ·have:=hn (.pointer (some ⟨C.w.heap.size,0,none⟩)) (C.more (a.eval x).cells t cs) (Le.more hr.sr _ _ _) (SR.more hr.sr hv) Za3h hr.tk Za4f (by rw [<- hr.S,<- hr.n]; exact Aoj);exact this
 ·rename_i t l c e;simp only [Ca,Prod.exists] at h;obtain ⟨l',sz,cs,h,hh⟩:=h;obtain ⟨el,m,arr,r1,r2,r3,r4,r5⟩:=Aj2 (hρ l) (hρ c) h;have hrun:(execOp a.eval o).run P C.w=.ok (.value (.slice (some ⟨C.w.heap.size,0,none⟩) l' m)) (C.w.alloc (.cells arr el)):=by simp [execOp,e,r1]
  have hb:Below C.w.heap.size C.w (C.w.alloc (.cells arr el)):=(C5 _ _).alloc (Cc _) _;have ee:cs.length=arr.size:=by rw [<- r2]; simp
  split at hh
  ·rename_i ft;simp only [Cg] at hh;obtain ⟨rfl,rfl⟩:=hh;have y9:l'*sz<=m*sz:=Ic _ r3;have hok:Bd C.tk .tight sz=true:=rfl;have hn':Ma C .tight C.w.heap.size (l'*sz) (m*sz):=.inr (.inl (Cc _));have hle:Le C (C.tok (C.w.alloc (.cells arr el)) .tight (C.w.heap.size,l'*sz,m*sz)) :=
    Le.of_tok hok hn' rfl rfl rfl hb.size (fun x o v hv _=>by rw [iR hb (Ea hv)]; exact hv) (fun x hlt _=>hb.block x hlt) (fun b d t fz hd=>⟨d,Di hb hd,rfl⟩)
   have hsr:=SR.of_tok hr.sr hok hn' (fun _=>(Cj.1 (An C.w (.cells arr el))).1) hle (fun i hi=>hb.block _ (Ny hr.sr hi));have hcap:CapR (C.tok (C.w.alloc (.cells arr el)) .tight (C.w.heap.size,l'*sz,m*sz)) (.tok C.tk.length 0 sz) (some ⟨C.w.heap.size,0,none⟩) l' m:=J2 (c:=.tight) hok (.inr ⟨arr,el,rfl,rfl,An _ _,aA⟩);have hv:VR (C.tok (C.w.alloc (.cells arr el)) .tight (C.w.heap.size,l'*sz,m*sz)) (mkV (len0 l) st.tk.length l' sz cs) (.slice (some ⟨C.w.heap.size,0,none⟩) l' m):=by
    unfold mkV;split
    ·rename_i ie;have m6:l'=0:=by
      cases l with
      | const v=>cases v with
       | int k z =>
        unfold len0 at ie
        split at ie
        ·rename_i k' he
         simp only [Operand.const.injEq,Sl.injEq] at he
         obtain ⟨rfl,rfl⟩:=he
         simp [opv,cst,cst1,intN] at r5; exact r5.symm
        ·simp at ie
       | _=>simp [len0] at ie
      | _=>simp [len0] at ie
     subst m6;simp only [VR];refine ⟨_,0,m,rfl,rfl,Co _,?_,.inl trivial⟩;rw [<- hr.tk];exact hcap
    ·unfold P8;split
     ·rename_i es ua;split
      ·rename_i hp;obtain ⟨g1,g2,g3,g4⟩:=L6 ua;simp only [tokA,VR];refine ⟨_,l',m,rfl,by simp [g1],r3,by rw [<- hr.tk]; exact hcap,.inr ⟨C.w.heap.size,0,sz,rfl,?_⟩⟩;obtain ⟨e1,e2,e3,e4,e5,e6,e7,e8,e9,e10,e11⟩:=Mj (w:=C.w.alloc (.cells arr el)) (x:=(C.w.heap.size,l'*sz,m*sz)) hok;have m9:(es.map (·.map w1)).flatten=((arr.toList.map cst1).take (l'*sz)).map w1:=by rw [r2,<- g3,List.map_flatten]
       have uk:VRs C ((arr.toList.map cst1).take (l'*sz)) (arr.toList.take (l'*sz)):=(Jz (H5 _) (L7 (by rw [r2]; exact g4))).1;refine Gq (l:=arr.toList.take (l'*sz)) (fun e he=>?_) ?_ (Kg fun j v hj=>?_)
       ·exact Ya29
       ·rw [m9];refine PRs.stays hle.stays _ _ (Jj (C:=C) ?_ (U6 uk));rw [r2,<- g3,Cv];intro c hc;exact Ya0l
       ·rw [Fg];have fu:j<l'*sz:=by
         exact Ya18
        rw [Io fu] at hj;constructor
        ·rw [e1];simp only [Fz,An];simpa using hj
        ·rintro (db|da)
         ·rw [e2] at db;have:=hr.sr.avlt _ _ db; omega
         ·rcases Q5 hok hn' da with h|⟨-,h1,h2,-⟩
          ·exact hr.sr.fresh (Cc _) (.inr h)
          ·omega
      ·simp only [tokA,VR]
     ·simp only [tokA,VR]
   exact ⟨Gh hrun (hn _ _ hle hsr hr.S (by show C.tk++[0]=_; rw [hr.tk]) hr.n hv),rfl⟩
  ·simp only [Cg] at hh;obtain ⟨rfl,rfl⟩:=hh;subst r2;refine ⟨Gh hrun (hn _ (C.more arr el (arr.toList.map cst1)) (Le.more hr.sr _ _ _) (SR.more hr.sr (H5 _)) Za3h hr.tk Za4f ?_),rfl⟩;simp only [VR];refine ⟨C.w.heap.size,some ⟨C.w.heap.size,0,none⟩,m,rfl,r3,.inr rfl,by rw [<- hr.n]; exact Iy _,fun e' p7 md=>⟨?_,arr,el,An _ _,?_⟩⟩
   ·rw [<- hr.S];simp [Cx.more]
   ·simp only [Fq,Ih] at r4;omega
 ·rename_i c e;split at h
  ·rename_i hb;split at h
   ·rename_i x y t t' ii ht;split at h
    ·split at h
     ·rename_i se;subst se;simp only [Ca,Cg,Prod.exists] at h;obtain ⟨v,S',n',h,rfl,rfl⟩:=h;have aa:=Kr hr.tmps c.args.toList;rw [ii] at aa;obtain ⟨ux,uy,hu⟩:=Aa3 aa;rw [hu] at aa;simp only [VRs,and_true] at aa;rw [<- hr.S,<- hr.n] at h;obtain ⟨w,C',h1,h2,h3,h4,h5,h6,h7⟩:=Ahu (ty:=o.type) hr.sr aa.1 aa.2 h;have ha:c.args.map a.eval=#[ux,uy]:=cK
      have ma:c.argTypes=#[t,t]:=cQ
      exact ⟨Gh (v:=w) (w':=C'.w) dW (hn w C' h2 h3 h4 (h5.trans hr.tk) h6 h7),rfl⟩
     ·simp at h
    split at h
    ·rename_i se;subst se;simp only [Ca,Cg,Prod.exists] at h;obtain ⟨v,tk',h,rfl,rfl⟩:=h;have aa:=Kr hr.tmps c.args.toList;rw [ii] at aa;obtain ⟨ux,uy,hu⟩:∃ ux uy,c.args.toList.map a.eval=[ux,uy]:=by
      have:=A3 aa;match hl:c.args.toList.map a.eval with
      | [p,q]=>exact ⟨p,q,rfl⟩
      | []=>rw [hl] at this; simp at this
      | [_]=>rw [hl] at this; simp at this
      | _ :: _ :: _ :: _=>rw [hl] at this; simp at this
     rw [hu] at aa;simp only [VRs,and_true] at aa;rw [<- hr.tk,<- hr.S] at h;obtain ⟨w,C',h1,h2,h3,h4,h5,h6,h7⟩:=Afm (ty:=o.type) hr.sr aa.1 aa.2 h;have ha:c.args.map a.eval=#[ux,uy]:=cK
     have ma:c.argTypes=#[t,t]:=cQ
     exact Ya1z
    ·simp only [Ca,Cg,Prod.exists] at h;obtain ⟨v,tk',h,rfl,rfl⟩:=h;have aa:=Kr hr.tmps c.args.toList;rw [ii] at aa;obtain ⟨ux,uy,hu⟩:=Aa3 aa;rw [hu] at aa;simp only [VRs,and_true] at aa;rw [<- hr.tk] at h;obtain ⟨w,C',h1,h2,h3,h4,h5,h6,h7⟩:=Ahw (ty:=o.type) hr.sr aa.1 aa.2 h;have ha:c.args.map a.eval=#[ux,uy]:=cK
     have ma:c.argTypes=#[t,t']:=cQ
     exact Ya1z
   ·simp at h
  ·rename_i hb;split at h
   ·rename_i x y t t' ii ht;simp only [Ca,Cg,Prod.exists] at h;obtain ⟨m,S',h,rfl,rfl⟩:=h;have aa:=Kr hr.tmps c.args.toList;rw [ii] at aa;obtain ⟨ux,uy,hu⟩:=Aa3 aa;rw [hu] at aa;simp only [VRs,and_true] at aa;rw [<- hr.S] at h;obtain ⟨C',h1,h2,h3,h4,h5,h6⟩:=Aip (ty:=o.type) (t':=t') hr.sr aa.1 aa.2 h;have ha:c.args.map a.eval=#[ux,uy]:=cK
    have ma:c.argTypes=#[t,t']:=cQ
    exact ⟨Gh (v:=.int .i64 (m:Int)) (w':=C'.w) dW (hn _ C' h2 h3 h4 (h5.trans hr.tk) (h6.trans hr.n) bM),rfl⟩
   ·simp at h
  ·exact Ya2j
  ·split at h
   ·rename_i f args ei;simp only [Ca,Cg,Prod.exists] at h;obtain ⟨r,S',tk',n',h,rfl,rfl⟩:=h;refine ⟨?_,rfl⟩;unfold E5 at ei;split at ei
    ·rename_i x m hx;split at ei
     ·rename_i ti vi ur;simp only [Ca,Cg] at ei;obtain ⟨f',hm,rfl,rfl⟩:=ei;have nd:=hρ x;rw [ur] at nd;simp only [VR] at nd;obtain ⟨u,nd,hu⟩:=nd;obtain ⟨⟨fn,g1,g2,g3⟩,hcall⟩:=hc _ _ _ _ _ _ _ _ _ h;have aa:VRs C (vi :: c.args.toList.map (opv st.T)) (u :: c.args.toList.map a.eval):=by simp only [VRs]; exact ⟨hu,Kr hr.tmps c.args.toList⟩
      have hC:=hcall C (#[u]++c.args.map a.eval) hr.S hr.tk hr.n hr.sr (by simpa using aa);have hrun:(execOp a.eval o).run P C.w=.ok (.enter f' (#[u]++c.args.map a.eval)) C.w:=by
       have b8 : ¬ fn.name = "runtime.NumGoroutine" := dP
       have b7:¬ fn.body=none:=Za22
       have hmr:=Af8 (P:=P) (w:=C.w) (u:=u) hm;have hz0:(#[Value.iface ti u]++c.args.map a.eval)[0]?=some (.iface ti u):=by simp [Array.getElem?_append]
       have hz1:(#[Value.iface ti u]++c.args.map a.eval).extract 1 (#[Value.iface ti u]++c.args.map a.eval).size=c.args.map a.eval:=by
        apply gS; simp [Fc]
       simp only [execOp,e,resolve,hx,nd,invoke,Fj,It,Ev,hz0,hz1,callMethod];simp [callFunc,hmr,g1,b8,b7]
      exact Yax
     ·simp at ei
    ·rename_i x hx;split at ei
     ·rename_i f' caps ur;simp only [A2,Cg] at ei;obtain ⟨rfl,rfl⟩:=ei;have nd:=hρ x;rw [ur] at nd;simp only [VR] at nd;obtain ⟨us,nd,uu⟩:=nd;obtain ⟨⟨fn,g1,g2,g3⟩,hcall⟩:=hc _ _ _ _ _ _ _ _ _ h;have aa:=Gz (Kr hr.tmps c.args.toList) uu;have hC:=hcall C (c.args.map a.eval++us) hr.S hr.tk hr.n hr.sr (by simpa using aa);have hrun:(execOp a.eval o).run P C.w=.ok (.enter f' (c.args.map a.eval++us)) C.w:=by
       have b8 : ¬ fn.name = "runtime.NumGoroutine" := dP
       exact Ya1h
      exact Yax
     ·rename_i f' caps ur;simp only [A2,Cg] at ei;obtain ⟨rfl,rfl⟩:=ei;have nd:=hρ x;rw [ur] at nd;simp only [VR] at nd;obtain ⟨us,nd,uu⟩:=nd;obtain ⟨⟨fn,g1,g2,g3⟩,hcall⟩:=hc _ _ _ _ _ _ _ _ _ h;have aa:=Gz uu (Kr hr.tmps c.args.toList);have hC:=hcall C (us++c.args.map a.eval) hr.S hr.tk hr.n hr.sr (by simpa using aa);have hrun:(execOp a.eval o).run P C.w=.ok (.enter f' (us++c.args.map a.eval)) C.w:=by
       have b8 : ¬ fn.name = "runtime.NumGoroutine" := dP
       exact Ya1h
      exact Yax
     ·simp at ei
    ·simp at ei
   ·simp at h
 ·exact Ya2j
theorem H1 {C:Cx} {T:List AV} {a:Act} {ops:Array Oper} {o:Oper} {b:Bool} (ht:VRs C T a.tmps.toList) (h:H4 ops.toList T o=some b):F5 o (yielded ops a.tmps)=b:=by
 unfold H4 at h;unfold F5;split at h
 ·rename_i hg; rw [hg]; simpa using h
 ·rename_i g want hg;rw [hg];simp only;split at h
  ·simp at h
  ·rename_i d hd;have dd:(ops[g]?).bind (·.dst)=some d:=by rw [Ae] at hd; simpa using hd
   unfold yielded;rw [dd];simp only [I7];by_cases hlt:d<T.length
   ·obtain ⟨v,h1,h2⟩:=U5 ht (Ajf hlt);have yb:a.tmps[d]?=some v:=aR
    rw [yb];split at h
    ·exact Ya2y
    ·exact Ya2y
    ·simp at h
   ·rw [Nj (Zc hlt)] at h;simp at h
theorem Rel.put [Globs] {C C':Cx} {st st':St} {a:Act} {d:Option Tmp} {v:Value} {av:AV} (hr:Rel C st a) (hle:Le C C') (hs:SR C') (h1:C'.S=st'.S) (h2:C'.tk=st'.tk) (h3:C'.n=st'.n) (hv:VR C' av v) (hT:st'.T=st.T) :
  Rel C' { st' with T:=putT st'.T d av } (a.put d v) :=
 ⟨h1,h2,h3,Wc (by rw [hT]; exact VRs.mono hle _ _ hr.tmps) hv,by cases d <;> exact hr.defers,hs⟩
theorem Pf [Globs] {call:B8} (hc:Kd P call) {ops:Array Oper} {Q:Exit->Act->World->Prop} : ∀ {l:List Oper} {C:Cx} {st st':St} {a:Act},Rel C st a->evOs P call ops.toList l st=some st' ->
  (∀ a' C',Le C C'->Rel C' st' a'->Q .normal a' C'.w)->wpList P ops Q l a C.w
 | [],C,st,st',a,hr,h,hQ=>by
  simp only [evOs,A2] at h; subst h;exact hQ a C (Le.refl C) hr
 | o :: l,C,st,st',a,hr,h,hQ=>by
  simp only [evOs] at h;split at h
  ·simp at h
  ·rename_i hw;have:=H1 hr.tmps hw;unfold wpList;rw [if_neg (by rw [this]; simp)];exact Pf hc (hr.put (Le.refl C) hr.sr hr.S hr.tk hr.n bM rfl) h hQ
  ·rename_i hw;have:=H1 hr.tmps hw;unfold wpList;rw [if_pos this];split at h
   ·rename_i v st1 ho;split at h;case isFalse=>simp at h
    have hT:st1.T=st.T:=(G8 (next:=fun _ _=>True) (Q:=Q) hc hr ho (fun _ _ _ _ _ _ _ _=>trivial)).2;refine .inl (G8 hc hr ho fun u C' k1 k2 k3 k4 k5 k6=>?_).1;exact Pf hc (hr.put k1 k2 k3 k4 k5 k6 hT) h fun a' C'' k ig=>hQ a' C'' (k1.trans k) ig
   ·simp at h
theorem Acr {c:Code} {Q:Exit->Act->World->Prop} (J:Nat->Act->World->Prop) (round:∀ n a w,J n a w->c.wp P (Exit.then (fun a' w'=>∃ m,m<n/\J m a' w') Q) a w) {n:Nat} {a:Act} {w:World} (h0:J n a w):(Code.loop c).wp P Q a w:=by
 intro b k cs;have key:∀ n a w,J n a w->∃ e a' w',Q e a' w'/\Arrives P (lone (b.at a (.code c :: .inLoop c :: k)) cs w) b k cs e a' w':=by
  intro n;induction n using Oy with
  | _ n ih =>
   intro a w hJ;obtain ⟨e,a₁,w₁,hq,ee⟩:=round n a w hJ b (.inLoop c :: k) cs;cases e with
   | normal =>
    obtain ⟨m,hlt,hJ₁⟩:=hq;obtain ⟨e₂,a₂,w₂,hq₂,harr₂⟩:=ih m hlt a₁ w₁ hJ₁;exact ⟨e₂,a₂,w₂,hq₂,.of_steps (Steps.trans ee (.one step_inLoop)) harr₂⟩
   | exit id=>exact ⟨_,a₁,w₁,hq,.pass (x:=.inLoop c) rfl (fun _ _=>.inl (by simp)) ee⟩
   | goto l=>exact ⟨_,a₁,w₁,hq,.pass (x:=.inLoop c) rfl (fun _ _=>.inl (by simp)) ee⟩
   | ret=>exact ⟨_,a₁,w₁,hq,.pass (x:=.inLoop c) rfl (fun _ _=>.inl (by simp)) ee⟩
   | panic ch=>exact ⟨_,a₁,w₁,hq,.pass (x:=.inLoop c) rfl (fun _ _=>.inl (by simp)) ee⟩
   | outgrown=>exact ⟨_,a₁,w₁,hq,.pass (x:=.inLoop c) rfl (fun _ _=>.inl (by simp)) ee⟩
 obtain ⟨e,a',w',hq,ee⟩:=key n a w h0;exact ⟨e,a',w',hq,.of_steps (.one step_loop) ee⟩
def exOf:Ex->Exit
 | .normal=>.normal
 | .exit id=>.exit id
 | .ret=>.ret
def Arf [Globs] (call:B8):Prop:=∀ f args S tk n r S' tk' n',call f args S tk n=some (r,S',tk',n')->S'=S/\tk'=tk/\(shF f=true\/(n'=n/\∀ S2 tk2 n2,call f args S2 tk2 n2=some (r,S2,tk2,n2)))
def Q2 [Globs] (call:B8):Prop:=∀ f args S tk n r S' tk' n',call f args S tk n=some (r,S',tk',n')->(xF f && Globs.dr)=true\/(S'=S/\tk'=tk/\(shF f=true\/(n'=n/\∀ S2 tk2 n2,call f args S2 tk2 n2=some (r,S2,tk2,n2))))
def extC (P:Program) [Ext P]:B8:=fun f args S tk n=>if Ext.on P f=true then Ext.call P f args S tk n else none
class Aa7 [Globs] (P:Program) [Ext P]:Prop where
 ok:Kd P (extC P)
 indep:∀ M,@Arf (gM M) (@Eg (gM M) P _ (extC P))
theorem Wh [Globs] [Ext P] {M:Md} {call:B8} (h:Kd P call):Kd P (@Eg (gM M) P _ call):=by
 intro f args S tk n r S' tk' n' hh;unfold Eg at hh;split at hh
 ·exact h f args S tk n r S' tk' n' hh
 ·simp at hh
def Ao4 (P:Program) (real ops:Array Oper):Option (Nat × Oper)->Prop
 | none=>real=ops
 | some (p,al)=>real.size=ops.size/\(∀ i:Nat,i≠p->real[i]?=ops[i]?)/\(∀ (i:Nat) (o:Oper),ops[i]?=some o->isMk o=false)/\real[p]?=some al/\al.guard=none/\al.dst.isSome=true/\(∃ t cs,al.op=.alloc t/\Ax P t=some cs)/\ops[p]?=some { al with op:=.move (.global 0) }
def T6 (P:Program) (lt:Option (Nat × Oper)) (st:St):St :=
 match lt with
 | none=>st
 | some (_,al)=>match al.op with
  | .alloc t=>{ st with T:=putT st.T al.dst (.ref st.S.length st.n 0),S:=st.S++[⟨st.n,(Ax P t).getD []⟩],n:=st.n+1 }
  | _=>st
def Acw [Globs] (P:Program) (ok:St->List Oper->Bool):Prop:=P.follows .mixedOrders=true /\
 ∀ (call:B8),Kd P call->∀ (real ops:Array Oper) (lt:Option (Nat × Oper)),Ao4 P real ops lt->@Q2 (gM (mdOf ops.toList)) call->∀ (C:Cx) (st st':St) (a:Act) (Q:Exit->Act->World->Prop),ok st ops.toList=true->Rel C st a->@evOs (gM (mdOf ops.toList)) P call ops.toList ops.toList st=some st' ->
  (∀ a' C',Le C C'->Rel C' (T6 P lt st') a'->Q .normal a' C'.w)->wpAny P .any real Q real.size (Sc real.size false) a { C.w with drawn:=C.w.drawn+1 }
theorem Mp:∀ {L:List Oper} {p:Nat} {al:Oper} {x:Oper},Me L=some (p,al)->Am3 al=true/\L[p]?=some al/\(openL (L++[x])).length=L.length/\(openL (L++[x]))[p]?=some { al with op:=.move (.global 0) }/\(∀ i,i≠p->(openL (L++[x]))[i]?=L[i]?)/\∀ o ∈ openL (L++[x]),isMk o=false
 | [],_,_,_,h=>by simp [Me] at h
 | o :: l,p,al,x,h=>by
  have hop:∀ (l:List Oper),openL (o :: l++[x])=Uq o :: openL (l++[x]):=fun l=>by cases l <;> rfl
  have keep:∀ (l:List Oper),l.any isMk=false->openL (l++[x])=l:=by
   intro l;induction l with
   | nil=>intro _; rfl
   | cons y l ih =>
    intro hl;simp only [List.any_cons,Fe] at hl;have e:openL (y :: l++[x])=Uq y :: openL (l++[x]):=by cases l <;> rfl
    rw [e,ih hl.2];unfold Uq;rw [if_neg (by rw [hl.1]; simp)]
  unfold Me at h;rw [hop];split at h
  ·rename_i j0;split at h
   ·rename_i hc;simp only [Ch,Ir] at hc;simp only [A2,Cg] at h;obtain ⟨rfl,rfl⟩:=h;rw [keep l hc.2];refine ⟨hc.1,rfl,rfl,?_,fun i hi=>?_,fun y hy=>?_⟩
    ·unfold Uq; rw [if_pos j0]; rfl
    ·cases i with
     | zero=>exact absurd rfl hi
     | succ i=>rfl
    ·rcases Cn.1 hy with rfl|hy
     ·unfold Uq; rw [if_pos j0]; rfl
     ·simpa using List.any_eq_false.1 hc.2 y hy
   ·cases h
  ·rename_i j0;simp only [Ca,Cg,Prod.exists] at h;obtain ⟨p',al',h,rfl,rfl⟩:=h;obtain ⟨a1,a2,a3,a4,a5,a6⟩:=Mp (x:=x) h;have e:Uq o=o:=by unfold Uq; rw [if_neg j0]
   rw [e];refine ⟨a1,a2,by simp [a3],a4,fun i hi=>?_,fun y hy=>?_⟩
   ·cases i with
    | zero=>rfl
    | succ i=>exact a5 i aA
   ·rcases Cn.1 hy with rfl|hy
    ·simpa using j0
    ·exact a6 y hy
theorem Vk [Globs] {L:List Oper} {p:Nat} {al o:Oper} (h:K2 L=some (p,al,o)):∃ a,L=a++[o]/\Aq1 a o=true/\isSt o=true/\Me a=some (p,al):=by
 unfold K2 at h;split at h
 ·rename_i o' ho;split at h
  ·rename_i ht;simp only [Ch] at ht;simp only [Ca,Cg,Prod.exists] at h;obtain ⟨p',al',h,rfl,rfl,rfl⟩:=h;exact ⟨_,by rw [List.getLast?_eq_some_iff] at ho; obtain ⟨l,rfl⟩:=ho; simp,ht.1.2,ht.1.1,h⟩
  ·cases h
 ·cases h
theorem Aqb {P:Program} {a:List Oper} {p:Nat} {al o:Oper} {t:TypeId} {cs:List AV} (h:Me a=some (p,al)) (ht:al.op=.alloc t) (hz:Ax P t=some cs):Ao4 P a.toArray (openL (a++[o])).toArray (some (p,al)):=by
 obtain ⟨a1,a2,a3,a4,a5,a6⟩:=Mp (x:=o) h;unfold Am3 at a1;simp only [Ch,Ia] at a1;refine ⟨by simp [a3],fun i hi=>?_,fun i o' ho=>?_,by simpa using a2,a1.1.2,a1.2,⟨t,cs,ht,hz⟩,by simpa using a4⟩
 ·have:=a5 i hi;simp only [O6];exact this.symm
 ·exact a6 o' (Ik eW)
theorem M1 {L a:List Oper} {o:Oper} (h:Gw L=some (a,o)):L=a++[o]/\Ala a o=true:=by
 unfold Gw at h;split at h
 ·rename_i o' ho;split at h
  ·rename_i ht;simp only [A2,Cg] at h;obtain ⟨rfl,rfl⟩:=h;exact ⟨by rw [List.getLast?_eq_some_iff] at ho; obtain ⟨l,rfl⟩:=ho; simp,ht⟩
  ·cases h
 ·cases h
theorem Adj {kp:Bool} {m:Nat} {S:List Ent} : cutS kp m S=S.take (bif kp then S.length else m):=by
 cases kp <;> simp [cutS]
theorem Ab1 [Globs] {kp:Bool} {f:St->Option (Ex × St)} {c:Code} (hf:∀ (C:Cx) (st:St) (ex:Ex) (st':St) (a:Act) (Q:Exit->Act->World->Prop),f st=some (ex,st')->Rel C st a->(∀ a' C',Le C C'->Rel C' st' a'->Q (exOf ex) a' C'.w)->c.wp P Q a C.w)
  {k:Nat} {C:Cx} {st st':St} {ex:Ex} {a:Act} {Q:Exit->Act->World->Prop} (h:K4 kp f k st=some (ex,st')) (hr:Rel C st a) (hQ:∀ a' C',Le C C'->Rel C' st' a'->Q (exOf ex) a' C'.w):(Code.loop c).wp P Q a C.w:=by
 refine Acr (fun n a w=>∃ C1 st1,C1.w=w/\Le C C1/\Rel C1 st1 a/\K4 kp f n st1=some (ex,st')) ?_ (n:=k) ⟨C,st,rfl,Le.refl C,hr,h⟩;rintro n a1 w1 ⟨C1,st1,rfl,hle,bl,h1⟩;cases n with
 | zero=>simp [K4] at h1
 | succ n =>
  simp only [K4] at h1;split at h1
  ·rename_i st2 h2;refine hf C1 st1 .normal st2 a1 _ h2 bl fun a2 C2 uv ab=>?_;rw [Adj] at h1;generalize (bif kp then st2.S.length else st1.S.length)=mm at h1;refine ⟨n,Iy n,{ C2 with S:=C2.S.take mm },{ st2 with S:=st2.S.take mm },rfl,(hle.trans uv).trans (Le.take _),⟨by rw [ab.S],ab.tk,ab.n,VRs.mono (Le.take _) _ _ ab.tmps,ab.defers,ab.sr.take _⟩,h1⟩
  ·rename_i hne;refine hf C1 st1 ex st' a1 _ h1 bl fun a2 C2 uv ab=>?_;have:=hQ a2 C2 (hle.trans uv) ab;cases ex with
   | normal=>exact absurd h1 (hne st')
   | exit id=>exact this
   | ret=>exact this
theorem Eo [Globs] [Ext P] {call:B8} (hc:Kd P call) (hi:∀ M,@Q2 (gM M) (@Eg (gM M) P _ call)) {ok:St->List Oper->Bool} (hd:Acw P ok) {n:Nat} : ∀ (c:Code) (C:Cx) (st:St) (ex:Ex) (st':St) (a:Act) (Q:Exit->Act->World->Prop),evC P call ok n c st=some (ex,st')->Rel C st a ->
  (∀ a' C',Le C C'->Rel C' st' a'->Q (exOf ex) a' C'.w)->c.wp P Q a C.w
 | .skip,C,st,ex,st',a,Q,h,hr,hQ=>by
  simp only [evC,A2,Cg] at h;obtain ⟨rfl,rfl⟩:=h;exact wp_skip (hQ a C (Le.refl C) hr)
 | .region id ops draw,C,st,ex,st',a,Q,h,hr,hQ=>by
  simp only [evC] at h;cases draw with
  | false =>
   rw [if_neg (by simp)] at h;simp only [Ca,Cg] at h;obtain ⟨st1,h,rfl,rfl⟩:=h;refine wp_region ?_;have:=Pf (Q:=Q) hc hr h hQ;have e:=wpOps_eq_wpList (P:=P) (ops:=ops) (Q:=Q) ops.toList 0 (fun j=>by simp);rw [List.range_eq_range'];simp only [Ih] at e;rw [e]; exact this
  | true =>
   rw [if_pos rfl] at h;split at h
   ·rename_i ini o pf;obtain ⟨hL,ht⟩:=M1 pf;split at h
    ·rename_i hok;split at h
     ·rename_i st1 h1;simp only [Ca,Cg] at h;obtain ⟨st2,h2,rfl,rfl⟩:=h;unfold Ala at ht;simp only [Ch,Cv,Sn,decide_eq_true_eq,Ia] at ht;obtain ⟨⟨⟨⟨-,hg⟩,hre⟩,hla⟩,hde⟩:=ht;have uw:ops=ini.toArray.push o:=by
       apply gS;rw [hL]; simp
      subst uw;have ng:ini.toArray.push o=(ini++[o]).toArray:=by simp
      refine wp_region_any hd.1 ?_;have hw:=hd.2 _ (Wh hc) ini.toArray ini.toArray none rfl (hi _) C st st1 a (Alb P o Q) (by simpa using hok) hr aR fun a' C' hle ig=>by
       show o.wp P a' C'.w (fun a' w'=>Q .normal a' w') Q;simp only [evOs,H4,hg] at h2;split at h2
       ·rename_i v s3 ho;split at h2;case isFalse=>simp at h2
        have hT:s3.T=st1.T:=(G8 (next:=fun _ _=>True) (Q:=Q) hc ig ho (fun _ _ _ _ _ _ _ _=>trivial)).2;exact Ya0n
       ·simp at h2
      exact Ya9
     ·simp at h
    ·simp at h
   ·split at h
    ·rename_i p al o hlt;obtain ⟨ini,hL,ht,ah,nh⟩:=Vk hlt;rw [hL] at h;split at h
     ·rename_i hok;split at h
      ·rename_i st1 h1;simp only [Ca,Cg] at h;obtain ⟨st2,h2,rfl,rfl⟩:=h;unfold Aq1 at ht;simp only [Ch,Cv,Sn,decide_eq_true_eq,Ia] at ht;obtain ⟨⟨⟨hg,hre⟩,hla⟩,hde⟩:=ht;have hal:=(Mp (x:=o) nh).1;unfold Am3 at hal;simp only [Ch,Ia] at hal;obtain ⟨t,hta⟩:∃ t,al.op=.alloc t:=by
        have:=hal.1.1;split at this
        ·rename_i t h; exact ⟨t,h⟩
        ·cases this
       have a1u:=hal.1.2;simp only [evOs,H4,a1u] at h2;split at h2;case h_2=>simp at h2
       rename_i v s3 jy;split at h2;case isFalse=>simp at h2
       have a1c:=jy;simp only [evO,hta,Ca,Cg] at a1c;obtain ⟨cs,hz,rfl,rfl⟩:=a1c;have a1v:({ T:=putT st1.T al.dst (.ref st1.S.length st1.n 0),S:=st1.S++[⟨st1.n,cs⟩],tk:=st1.tk,n:=st1.n+1 } : St)=T6 P (some (p,al)) st1:=by
        simp only [T6,hta,hz,fQ]
       simp only at h2;rw [a1v] at h2;have uw:ops=ini.toArray.push o:=by
        apply gS;rw [hL]; simp
       subst uw;have ng:ini.toArray.push o=(ini++[o]).toArray:=by simp
       refine wp_region_any hd.1 ?_;have hw:=hd.2 _ (Wh hc) ini.toArray (openL (ini++[o])).toArray (some (p,al)) (Aqb nh hta hz) (hi _) C st st1 a (Alb P o Q) (by simpa using hok) hr aR fun a' C' hle ig=>by
        show o.wp P a' C'.w (fun a' w'=>Q .normal a' w') Q;simp only [hg] at h2;split at h2
        ·rename_i v s3 ho;split at h2;case isFalse=>simp at h2
         have hT:s3.T=(T6 P (some (p,al)) st1).T:=(G8 (next:=fun _ _=>True) (Q:=Q) hc ig ho (fun _ _ _ _ _ _ _ _=>trivial)).2;exact Ya0n
        ·simp at h2
       exact Ya9
      ·simp at h
     ·simp at h
    ·split at h
     ·rename_i hok;simp only [Ca,Cg] at h;obtain ⟨st1,h,rfl,rfl⟩:=h;exact wp_region_any hd.1 (hd.2 _ (Wh hc) ops ops none rfl (hi _) C st st1 a Q hok hr h hQ)
     ·simp at h
 | .seq x y,C,st,ex,st',a,Q,h,hr,hQ=>by
  simp only [evC] at h;split at h
  ·rename_i st1 h1;refine wp_seq (Eo hc hi hd x C st .normal st1 a _ h1 hr fun a1 C1 lw bl=>?_);exact Eo hc hi hd y C1 st1 ex st' a1 Q h bl fun a2 C2 uv ab=>hQ a2 C2 (lw.trans uv) ab
  ·rename_i hne;refine wp_seq (Eo hc hi hd x C st ex st' a _ h hr fun a1 C1 lw bl=>?_);have:=hQ a1 C1 lw bl;cases ex with
   | normal=>exact absurd h (hne st')
   | exit id=>exact this
   | ret=>exact this
 | .cond x y z,C,st,ex,st',a,Q,h,hr,hQ=>by
  simp only [evC] at h;split at h
  ·rename_i t ht;have hv:=Ac5 hr.tmps x;rw [ht] at hv; simp only [VR] at hv;cases t with
   | true =>
    rw [if_pos rfl] at h;exact wp_cond_true hv (Eo hc hi hd y C st ex st' a Q h hr hQ)
   | false =>
    rw [if_neg (by simp)] at h;exact wp_cond_false hv (Eo hc hi hd z C st ex st' a Q h hr hQ)
  ·simp at h
 | .block id x,C,st,ex,st',a,Q,h,hr,hQ=>by
  simp only [evC] at h;split at h
  ·rename_i id' st1 h1;refine wp_block (Eo hc hi hd x C st (.exit id') st1 a _ h1 hr fun a1 C1 lw bl=>?_);simp only [exOf,Exit.inBlock];split at h
   ·rename_i hid;simp only [A2,Cg] at h;obtain ⟨rfl,rfl⟩:=h;rw [if_pos hid]; exact hQ a1 C1 lw bl
   ·rename_i hid;simp only [A2,Cg] at h;obtain ⟨rfl,rfl⟩:=h;rw [if_neg hid]; exact hQ a1 C1 lw bl
  ·rename_i hne;refine wp_block (Eo hc hi hd x C st ex st' a _ h hr fun a1 C1 lw bl=>?_);have:=hQ a1 C1 lw bl;cases ex with
   | normal=>exact this
   | exit id=>exact absurd h (hne id st')
   | ret=>exact this
 | .loop x,C,st,ex,st',a,Q,h,hr,hQ=>by
  simp only [evC] at h;exact Ab1 (fun C st ex st' a Q=>Eo hc hi hd x C st ex st' a Q) h hr hQ
 | .exit id,C,st,ex,st',a,Q,h,hr,hQ=>by
  simp only [evC,A2,Cg] at h;obtain ⟨rfl,rfl⟩:=h;exact wp_exit (hQ a C (Le.refl C) hr)
 | .ret,C,st,ex,st',a,Q,h,hr,hQ=>by
  simp only [evC,A2,Cg] at h;obtain ⟨rfl,rfl⟩:=h;exact wp_ret (hQ a C (Le.refl C) hr)
 | .rangeFunc _ _ _ _,_,_,_,_,_,_,h,_,_=>cY
 | .scope x,C,st,ex,st',a,Q,h,hr,hQ=>by
  simp only [evC] at h;refine wp_scope_straight (Eo hc hi hd x C st ex st' a _ h hr fun a1 C1 lw bl=>?_);have:=hQ a1 C1 lw bl;cases ex <;> exact this
 | .label l,C,st,ex,st',a,Q,h,hr,hQ=>by
  simp only [evC,A2,Cg] at h;obtain ⟨rfl,rfl⟩:=h;exact wp_label (hQ a C (Le.refl C) hr)
 | .goto _,_,_,_,_,_,_,h,_,_=>cY
 | .refuse _,_,_,_,_,_,_,h,_,_=>cY
end
section
variable {P:Program}
def Aet (P:Program) (tmps:Array Value):ResultVar->Sem Value
 | .tmp t=>pure (tmps.getD t undef)
 | .cell a t=>do loadVar t (<- asAddr (tmps.getD a undef))
theorem Aoi {C:Cx} {T:List AV} {tmps:Array Value} (h:VRs C T tmps.toList) (t:Tmp):VR C (getT T t) (tmps.getD t undef) :=
 Ac5 (a:=⟨tmps,[]⟩) h (.tmp t)
theorem Ach [Globs] {C:Cx} {st:St} {a:Act} (hr:Rel C st a) {rv:ResultVar} {v:AV} (h:resA1 P st rv=some v):Has P C (Aet P a.tmps rv) v:=by
 cases rv with
 | tmp t =>
  simp only [resA1,A2] at h; subst h;exact ⟨_,rfl,Aoi hr.tmps t⟩
 | cell p t =>
  simp only [resA1] at h;rw [<- hr.S] at h;obtain ⟨u,h1,h2⟩:=Z4 hr.sr (Aoi hr.tmps p) h;refine ⟨u,?_,h2⟩;simp only [Aet];generalize a.tmps.getD p undef=x at h1;cases x with
  | pointer b =>
   cases b with
   | none=>simp [gH,O5] at h1
   | some b=>simpa [gH,O5,asAddr] using h1
  | _=>simp [gH,O5] at h1
theorem Aec [Globs] {C:Cx} {st:St} {a:Act} (hr:Rel C st a):∀ {rs:List ResultVar} {vs:List AV},mapO (resA1 P st) rs=some vs->∃ us,(rs.mapM (Aet P a.tmps)).run P C.w=.ok us C.w/\VRs C vs us
 | [],vs,h=>by
  simp only [mapO,A2] at h; subst h;exact ⟨[],by simp,bT⟩
 | r :: rs,vs,h=>by
  simp only [mapO] at h;split at h
  ·rename_i b l h1 h2;simp only [A2] at h; subst h;obtain ⟨u,g1,g2⟩:=Ach hr h1;obtain ⟨us,g3,g4⟩:=Aec hr h2;exact ⟨u :: us,by rw [List.mapM_cons]; simp only [Fj,g1,Ev,g3,It],by simp only [VRs]; exact ⟨g2,g4⟩⟩
  ·simp at h
theorem Agn [Globs] {C:Cx} {st:St} {a:Act} (hr:Rel C st a) {fn:Func} {v:AV} (h:resA P fn.results.toList st=some v):Has P C (results fn a.tmps) v:=by
 simp only [resA,Ca] at h;obtain ⟨vs,h,rfl⟩:=h;obtain ⟨us,h1,h2⟩:=Aec hr h;have hrun:(results fn a.tmps).run P C.w=.ok (if h:us.toArray.size=1 then us.toArray[0] else .tuple us.toArray) C.w:=by
  have e:results fn a.tmps=(do
   let vs <- fn.results.mapM (Aet P a.tmps)
   pure (if h:vs.size=1 then vs[0] else .tuple vs)):=by
   unfold results;congr 1
  rw [e,Fj,Array.mapM_eq_mapM_toList,Sem.run_map,h1];rfl
 have hlen:=A3 h2;match us,vs,h2,hlen,hrun with
 | [u],[v],h2,_,hrun =>
  simp only [VRs] at h2;exact ⟨u,by rw [hrun]; simp,h2.1⟩
 | [],[],h2,_,hrun=>exact ⟨.tuple #[],by rw [hrun]; simp,Za3o⟩
 | u :: u' :: us,v :: v' :: vs,h2,_,hrun=>exact ⟨.tuple (u :: u' :: us).toArray,by rw [hrun]; simp,Za3o⟩
theorem VR_w3 {C:Cx} {c x} (h:VR C c x):VR C (w3 c) x:=by
 cases c with
 | tup cs =>
  simp only [w3,VR] at h ⊢;obtain ⟨vs,e,hr⟩:=h;exact ⟨vs,e,Ac8 hr⟩
 | _=>exact Api h
theorem Vs {C C':Cx} {c x} (ah:Stays C.w C'.w C.Avoid C'.Avoid) (hp:pure1 c=true) (h:VR C c x):VR C' c x:=Wa (PR.stays ah _ _ (Acz hp h))
theorem Tr {C C':Cx} (ah:Stays C.w C'.w C.Avoid C'.Avoid):∀ {cs vs},cs.all pure1=true->VRs C cs vs->VRs C' cs vs
 | [],[],_,_=>bT
 | c :: cs,v :: vs,hp,h=>by
  simp only [fU,Ch] at hp;simp only [VRs] at h ⊢;exact ⟨Vs ah hp.1 h.1,Tr ah hp.2 h.2⟩
 | [],_ :: _,_,h=>aP
 | _ :: _,[],_,h=>aP
theorem Vt {C C':Cx} {c x} (ah:Stays C.w C'.w C.Avoid C'.Avoid) (hp:pure2 c=true) (h:VR C c x):VR C' c x:=by
 cases c with
 | agg cs =>
  simp only [VR] at h ⊢;obtain ⟨vs,e,hr⟩:=h;exact ⟨vs,e,Tr ah hp hr⟩
 | _=>exact Vs ah hp h
theorem Mw {C C':Cx} (ah:Stays C.w C'.w C.Avoid C'.Avoid):∀ {cs vs},cs.all pure2=true->VRs C cs vs->VRs C' cs vs
 | [],[],_,_=>bT
 | c :: cs,v :: vs,hp,h=>by
  simp only [fU,Ch] at hp;simp only [VRs] at h ⊢;exact ⟨Vt ah hp.1 h.1,Mw ah hp.2 h.2⟩
 | [],_ :: _,_,h=>aP
 | _ :: _,[],_,h=>aP
theorem Agg {C C':Cx} {c x} (ah:Stays C.w C'.w C.Avoid C'.Avoid) (hp:pure3 c=true) (h:VR C c x):VR C' c x:=by
 cases c with
 | tup cs =>
  simp only [VR] at h ⊢;obtain ⟨vs,e,hr⟩:=h;exact ⟨vs,e,Mw ah hp hr⟩
 | _=>exact Vt ah hp h
theorem Ac7 {C:Cx} : ∀ n:Nat,VRs C (Ci n AV.bot) (Ci n undef)
 | 0=>by simp [VRs]
 | n+1=>by simp only [Lg,VRs,VR]; exact ⟨trivial,Ac7 n⟩
theorem Pe [Globs] [Ext P] {call:B8} (hc:Kd P call) (hi:∀ M,@Q2 (gM M) (@Eg (gM M) P _ call)) {ok:St->List Oper->Bool} (hd:Acw P ok) {k:Nat} {f:FuncId} {fn:Func} {c:Code} (hf:P.funcs[f]?=some fn) (hb:fn.body=some c) {C:Cx} (hs:SR C) {args:List AV} {vs:Array Value} (hv:VRs C args vs.toList) {r:AV} {st:St}
  (h:outA P fn (evC P call ok k c ⟨args++Ci (fn.ntmps - args.length) .bot,C.S,C.tk,C.n⟩)=some (r,st)) :
  Calls P f vs C.w fun e w'=>∃ v C',e=.returned v/\C'.w=w'/\Le C C'/\SR C'/\C'.S=st.S/\C'.tk=st.tk/\C'.n=st.n/\VR C' r v:=by
 have hlen:vs.size=args.length:=by have:=A3 hv; simpa using this.symm
 refine calls_of_wp hf hb ?_;have hrel:Rel C ⟨args++Ci (fn.ntmps - args.length) .bot,C.S,C.tk,C.n⟩ { tmps:=vs++Sc (fn.ntmps - vs.size) undef,defers:=[] } :=
  ⟨rfl,rfl,rfl,by rw [hlen]; simpa using Gz hv (Ac7 _),rfl,hs⟩
 have fin:∀ {ex:Ex} {st':St},(ex=.normal\/ex=.ret)->(resA P fn.results.toList st').map (fun r=>(r,st'))=some (r,st)->∀ a' C',Le C C'->Rel C' st' a' ->
   bodyPost P fn (fun e w'=>∃ v C',e=.returned v/\C'.w=w'/\Le C C'/\SR C'/\C'.S=st.S/\C'.tk=st.tk/\C'.n=st.n/\VR C' r v) (exOf ex) a' C'.w:=by
  intro ex st' gn he a' C' hle hr;simp only [Ca,Cg] at he;obtain ⟨r',he,rfl,rfl⟩:=he;obtain ⟨v,h1,h2⟩:=Agn hr he;rcases gn with rfl|rfl
  ·exact Ya3a
  ·exact Ya3a
 generalize he:evC P call ok k c ⟨args++Ci (fn.ntmps - args.length) .bot,C.S,C.tk,C.n⟩=out at h;match out with
 | none=>simp [outA] at h
 | some (.exit _,_)=>simp [outA] at h
 | some (.normal,st')=>exact Eo hc hi hd c C _ .normal st' _ _ he hrel (fin (.inl rfl) h)
 | some (.ret,st')=>exact Eo hc hi hd c C _ .ret st' _ _ he hrel (fin (.inr rfl) h)
def Cx.alone (C:Cx):Cx:={ w:=C.w,av:=C.Avoid,φ:=C.φ,ψ:=C.ψ,S:=[],tk:=[],n:=0 }
theorem Ra {C:Cx} {b o:Nat} : ¬ C.alone.Mut b o:=by
 rintro (⟨i,hi,_⟩|⟨i,hi,_⟩) <;> simp [Cx.alone] at hi
theorem SR.alone [Globs] {C:Cx} (hs:SR C):SR C.alone:=by
 refine ⟨fun i e h=>by simp [Cx.alone,nth] at h,fun i j hi=>eH,fun i j o hi=>eH,fun i j o hi=>eH,fun b o h=>absurd h Ra,fun b o h=>?_,fun i o hi=>eH,fun g o h=>⟨(hs.glob g o h).1,fun i=>.inl ((hs.glob g o h).2 i)⟩⟩;rcases F3 b C.w.heap.size with h'|h'
 ·exact h'
 ·exact absurd h (hs.fresh h')
theorem Asf [Globs] {C:Cx} (hs:SR C) {m id o:Nat} (hid:id<C.S.length) (hm:m<=id):¬ ({ C with S:=C.S.take m } : Cx).Avoid (C.φ id) o:=by
 rintro (h|⟨i,hi,h⟩|⟨i,hi,h1,h2,h3⟩)
 ·exact hs.own _ o (.inl ⟨id,hid,rfl⟩) h
 ·simp only [Ix] at hi;have:=hs.ne i id aA hid h;omega
 ·exact hs.apart id i o hid hi h1.symm h2 h3
theorem Zu [Globs] {C:Cx} (hs:SR C) (m:Nat) {c x} (h:VR C c x):VR { C with S:=C.S.take m } (fz1 m C.S c) x:=by
 have keep:VR { C with S:=C.S.take m } c x:=VR.mono (Le.take m) _ _ h;cases c with
 | sref id ep off len sz =>
  simp only [fz1];split
  ·rename_i hm;unfold fzB;split
   ·rename_i cs jg;obtain ⟨e,h1,h2,rfl⟩:=Dz jg;unfold P8;split
    ·rename_i es ua;split
     ·rename_i hp;simp only [VR] at h;obtain ⟨b,a,cap,rfl,hcap,ha,hn,hb⟩:=h;obtain rfl:=(hb e h1 h2).1;obtain ⟨hlt,arr,t,h3,h4⟩:=hs.ent id e h1;obtain ⟨pd,h4⟩:=entP h4;obtain ⟨g1,g2,g3,g4⟩:=L6 ua;have g4':len*sz<=((e.cells++pd).drop off).length:=by simp at g4 ⊢; omega
      have g3':es.flatten=((e.cells++pd).drop off).take (len*sz):=by rw [g3,fP,L1 g4]
      simp only [VR];refine ⟨a,len,cap,rfl,by simp [g1],hcap,trivial,?_⟩;by_cases h0:len=0
      ·left;subst h0;rw [Fm g1]; rfl
      ·right;obtain rfl:=ha.resolve_left h0;have pu:=A3 h4;simp only [Ih] at pu;refine ⟨C.φ id,off,sz,rfl,Gq (l:=(arr.toList.drop off).take (len*sz)) (fun e he=>?_) ?_ (Kg fun j v hj=>⟨?_,Asf hs (Bh h1) hm⟩)⟩
       ·exact Ya29
       ·have m9:(es.map (·.map w1)).flatten=(((e.cells++pd).drop off).take (len*sz)).map w1:=by rw [<- g3',List.map_flatten]
        have uk:VRs C (((e.cells++pd).drop off).take (len*sz)) ((arr.toList.drop off).take (len*sz)):=(Jz (Ls off h4) (L7 g4')).1;rw [m9];refine Jj (C:={ C with S:=C.S.take m }) ?_ (VRs.mono (Le.take m) _ _ (U6 uk));rw [<- g3',Cv];intro c hc;exact Ya0l
       ·have dv:j<len*sz:=by
         exact Ya18
        exact Ya1t
     ·simp only [VR]
    ·simp only [VR]
   ·simp only [VR]
  ·exact keep
 | _=>exact keep
theorem Vh [Globs] {C:Cx} (hs:SR C) (m:Nat):∀ {cs vs},VRs C cs vs->VRs { C with S:=C.S.take m } (cs.map (fz1 m C.S)) vs
 | [],[],_=>dH
 | c :: cs,v :: vs,h=>by simp only [VRs,Cp] at h ⊢; exact ⟨Zu hs m h.1,Vh hs m h.2⟩
 | [],_ :: _,h=>aP
 | _ :: _,[],h=>aP
theorem Zv [Globs] {C:Cx} (hs:SR C) (m:Nat) {c x} (h:VR C c x):VR { C with S:=C.S.take m } (fz2 m C.S c) x:=by
 cases c with
 | agg cs =>
  simp only [fz2,VR] at h ⊢;obtain ⟨vs,e,hr⟩:=h;exact ⟨vs,e,Vh hs m hr⟩
 | _=>exact Zu hs m h
theorem Vi [Globs] {C:Cx} (hs:SR C) (m:Nat):∀ {cs vs},VRs C cs vs->VRs { C with S:=C.S.take m } (cs.map (fz2 m C.S)) vs
 | [],[],_=>dH
 | c :: cs,v :: vs,h=>by simp only [VRs,Cp] at h ⊢; exact ⟨Zv hs m h.1,Vi hs m h.2⟩
 | [],_ :: _,h=>aP
 | _ :: _,[],h=>aP
theorem Zw [Globs] {C:Cx} (hs:SR C) (m:Nat) {c x} (h:VR C c x):VR { C with S:=C.S.take m } (fz3 m C.S c) x:=by
 cases c with
 | tup cs =>
  simp only [fz3,VR] at h ⊢;obtain ⟨vs,e,hr⟩:=h;exact ⟨vs,e,Vi hs m hr⟩
 | _=>exact Zv hs m h
theorem Abo [Globs] [Ext P] {ok:St->List Oper->Bool} {k:Nat} {f:FuncId} {args:List AV} {S:List Ent} {tk:List Nat} {n:Nat} (hf:Ext.on P f=true):evF P ok (k+1) f args S tk n=extC P f args S tk n:=by
 simp only [evF,extC,hf,if_true]
structure Uk (A:Nat->Bool) (m:Nat) (S0:List Ent) (tk0:List Nat) (st:St):Prop where
 S:st.S.take m=S0
 le:m<=st.S.length
 tk:st.tk=tk0
 own:∀ q,A q=true->getT st.T q=.bot\/getT st.T q=.prim undef\/∃ id ep off,getT st.T q=.ref id ep off/\m<=id
theorem Ajh:∀ {T:List AV} {d:Nat} {v:AV},d<T.length->getT (put T d v) d=v
 | _ :: _,0,_,_=>rfl
 | _ :: T,d+1,_,h=>Ajh (T:=T) aJ
 | [],_,_,h=>aN
theorem Ad4:∀ {T:List AV} {d q:Nat} {v:AV},d≠q->getT (put T d v) q=getT T q
 | [],_,_,_,_=>rfl
 | _ :: _,0,0,_,h=>absurd rfl h
 | _ :: _,0,_+1,_,_=>rfl
 | _ :: _,_+1,0,_,_=>rfl
 | _ :: T,d+1,q+1,_,h=>Ad4 (T:=T) aA
theorem Akn:∀ {T:List AV} {d:Nat} {v:AV},T.length<=d->put T d v=T
 | [],_,_,_=>rfl
 | _ :: _,0,_,h=>aN
 | _ :: T,d+1,_,h=>by simp only [put]; rw [Akn (T:=T) aJ]
theorem Zy {T:List AV} {d:Option Nat} {v:AV} {q:Nat} : getT (putT T d v) q=getT T q\/(d=some q/\getT (putT T d v) q=v):=by
 cases d with
 | none=>exact .inl rfl
 | some d =>
  simp only [putT];by_cases h:d=q
  ·subst h;rcases F3 d T.length with hl|hl
   ·exact .inr ⟨rfl,Ajh hl⟩
   ·left; rw [Akn hl]
  ·exact .inl (Ad4 h)
theorem Ae3 {α:Type} : ∀ {l:List α} {i m:Nat} {v:α},m<=i->(put l i v).take m=l.take m
 | [],_,_,_,_=>rfl
 | _ :: _,0,m,_,h=>by
  have:m=0:=aA
  subst this; rfl
 | _ :: _,_+1,0,_,_=>rfl
 | _ :: l,i+1,m+1,v,h=>by simp only [put,F1,Ae3 (l:=l) (i:=i) (m:=m) (v:=v) aA]
theorem Aqa [Globs] {call:B8} {o:Oper} {all:List Oper} {nn m:Nat} {S0:List Ent} {tk0:List Nat} {st st':St} {v:AV} (hA:o ∈ all) (hk:R9 all nn o=true) (hI:Uk (fun q=>decide (nn<=q) && K9 all q) m S0 tk0 st) (h:evO P call o st=some (v,st')) :
  Uk (fun q=>decide (nn<=q) && K9 all q) m S0 tk0 { st' with T:=putT st'.T o.dst v }:=by
 have slot:st'.T=st.T->(J7 o=true->∃ id ep off,v=.ref id ep off/\m<=id)->∀ q,(decide (nn<=q) && K9 all q)=true->getT (putT st'.T o.dst v) q=.bot\/getT (putT st'.T o.dst v) q=.prim undef\/∃ id ep off,getT (putT st'.T o.dst v) q=.ref id ep off/\m<=id:=by
  intro hT hv q hq;rcases Zy (T:=st'.T) (d:=o.dst) (v:=v) (q:=q) with e|⟨e1,e2⟩
  ·rw [e,hT]; exact hI.own q hq
  ·simp only [Ch] at hq;have:=Cv.1 hq.2 o hA;rw [e1] at this;simp only [bne_self_eq_false,I1] at this;obtain ⟨id,ep,off,rfl,hm⟩:=hv this;exact .inr (.inr ⟨id,ep,off,e2,hm⟩)
 unfold evO at h;unfold R9 at hk;split at h
 ·rename_i t x e;simp only [Ca,Cg] at h;obtain ⟨_,_,rfl,rfl⟩:=h;exact ⟨hI.S,hI.le,hI.tk,slot rfl (fun hm=>eQ)⟩
 ·rename_i t x y e;rw [e] at hk;simp only [Ca,Cg] at h;obtain ⟨S',hs,rfl,rfl⟩:=h;cases x with
  | tmp q =>
   simp only at hk;unfold stA at hs;split at hs
   ·rename_i id ep off sz vs hx _ _;simp only [opv] at hx;split at hs
    ·split at hs
     ·split at hs
      ·simp only [A2] at hs; subst hs;have hid:m<=id:=by
        rcases hI.own q hk with h1|h1|⟨id',ep',off',h1,h2⟩
        ·rw [h1] at hx; simp at hx
        ·rw [h1] at hx; simp at hx
        ·rw [h1] at hx; simp only [AV.ref.injEq] at hx; omega
       exact ⟨by show (put st.S id _).take m=S0; rw [Ae3 hid]; exact hI.S,by show m<=(put st.S id _).length; rw [Ao]; exact hI.le,hI.tk,slot rfl (fun hm=>eQ)⟩
      ·simp at hs
     ·simp at hs
    ·simp at hs
   ·simp at hs
  | _=>simp at hk
 ·rename_i t e;exact Ya0u
 ·rename_i t x e;exact Ya0u
 ·rename_i t l c e;rw [e] at hk;simp only [Ir] at hk;simp only [Ca,Prod.exists,hk] at h;obtain ⟨l',sz,cs,_,hh⟩:=h;rw [if_neg (by simp)] at hh;simp only [Cg] at hh;obtain ⟨rfl,rfl⟩:=hh;exact ⟨Za08,Zax,hI.tk,slot rfl (fun hm=>eQ)⟩
 ·rename_i c e;rw [e] at hk;simp only at hk;split at h
  ·rename_i hb; rw [hb] at hk; simp at hk
  ·rename_i hb; rw [hb] at hk; simp at hk
  ·simp only [Ca,Cg] at h; obtain ⟨_,_,rfl,rfl⟩:=h;exact ⟨hI.S,hI.le,hI.tk,slot rfl (fun hm=>eQ)⟩
  ·rename_i h1 h2 h3;exfalso;cases hc:c.callee with
   | builtin b=>cases b <;> first|exact h1 hc|exact h2 hc|exact h3 _ hc
   | value x=>rw [hc] at hk; simp at hk
   | invoke x m=>rw [hc] at hk; simp at hk
 ·rename_i h1 h2 h3 h4 h5 h6;simp only [Ca,Cg] at h; obtain ⟨_,_,rfl,rfl⟩:=h;refine ⟨hI.S,hI.le,hI.tk,slot rfl (fun hm=>?_)⟩;unfold J7 at hm;split at hm
  ·exact absurd cO (h3 _)
  ·exact absurd cO (h4 _ _)
  ·simp at hm
theorem Lx [G:Globs] {call:B8} {allr all:List Oper} {nn m:Nat} {S0:List Ent} {tk0:List Nat} : ∀ {l:List Oper} {st st':St},(∀ o ∈ l,o ∈ all/\R9 all nn o=true)->Uk (fun q=>decide (nn<=q) && K9 all q) m S0 tk0 st->evOs P call allr l st=some st'->Uk (fun q=>decide (nn<=q) && K9 all q) m S0 tk0 st'
 | [],st,st',_,hI,h=>by simp only [evOs,A2] at h; subst h; exact hI
 | o :: l,st,st',hq,hI,h=>by
  simp only [evOs] at h;split at h
  ·simp at h
  ·refine Lx (fun o ho=>hq o (by simp [ho])) ?_ h;refine ⟨hI.S,hI.le,hI.tk,fun q hqq=>?_⟩;rcases Zy (T:=st.T) (d:=o.dst) (v:=.prim undef) (q:=q) with e|⟨_,e⟩
   ·simp only [e]; exact hI.own q hqq
   ·exact .inr (.inl e)
  ·split at h
   ·rename_i v s1 ho;split at h;case isFalse=>simp at h
    obtain ⟨a1,a2⟩:=hq o (by simp);exact Lx (fun o ho=>hq o (by simp [ho])) (Aqa a1 a2 hI ho) h
   ·simp at h
theorem Z2 {kp:Bool} {A:Nat->Bool} {m:Nat} {S0:List Ent} {tk0:List Nat} {f:St->Option (Ex × St)} (hf:∀ st ex st',Uk A m S0 tk0 st->f st=some (ex,st')->Uk A m S0 tk0 st'):∀ {k:Nat} {st st':St} {ex:Ex},Uk A m S0 tk0 st->K4 kp f k st=some (ex,st')->Uk A m S0 tk0 st'
 | 0,_,_,_,_,h=>by simp [K4] at h
 | k+1,st,st',ex,hI,h=>by
  simp only [K4] at h;split at h
  ·rename_i s1 h1;have h2:=hf _ _ _ hI h1;have dc:m<=bif kp then s1.S.length else st.S.length:=by cases kp <;> first|exact hI.le|exact h2.le
   rw [Adj] at h;generalize (bif kp then s1.S.length else st.S.length)=mm at h dc;refine Z2 (st:={ s1 with S:=s1.S.take mm }) hf ⟨?_,?_,h2.tk,h2.own⟩ h
   ·show (s1.S.take mm).take m=S0;rw [iV,Nat.min_eq_left dc]; exact h2.S
   ·show m<=(s1.S.take mm).length;rw [Ix];exact Nat.le_min.2 ⟨dc,h2.le⟩
  ·exact hf _ _ _ hI h
theorem Ajr [Globs] {L:List Oper} {p:Nat} {al o:Oper} {all:List Oper} {nn:Nat} (h:K2 L=some (p,al,o)):¬ ∀ o ∈ L,o ∈ all/\R9 all nn o=true:=by
 intro hq;unfold K2 at h;split at h
 ·split at h
  ·rename_i hc;simp only [Ch,List.any_eq_true] at hc;obtain ⟨x,hx,xi⟩:=hc.2;have hk:=(hq x (List.dropLast_subset _ hx)).2;unfold xOp at xi;unfold R9 at hk;split at xi
   ·rename_i c b9;rw [b9] at hk;simp only at hk;unfold Acs at xi;split at xi <;> rename_i ak <;> simp_all
   ·simp at xi
  ·simp at h
 ·simp at h
theorem E9 [Globs] [Ext P] {call:B8} {ok:St->List Oper->Bool} {n nn m:Nat} {all:List Oper} {S0:List Ent} {tk0:List Nat} : ∀ (c:Code) (st:St) (ex:Ex) (st':St),(∀ o ∈ opsOf c,o ∈ all/\R9 all nn o=true)->Uk (fun q=>decide (nn<=q) && K9 all q) m S0 tk0 st->evC P call ok n c st=some (ex,st')->Uk (fun q=>decide (nn<=q) && K9 all q) m S0 tk0 st'
 | .skip,st,ex,st',_,hI,h=>dU
 | .exit _,st,ex,st',_,hI,h=>dU
 | .ret,st,ex,st',_,hI,h=>dU
 | .region _ ops draw,st,ex,st',hq,hI,h=>by
  simp only [opsOf] at hq;simp only [evC] at h;split at h
  ·split at h
   ·rename_i ini o pf;obtain ⟨hL,-⟩:=M1 pf;rw [hL] at hq;split at h
    ·split at h
     ·rename_i s1 h1;simp only [Ca,Cg] at h;obtain ⟨s2,h2,_,rfl⟩:=h;exact Lx (fun x hx=>hq x (C4.2 (.inr hx))) (Lx (G:=gM _) (fun x hx=>hq x (C4.2 (.inl hx))) hI h1) h2
     ·simp at h
    ·simp at h
   ·split at h
    ·rename_i hlt;exact absurd hq (Ajr hlt)
    ·split at h
     ·simp only [Ca,Cg] at h;obtain ⟨s1,h,_,rfl⟩:=h;exact Lx (G:=gM _) hq hI h
     ·simp at h
  ·simp only [Ca,Cg] at h;obtain ⟨s1,h,_,rfl⟩:=h;exact Lx hq hI h
 | .seq a b,st,ex,st',hq,hI,h=>by
  simp only [opsOf,C4] at hq;simp only [evC] at h;split at h
  ·rename_i s1 h1;exact E9 b _ _ _ (fun o ho=>hq o (.inr ho)) (E9 a _ _ _ (fun o ho=>hq o (.inl ho)) hI h1) h
  ·exact E9 a _ _ _ (fun o ho=>hq o (.inl ho)) hI h
 | .cond x a b,st,ex,st',hq,hI,h=>by
  simp only [opsOf,C4] at hq;simp only [evC] at h;split at h
  ·split at h
   ·exact E9 a _ _ _ (fun o ho=>hq o (.inl ho)) hI h
   ·exact E9 b _ _ _ (fun o ho=>hq o (.inr ho)) hI h
  ·simp at h
 | .block id c,st,ex,st',hq,hI,h=>by
  simp only [opsOf] at hq;simp only [evC] at h;split at h
  ·rename_i id' s1 h1;have:=E9 c _ _ _ hq hI h1;split at h
   ·exact Ya2f
   ·exact Ya2f
  ·exact E9 c _ _ _ hq hI h
 | .loop c,st,ex,st',hq,hI,h=>by
  simp only [opsOf] at hq;simp only [evC] at h;exact Z2 (fun s e s' hs hh=>E9 c s e s' hq hs hh) hI h
 | .rangeFunc _ _ _ _,_,_,_,_,_,h=>cY
 | .scope c,st,ex,st',hq,hI,h=>by
  simp only [opsOf] at hq;simp only [evC] at h;exact E9 c _ _ _ hq hI h
 | .label _,st,ex,st',_,hI,h=>dU
 | .goto _,_,_,_,_,_,h=>cY
 | .refuse _,_,_,_,_,_,h=>cY
theorem Ajg {args:List AV} {q n:Nat} (h:args.length<=q):getT (args++Ci n .bot) q=.bot:=by
 induction args generalizing q with
 | nil =>
  simp only [Cw];induction n generalizing q with
  | zero=>rfl
  | succ n ih=>cases q with
   | zero=>rfl
   | succ q=>exact ih (by simp)
 | cons x args ih=>cases q with
  | zero=>simp at h
  | succ q=>exact ih aJ
theorem Rm [Globs] [Ext P] [hX:Aa7 P] {ok:St->List Oper->Bool} : ∀ k M,@Q2 (gM M) (@Eg (gM M) P _ (evF P ok k))
 | 0,M=>by intro f args S tk n r S' tk' n' h; simp [Eg,evF] at h
 | k+1,M=>by
  intro f args S tk n r S' tk' n' h;by_cases mg:Ext.on P f=true
  ·have e:∀ S tk n,@Eg (gM M) P _ (evF P ok (k+1)) f args S tk n=@Eg (gM M) P _ (extC P) f args S tk n:=by
    intro S tk n; simp only [Eg,Abo mg]
   rw [e] at h;obtain ⟨g1,g2,g4⟩:=hX.indep M _ _ _ _ _ _ _ _ _ h;exact .inr ⟨g1,g2,g4.imp _root_.id fun g4=>⟨g4.1,fun S2 tk2 n2=>by rw [e]; exact g4.2 S2 tk2 n2⟩⟩
  by_cases yc:(@xF (gM M) f && @Globs.dr (gM M))=true
  ·exact .inl yc
  right;unfold Eg at h;split at h
  ·rename_i hp;by_cases j1:((args.map w2).all pure2 && !Ext.mv P f)=true
   ·have ed:=j1;simp only [Ch,Ir] at ed;obtain ⟨hp1,ni⟩:=ed;simp only [evF] at h;rw [if_neg mg] at h;split at h
    ·rename_i fn hf;split at h
     ·rename_i c hb;split at h
      ·simp at h
      ·rename_i ao;simp only [ni,hp1,if_true,C8,if_false] at h;split at h
       ·rename_i r' ho;simp only [A2,Cg] at h;obtain ⟨rfl,rfl,rfl,rfl⟩:=h;refine ⟨rfl,rfl,.inr ⟨rfl,fun S2 tk2 n2=>?_⟩⟩;unfold Eg;rw [if_pos hp];simp only [evF,hf,hb];rw [if_neg mg,if_neg ao,if_neg (by rw [ni]; simp),if_pos hp1,ho]
       ·simp at h
     ·simp at h
    ·simp at h
   ·have sw:(@shF (gM M) f && P3 P f args.length && !Ext.mv P f && !Ext.on P f)=true:=by
     cases hx:((args.map w2).all pure2 && !Ext.mv P f) with
     | true=>exact absurd hx j1
     | false=>rw [hx] at hp; simpa [yc] using hp
    simp only [Ch,Ir] at sw;obtain ⟨⟨⟨h1,h2⟩,ni⟩,-⟩:=sw;have zz:¬ (args.map w2).all pure2=true:=fun h=>j1 (by simp [h,ni]);simp only [evF] at h;rw [if_neg mg] at h;unfold P3 at h2;split at h
    ·rename_i fn hf;rw [hf] at h2;simp only at h2;split at h
     ·rename_i c hb;rw [hb] at h2;simp only at h2;split at h
      ·simp at h
      ·simp only [ni,zz,C8,if_false] at h;split at h
       ·rename_i r' st ho;simp only [A2,Cg] at h;obtain ⟨rfl,rfl,rfl,rfl⟩:=h;have me:∃ ex,evC P (evF P ok k) ok k c ⟨args++Ci (fn.ntmps - args.length) .bot,S,tk,n⟩=some (ex,st):=by
         generalize evC P (evF P ok k) ok k c ⟨args++Ci (fn.ntmps - args.length) .bot,S,tk,n⟩=o at ho;unfold outA at ho;split at ho
         ·exact Ya1f
         ·exact Ya1f
         ·simp at ho
        obtain ⟨ex,gn⟩:=me;have hK:=E9 (all:=opsOf c) (nn:=args.length) (m:=S.length) (S0:=S) (tk0:=tk) c _ _ _ (fun o ho=>⟨ho,Cv.1 h2 o ho⟩)
         ⟨Gl,Cc _,rfl,fun q hq=>.inl (Ajg (by simp only [Ch,decide_eq_true_eq] at hq; exact hq.1))⟩ gn
        exact ⟨hK.S,hK.tk,.inl h1⟩
       ·simp at h
     ·simp at h
    ·simp at h
  ·simp at h
theorem Zk [Globs] [Ext P] [hX:Aa7 P] {ok:St->List Oper->Bool} (hd:Acw P ok):∀ k,Kd P (evF P ok k)
 | 0=>by intro f args S tk n r S' tk' n' h; simp [evF] at h
 | k+1=>by
  have hc:=Zk hd k;intro f args S tk n r S' tk' n' h;by_cases mg:Ext.on P f=true
  ·rw [Abo mg] at h;exact hX.ok _ _ _ _ _ _ _ _ _ h
  simp only [evF] at h;rw [if_neg mg] at h;split at h
  ·rename_i fn hf;split at h
   ·rename_i c hb;split at h
    ·simp at h
    ·rename_i ao;refine ⟨⟨fn,hf,dA,by rw [hb]; rfl⟩,?_⟩;rintro C vs rfl rfl rfl hs hv;split at h
     ·split at h
      ·rename_i r' st ho;simp only [A2,Cg] at h;obtain ⟨rfl,rfl,rfl,rfl⟩:=h;exact Pe hc (Rm k) hd (k:=k) hf hb hs hv ho
      ·simp at h
     split at h
     ·rename_i hp;split at h
      ·rename_i r' ho;simp only [A2,Cg] at h;obtain ⟨rfl,rfl,rfl,rfl⟩:=h;have ah:Stays C.w C.alone.w C.Avoid C.alone.Avoid:=fun b o v h1 h2=>⟨h1,fun h3=>h3.elim h2 Ra⟩;have hv':=Mw ah hp (Ac8 hv);have one:∀ {as:List AV} {r0:AV},VRs C.alone as vs.toList->runP P ok (evF P ok k) k fn c as=some r0->Calls P f vs C.w fun e w'=>∃ v C',e=.returned v/\C'.w=w'/\Le C C'/\SR C'/\C'.S=C.S/\C'.tk=C.tk/\C'.n=C.n/\VR C' r0 v:=by
        intro as r0 hv' hrun;unfold runP at hrun;split at hrun
        ·rename_i r' st ho;split at hrun
         ·rename_i hp3;simp only [A2] at hrun;subst hrun;refine iU (Pe hc (Rm k) hd (k:=k) hf hb hs.alone hv' ho) ?_;rintro e w' ⟨v,C',rfl,rfl,hle,hs',hS',-,-,h2⟩;have hbel:Below C.w.heap.size C.w C'.w:=⟨hle.os,hle.tape,hle.output,hle.size,fun b hb=>hle.keep b hb fun o=>Ra⟩;refine ⟨v,C.at C'.w,rfl,rfl,Le.of_below hbel,SR.of_below hs hbel,rfl,rfl,rfl,?_⟩;have h3:=Zw hs' 0 h2;rw [hS'] at h3;refine Agg (C:={ C' with S:=st.S.take 0 }) (fun b o x h1 h2=>⟨h1,fun h3=>h2 (.inl ?_)⟩) hp3 (VR_w3 h3);show C'.av b o;rw [hle.av]; exact h3
         ·simp at hrun
        ·simp at hrun
       split at ho
       ·unfold runN at ho;split at ho
        ·rename_i l hl;split at ho
         ·rename_i q1 q2;simp only [A2] at ho;subst ho;rw [hl] at hv';cases hvl:vs.toList with
          | nil=>rw [hvl] at hv'; simp only [VRs] at hv'
          | cons x xs =>
           rw [hvl] at hv';simp only [VRs] at hv';obtain ⟨hx,hxs⟩:=hv';simp only [VR] at hx;obtain ⟨a,len,cap,rfl,h1,h2,-,h4⟩:=hx;cases a with
           | none=>exact one (as:=.frz [] .nl :: l) (by rw [hvl]; simp only [VRs,VR]; exact ⟨⟨none,len,cap,rfl,h1,h2,rfl,.inl trivial⟩,hxs⟩) q1
           | some a=>exact one (as:=.frz [] .nn :: l) (by rw [hvl]; simp only [VRs,VR]; exact ⟨⟨some a,len,cap,rfl,h1,h2,rfl,.inl trivial⟩,hxs⟩) q2
         ·simp at ho
        ·exact one hv' ho
       ·exact one hv' ho
      ·simp at h
     ·split at h
      ·rename_i r' st ho;simp only [A2,Cg] at h;obtain ⟨rfl,rfl,rfl,rfl⟩:=h;refine iU (Pe hc (Rm k) hd (k:=k) hf hb hs hv ho) ?_;rintro e w' ⟨v,C',rfl,rfl,hle,hs',e1,e2,e3,h2⟩;have h3:=Zw hs' C.S.length h2;rw [e1] at h3;exact ⟨v,{ C' with S:=C'.S.take C.S.length },rfl,rfl,hle.trans (Le.take _),hs'.take _,by rw [<- e1],e2,e3,by rw [e1]; exact h3⟩
      ·simp at h
   ·simp at h
  ·simp at h
end
end
end Go.Proofs.YtcandeobhlfkbaaGreat
