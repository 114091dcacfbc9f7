/- Part 7. -/
import Derived.Test.YthelkgdmgihhiaaGreatZB6
import Derived.Orders
import Derived.Scope
open Array renaming getElem?_eq_some_iff->Cj,getElem?_eq_getElem->Fm,getD_eq_getD_getElem?->Fu,length_toList->Iv,getD->Sn,replicate->Sr,getElem?_setIfInBounds->fV,toList_inj->gH,ext'->iV,getElem?_push->jQ
open Bool renaming and_eq_true->Ci,false_eq_true->C5,or_eq_false_iff->Fb,not_eq_true'->Gb,false_or->I5
open Go.Addr renaming add->jG
open Go.Builtin renaming zeroCells->Ot,append_->O7
open Go.Instr renaming sureAddr->Sl,loadAt->iL
open Go.Obj renaming cells->iT
open Go.Obj.cells renaming injEq->jL
open Go.Region renaming wanted->Sc
open Go.Result renaming andThen_ok->Fj
open Go.RowKit.Below renaming refl->Fq,cell->kK
open Go.Sem renaming run_bind->Fv,run_pure->I1
open Go.Value renaming int->iH
open Go.World renaming cell?->I7
open List renaming replicate->Cg,map_cons->Cn,length_append->Cs,map_nil->Ct,getElem?_append_left->Cu,mem_append->Cw,nil_append->Cz,all_eq_true->C4,mem_cons->C6,length_nil->C7,take_of_length_le->Dc,mem_map->Fg,getElem?_eq_some_iff->Fk,eq_nil_of_length_eq_zero->Fy,take_length->F2,length_map->F8,take_succ_cons->F9,range->Ih,getElem?_take_of_lt->Ii,length_take->Im,mem_of_getElem?->Iq,replicate_succ->Iw,take_append_of_le_length->Iy,getElem?_take->I2,all_cons->Oh,mem_flatten->Se,foldl_cons->Sp,getElem?_drop->S7,getElem?_toArray->fY,drop_append->gI,mem_range->jZ,take_take->kC
open Nat renaming le_refl->Cf,zero_le->Cl,mul_le_mul_right->E5,le_trans->Fe,zero_add->Fo,lt_of_lt_of_le->Ft,lt_or_ge->Ie,mul_le_mul->Ix,lt_succ_self->I4,add_mul->Ns,le_add_right->O1,strongRecOn->Sq,le_of_not_lt->gG,le_succ->jI
open Option renaming map_eq_some_iff->Cb,isNone_iff_eq_none->Ig,bind_some->Oo,getD_some->gJ
open Option.some renaming injEq->A3
open Prod.mk renaming injEq->Ch
namespace Go.Proofs.YthelkgdmgihhiaaGreat
section
open Go.RowKit
section
variable {P:Program} {ops:Array Oper}
theorem Eu {listed:Array Bool} {i:Nat} (h:i ∈ Region.ready .any ops listed):listed.getD i true=false/\∃ o,ops[i]?=some o/\∀ e ∈ depsOf ops i,listed.getD e false=true:=by
 obtain ⟨h0,o,ho,hd⟩:=mem_ready.1 h;refine ⟨h0,o,ho,fun e he=>?_⟩;unfold depsOf at he;rw [ho] at he;simp only [Fg,List.mem_filter] at he;obtain ⟨x,⟨hx,hb⟩,rfl⟩:=he;exact hd x dG hb
theorem Pu {listed:Array Bool} {i:Nat} {o:Oper} (h0:listed.getD i true=false) (ho:ops[i]?=some o) (hd:∀ e ∈ depsOf ops i,listed.getD e false=true):i ∈ Region.ready .any ops listed:=by
 refine mem_ready.2 ⟨h0,o,ho,fun e he hb=>hd _ ?_⟩;exact Ya2m
theorem De {listed:Array Bool} (hc:∀ j,listed.getD j false=true->∀ e ∈ depsOf ops j,listed.getD e false=true) {i:Nat} (hd:∀ e ∈ depsOf ops i,listed.getD e false=true) :
  ∀ e ∈ reachAt ops i,listed.getD e false=true:=by
 unfold reachAt;generalize (Ih i).reverse=l;have key:∀ (l:List Nat) (s:List Nat),(∀ e ∈ s,listed.getD e false=true)->∀ e ∈ l.foldl (fun s j=>if s.contains j then depsOf ops j++s else s) s,listed.getD e false=true:=by
  intro l;induction l with
  | nil=>intro s hs; exact hs
  | cons j l ih =>
   intro s hs;simp only [Sp];apply ih;split
   ·rename_i hj;intro e he;rcases Cw.1 he with h|h
    ·exact hc j (hs j bK) e h
    ·exact hs e h
   ·exact hs
 exact key l _ hd
theorem Avy {o:Oper} {a:Act} {w:World} {K:Act->World->Prop} {Q Q':Exit->Act->World->Prop} (hp:∀ c a w,Q (.panic c) a w->Q' (.panic c) a w) (hl:LetsOut Q->LetsOut Q') (hh:o.wp P a w K Q):o.wp P a w K Q':=by
 unfold Oper.wp at *;generalize (execOp a.eval o).run P w=r at *;cases r with
 | ok n w' =>
  cases n <;> simp only [Oper.upon] at hh ⊢ <;>
   first
    | exact hh
    | exact Calls.mono hh (fun e w'' he=>by cases e <;> first|exact he|exact hp _ _ _ he|exact hl he)
    | exact Rows.mono hh (fun _ _ he=>he)
 | halt x w'=>cases x <;> simp only [Oper.upon] at hh ⊢ <;> first|exact hh|exact hp _ _ _ hh|exact hl hh
def Aon (P:Program) (o:Oper) (Q:Exit->Act->World->Prop):Exit->Act->World->Prop
 | .normal=>fun a w=>o.wp P a w (fun a' w'=>Q .normal a' w') Q
 | ex=>Q ex
theorem Hl {listed:Array Bool} {j:Nat} {d:Bool} (h:j<listed.size):(listed.push false).getD j d=listed.getD j d:=by
 simp [Fu,jQ,Nat.ne_of_lt h]
theorem Zf {listed:Array Bool} {d:Bool} : (listed.push false).getD listed.size d=false:=by
 simp [Fu,jQ]
theorem Afe {init:Array Oper} {o:Oper} {Q:Exit->Act->World->Prop} (hg:o.guard=none) (gd:∀ j,j<init.size->j ∈ reachAt (init.push o) init.size) (ei:∀ e ∈ depsOf (init.push o) init.size,e<init.size)
  (wv:∀ i o',init[i]?=some o'->(∀ e ∈ depsOf init i,e<i)/\∀ g w,o'.guard=some (g,w)->g<init.size) :
  ∀ (fuel:Nat) (listed:Array Bool) (a:Act) (w:World),listed.size=init.size->(∀ j,listed.getD j false=true->∀ e ∈ depsOf init j,listed.getD e false=true) ->
   wpAny P .any init (Aon P o Q) fuel listed a w->wpAny P .any (init.push o) Q (fuel+1) (listed.push false) a w:=by
 have fy:∀ i,i<init.size->(init.push o)[i]?=init[i]?:=fun i hi=>by rw [jQ,if_neg aA]
 have jr:(init.push o)[init.size]?=some o:=by simp
 have hdo:∀ i,i<init.size->depsOf (init.push o) i=depsOf init i:=fun i hi=>by unfold depsOf; rw [fy i hi]
 have io:∀ (listed:Array Bool),listed.size=init.size->∀ i,i<init.size->(i ∈ Region.ready .any (init.push o) (listed.push false)↔i ∈ Region.ready .any init listed):=by
  intro listed ke i hi;constructor
  ·intro h;obtain ⟨h0,o',fc,hd⟩:=Eu h;rw [Hl aA] at h0;rw [fy i hi] at fc;rw [hdo i hi] at hd;refine Pu h0 fc fun e he=>?_;have:=hd e he;have hlt:=(wv i o' fc).1 e he;rwa [Hl aA] at this
  ·intro h;obtain ⟨h0,o',fc,hd⟩:=Eu h;refine Pu (by rw [Hl aA]; exact h0) (by rw [fy i hi]; exact fc) fun e he=>?_;rw [hdo i hi] at he;have hlt:=(wv i o' fc).1 e he;rw [Hl aA]; exact hd e he
 have ww:∀ (listed:Array Bool),listed.size=init.size->Region.ready .any init listed=[]->∀ j,j<init.size->listed.getD j false=true:=by
  intro listed ke dt j;induction j using Sq with
  | _ j ihj =>
   intro hj;cases hl:listed.getD j false with
   | true=>rfl
   | false =>
    exfalso;have:j ∈ Region.ready .any init listed:=by
     refine Pu ?_ (Fm hj) fun e he=>?_
     ·have jn:j<listed.size:=aA
      simpa [Sn,jn] using hl
     ·have:=(wv j _ (Fm hj)).1 e he;exact ihj e this aA
    rw [dt] at this; simp at this
 have zp:∀ (listed:Array Bool),listed.size=init.size->(∀ j,listed.getD j false=true->∀ e ∈ depsOf init j,listed.getD e false=true)->init.size ∈ Region.ready .any (init.push o) (listed.push false)->Region.ready .any init listed=[]:=by
  intro listed ke hcl h;obtain ⟨-,o',-,hd⟩:=Eu h;have hc2:∀ j,(listed.push false).getD j false=true->∀ e ∈ depsOf (init.push o) j,(listed.push false).getD e false=true:=by
   intro j hj e he;by_cases hjn:j<init.size
   ·rw [Hl aA] at hj;rw [hdo j hjn] at he;have hlt:=(wv j _ (Fm hjn)).1 e he;rw [Hl aA]; exact hcl j hj e he
   ·exfalso;by_cases hje:j=init.size
    ·rw [hje,<- ke,Zf] at hj; cases hj
    ·rw [Fu,Array.getElem?_eq_none aC] at hj; cases hj
  have aq:∀ j,j<init.size->listed.getD j false=true:=fun j hj=>by
   have:=De hc2 hd j (gd j hj);rwa [Hl aA] at this
  cases hr:Region.ready .any init listed with
  | nil=>rfl
  | cons x l =>
   have hx:x ∈ Region.ready .any init listed:=by rw [hr]; simp
   obtain ⟨h0,o',fc,-⟩:=Eu hx;have zb:=(Cj.1 fc).1;have h1:=aq x zb;exact Ya2y
 have wx:∀ (fuel:Nat) (listed:Array Bool) (a:Act) (w:World),listed.size=init.size->(∀ j,j<init.size->listed.getD j false=true)->Aon P o Q .normal a w ->
   wpOp P (init.push o) Q init.size (wpAny P .any (init.push o) Q fuel ((listed.push false).setIfInBounds init.size true)) a w:=by
  intro fuel listed a w ke aq h;have dt:Region.ready .any (init.push o) ((listed.push false).setIfInBounds init.size true)=[]:=by
   cases hr:Region.ready .any (init.push o) ((listed.push false).setIfInBounds init.size true) with
   | nil=>rfl
   | cons x l =>
    exfalso;have hx:x ∈ Region.ready .any (init.push o) ((listed.push false).setIfInBounds init.size true):=by rw [hr]; simp
    obtain ⟨h0,o',fc,-⟩:=Eu hx;have zb:=(Cj.1 fc).1;rw [Array.size_push] at zb;rw [Fu,fV] at h0;split at h0
    ·split at h0
     ·cases h0
     ·rename_i h1 h2; exact h2 aC
    ·have h1:=aq x aA;rw [<- Fu,Hl aA] at h0;exact Ya2y
  unfold wpOp;rw [jr];simp only;have hw:Sc o (yielded (init.push o) a.tmps)=true:=by unfold Sc; rw [hg]
  rw [if_pos hw];left;refine Oper.wp_mono (fun a' w' hq=>?_) h;cases fuel with
  | zero=>exact ⟨dt,hq⟩
  | succ fuel=>exact ⟨fun _=>hq,fun i hi=>by rw [dt] at hi; simp at hi⟩
 intro fuel;induction fuel with
 | zero =>
  intro listed a w ke hcl h;obtain ⟨dt,hq⟩:=h;have aq:=ww listed ke dt;have bc:init.size ∈ Region.ready .any (init.push o) (listed.push false):=by
   exact Ya2l
  refine ⟨fun hn=>by rw [hn] at bc; simp at bc,fun i hi=>?_⟩;by_cases wy:i<init.size
  ·rw [io listed ke i wy,dt] at hi; simp at hi
  ·have fm:i=init.size:=by
    exact Ya1n
   subst fm;exact wx 0 listed a w ke aq hq
 | succ fuel ih =>
  intro listed a w ke hcl h;obtain ⟨h1,h2⟩:=h;refine ⟨fun hn=>?_,fun i hi=>?_⟩
  ·exfalso;have dt:Region.ready .any init listed=[]:=by
    cases hr:Region.ready .any init listed with
    | nil=>rfl
    | cons x l =>
     have hx:x ∈ Region.ready .any init listed:=by rw [hr]; simp
     obtain ⟨-,o',fc,-⟩:=Eu hx;have:=(io listed ke x (Cj.1 fc).1).2 hx;rw [hn] at this; simp at this
   have aq:=ww listed ke dt;have bc:init.size ∈ Region.ready .any (init.push o) (listed.push false):=by
    exact Ya2l
   rw [hn] at bc; simp at bc
  ·by_cases wy:i<init.size
   ·have aw:=(io listed ke i wy).1 hi;have h3:=h2 i aw;obtain ⟨h0,o',fc,hd⟩:=Eu aw;have ao:(listed.push false).setIfInBounds i true=(listed.setIfInBounds i true).push false:=by
     apply iV;simp [List.set_append,ke,wy]
    have wz:∀ j,(listed.setIfInBounds i true).getD j false=true->∀ e ∈ depsOf init j,(listed.setIfInBounds i true).getD e false=true:=by
     intro j hj e he;have hup:∀ e,listed.getD e false=true->(listed.setIfInBounds i true).getD e false=true:=fun e he=>by
      rw [Fu,fV];split
      ·rw [if_pos (by rename_i h; omega)]; rfl
      ·rw [<- Fu]; exact he
     by_cases hji:j=i
     ·subst hji; exact hup e (hd e he)
     ·refine hup e (hcl j ?_ e he);rw [Fu,fV,if_neg (fun h=>hji h.symm),<- Fu] at hj;exact hj
    have hk:∀ a' w',wpAny P .any init (Aon P o Q) fuel (listed.setIfInBounds i true) a' w'->wpAny P .any (init.push o) Q (fuel+1) ((listed.push false).setIfInBounds i true) a' w':=fun a' w' h=>by
     rw [ao]; exact ih _ a' w' (by simpa using ke) wz h
    unfold wpOp at h3 ⊢;rw [fy i wy];rw [fc] at h3 ⊢;simp only at h3 ⊢;have hy:Sc o' (yielded (init.push o) a.tmps)=Sc o' (yielded init a.tmps):=by
     unfold Sc;cases hgd:o'.guard with
     | none=>rfl
     | some x =>
      obtain ⟨g,b⟩:=x;have hgl:=(wv i o' fc).2 g b hgd;simp only [yielded,fy g hgl]
    rw [hy];split
    ·rename_i hw;rw [if_pos hw] at h3;rcases h3 with h3|⟨h3,h4⟩
     ·exact .inl (Oper.wp_mono hk (Avy (fun c a w h=>h) (fun ⟨a,w,h⟩=>⟨a,w,h⟩) h3))
     ·exact .inr ⟨h3,let ⟨a,w,h⟩:=h4; ⟨a,w,h⟩⟩
    ·rename_i hw;rw [if_neg hw] at h3;exact hk _ _ h3
   ·have fm:i=init.size:=by
     exact Ya1n
    subst fm;have dt:=zp listed ke hcl hi;exact wx (fuel+1) listed a w ke (ww listed ke dt) (h1 dt)
end
section
variable {P:Program}
theorem Ain {C:Cx} {sz m:Nat} {y:AV} {ys:List AV} {vy:Value} (hy:VR C y vy) (h:litC sz y=some (m,ys)) (h0:0<m) (hs:0<sz) :
  ∃ b o cap vs,vy=.slice (some ⟨b,o,none⟩) m cap/\VRs C ys vs/\vs.length=m*sz/\Lie C.w C.Avoid b o vs/\(∀ v ∈ vs,v.oneCell'=true):=by
 unfold litC at h;split at h
 ·rename_i es c;split at h
  ·rename_i hh;simp only [A3,Ch] at h;obtain ⟨rfl,rfl⟩:=h;simp only [VR] at hy;obtain ⟨a,len,cap,rfl,e1,e2,e3,e4⟩:=hy;rcases e4 with rfl|⟨b,o,sz',rfl,hr⟩
   ·simp at h0
   ·have hne:es≠[]:=by intro e; subst e; simp at h0
    have:=Nt hr hh.1 hne;subst this;obtain ⟨l,g1,g2,g3⟩:=Hf hr;exact ⟨b,o,cap,l,by rw [e1],L4 g2,g1,g3,X1 g2⟩
  ·simp at h
 ·rename_i len cs;split at h
  ·rename_i hh;simp only [A3,Ch] at h;obtain ⟨rfl,rfl⟩:=h;simp only [VR] at hy;obtain ⟨b,vs,rfl,hl,hv⟩:=hy;have:=A5 hv;exact ⟨b,0,len,vs,rfl,hv,aA,hl,Pe hv hh.2⟩
  ·simp at h
 ·simp at h
def Cx.turn (C:Cx) (w:World) (id b:Nat) (cs:List AV):Cx:={ C with w:=w,φ:=fun i=>if i=id then b else C.φ i,S:=put C.S id ⟨C.n,cs⟩,n:=C.n+1 }
theorem Ahp {C:Cx} {w:World} {id b:Nat} {cs:List AV} {x o:Nat} (hm:(C.turn w id b cs).Mut x o):C.Mut x o\/x=b:=by
 rcases hm with ⟨i,hi,e⟩|h
 ·simp only [Cx.turn,Am] at hi e;split at e
  ·exact .inr e.symm
  ·exact .inl (.inl ⟨i,hi,e⟩)
 ·exact .inl (.inr h)
theorem Le.turn {C:Cx} {w:World} {id b:Nat} {cs:List AV} (hid:id<C.S.length) (hb:b=C.φ id\/C.w.heap.size<=b) (hos:w.os=C.w.os) (wi:w.tape=C.w.tape) (oh:w.output=C.w.output) (wj:C.w.heap.size<=w.heap.size)
  (hcell:∀ x o v,C.w.cell? ⟨x,o,none⟩=some v->¬ C.Mut x o->w.cell? ⟨x,o,none⟩=some v) (wk:∀ x,x<C.w.heap.size->(∀ o,¬ C.Mut x o)->w.heap[x]?=C.w.heap[x]?)
  (ra:∀ (b:Nat) (cs:Array Value) (t:TypeId) (fz:Nat × Nat),C.w.heap[b]?=some (iT cs t fz)->∃ cs':Array Value,w.heap[b]?=some (iT cs' t fz)/\cs'.size=cs.size):Le C (C.turn w id b cs):=by
 refine ⟨hos,wi,oh,wj,rfl,jI _,fun x o hx hm=>?_,hcell,wk,ra,fun i e he hn=>?_,fun _ k hk=>⟨k,hk,Cf _,fun _=>rfl⟩⟩
 ·rcases Ahp hm with h|rfl
  ·exact h
  ·rcases hb with rfl|hb
   ·exact .inl ⟨id,hid,rfl⟩
   ·omega
 ·by_cases h:id=i
  ·subst h;have:=Ee he;subst this;simp at hn
  ·simp only [Cx.turn] at he ⊢;rw [Af h] at he;exact ⟨e,he,rfl,by rw [if_neg (fun x=>h x.symm)]⟩
theorem SR.turn [Globs] {C:Cx} (am:SR C) {w:World} {id b:Nat} {cs:List AV} {arr:Array Value} {t:TypeId} (hid:id<C.S.length) (hb:b=C.φ id\/C.w.heap.size<=b) (hle:Le C (C.turn w id b cs)) (fo:w.heap[b]?=some (.cells arr t (0,0)))
  (wl:∀ i,i<C.S.length->i≠id->w.heap[C.φ i]?=C.w.heap[C.φ i]?) (hv:∃ vs r,arr.toList=vs++r/\VRs C cs vs):SR (C.turn w id b cs):=by
 have hne:∀ i,i<C.S.length->i≠id->C.φ i≠b:=fun i hi h e=>by
  rcases hb with hb|hb
  ·exact h (am.ne i id hi hid (by rw [e,hb]))
  ·have:=Pp am hi; omega
 refine ⟨fun i x hx=>?_,fun i j hi hj h=>?_,am.tok,fun i j o hi hj h h1 h2=>?_,fun x o hm=>?_,fun x o ha=>Ft (am.avlt x o ha) hle.size,fun i o hi h1 h2=>Ft (am.tlt i o hi h1 h2) hle.size,Qe am hle⟩
 ·by_cases h:id=i
  ·subst h;have:=Ee hx;subst this;obtain ⟨vs,r,hv1,un⟩:=hv;exact ⟨I4 _,arr,t,by simp only [Cx.turn,if_true]; exact fo,vs,r,hv1,VRs.mono hle _ _ un⟩
  ·have hx':nth C.S i=some x:=by simp only [Cx.turn] at hx; rw [<- Af h]; exact hx
   obtain ⟨h1,a',t',h2,vs,r,uo,h3⟩:=am.ent i x hx';refine ⟨Nat.lt_succ_of_lt h1,a',t',?_,vs,r,uo,VRs.mono hle _ _ h3⟩;simp only [Cx.turn];rw [if_neg (fun e=>h e.symm),wl i (A8 hx') (fun e=>h e.symm)]; exact h2
 ·simp only [Cx.turn,Am] at hi hj h;by_cases aw:i=id <;> by_cases eo:j=id
  ·omega
  ·rw [if_pos aw,if_neg eo] at h;exact absurd h.symm (hne j hj eo)
  ·rw [if_neg aw,if_pos eo] at h;exact absurd h (hne i hi aw)
  ·rw [if_neg aw,if_neg eo] at h;exact am.ne i j hi hj h
 ·simp only [Cx.turn,Am] at hi h hj h1 h2;by_cases aw:i=id
  ·rw [if_pos aw] at h;rcases hb with rfl|hb
   ·exact am.apart id j o hid hj h h1 h2
   ·have:=am.tlt j o hj h1 h2; omega
  ·rw [if_neg aw] at h;exact am.apart i j o hi hj h h1 h2
 ·rcases Ahp hm with h|rfl
  ·exact am.own x o h
  ·rcases hb with rfl|hb
   ·exact am.own _ o (.inl ⟨id,hid,rfl⟩)
   ·intro ha;have:=am.avlt _ o ha; omega
theorem Aj9 [Globs] {C:Cx} (am:SR C) {t ty:TypeId} {x y av:AV} {vx vy:Value} {S':List Ent} {n':Nat} (hx:VR C x vx) (hy:VR C y vy) (h:apO P t x y C.S C.n=some (av,S',n')) :
  ∃ v C',(O7 #[t,t] ty #[vx,vy]).run P C.w=.ok v C'.w/\Le C C'/\SR C'/\C'.S=S'/\C'.tk=C.tk/\C'.n=n'/\VR C' av v:=by
 unfold apO at h;split at h;case h_2=>simp at h
 rename_i sz hT;split at h;case h_2=>simp at h
 rename_i m ys hL;split at h;case isFalse=>simp at h
 rename_i hm;obtain ⟨dk,hmr⟩:=hm;simp only [roomy,decide_eq_true_eq] at hmr;obtain ⟨e,i,z,hu,hi,hz,hsz,hpos,pq,y8,-⟩:=Yb hT;obtain ⟨b2,o2,cap2,news,rfl,bj,cd,zl,cg⟩:=Ain hy hL dk hpos;have ik:∀ (j:Nat) u,news[j]?=some u->C.w.cell? (jG ⟨b2,o2,none⟩ j)=some u:=fun j u hj=>by rw [Dv]; exact (Kx zl j u hj).1
 unfold apO2 at h;split at h
 ·simp only [A3,Ch] at h;obtain ⟨rfl,rfl,rfl⟩:=h;simp only [VR] at hx;obtain ⟨a,len,cap,rfl,hlen,hcap,hC,hE⟩:=hx;obtain ⟨rfl,hcl⟩:a=none/\cap=len:=hC;simp only [C7] at hlen;subst hlen;subst hcl;have gc:m*i.bytes<=140737488355328:=by
   have:m*i.bytes<=1048576*1048576:=Ix hmr y8;omega
  have hrun:=run_append_nil (P:=P) C.w t ty e i z hu hi hz ⟨b2,o2,none⟩ m cap2 news dD ik aA aA aA;generalize hA:(news.toArray++Ot z.cells (grownCap C.w m 0 e - m))=arr at hrun;have iy:=grownCap_ge C.w m 0 e;have a2l:arr.size=grownCap C.w m 0 e*sz:=by
   rw [<- hA];simp only [Array.size_append,List.size_toArray,size_zeroCells,pq,cd];rw [Nat.sub_mul];have:=E5 sz iy;omega
  have hd:Below C.w.heap.size C.w C.w.drew:=(Fq _ _).drew;have a1w:SR (C.at C.w.drew):=SR.of_below am hd;have hv:∃ vs r,arr.toList=vs++r/\VRs (C.at C.w.drew) ys vs:=⟨news,(Ot z.cells (grownCap C.w m 0 e - m)).toList,by rw [<- hA]; simp,VRs.mono (Le.of_below hd) _ _ bj⟩;refine ⟨_,(C.at C.w.drew).more arr e ys,hrun,(Le.of_below hd).trans (Le.more a1w _ _ _),SR.moreP a1w hv,rfl,rfl,rfl,?_⟩;simp only [VR];refine ⟨C.w.heap.size,_,_,rfl,iy,.inr rfl,I4 _,fun e' om oe=>⟨?_,arr,e,?_,aA⟩⟩
  ·simp [Cx.more,Cx.at]
  ·exact Ap C.w.drew _
 ·rename_i id ep len sz';split at h;case isFalse=>simp at h
  rename_i hh;obtain ⟨rfl,dp⟩:=hh;split at h;case h_2=>simp at h
  rename_i cs gt;split at h;case isFalse=>simp at h
  rename_i hh;obtain ⟨hcl,bv⟩:=hh;simp only [roomy,decide_eq_true_eq] at bv;simp only [A3,Ch] at h;obtain ⟨rfl,rfl,rfl⟩:=h;obtain ⟨en,h1,h2,rfl⟩:=Ds gt;simp only [VR] at hx;obtain ⟨b,a,cap,rfl,hcap,ha,hn,hb⟩:=hx;obtain rfl:=ha.resolve_left aA;obtain ⟨rfl,arr,tt,h3,b6⟩:=hb en h1 h2;obtain ⟨-,arr',tt',h3',olds,r,hor,np⟩:=am.ent id en h1;rw [h3] at h3';simp only [A3,jL] at h3';obtain ⟨rfl,rfl,-⟩:=h3';have eg:=A8 h1;have m8:=A5 np;have a2l:arr.size=olds.length+r.length:=by rw [<- Iv,hor,Cs]
  have j9:len*sz'+m*sz'=(len+m)*sz':=(Ns _ _ _).symm;have a0d:VRs C (en.cells++ys) (olds++news):=Hg np bj;by_cases ez:len+m<=cap
  ·have vz:(len+m)*sz'<=cap*sz':=E5 _ ez;have hrun:=K0 (P:=P) C.w t ty e i hu hi (C.φ id) len cap tt arr h3 ⟨b2,o2,none⟩ m cap2 news dD ik cg ez (by rw [hsz,cd]; omega);rw [hsz] at hrun;generalize hA:(arr.toList.take (len*sz')++news++arr.toList.drop (len*sz'+news.length)).toArray=arr1 at hrun;have k8:arr1.size=arr.size:=by rw [<- hA]; simp; omega
   have ky:arr.toList.take (len*sz')=olds:=by rw [hor,Iy aA,Dc aA]
   have hv:∃ vs r,arr1.toList=vs++r/\VRs C (en.cells++ys) vs:=⟨olds++news,arr.toList.drop (len*sz'+news.length),by rw [<- hA,ky],a0d⟩;have vw:(C.w.setRow (C.φ id) arr1).heap[C.φ id]?=some (.cells arr1 tt (0,0)):=setRow_heap _ _ _ _ _ _ h3;have hle:Le C (C.turn (C.w.setRow (C.φ id) arr1) id (C.φ id) (en.cells++ys)):=by
    have hm:∀ o,C.Mut (C.φ id) o:=fun o=>.inl ⟨id,eg,rfl⟩;refine Le.turn eg (.inl rfl) rfl rfl rfl (by simp) (fun x o v hv hn=>?_) (fun x _ hn=>?_) (fun x d t' fz hd=>?_)
    ·have hne:x≠C.φ id:=fun h=>hn (h ▸ hm o);have:=setRow_other C.w (C.φ id) x arr1 hne;simpa [I7,this] using hv
    ·exact setRow_other C.w (C.φ id) x arr1 fun h=>hn 0 (h ▸ hm 0)
    ·by_cases h:x=C.φ id
     ·subst h;rw [h3] at hd;simp only [A3,jL] at hd;obtain ⟨rfl,rfl,rfl⟩:=hd;exact ⟨arr1,vw,k8⟩
     ·exact ⟨d,Za3w,rfl⟩
   refine ⟨_,_,hrun,hle,SR.turn am eg (.inl rfl) hle vw (fun i hi hne=>setRow_other _ _ _ _ fun h=>hne (am.ne i id hi eg h)) hv,rfl,rfl,rfl,?_⟩;simp only [VR];refine ⟨C.φ id,_,_,rfl,ez,.inr rfl,I4 _,fun e' om oe=>⟨by simp [Cx.turn],arr1,tt,vw,aA⟩⟩
  ·have g9:cap<len+m:=aA
   have gc:(len+m)*i.bytes<=140737488355328:=by
    have:(len+m)*i.bytes<=1048576*1048576:=Ix bv y8;omega
   have hcells:∀ (j:Nat) v,olds[j]?=some v->C.w.cell? (jG ⟨C.φ id,0,none⟩ j)=some v:=fun j v hj=>by
    rw [Dv,Fo];have:arr.toList[j]?=some v:=by rw [hor,Cu (Fk.1 hj).1]; exact hj
    simp [I7,h3]; simpa using this
   have hrun:=run_append_grow (P:=P) C.w t ty e i z hu hi hz ⟨C.φ id,0,none⟩ len cap olds (by rw [hsz]; omega) hcells ⟨b2,o2,none⟩ m cap2 news dD ik g9 aA (growslice_fits g9 gc);generalize hA:(olds.toArray++news.toArray++Ot z.cells (grownCap C.w (len+m) cap e - (len+m)))=arr1 at hrun;have iy:=grownCap_ge C.w (len+m) cap e;have a3q:arr1.size=grownCap C.w (len+m) cap e*sz':=by
    rw [<- hA];simp only [Array.size_append,List.size_toArray,size_zeroCells,pq,cd];rw [Nat.sub_mul];have:=E5 sz' iy;omega
   have hbel:Below C.w.heap.size C.w (C.w.drew.alloc (.cells arr1 e)):=((Fq _ _).drew).alloc (by simp) _;have vw:(C.w.drew.alloc (.cells arr1 e)).heap[C.w.heap.size]?=some (.cells arr1 e (0,0)):=Ap C.w.drew _;have hle:Le C (C.turn (C.w.drew.alloc (.cells arr1 e)) id C.w.heap.size (en.cells++ys)) :=
    Le.turn eg (.inr (Cf _)) hbel.os hbel.tape hbel.output hbel.size (fun x o v hv _=>Za3o) (fun x hx _=>hbel.block x hx) (fun x d t' fz hd=>⟨d,Dl hbel hd,rfl⟩)
   have hv:∃ vs r,arr1.toList=vs++r/\VRs C (en.cells++ys) vs:=⟨olds++news,(Ot z.cells (grownCap C.w (len+m) cap e - (len+m))).toList,by rw [<- hA]; simp,a0d⟩;refine ⟨_,_,hrun,hle,SR.turn am eg (.inr (Cf _)) hle vw (fun i hi _=>hbel.block _ (Pp am hi)) hv,rfl,rfl,rfl,?_⟩;simp only [VR];refine ⟨C.w.heap.size,_,_,rfl,iy,.inr rfl,I4 _,fun e' om oe=>⟨by simp [Cx.turn],arr1,e,vw,aA⟩⟩
 ·simp at h
end
section
variable {P:Program}
theorem Le.take {C:Cx} (k:Nat):Le C { C with S:=C.S.take k }:=by
 refine ⟨rfl,rfl,rfl,Cf _,rfl,Cf _,?_,fun _ _ _ h _=>h,fun _ _ _=>rfl,fun _ cs _ _ h=>⟨cs,h,rfl⟩,?_,fun _ q h=>⟨q,h,Cf _,fun _=>rfl⟩⟩
 ·rintro b o - (⟨i,hi,h⟩|h)
  ·exact .inl ⟨i,cH,h⟩
  ·exact .inr h
 ·intro i e h _;rw [Ae,I2] at h;split at h
  ·exact ⟨e,by rw [Ae]; exact h,rfl,rfl⟩
  ·simp at h
theorem SR.take [Globs] {C:Cx} (hs:SR C) (k:Nat):SR { C with S:=C.S.take k }:=by
 have hle:=Le.take (C:=C) k;refine ⟨fun i e h=>?_,fun i j hi hj h=>hs.ne i j cH (by simp at hj; omega) h,hs.tok,fun i j o hi=>hs.apart i j o cH,?_,hs.avlt,hs.tlt,Qe hs hle⟩
 ·rw [Ae,I2] at h;split at h
  ·obtain ⟨h1,cs,t,h2,vs,r,uo,h3⟩:=hs.ent i e (by rw [Ae]; exact h);exact ⟨h1,cs,t,h2,vs,r,uo,VRs.mono hle _ _ h3⟩
  ·simp at h
 ·rintro b o (⟨i,hi,h⟩|h)
  ·exact hs.own b o (.inl ⟨i,cH,h⟩)
  ·exact hs.own b o (.inr h)
def Ku [Globs] (P:Program) (call:Bh):Prop :=
 ∀ f args S tk n r S' tk' n', call f args S tk n = some (r, S', tk', n') → (∃ fn, P.funcs[f]? = some fn ∧ (fn.name == "runtime.NumGoroutine") = false ∧ fn.body.isNone = false) ∧
  ∀ (C:Cx) (vs:Array Value),C.S=S->C.tk=tk->C.n=n->SR C->VRs C args vs.toList ->
   Calls P f vs C.w fun e w'=>∃ v C',e=.returned v/\C'.w=w'/\Le C C'/\SR C'/\C'.S=S'/\C'.tk=tk'/\C'.n=n'/\VR C' r v
theorem Hb {o:Oper} {a:Act} {w w':World} {v:Value} {next:Act->World->Prop} {Q:Exit->Act->World->Prop} (h:(execOp a.eval o).run P w=.ok (.value v) w') (hn:next (a.put o.dst v) w'):o.wp P a w next Q:=by
 unfold Oper.wp; rw [h]; exact hn
theorem Hn [Globs] {call:Bh} (hc:Ku P call) {C:Cx} {st st':St} {a:Act} {o:Oper} {av:AV} (hr:Rel C st a) (h:evO P call o st=some (av,st')) {next:Act->World->Prop} {Q:Exit->Act->World->Prop}
  (hn:∀ v C',Le C C'->SR C'->C'.S=st'.S->C'.tk=st'.tk->C'.n=st'.n->VR C' av v->next (a.put o.dst v) C'.w):o.wp P a C.w next Q/\st'.T=st.T:=by
 have hρ:=Afa hr.tmps;have quiet:∀ av',evQ P o (opv st.T)=some av'->(av',st)=(av,st')->o.wp P a C.w next Q/\st'.T=st.T:=by
  intro av' hq e;simp only [Ch] at e;obtain ⟨rfl,rfl⟩:=e;obtain ⟨v,w',h1,h2,h3⟩:=Al0 hr.sr hρ hq;exact ⟨Hb h1 (hn v (C.at w') (Le.of_below h2) (SR.of_below hr.sr h2) hr.S hr.tk hr.n h3),rfl⟩
 unfold evO at h;split at h
 ·rename_i t x e;simp only [Cb,Ch] at h;obtain ⟨v,h,rfl,rfl⟩:=h;rw [<- hr.S] at h;obtain ⟨u,h1,h2⟩:=Abv hr.sr (hρ x) h;exact ⟨Hb (v:=u) (w':=C.w) (by simp [execOp,e,h1]) (hn u C (Le.refl C) hr.sr hr.S hr.tk hr.n h2),rfl⟩
 ·rename_i t x y e;simp only [Cb,Ch] at h;obtain ⟨S',h,rfl,rfl⟩:=h;rw [<- hr.S] at h;obtain ⟨C',h1,h2,h3,h4,h5,h6⟩:=Aoe hr.sr (hρ x) (hρ y) h;refine ⟨?_,rfl⟩;unfold Oper.wp;have:(execOp a.eval o).run P C.w=.ok .skip C'.w:=by simp [execOp,e,h1]
  rw [this];exact hn undef C' h2 h3 h4 (h5.trans hr.tk) (h6.trans hr.n) bQ
 ·rename_i t e;simp only [Cb,Ch] at h;obtain ⟨cs,h,rfl,rfl⟩:=h;obtain ⟨zv,h1,rfl⟩:=Kd (w:=C.w) h;refine ⟨Hb (v:=.pointer (some ⟨C.w.heap.size,0,none⟩)) (w':=C.w.alloc (.cells zv.cells t)) ?_ ?_,rfl⟩
  ·simp only [execOp,e,Instr.alloc,Fv,h1,Fj,newVar,H9,I1]
  ·have:=hn (.pointer (some ⟨C.w.heap.size,0,none⟩)) (C.more zv.cells t (zv.cells.toList.map cst1)) (Le.more hr.sr _ _ _) (SR.more hr.sr (Jm _)) Za3h hr.tk Za4i (by rw [<- hr.S,<- hr.n]; exact Asf);exact this
 ·rename_i t x e;simp only [Cb,Ch] at h;obtain ⟨cs,h,rfl,rfl⟩:=h;have hv:=G6 h (hρ x);refine ⟨Hb (v:=.pointer (some ⟨C.w.heap.size,0,none⟩)) (w':=C.w.alloc (.cells (a.eval x).cells t)) ?_ ?_,rfl⟩
  ·simp only [execOp,e,Instr.box,Fv,Fj,newVar,H9,I1]
  ·have:=hn (.pointer (some ⟨C.w.heap.size,0,none⟩)) (C.more (a.eval x).cells t cs) (Le.more hr.sr _ _ _) (SR.more hr.sr hv) Za3h hr.tk Za4i (by rw [<- hr.S,<- hr.n]; exact Asf);exact this
 ·rename_i t l c e;simp only [Cb,Prod.exists] at h;obtain ⟨l',sz,cs,h,hh⟩:=h;obtain ⟨el,m,arr,r1,r2,r3,r4,r5⟩:=Am4 (hρ l) (hρ c) h;have hrun:(execOp a.eval o).run P C.w=.ok (.value (.slice (some ⟨C.w.heap.size,0,none⟩) l' m)) (C.w.alloc (.cells arr el)):=by simp [execOp,e,r1]
  have hb:Below C.w.heap.size C.w (C.w.alloc (.cells arr el)):=(Fq _ _).alloc (Cf _) _;have fo:cs.length=arr.size:=by rw [<- r2]; simp
  split at hh
  ·rename_i g9;simp only [Ch] at hh;obtain ⟨rfl,rfl⟩:=hh;have hlm:l'*sz<=m*sz:=E5 _ r3;have ae:Be C.tk .tight sz=true:=rfl;have hn':Ms C .tight C.w.heap.size (l'*sz) (m*sz):=.inr (.inl (Cf _));have hle:Le C (C.tok (C.w.alloc (.cells arr el)) .tight (C.w.heap.size,l'*sz,m*sz)) :=
    Le.of_tok ae hn' rfl rfl rfl hb.size (fun x o v hv _=>by rw [kK hb (Gv hv)]; exact hv) (fun x hlt _=>hb.block x hlt) (fun b d t fz hd=>⟨d,Dl hb hd,rfl⟩)
   have am:=SR.of_tok hr.sr ae hn' (fun _=>(Cj.1 (Ap C.w (.cells arr el))).1) hle (fun i hi=>hb.block _ (Pp hr.sr hi));have hcap:CapR (C.tok (C.w.alloc (.cells arr el)) .tight (C.w.heap.size,l'*sz,m*sz)) (.tok C.tk.length 0 sz) (some ⟨C.w.heap.size,0,none⟩) l' m:=Kl (c:=.tight) ae (.inr ⟨arr,el,rfl,rfl,Ap _ _,aA⟩);have hv:VR (C.tok (C.w.alloc (.cells arr el)) .tight (C.w.heap.size,l'*sz,m*sz)) (mkV (len0 l) st.tk.length l' sz cs) (.slice (some ⟨C.w.heap.size,0,none⟩) l' m):=by
    unfold mkV;split
    ·rename_i dp;have ph:l'=0:=by
      cases l with
      | const v=>cases v with
       | int k z =>
        unfold len0 at dp
        split at dp
        ·rename_i k' he
         simp only [Operand.const.injEq,iH.injEq] at he
         obtain ⟨rfl,rfl⟩:=he
         simp [opv,cst,cst1,intN] at r5; exact r5.symm
        ·simp at dp
       | _=>simp [len0] at dp
      | _=>simp [len0] at dp
     subst ph;simp only [VR];refine ⟨_,0,m,rfl,rfl,Cl _,?_,.inl trivial⟩;rw [<- hr.tk];exact hcap
    ·unfold M3;split
     ·rename_i es wg;split
      ·rename_i hp;obtain ⟨g1,g2,g3,g4⟩:=Mo wg;simp only [tokA,VR];refine ⟨_,l',m,rfl,by simp [g1],r3,by rw [<- hr.tk]; exact hcap,.inr ⟨C.w.heap.size,0,sz,rfl,?_⟩⟩;obtain ⟨e1,e2,e3,e4,e5,e6,e7,e8,e9,e10,e11⟩:=M5 (w:=C.w.alloc (.cells arr el)) (x:=(C.w.heap.size,l'*sz,m*sz)) ae;have pu:(es.map (·.map w1)).flatten=((arr.toList.map cst1).take (l'*sz)).map w1:=by rw [r2,<- g3,List.map_flatten]
       have wu:VRs C ((arr.toList.map cst1).take (l'*sz)) (arr.toList.take (l'*sz)):=(Kg (Jm _) (Mq (by rw [r2]; exact g4))).1;refine G4 (l:=arr.toList.take (l'*sz)) (fun e he=>?_) ?_ (Ky fun j v hj=>?_)
       ·exact Ya2i
       ·rw [pu];refine PRs.stays hle.stays _ _ (J2 (C:=C) ?_ (Wq wu));rw [r2,<- g3,C4];intro c hc;exact Ya0r
       ·rw [Fo];have jn:j<l'*sz:=by
         exact Ya1j
        rw [Ii jn] at hj;constructor
        ·rw [e1];simp only [I7,Ap];simpa using hj
        ·rintro (dx|ef)
         ·rw [e2] at dx;have:=hr.sr.avlt _ _ dx; omega
         ·rcases Tl ae hn' ef with h|⟨-,h1,h2,-⟩
          ·exact hr.sr.fresh (Cf _) (.inr h)
          ·omega
      ·simp only [tokA,VR]
     ·simp only [tokA,VR]
   exact ⟨Hb hrun (hn _ _ hle am hr.S (by show C.tk++[0]=_; rw [hr.tk]) hr.n hv),rfl⟩
  ·simp only [Ch] at hh;obtain ⟨rfl,rfl⟩:=hh;subst r2;refine ⟨Hb hrun (hn _ (C.more arr el (arr.toList.map cst1)) (Le.more hr.sr _ _ _) (SR.more hr.sr (Jm _)) Za3h hr.tk Za4i ?_),rfl⟩;simp only [VR];refine ⟨C.w.heap.size,some ⟨C.w.heap.size,0,none⟩,m,rfl,r3,.inr rfl,by rw [<- hr.n]; exact I4 _,fun e' om oe=>⟨?_,arr,el,Ap _ _,?_⟩⟩
   ·rw [<- hr.S];simp [Cx.more]
   ·simp only [F8,Iv] at r4;omega
 ·rename_i c e;split at h
  ·rename_i hb;split at h
   ·rename_i x y t t' i5 ht;split at h
    ·split at h
     ·rename_i tv;subst tv;simp only [Cb,Ch,Prod.exists] at h;obtain ⟨v,S',n',h,rfl,rfl⟩:=h;have aa:=K7 hr.tmps c.args.toList;rw [i5] at aa;obtain ⟨ux,uy,hu⟩:=Ac6 aa;rw [hu] at aa;simp only [VRs,and_true] at aa;rw [<- hr.S,<- hr.n] at h;obtain ⟨w,C',h1,h2,h3,h4,h5,h6,h7⟩:=Aj9 (ty:=o.type) hr.sr aa.1 aa.2 h;have ha:c.args.map a.eval=#[ux,uy]:=cU
      have nq:c.argTypes=#[t,t]:=dB
      exact ⟨Hb (v:=w) (w':=C'.w) eM (hn w C' h2 h3 h4 (h5.trans hr.tk) h6 h7),rfl⟩
     ·simp at h
    split at h
    ·rename_i tv;subst tv;simp only [Cb,Ch,Prod.exists] at h;obtain ⟨v,tk',h,rfl,rfl⟩:=h;have aa:=K7 hr.tmps c.args.toList;rw [i5] at aa;obtain ⟨ux,uy,hu⟩:∃ ux uy,c.args.toList.map a.eval=[ux,uy]:=by
      have:=A5 aa;match hl:c.args.toList.map a.eval with
      | [p,q]=>exact ⟨p,q,rfl⟩
      | []=>rw [hl] at this; simp at this
      | [_]=>rw [hl] at this; simp at this
      | _ :: _ :: _ :: _=>rw [hl] at this; simp at this
     rw [hu] at aa;simp only [VRs,and_true] at aa;rw [<- hr.tk,<- hr.S] at h;obtain ⟨w,C',h1,h2,h3,h4,h5,h6,h7⟩:=Ah2 (ty:=o.type) hr.sr aa.1 aa.2 h;have ha:c.args.map a.eval=#[ux,uy]:=cU
     have nq:c.argTypes=#[t,t]:=dB
     exact Ya29
    ·simp only [Cb,Ch,Prod.exists] at h;obtain ⟨v,tk',h,rfl,rfl⟩:=h;have aa:=K7 hr.tmps c.args.toList;rw [i5] at aa;obtain ⟨ux,uy,hu⟩:=Ac6 aa;rw [hu] at aa;simp only [VRs,and_true] at aa;rw [<- hr.tk] at h;obtain ⟨w,C',h1,h2,h3,h4,h5,h6,h7⟩:=Akb (ty:=o.type) hr.sr aa.1 aa.2 h;have ha:c.args.map a.eval=#[ux,uy]:=cU
     have nq:c.argTypes=#[t,t']:=dB
     exact Ya29
   ·simp at h
  ·rename_i hb;split at h
   ·rename_i x y t t' i5 ht;simp only [Cb,Ch,Prod.exists] at h;obtain ⟨m,S',h,rfl,rfl⟩:=h;have aa:=K7 hr.tmps c.args.toList;rw [i5] at aa;obtain ⟨ux,uy,hu⟩:=Ac6 aa;rw [hu] at aa;simp only [VRs,and_true] at aa;rw [<- hr.S] at h;obtain ⟨C',h1,h2,h3,h4,h5,h6⟩:=Alh (ty:=o.type) (t':=t') hr.sr aa.1 aa.2 h;have ha:c.args.map a.eval=#[ux,uy]:=cU
    have nq:c.argTypes=#[t,t']:=dB
    exact ⟨Hb (v:=.int .i64 (m:Int)) (w':=C'.w) eM (hn _ C' h2 h3 h4 (h5.trans hr.tk) (h6.trans hr.n) bQ),rfl⟩
   ·simp at h
  ·exact Ya2t
  ·split at h
   ·rename_i f args fv;simp only [Cb,Ch,Prod.exists] at h;obtain ⟨r,S',tk',n',h,rfl,rfl⟩:=h;refine ⟨?_,rfl⟩;unfold Ew at fv;split at fv
    ·rename_i x m hx;split at fv
     ·rename_i ti vi w7;simp only [Cb,Ch] at fv;obtain ⟨f',hm,rfl,rfl⟩:=fv;have pw:=hρ x;rw [w7] at pw;simp only [VR] at pw;obtain ⟨u,pw,hu⟩:=pw;obtain ⟨⟨fn,g1,g2,g3⟩,cw⟩:=hc _ _ _ _ _ _ _ _ _ h;have aa:VRs C (vi :: c.args.toList.map (opv st.T)) (u :: c.args.toList.map a.eval):=by simp only [VRs]; exact ⟨hu,K7 hr.tmps c.args.toList⟩
      have hC:=cw C (#[u]++c.args.map a.eval) hr.S hr.tk hr.n hr.sr (by simpa using aa);have hrun:(execOp a.eval o).run P C.w=.ok (.enter f' (#[u]++c.args.map a.eval)) C.w:=by
       have cd : ¬ fn.name = "runtime.NumGoroutine" := eG
       have cr:¬ fn.body=none:=Za22
       have hmr:=Air (P:=P) (w:=C.w) (u:=u) hm;have hz0:(#[Value.iface ti u]++c.args.map a.eval)[0]?=some (.iface ti u):=by simp [Array.getElem?_append]
       have hz1:(#[Value.iface ti u]++c.args.map a.eval).extract 1 (#[Value.iface ti u]++c.args.map a.eval).size=c.args.map a.eval:=by
        apply iV; simp [Dc]
       simp only [execOp,e,resolve,hx,pw,invoke,Fv,I1,Fj,hz0,hz1,callMethod];simp [callFunc,hmr,g1,cd,cr]
      exact Yay
     ·simp at fv
    ·rename_i x hx;split at fv
     ·rename_i f' caps w7;simp only [A3,Ch] at fv;obtain ⟨rfl,rfl⟩:=fv;have pw:=hρ x;rw [w7] at pw;simp only [VR] at pw;obtain ⟨us,pw,xa⟩:=pw;obtain ⟨⟨fn,g1,g2,g3⟩,cw⟩:=hc _ _ _ _ _ _ _ _ _ h;have aa:=Hg (K7 hr.tmps c.args.toList) xa;have hC:=cw C (c.args.map a.eval++us) hr.S hr.tk hr.n hr.sr (by simpa using aa);have hrun:(execOp a.eval o).run P C.w=.ok (.enter f' (c.args.map a.eval++us)) C.w:=by
       have cd : ¬ fn.name = "runtime.NumGoroutine" := eG
       exact Ya1s
      exact Yay
     ·rename_i f' caps w7;simp only [A3,Ch] at fv;obtain ⟨rfl,rfl⟩:=fv;have pw:=hρ x;rw [w7] at pw;simp only [VR] at pw;obtain ⟨us,pw,xa⟩:=pw;obtain ⟨⟨fn,g1,g2,g3⟩,cw⟩:=hc _ _ _ _ _ _ _ _ _ h;have aa:=Hg xa (K7 hr.tmps c.args.toList);have hC:=cw C (us++c.args.map a.eval) hr.S hr.tk hr.n hr.sr (by simpa using aa);have hrun:(execOp a.eval o).run P C.w=.ok (.enter f' (us++c.args.map a.eval)) C.w:=by
       have cd : ¬ fn.name = "runtime.NumGoroutine" := eG
       exact Ya1s
      exact Yay
     ·simp at fv
    ·simp at fv
   ·simp at h
 ·exact Ya2t
theorem Jj {C:Cx} {T:List AV} {a:Act} {ops:Array Oper} {o:Oper} {b:Bool} (ht:VRs C T a.tmps.toList) (h:H7 ops.toList T o=some b):Sc o (yielded ops a.tmps)=b:=by
 unfold H7 at h;unfold Sc;split at h
 ·rename_i hg; rw [hg]; simpa using h
 ·rename_i g want hg;rw [hg];simp only;split at h
  ·simp at h
  ·rename_i d hd;have dm:(ops[g]?).bind (·.dst)=some d:=by rw [Ae] at hd; simpa using hd
   unfold yielded;rw [dm];simp only [Oo];by_cases hlt:d<T.length
   ·obtain ⟨v,h1,h2⟩:=Wp ht (Al9 hlt);have v7:a.tmps[d]?=some v:=aW
    rw [v7];split at h
    ·exact Ya35
    ·exact Ya35
    ·simp at h
   ·rw [Pb (gG hlt)] at h;simp at h
theorem Rel.put [Globs] {C C':Cx} {st st':St} {a:Act} {d:Option Tmp} {v:Value} {av:AV} (hr:Rel C st a) (hle:Le C C') (hs:SR C') (h1:C'.S=st'.S) (h2:C'.tk=st'.tk) (h3:C'.n=st'.n) (hv:VR C' av v) (hT:st'.T=st.T) :
  Rel C' { st' with T:=putT st'.T d av } (a.put d v) :=
 ⟨h1,h2,h3,X5 (by rw [hT]; exact VRs.mono hle _ _ hr.tmps) hv,by cases d <;> exact hr.defers,hs⟩
theorem Qc [Globs] {call:Bh} (hc:Ku P call) {ops:Array Oper} {Q:Exit->Act->World->Prop} : ∀ {l:List Oper} {C:Cx} {st st':St} {a:Act},Rel C st a->evOs P call ops.toList l st=some st' ->
  (∀ a' C',Le C C'->Rel C' st' a'->Q .normal a' C'.w)->wpList P ops Q l a C.w
 | [],C,st,st',a,hr,h,hQ=>by
  simp only [evOs,A3] at h; subst h;exact hQ a C (Le.refl C) hr
 | o :: l,C,st,st',a,hr,h,hQ=>by
  simp only [evOs] at h;split at h
  ·simp at h
  ·rename_i hw;have:=Jj hr.tmps hw;unfold wpList;rw [if_neg (by rw [this]; simp)];exact Qc hc (hr.put (Le.refl C) hr.sr hr.S hr.tk hr.n bQ rfl) h hQ
  ·rename_i hw;have:=Jj hr.tmps hw;unfold wpList;rw [if_pos this];split at h
   ·rename_i v st1 ho;split at h;case isFalse=>simp at h
    have hT:st1.T=st.T:=(Hn (next:=fun _ _=>True) (Q:=Q) hc hr ho (fun _ _ _ _ _ _ _ _=>trivial)).2;refine .inl (Hn hc hr ho fun u C' k1 k2 k3 k4 k5 k6=>?_).1;exact Qc hc (hr.put k1 k2 k3 k4 k5 k6 hT) h fun a' C'' k b8=>hQ a' C'' (k1.trans k) b8
   ·simp at h
theorem Ae2 {c:Code} {Q:Exit->Act->World->Prop} (J:Nat->Act->World->Prop) (round:∀ n a w,J n a w->c.wp P (Exit.then (fun a' w'=>∃ m,m<n/\J m a' w') Q) a w) {n:Nat} {a:Act} {w:World} (h0:J n a w):(Code.loop c).wp P Q a w:=by
 intro b k cs;have key:∀ n a w,J n a w->∃ e a' w',Q e a' w'/\Arrives P (lone (b.at a (.code c :: .inLoop c :: k)) cs w) b k cs e a' w':=by
  intro n;induction n using Sq with
  | _ n ih =>
   intro a w hJ;obtain ⟨e,a₁,w₁,hq,fo⟩:=round n a w hJ b (.inLoop c :: k) cs;cases e with
   | normal =>
    obtain ⟨m,hlt,hJ₁⟩:=hq;obtain ⟨e₂,a₂,w₂,hq₂,harr₂⟩:=ih m hlt a₁ w₁ hJ₁;exact ⟨e₂,a₂,w₂,hq₂,.of_steps (Steps.trans fo (.one step_inLoop)) harr₂⟩
   | exit id=>exact ⟨_,a₁,w₁,hq,.pass (x:=.inLoop c) rfl (fun _ _=>.inl (by simp)) fo⟩
   | goto l=>exact ⟨_,a₁,w₁,hq,.pass (x:=.inLoop c) rfl (fun _ _=>.inl (by simp)) fo⟩
   | ret=>exact ⟨_,a₁,w₁,hq,.pass (x:=.inLoop c) rfl (fun _ _=>.inl (by simp)) fo⟩
   | panic ch=>exact ⟨_,a₁,w₁,hq,.pass (x:=.inLoop c) rfl (fun _ _=>.inl (by simp)) fo⟩
   | outgrown=>exact ⟨_,a₁,w₁,hq,.pass (x:=.inLoop c) rfl (fun _ _=>.inl (by simp)) fo⟩
 obtain ⟨e,a',w',hq,fo⟩:=key n a w h0;exact ⟨e,a',w',hq,.of_steps (.one step_loop) fo⟩
def exOf:Ex->Exit
 | .normal=>.normal
 | .exit id=>.exit id
 | .ret=>.ret
def Av7 [Globs] (call:Bh):Prop:=∀ f args S tk n r S' tk' n',call f args S tk n=some (r,S',tk',n')->S'=S/\tk'=tk/\(shF f=true\/(n'=n/\∀ S2 tk2 n2,call f args S2 tk2 n2=some (r,S2,tk2,n2)))
def Tj [Globs] (call:Bh):Prop:=∀ f args S tk n r S' tk' n',call f args S tk n=some (r,S',tk',n')->(xF f && Globs.dr)=true\/(S'=S/\tk'=tk/\(shF f=true\/(n'=n/\∀ S2 tk2 n2,call f args S2 tk2 n2=some (r,S2,tk2,n2))))
def extC (P:Program) [Ext P]:Bh:=fun f args S tk n=>if Ext.on P f=true then Ext.call P f args S tk n else none
class Ahu [Globs] (P:Program) [Ext P]:Prop where
 ok:Ku P (extC P)
 indep:∀ M,@Av7 (gM M) (@E9 (gM M) P _ (extC P))
theorem Yc [Globs] [Ext P] {M:Md} {call:Bh} (h:Ku P call):Ku P (@E9 (gM M) P _ call):=by
 intro f args S tk n r S' tk' n' hh;unfold E9 at hh;split at hh
 ·exact h f args S tk n r S' tk' n' hh
 ·simp at hh
def Atd (P:Program) (real ops:Array Oper):Option (Nat × Oper)->Prop
 | none=>real=ops
 | some (p,al)=>real.size=ops.size/\(∀ i:Nat,i≠p->real[i]?=ops[i]?)/\(∀ (i:Nat) (o:Oper),ops[i]?=some o->isMk o=false)/\real[p]?=some al/\al.guard=none/\al.dst.isSome=true/\(∃ t cs,al.op=.alloc t/\Av P t=some cs)/\ops[p]?=some { al with op:=.move (.global 0) }
def Vr (P:Program) (lt:Option (Nat × Oper)) (st:St):St :=
 match lt with
 | none=>st
 | some (_,al)=>match al.op with
  | .alloc t=>{ st with T:=putT st.T al.dst (.ref st.S.length st.n 0),S:=st.S++[⟨st.n,(Av P t).getD []⟩],n:=st.n+1 }
  | _=>st
def Ae5 [Globs] (P:Program) (ok:St->List Oper->Bool):Prop:=P.follows .mixedOrders=true /\
 ∀ (call:Bh),Ku P call->∀ (real ops:Array Oper) (lt:Option (Nat × Oper)),Atd P real ops lt->@Tj (gM (mdOf ops.toList)) call->∀ (C:Cx) (st st':St) (a:Act) (Q:Exit->Act->World->Prop),ok st ops.toList=true->Rel C st a->@evOs (gM (mdOf ops.toList)) P call ops.toList ops.toList st=some st' ->
  (∀ a' C',Le C C'->Rel C' (Vr P lt st') a'->Q .normal a' C'.w)->wpAny P .any real Q real.size (Sr real.size false) a { C.w with drawn:=C.w.drawn+1 }
theorem Nh:∀ {L:List Oper} {p:Nat} {al:Oper} {x:Oper},Mz L=some (p,al)->Aqy al=true/\L[p]?=some al/\(openL (L++[x])).length=L.length/\(openL (L++[x]))[p]?=some { al with op:=.move (.global 0) }/\(∀ i,i≠p->(openL (L++[x]))[i]?=L[i]?)/\∀ o ∈ openL (L++[x]),isMk o=false
 | [],_,_,_,h=>by simp [Mz] at h
 | o :: l,p,al,x,h=>by
  have hop:∀ (l:List Oper),openL (o :: l++[x])=Wj o :: openL (l++[x]):=fun l=>by cases l <;> rfl
  have keep:∀ (l:List Oper),l.any isMk=false->openL (l++[x])=l:=by
   intro l;induction l with
   | nil=>intro _; rfl
   | cons y l ih =>
    intro hl;simp only [List.any_cons,Fb] at hl;have e:openL (y :: l++[x])=Wj y :: openL (l++[x]):=by cases l <;> rfl
    rw [e,ih hl.2];unfold Wj;rw [if_neg (by rw [hl.1]; simp)]
  unfold Mz at h;rw [hop];split at h
  ·rename_i ft;split at h
   ·rename_i hc;simp only [Ci,Gb] at hc;simp only [A3,Ch] at h;obtain ⟨rfl,rfl⟩:=h;rw [keep l hc.2];refine ⟨hc.1,rfl,rfl,?_,fun i hi=>?_,fun y hy=>?_⟩
    ·unfold Wj; rw [if_pos ft]; rfl
    ·cases i with
     | zero=>exact absurd rfl hi
     | succ i=>rfl
    ·rcases C6.1 hy with rfl|hy
     ·unfold Wj; rw [if_pos ft]; rfl
     ·simpa using List.any_eq_false.1 hc.2 y hy
   ·cases h
  ·rename_i ft;simp only [Cb,Ch,Prod.exists] at h;obtain ⟨p',al',h,rfl,rfl⟩:=h;obtain ⟨a1,a2,a3,a4,a5,a6⟩:=Nh (x:=x) h;have e:Wj o=o:=by unfold Wj; rw [if_neg ft]
   rw [e];refine ⟨a1,a2,by simp [a3],a4,fun i hi=>?_,fun y hy=>?_⟩
   ·cases i with
    | zero=>rfl
    | succ i=>exact a5 i aA
   ·rcases C6.1 hy with rfl|hy
    ·simpa using ft
    ·exact a6 y hy
theorem W7 [Globs] {L:List Oper} {p:Nat} {al o:Oper} (h:Ko L=some (p,al,o)):∃ a,L=a++[o]/\Avq a o=true/\isSt o=true/\Mz a=some (p,al):=by
 unfold Ko at h;split at h
 ·rename_i o' ho;split at h
  ·rename_i ht;simp only [Ci] at ht;simp only [Cb,Ch,Prod.exists] at h;obtain ⟨p',al',h,rfl,rfl,rfl⟩:=h;exact ⟨_,by rw [List.getLast?_eq_some_iff] at ho; obtain ⟨l,rfl⟩:=ho; simp,ht.1.2,ht.1.1,h⟩
  ·cases h
 ·cases h
theorem Auq {P:Program} {a:List Oper} {p:Nat} {al o:Oper} {t:TypeId} {cs:List AV} (h:Mz a=some (p,al)) (ht:al.op=.alloc t) (hz:Av P t=some cs):Atd P a.toArray (openL (a++[o])).toArray (some (p,al)):=by
 obtain ⟨a1,a2,a3,a4,a5,a6⟩:=Nh (x:=o) h;unfold Aqy at a1;simp only [Ci,Ig] at a1;refine ⟨by simp [a3],fun i hi=>?_,fun i o' ho=>?_,by simpa using a2,a1.1.2,a1.2,⟨t,cs,ht,hz⟩,by simpa using a4⟩
 ·have:=a5 i hi;simp only [fY];exact this.symm
 ·exact a6 o' (Iq fI)
theorem Nq {L a:List Oper} {o:Oper} (h:Gn L=some (a,o)):L=a++[o]/\Aom a o=true:=by
 unfold Gn at h;split at h
 ·rename_i o' ho;split at h
  ·rename_i ht;simp only [A3,Ch] at h;obtain ⟨rfl,rfl⟩:=h;exact ⟨by rw [List.getLast?_eq_some_iff] at ho; obtain ⟨l,rfl⟩:=ho; simp,ht⟩
  ·cases h
 ·cases h
theorem Afr {kp:Bool} {m:Nat} {S:List Ent} : cutS kp m S=S.take (bif kp then S.length else m):=by
 cases kp <;> simp [cutS]
theorem Aed [Globs] {kp:Bool} {f:St->Option (Ex × St)} {c:Code} (hf:∀ (C:Cx) (st:St) (ex:Ex) (st':St) (a:Act) (Q:Exit->Act->World->Prop),f st=some (ex,st')->Rel C st a->(∀ a' C',Le C C'->Rel C' st' a'->Q (exOf ex) a' C'.w)->c.wp P Q a C.w)
  {k:Nat} {C:Cx} {st st':St} {ex:Ex} {a:Act} {Q:Exit->Act->World->Prop} (h:Ld kp f k st=some (ex,st')) (hr:Rel C st a) (hQ:∀ a' C',Le C C'->Rel C' st' a'->Q (exOf ex) a' C'.w):(Code.loop c).wp P Q a C.w:=by
 refine Ae2 (fun n a w=>∃ C1 st1,C1.w=w/\Le C C1/\Rel C1 st1 a/\Ld kp f n st1=some (ex,st')) ?_ (n:=k) ⟨C,st,rfl,Le.refl C,hr,h⟩;rintro n a1 w1 ⟨C1,st1,rfl,hle,bw,h1⟩;cases n with
 | zero=>simp [Ld] at h1
 | succ n =>
  simp only [Ld] at h1;split at h1
  ·rename_i st2 h2;refine hf C1 st1 .normal st2 a1 _ h2 bw fun a2 C2 rh ab=>?_;rw [Afr] at h1;generalize (bif kp then st2.S.length else st1.S.length)=mm at h1;refine ⟨n,I4 n,{ C2 with S:=C2.S.take mm },{ st2 with S:=st2.S.take mm },rfl,(hle.trans rh).trans (Le.take _),⟨by rw [ab.S],ab.tk,ab.n,VRs.mono (Le.take _) _ _ ab.tmps,ab.defers,ab.sr.take _⟩,h1⟩
  ·rename_i hne;refine hf C1 st1 ex st' a1 _ h1 bw fun a2 C2 rh ab=>?_;have:=hQ a2 C2 (hle.trans rh) ab;cases ex with
   | normal=>exact absurd h1 (hne st')
   | exit id=>exact this
   | ret=>exact this
theorem Ez [Globs] [Ext P] {call:Bh} (hc:Ku P call) (hi:∀ M,@Tj (gM M) (@E9 (gM M) P _ call)) {ok:St->List Oper->Bool} (hd:Ae5 P ok) {n:Nat} : ∀ (c:Code) (C:Cx) (st:St) (ex:Ex) (st':St) (a:Act) (Q:Exit->Act->World->Prop),evC P call ok n c st=some (ex,st')->Rel C st a ->
  (∀ a' C',Le C C'->Rel C' st' a'->Q (exOf ex) a' C'.w)->c.wp P Q a C.w
 | .skip,C,st,ex,st',a,Q,h,hr,hQ=>by
  simp only [evC,A3,Ch] at h;obtain ⟨rfl,rfl⟩:=h;exact wp_skip (hQ a C (Le.refl C) hr)
 | .region id ops draw,C,st,ex,st',a,Q,h,hr,hQ=>by
  simp only [evC] at h;cases draw with
  | false =>
   rw [if_neg (by simp)] at h;simp only [Cb,Ch] at h;obtain ⟨st1,h,rfl,rfl⟩:=h;refine wp_region ?_;have:=Qc (Q:=Q) hc hr h hQ;have e:=wpOps_eq_wpList (P:=P) (ops:=ops) (Q:=Q) ops.toList 0 (fun j=>by simp);rw [List.range_eq_range'];simp only [Iv] at e;rw [e]; exact this
  | true =>
   rw [if_pos rfl] at h;split at h
   ·rename_i ini o k9;obtain ⟨hL,ht⟩:=Nq k9;split at h
    ·rename_i ae;split at h
     ·rename_i st1 h1;simp only [Cb,Ch] at h;obtain ⟨st2,h2,rfl,rfl⟩:=h;unfold Aom at ht;simp only [Ci,C4,jZ,decide_eq_true_eq,Ig] at ht;obtain ⟨⟨⟨⟨-,hg⟩,du⟩,hla⟩,hde⟩:=ht;have xb:ops=ini.toArray.push o:=by
       apply iV;rw [hL]; simp
      subst xb;have px:ini.toArray.push o=(ini++[o]).toArray:=by simp
      refine wp_region_any hd.1 ?_;have hw:=hd.2 _ (Yc hc) ini.toArray ini.toArray none rfl (hi _) C st st1 a (Aon P o Q) (by simpa using ae) hr aW fun a' C' hle b8=>by
       show o.wp P a' C'.w (fun a' w'=>Q .normal a' w') Q;simp only [evOs,H7,hg] at h2;split at h2
       ·rename_i v s3 ho;split at h2;case isFalse=>simp at h2
        have hT:s3.T=st1.T:=(Hn (next:=fun _ _=>True) (Q:=Q) hc b8 ho (fun _ _ _ _ _ _ _ _=>trivial)).2;exact Ya0t
       ·simp at h2
      exact Ya9
     ·simp at h
    ·simp at h
   ·split at h
    ·rename_i p al o hlt;obtain ⟨ini,hL,ht,ag,py⟩:=W7 hlt;rw [hL] at h;split at h
     ·rename_i ae;split at h
      ·rename_i st1 h1;simp only [Cb,Ch] at h;obtain ⟨st2,h2,rfl,rfl⟩:=h;unfold Avq at ht;simp only [Ci,C4,jZ,decide_eq_true_eq,Ig] at ht;obtain ⟨⟨⟨hg,du⟩,hla⟩,hde⟩:=ht;have hal:=(Nh (x:=o) py).1;unfold Aqy at hal;simp only [Ci,Ig] at hal;obtain ⟨t,hta⟩:∃ t,al.op=.alloc t:=by
        have:=hal.1.1;split at this
        ·rename_i t h; exact ⟨t,h⟩
        ·cases this
       have a2m:=hal.1.2;simp only [evOs,H7,a2m] at h2;split at h2;case h_2=>simp at h2
       rename_i v s3 cq;split at h2;case isFalse=>simp at h2
       have a1x:=cq;simp only [evO,hta,Cb,Ch] at a1x;obtain ⟨cs,hz,rfl,rfl⟩:=a1x;have a2n:({ T:=putT st1.T al.dst (.ref st1.S.length st1.n 0),S:=st1.S++[⟨st1.n,cs⟩],tk:=st1.tk,n:=st1.n+1 } : St)=Vr P (some (p,al)) st1:=by
        simp only [Vr,hta,hz,gJ]
       simp only at h2;rw [a2n] at h2;have xb:ops=ini.toArray.push o:=by
        apply iV;rw [hL]; simp
       subst xb;have px:ini.toArray.push o=(ini++[o]).toArray:=by simp
       refine wp_region_any hd.1 ?_;have hw:=hd.2 _ (Yc hc) ini.toArray (openL (ini++[o])).toArray (some (p,al)) (Auq py hta hz) (hi _) C st st1 a (Aon P o Q) (by simpa using ae) hr aW fun a' C' hle b8=>by
        show o.wp P a' C'.w (fun a' w'=>Q .normal a' w') Q;simp only [hg] at h2;split at h2
        ·rename_i v s3 ho;split at h2;case isFalse=>simp at h2
         have hT:s3.T=(Vr P (some (p,al)) st1).T:=(Hn (next:=fun _ _=>True) (Q:=Q) hc b8 ho (fun _ _ _ _ _ _ _ _=>trivial)).2;exact Ya0t
        ·simp at h2
       exact Ya9
      ·simp at h
     ·simp at h
    ·split at h
     ·rename_i ae;simp only [Cb,Ch] at h;obtain ⟨st1,h,rfl,rfl⟩:=h;exact wp_region_any hd.1 (hd.2 _ (Yc hc) ops ops none rfl (hi _) C st st1 a Q ae hr h hQ)
     ·simp at h
 | .seq x y,C,st,ex,st',a,Q,h,hr,hQ=>by
  simp only [evC] at h;split at h
  ·rename_i st1 h1;refine wp_seq (Ez hc hi hd x C st .normal st1 a _ h1 hr fun a1 C1 kg bw=>?_);exact Ez hc hi hd y C1 st1 ex st' a1 Q h bw fun a2 C2 rh ab=>hQ a2 C2 (kg.trans rh) ab
  ·rename_i hne;refine wp_seq (Ez hc hi hd x C st ex st' a _ h hr fun a1 C1 kg bw=>?_);have:=hQ a1 C1 kg bw;cases ex with
   | normal=>exact absurd h (hne st')
   | exit id=>exact this
   | ret=>exact this
 | .cond x y z,C,st,ex,st',a,Q,h,hr,hQ=>by
  simp only [evC] at h;split at h
  ·rename_i t ht;have hv:=Afa hr.tmps x;rw [ht] at hv; simp only [VR] at hv;cases t with
   | true =>
    rw [if_pos rfl] at h;exact wp_cond_true hv (Ez hc hi hd y C st ex st' a Q h hr hQ)
   | false =>
    rw [if_neg (by simp)] at h;exact wp_cond_false hv (Ez hc hi hd z C st ex st' a Q h hr hQ)
  ·simp at h
 | .block id x,C,st,ex,st',a,Q,h,hr,hQ=>by
  simp only [evC] at h;split at h
  ·rename_i id' st1 h1;refine wp_block (Ez hc hi hd x C st (.exit id') st1 a _ h1 hr fun a1 C1 kg bw=>?_);simp only [exOf,Exit.inBlock];split at h
   ·rename_i hid;simp only [A3,Ch] at h;obtain ⟨rfl,rfl⟩:=h;rw [if_pos hid]; exact hQ a1 C1 kg bw
   ·rename_i hid;simp only [A3,Ch] at h;obtain ⟨rfl,rfl⟩:=h;rw [if_neg hid]; exact hQ a1 C1 kg bw
  ·rename_i hne;refine wp_block (Ez hc hi hd x C st ex st' a _ h hr fun a1 C1 kg bw=>?_);have:=hQ a1 C1 kg bw;cases ex with
   | normal=>exact this
   | exit id=>exact absurd h (hne id st')
   | ret=>exact this
 | .loop x,C,st,ex,st',a,Q,h,hr,hQ=>by
  simp only [evC] at h;exact Aed (fun C st ex st' a Q=>Ez hc hi hd x C st ex st' a Q) h hr hQ
 | .exit id,C,st,ex,st',a,Q,h,hr,hQ=>by
  simp only [evC,A3,Ch] at h;obtain ⟨rfl,rfl⟩:=h;exact wp_exit (hQ a C (Le.refl C) hr)
 | .ret,C,st,ex,st',a,Q,h,hr,hQ=>by
  simp only [evC,A3,Ch] at h;obtain ⟨rfl,rfl⟩:=h;exact wp_ret (hQ a C (Le.refl C) hr)
 | .rangeFunc _ _ _ _,_,_,_,_,_,_,h,_,_=>dH
 | .scope x,C,st,ex,st',a,Q,h,hr,hQ=>by
  simp only [evC] at h;refine wp_scope_straight (Ez hc hi hd x C st ex st' a _ h hr fun a1 C1 kg bw=>?_);have:=hQ a1 C1 kg bw;cases ex <;> exact this
 | .label l,C,st,ex,st',a,Q,h,hr,hQ=>by
  simp only [evC,A3,Ch] at h;obtain ⟨rfl,rfl⟩:=h;exact wp_label (hQ a C (Le.refl C) hr)
 | .goto _,_,_,_,_,_,_,h,_,_=>dH
 | .refuse _,_,_,_,_,_,_,h,_,_=>dH
end
section
variable {P:Program}
def Ag8 (P:Program) (tmps:Array Value):ResultVar->Sem Value
 | .tmp t=>pure (tmps.getD t undef)
 | .cell a t=>do loadVar t (<- asAddr (tmps.getD a undef))
theorem Ase {C:Cx} {T:List AV} {tmps:Array Value} (h:VRs C T tmps.toList) (t:Tmp):VR C (getT T t) (tmps.getD t undef) :=
 Afa (a:=⟨tmps,[]⟩) h (.tmp t)
theorem Aev [Globs] {C:Cx} {st:St} {a:Act} (hr:Rel C st a) {rv:ResultVar} {v:AV} (h:resA1 P st rv=some v):Has P C (Ag8 P a.tmps rv) v:=by
 cases rv with
 | tmp t =>
  simp only [resA1,A3] at h; subst h;exact ⟨_,rfl,Ase hr.tmps t⟩
 | cell p t =>
  simp only [resA1] at h;rw [<- hr.S] at h;obtain ⟨u,h1,h2⟩:=Abv hr.sr (Ase hr.tmps p) h;refine ⟨u,?_,h2⟩;simp only [Ag8];generalize a.tmps.getD p undef=x at h1;cases x with
  | pointer b =>
   cases b with
   | none=>simp [iL,Sl] at h1
   | some b=>simpa [iL,Sl,asAddr] using h1
  | _=>simp [iL,Sl] at h1
theorem Agr [Globs] {C:Cx} {st:St} {a:Act} (hr:Rel C st a):∀ {rs:List ResultVar} {vs:List AV},mapO (resA1 P st) rs=some vs->∃ us,(rs.mapM (Ag8 P a.tmps)).run P C.w=.ok us C.w/\VRs C vs us
 | [],vs,h=>by
  simp only [mapO,A3] at h; subst h;exact ⟨[],by simp,bX⟩
 | r :: rs,vs,h=>by
  simp only [mapO] at h;split at h
  ·rename_i b l h1 h2;simp only [A3] at h; subst h;obtain ⟨u,g1,g2⟩:=Aev hr h1;obtain ⟨us,g3,g4⟩:=Agr hr h2;exact ⟨u :: us,by rw [List.mapM_cons]; simp only [Fv,g1,Fj,g3,I1],by simp only [VRs]; exact ⟨g2,g4⟩⟩
  ·simp at h
theorem Ai6 [Globs] {C:Cx} {st:St} {a:Act} (hr:Rel C st a) {fn:Func} {v:AV} (h:resA P fn.results.toList st=some v):Has P C (results fn a.tmps) v:=by
 simp only [resA,Cb] at h;obtain ⟨vs,h,rfl⟩:=h;obtain ⟨us,h1,h2⟩:=Agr hr h;have hrun:(results fn a.tmps).run P C.w=.ok (if h:us.toArray.size=1 then us.toArray[0] else .tuple us.toArray) C.w:=by
  have e:results fn a.tmps=(do
   let vs <- fn.results.mapM (Ag8 P a.tmps)
   pure (if h:vs.size=1 then vs[0] else .tuple vs)):=by
   unfold results;congr 1
  rw [e,Fv,Array.mapM_eq_mapM_toList,Sem.run_map,h1];rfl
 have hlen:=A5 h2;match us,vs,h2,hlen,hrun with
 | [u],[v],h2,_,hrun =>
  simp only [VRs] at h2;exact ⟨u,by rw [hrun]; simp,h2.1⟩
 | [],[],h2,_,hrun=>exact ⟨.tuple #[],by rw [hrun]; simp,Za3q⟩
 | u :: u' :: us,v :: v' :: vs,h2,_,hrun=>exact ⟨.tuple (u :: u' :: us).toArray,by rw [hrun]; simp,Za3q⟩
theorem VR_w3 {C:Cx} {c x} (h:VR C c x):VR C (w3 c) x:=by
 cases c with
 | tup cs =>
  simp only [w3,VR] at h ⊢;obtain ⟨vs,e,hr⟩:=h;exact ⟨vs,e,Aj2 hr⟩
 | _=>exact Ats h
theorem Xj {C C':Cx} {c x} (ag:Stays C.w C'.w C.Avoid C'.Avoid) (hp:pure1 c=true) (h:VR C c x):VR C' c x:=X4 (PR.stays ag _ _ (Ae6 hp h))
theorem Vf {C C':Cx} (ag:Stays C.w C'.w C.Avoid C'.Avoid):∀ {cs vs},cs.all pure1=true->VRs C cs vs->VRs C' cs vs
 | [],[],_,_=>bX
 | c :: cs,v :: vs,hp,h=>by
  simp only [Oh,Ci] at hp;simp only [VRs] at h ⊢;exact ⟨Xj ag hp.1 h.1,Vf ag hp.2 h.2⟩
 | [],_ :: _,_,h=>aS
 | _ :: _,[],_,h=>aS
theorem Xk {C C':Cx} {c x} (ag:Stays C.w C'.w C.Avoid C'.Avoid) (hp:pure2 c=true) (h:VR C c x):VR C' c x:=by
 cases c with
 | agg cs =>
  simp only [VR] at h ⊢;obtain ⟨vs,e,hr⟩:=h;exact ⟨vs,e,Vf ag hp hr⟩
 | _=>exact Xj ag hp h
theorem Np {C C':Cx} (ag:Stays C.w C'.w C.Avoid C'.Avoid):∀ {cs vs},cs.all pure2=true->VRs C cs vs->VRs C' cs vs
 | [],[],_,_=>bX
 | c :: cs,v :: vs,hp,h=>by
  simp only [Oh,Ci] at hp;simp only [VRs] at h ⊢;exact ⟨Xk ag hp.1 h.1,Np ag hp.2 h.2⟩
 | [],_ :: _,_,h=>aS
 | _ :: _,[],_,h=>aS
theorem Ai0 {C C':Cx} {c x} (ag:Stays C.w C'.w C.Avoid C'.Avoid) (hp:pure3 c=true) (h:VR C c x):VR C' c x:=by
 cases c with
 | tup cs =>
  simp only [VR] at h ⊢;obtain ⟨vs,e,hr⟩:=h;exact ⟨vs,e,Np ag hp hr⟩
 | _=>exact Xk ag hp h
theorem Afc {C:Cx} : ∀ n:Nat,VRs C (Cg n AV.bot) (Cg n undef)
 | 0=>by simp [VRs]
 | n+1=>by simp only [Iw,VRs,VR]; exact ⟨trivial,Afc n⟩
theorem P9 [Globs] [Ext P] {call:Bh} (hc:Ku P call) (hi:∀ M,@Tj (gM M) (@E9 (gM M) P _ call)) {ok:St->List Oper->Bool} (hd:Ae5 P ok) {k:Nat} {f:FuncId} {fn:Func} {c:Code} (hf:P.funcs[f]?=some fn) (hb:fn.body=some c) {C:Cx} (hs:SR C) {args:List AV} {vs:Array Value} (hv:VRs C args vs.toList) {r:AV} {st:St}
  (h:outA P fn (evC P call ok k c ⟨args++Cg (fn.ntmps - args.length) .bot,C.S,C.tk,C.n⟩)=some (r,st)) :
  Calls P f vs C.w fun e w'=>∃ v C',e=.returned v/\C'.w=w'/\Le C C'/\SR C'/\C'.S=st.S/\C'.tk=st.tk/\C'.n=st.n/\VR C' r v:=by
 have hlen:vs.size=args.length:=by have:=A5 hv; simpa using this.symm
 refine calls_of_wp hf hb ?_;have hrel:Rel C ⟨args++Cg (fn.ntmps - args.length) .bot,C.S,C.tk,C.n⟩ { tmps:=vs++Sr (fn.ntmps - vs.size) undef,defers:=[] } :=
  ⟨rfl,rfl,rfl,by rw [hlen]; simpa using Hg hv (Afc _),rfl,hs⟩
 have fin:∀ {ex:Ex} {st':St},(ex=.normal\/ex=.ret)->(resA P fn.results.toList st').map (fun r=>(r,st'))=some (r,st)->∀ a' C',Le C C'->Rel C' st' a' ->
   bodyPost P fn (fun e w'=>∃ v C',e=.returned v/\C'.w=w'/\Le C C'/\SR C'/\C'.S=st.S/\C'.tk=st.tk/\C'.n=st.n/\VR C' r v) (exOf ex) a' C'.w:=by
  intro ex st' i9 he a' C' hle hr;simp only [Cb,Ch] at he;obtain ⟨r',he,rfl,rfl⟩:=he;obtain ⟨v,h1,h2⟩:=Ai6 hr he;rcases i9 with rfl|rfl
  ·exact Ya3j
  ·exact Ya3j
 generalize he:evC P call ok k c ⟨args++Cg (fn.ntmps - args.length) .bot,C.S,C.tk,C.n⟩=out at h;match out with
 | none=>simp [outA] at h
 | some (.exit _,_)=>simp [outA] at h
 | some (.normal,st')=>exact Ez hc hi hd c C _ .normal st' _ _ he hrel (fin (.inl rfl) h)
 | some (.ret,st')=>exact Ez hc hi hd c C _ .ret st' _ _ he hrel (fin (.inr rfl) h)
def Cx.alone (C:Cx):Cx:={ w:=C.w,av:=C.Avoid,φ:=C.φ,ψ:=C.ψ,S:=[],tk:=[],n:=0 }
theorem Tr {C:Cx} {b o:Nat} : ¬ C.alone.Mut b o:=by
 rintro (⟨i,hi,_⟩|⟨i,hi,_⟩) <;> simp [Cx.alone] at hi
theorem SR.alone [Globs] {C:Cx} (hs:SR C):SR C.alone:=by
 refine ⟨fun i e h=>by simp [Cx.alone,nth] at h,fun i j hi=>eY,fun i j o hi=>eY,fun i j o hi=>eY,fun b o h=>absurd h Tr,fun b o h=>?_,fun i o hi=>eY,fun g o h=>⟨(hs.glob g o h).1,fun i=>.inl ((hs.glob g o h).2 i)⟩⟩;rcases Ie b C.w.heap.size with h'|h'
 ·exact h'
 ·exact absurd h (hs.fresh h')
theorem Axb [Globs] {C:Cx} (hs:SR C) {m id o:Nat} (hid:id<C.S.length) (hm:m<=id):¬ ({ C with S:=C.S.take m } : Cx).Avoid (C.φ id) o:=by
 rintro (h|⟨i,hi,h⟩|⟨i,hi,h1,h2,h3⟩)
 ·exact hs.own _ o (.inl ⟨id,hid,rfl⟩) h
 ·simp only [Im] at hi;have:=hs.ne i id aA hid h;omega
 ·exact hs.apart id i o hid hi h1.symm h2 h3
theorem Abk [Globs] {C:Cx} (hs:SR C) (m:Nat) {c x} (h:VR C c x):VR { C with S:=C.S.take m } (fz1 m C.S c) x:=by
 have keep:VR { C with S:=C.S.take m } c x:=VR.mono (Le.take m) _ _ h;cases c with
 | sref id ep off len sz =>
  simp only [fz1];split
  ·rename_i hm;unfold fzB;split
   ·rename_i cs gt;obtain ⟨e,h1,h2,rfl⟩:=Ds gt;unfold M3;split
    ·rename_i es wg;split
     ·rename_i hp;simp only [VR] at h;obtain ⟨b,a,cap,rfl,hcap,ha,hn,hb⟩:=h;obtain rfl:=(hb e h1 h2).1;obtain ⟨hlt,arr,t,h3,h4⟩:=hs.ent id e h1;obtain ⟨pd,h4⟩:=entP h4;obtain ⟨g1,g2,g3,g4⟩:=Mo wg;have g4':len*sz<=((e.cells++pd).drop off).length:=by simp at g4 ⊢; omega
      have g3':es.flatten=((e.cells++pd).drop off).take (len*sz):=by rw [g3,gI,Iy g4]
      simp only [VR];refine ⟨a,len,cap,rfl,by simp [g1],hcap,trivial,?_⟩;by_cases h0:len=0
      ·left;subst h0;rw [Fy g1]; rfl
      ·right;obtain rfl:=ha.resolve_left h0;have oi:=A5 h4;simp only [Iv] at oi;refine ⟨C.φ id,off,sz,rfl,G4 (l:=(arr.toList.drop off).take (len*sz)) (fun e he=>?_) ?_ (Ky fun j v hj=>⟨?_,Axb hs (A8 h1) hm⟩)⟩
       ·exact Ya2i
       ·have pu:(es.map (·.map w1)).flatten=(((e.cells++pd).drop off).take (len*sz)).map w1:=by rw [<- g3',List.map_flatten]
        have wu:VRs C (((e.cells++pd).drop off).take (len*sz)) ((arr.toList.drop off).take (len*sz)):=(Kg (L3 off h4) (Mq g4')).1;rw [pu];refine J2 (C:={ C with S:=C.S.take m }) ?_ (VRs.mono (Le.take m) _ _ (Wq wu));rw [<- g3',C4];intro c hc;exact Ya0r
       ·have eo:j<len*sz:=by
         exact Ya1j
        exact Ya23
     ·simp only [VR]
    ·simp only [VR]
   ·simp only [VR]
  ·exact keep
 | _=>exact keep
theorem W4 [Globs] {C:Cx} (hs:SR C) (m:Nat):∀ {cs vs},VRs C cs vs->VRs { C with S:=C.S.take m } (cs.map (fz1 m C.S)) vs
 | [],[],_=>dS
 | c :: cs,v :: vs,h=>by simp only [VRs,Cn] at h ⊢; exact ⟨Abk hs m h.1,W4 hs m h.2⟩
 | [],_ :: _,h=>aS
 | _ :: _,[],h=>aS
theorem Abl [Globs] {C:Cx} (hs:SR C) (m:Nat) {c x} (h:VR C c x):VR { C with S:=C.S.take m } (fz2 m C.S c) x:=by
 cases c with
 | agg cs =>
  simp only [fz2,VR] at h ⊢;obtain ⟨vs,e,hr⟩:=h;exact ⟨vs,e,W4 hs m hr⟩
 | _=>exact Abk hs m h
theorem W5 [Globs] {C:Cx} (hs:SR C) (m:Nat):∀ {cs vs},VRs C cs vs->VRs { C with S:=C.S.take m } (cs.map (fz2 m C.S)) vs
 | [],[],_=>dS
 | c :: cs,v :: vs,h=>by simp only [VRs,Cn] at h ⊢; exact ⟨Abl hs m h.1,W5 hs m h.2⟩
 | [],_ :: _,h=>aS
 | _ :: _,[],h=>aS
theorem Abm [Globs] {C:Cx} (hs:SR C) (m:Nat) {c x} (h:VR C c x):VR { C with S:=C.S.take m } (fz3 m C.S c) x:=by
 cases c with
 | tup cs =>
  simp only [fz3,VR] at h ⊢;obtain ⟨vs,e,hr⟩:=h;exact ⟨vs,e,W5 hs m hr⟩
 | _=>exact Abl hs m h
theorem Ad1 [Globs] [Ext P] {ok:St->List Oper->Bool} {k:Nat} {f:FuncId} {args:List AV} {S:List Ent} {tk:List Nat} {n:Nat} (hf:Ext.on P f=true):evF P ok (k+1) f args S tk n=extC P f args S tk n:=by
 simp only [evF,extC,hf,if_true]
structure V8 (A:Nat->Bool) (m:Nat) (S0:List Ent) (tk0:List Nat) (st:St):Prop where
 S:st.S.take m=S0
 le:m<=st.S.length
 tk:st.tk=tk0
 own:∀ q,A q=true->getT st.T q=.bot\/getT st.T q=.prim undef\/∃ id ep off,getT st.T q=.ref id ep off/\m<=id
theorem Amb:∀ {T:List AV} {d:Nat} {v:AV},d<T.length->getT (put T d v) d=v
 | _ :: _,0,_,_=>rfl
 | _ :: T,d+1,_,h=>Amb (T:=T) aI
 | [],_,_,h=>aO
theorem Agi:∀ {T:List AV} {d q:Nat} {v:AV},d≠q->getT (put T d v) q=getT T q
 | [],_,_,_,_=>rfl
 | _ :: _,0,0,_,h=>absurd rfl h
 | _ :: _,0,_+1,_,_=>rfl
 | _ :: _,_+1,0,_,_=>rfl
 | _ :: T,d+1,q+1,_,h=>Agi (T:=T) aA
theorem Anq:∀ {T:List AV} {d:Nat} {v:AV},T.length<=d->put T d v=T
 | [],_,_,_=>rfl
 | _ :: _,0,_,h=>aO
 | _ :: T,d+1,_,h=>by simp only [put]; rw [Anq (T:=T) aI]
theorem Abn {T:List AV} {d:Option Nat} {v:AV} {q:Nat} : getT (putT T d v) q=getT T q\/(d=some q/\getT (putT T d v) q=v):=by
 cases d with
 | none=>exact .inl rfl
 | some d =>
  simp only [putT];by_cases h:d=q
  ·subst h;rcases Ie d T.length with hl|hl
   ·exact .inr ⟨rfl,Amb hl⟩
   ·left; rw [Anq hl]
  ·exact .inl (Agi h)
theorem Ahk {α:Type} : ∀ {l:List α} {i m:Nat} {v:α},m<=i->(put l i v).take m=l.take m
 | [],_,_,_,_=>rfl
 | _ :: _,0,m,_,h=>by
  have:m=0:=aA
  subst this; rfl
 | _ :: _,_+1,0,_,_=>rfl
 | _ :: l,i+1,m+1,v,h=>by simp only [put,F9,Ahk (l:=l) (i:=i) (m:=m) (v:=v) aA]
theorem Aup [Globs] {call:Bh} {o:Oper} {all:List Oper} {nn m:Nat} {S0:List Ent} {tk0:List Nat} {st st':St} {v:AV} (hA:o ∈ all) (hk:Uu all nn o=true) (hI:V8 (fun q=>decide (nn<=q) && Ll all q) m S0 tk0 st) (h:evO P call o st=some (v,st')) :
  V8 (fun q=>decide (nn<=q) && Ll all q) m S0 tk0 { st' with T:=putT st'.T o.dst v }:=by
 have slot:st'.T=st.T->(Kq o=true->∃ id ep off,v=.ref id ep off/\m<=id)->∀ q,(decide (nn<=q) && Ll all q)=true->getT (putT st'.T o.dst v) q=.bot\/getT (putT st'.T o.dst v) q=.prim undef\/∃ id ep off,getT (putT st'.T o.dst v) q=.ref id ep off/\m<=id:=by
  intro hT hv q hq;rcases Abn (T:=st'.T) (d:=o.dst) (v:=v) (q:=q) with e|⟨e1,e2⟩
  ·rw [e,hT]; exact hI.own q hq
  ·simp only [Ci] at hq;have:=C4.1 hq.2 o hA;rw [e1] at this;simp only [bne_self_eq_false,I5] at this;obtain ⟨id,ep,off,rfl,hm⟩:=hv this;exact .inr (.inr ⟨id,ep,off,e2,hm⟩)
 unfold evO at h;unfold Uu at hk;split at h
 ·rename_i t x e;simp only [Cb,Ch] at h;obtain ⟨_,_,rfl,rfl⟩:=h;exact ⟨hI.S,hI.le,hI.tk,slot rfl (fun hm=>fE)⟩
 ·rename_i t x y e;rw [e] at hk;simp only [Cb,Ch] at h;obtain ⟨S',hs,rfl,rfl⟩:=h;cases x with
  | tmp q =>
   simp only at hk;unfold stA at hs;split at hs
   ·rename_i id ep off sz vs hx _ _;simp only [opv] at hx;split at hs
    ·split at hs
     ·split at hs
      ·simp only [A3] at hs; subst hs;have hid:m<=id:=by
        rcases hI.own q hk with h1|h1|⟨id',ep',off',h1,h2⟩
        ·rw [h1] at hx; simp at hx
        ·rw [h1] at hx; simp at hx
        ·rw [h1] at hx; simp only [AV.ref.injEq] at hx; omega
       exact ⟨by show (put st.S id _).take m=S0; rw [Ahk hid]; exact hI.S,by show m<=(put st.S id _).length; rw [Am]; exact hI.le,hI.tk,slot rfl (fun hm=>fE)⟩
      ·simp at hs
     ·simp at hs
    ·simp at hs
   ·simp at hs
  | _=>simp at hk
 ·rename_i t e;exact Ya11
 ·rename_i t x e;exact Ya11
 ·rename_i t l c e;rw [e] at hk;simp only [Gb] at hk;simp only [Cb,Prod.exists,hk] at h;obtain ⟨l',sz,cs,_,hh⟩:=h;rw [if_neg (by simp)] at hh;simp only [Ch] at hh;obtain ⟨rfl,rfl⟩:=hh;exact ⟨Za0d,Za03,hI.tk,slot rfl (fun hm=>fE)⟩
 ·rename_i c e;rw [e] at hk;simp only at hk;split at h
  ·rename_i hb; rw [hb] at hk; simp at hk
  ·rename_i hb; rw [hb] at hk; simp at hk
  ·simp only [Cb,Ch] at h; obtain ⟨_,_,rfl,rfl⟩:=h;exact ⟨hI.S,hI.le,hI.tk,slot rfl (fun hm=>fE)⟩
  ·rename_i h1 h2 h3;exfalso;cases hc:c.callee with
   | builtin b=>cases b <;> first|exact h1 hc|exact h2 hc|exact h3 _ hc
   | value x=>rw [hc] at hk; simp at hk
   | invoke x m=>rw [hc] at hk; simp at hk
 ·rename_i h1 h2 h3 h4 h5 h6;simp only [Cb,Ch] at h; obtain ⟨_,_,rfl,rfl⟩:=h;refine ⟨hI.S,hI.le,hI.tk,slot rfl (fun hm=>?_)⟩;unfold Kq at hm;split at hm
  ·exact absurd cX (h3 _)
  ·exact absurd cX (h4 _ _)
  ·simp at hm
theorem Mb [G:Globs] {call:Bh} {allr all:List Oper} {nn m:Nat} {S0:List Ent} {tk0:List Nat} : ∀ {l:List Oper} {st st':St},(∀ o ∈ l,o ∈ all/\Uu all nn o=true)->V8 (fun q=>decide (nn<=q) && Ll all q) m S0 tk0 st->evOs P call allr l st=some st'->V8 (fun q=>decide (nn<=q) && Ll all q) m S0 tk0 st'
 | [],st,st',_,hI,h=>by simp only [evOs,A3] at h; subst h; exact hI
 | o :: l,st,st',hq,hI,h=>by
  simp only [evOs] at h;split at h
  ·simp at h
  ·refine Mb (fun o ho=>hq o (by simp [ho])) ?_ h;refine ⟨hI.S,hI.le,hI.tk,fun q tw=>?_⟩;rcases Abn (T:=st.T) (d:=o.dst) (v:=.prim undef) (q:=q) with e|⟨_,e⟩
   ·simp only [e]; exact hI.own q tw
   ·exact .inr (.inl e)
  ·split at h
   ·rename_i v s1 ho;split at h;case isFalse=>simp at h
    obtain ⟨a1,a2⟩:=hq o (by simp);exact Mb (fun o ho=>hq o (by simp [ho])) (Aup a1 a2 hI ho) h
   ·simp at h
theorem Abt {kp:Bool} {A:Nat->Bool} {m:Nat} {S0:List Ent} {tk0:List Nat} {f:St->Option (Ex × St)} (hf:∀ st ex st',V8 A m S0 tk0 st->f st=some (ex,st')->V8 A m S0 tk0 st'):∀ {k:Nat} {st st':St} {ex:Ex},V8 A m S0 tk0 st->Ld kp f k st=some (ex,st')->V8 A m S0 tk0 st'
 | 0,_,_,_,_,h=>by simp [Ld] at h
 | k+1,st,st',ex,hI,h=>by
  simp only [Ld] at h;split at h
  ·rename_i s1 h1;have h2:=hf _ _ _ hI h1;have dn:m<=bif kp then s1.S.length else st.S.length:=by cases kp <;> first|exact hI.le|exact h2.le
   rw [Afr] at h;generalize (bif kp then s1.S.length else st.S.length)=mm at h dn;refine Abt (st:={ s1 with S:=s1.S.take mm }) hf ⟨?_,?_,h2.tk,h2.own⟩ h
   ·show (s1.S.take mm).take m=S0;rw [kC,Nat.min_eq_left dn]; exact h2.S
   ·show m<=(s1.S.take mm).length;rw [Im];exact Nat.le_min.2 ⟨dn,h2.le⟩
  ·exact hf _ _ _ hI h
theorem Amr [Globs] {L:List Oper} {p:Nat} {al o:Oper} {all:List Oper} {nn:Nat} (h:Ko L=some (p,al,o)):¬ ∀ o ∈ L,o ∈ all/\Uu all nn o=true:=by
 intro hq;unfold Ko at h;split at h
 ·split at h
  ·rename_i hc;simp only [Ci,List.any_eq_true] at hc;obtain ⟨x,hx,uu⟩:=hc.2;have hk:=(hq x (List.dropLast_subset _ hx)).2;unfold xOp at uu;unfold Uu at hk;split at uu
   ·rename_i c bp;rw [bp] at hk;simp only at hk;unfold Ae3 at uu;split at uu <;> rename_i ak <;> simp_all
   ·simp at uu
  ·simp at h
 ·simp at h
theorem Gl [Globs] [Ext P] {call:Bh} {ok:St->List Oper->Bool} {n nn m:Nat} {all:List Oper} {S0:List Ent} {tk0:List Nat} : ∀ (c:Code) (st:St) (ex:Ex) (st':St),(∀ o ∈ opsOf c,o ∈ all/\Uu all nn o=true)->V8 (fun q=>decide (nn<=q) && Ll all q) m S0 tk0 st->evC P call ok n c st=some (ex,st')->V8 (fun q=>decide (nn<=q) && Ll all q) m S0 tk0 st'
 | .skip,st,ex,st',_,hI,h=>eK
 | .exit _,st,ex,st',_,hI,h=>eK
 | .ret,st,ex,st',_,hI,h=>eK
 | .region _ ops draw,st,ex,st',hq,hI,h=>by
  simp only [opsOf] at hq;simp only [evC] at h;split at h
  ·split at h
   ·rename_i ini o k9;obtain ⟨hL,-⟩:=Nq k9;rw [hL] at hq;split at h
    ·split at h
     ·rename_i s1 h1;simp only [Cb,Ch] at h;obtain ⟨s2,h2,_,rfl⟩:=h;exact Mb (fun x hx=>hq x (Cw.2 (.inr hx))) (Mb (G:=gM _) (fun x hx=>hq x (Cw.2 (.inl hx))) hI h1) h2
     ·simp at h
    ·simp at h
   ·split at h
    ·rename_i hlt;exact absurd hq (Amr hlt)
    ·split at h
     ·simp only [Cb,Ch] at h;obtain ⟨s1,h,_,rfl⟩:=h;exact Mb (G:=gM _) hq hI h
     ·simp at h
  ·simp only [Cb,Ch] at h;obtain ⟨s1,h,_,rfl⟩:=h;exact Mb hq hI h
 | .seq a b,st,ex,st',hq,hI,h=>by
  simp only [opsOf,Cw] at hq;simp only [evC] at h;split at h
  ·rename_i s1 h1;exact Gl b _ _ _ (fun o ho=>hq o (.inr ho)) (Gl a _ _ _ (fun o ho=>hq o (.inl ho)) hI h1) h
  ·exact Gl a _ _ _ (fun o ho=>hq o (.inl ho)) hI h
 | .cond x a b,st,ex,st',hq,hI,h=>by
  simp only [opsOf,Cw] at hq;simp only [evC] at h;split at h
  ·split at h
   ·exact Gl a _ _ _ (fun o ho=>hq o (.inl ho)) hI h
   ·exact Gl b _ _ _ (fun o ho=>hq o (.inr ho)) hI h
  ·simp at h
 | .block id c,st,ex,st',hq,hI,h=>by
  simp only [opsOf] at hq;simp only [evC] at h;split at h
  ·rename_i id' s1 h1;have:=Gl c _ _ _ hq hI h1;split at h
   ·exact Ya2q
   ·exact Ya2q
  ·exact Gl c _ _ _ hq hI h
 | .loop c,st,ex,st',hq,hI,h=>by
  simp only [opsOf] at hq;simp only [evC] at h;exact Abt (fun s e s' hs hh=>Gl c s e s' hq hs hh) hI h
 | .rangeFunc _ _ _ _,_,_,_,_,_,h=>dH
 | .scope c,st,ex,st',hq,hI,h=>by
  simp only [opsOf] at hq;simp only [evC] at h;exact Gl c _ _ _ hq hI h
 | .label _,st,ex,st',_,hI,h=>eK
 | .goto _,_,_,_,_,_,h=>dH
 | .refuse _,_,_,_,_,_,h=>dH
theorem Ama {args:List AV} {q n:Nat} (h:args.length<=q):getT (args++Cg n .bot) q=.bot:=by
 induction args generalizing q with
 | nil =>
  simp only [Cz];induction n generalizing q with
  | zero=>rfl
  | succ n ih=>cases q with
   | zero=>rfl
   | succ q=>exact ih (by simp)
 | cons x args ih=>cases q with
  | zero=>simp at h
  | succ q=>exact ih aI
theorem T6 [Globs] [Ext P] [hX:Ahu P] {ok:St->List Oper->Bool} : ∀ k M,@Tj (gM M) (@E9 (gM M) P _ (evF P ok k))
 | 0,M=>by intro f args S tk n r S' tk' n' h; simp [E9,evF] at h
 | k+1,M=>by
  intro f args S tk n r S' tk' n' h;by_cases nh:Ext.on P f=true
  ·have e:∀ S tk n,@E9 (gM M) P _ (evF P ok (k+1)) f args S tk n=@E9 (gM M) P _ (extC P) f args S tk n:=by
    intro S tk n; simp only [E9,Ad1 nh]
   rw [e] at h;obtain ⟨g1,g2,g4⟩:=hX.indep M _ _ _ _ _ _ _ _ _ h;exact .inr ⟨g1,g2,g4.imp _root_.id fun g4=>⟨g4.1,fun S2 tk2 n2=>by rw [e]; exact g4.2 S2 tk2 n2⟩⟩
  by_cases zq:(@xF (gM M) f && @Globs.dr (gM M))=true
  ·exact .inl zq
  right;unfold E9 at h;split at h
  ·rename_i hp;by_cases lg:((args.map w2).all pure2 && !Ext.mv P f)=true
   ·have fk:=lg;simp only [Ci,Gb] at fk;obtain ⟨hp1,uv⟩:=fk;simp only [evF] at h;rw [if_neg nh] at h;split at h
    ·rename_i fn hf;split at h
     ·rename_i c hb;split at h
      ·simp at h
      ·rename_i ar;simp only [uv,hp1,if_true,C5,if_false] at h;split at h
       ·rename_i r' ho;simp only [A3,Ch] at h;obtain ⟨rfl,rfl,rfl,rfl⟩:=h;refine ⟨rfl,rfl,.inr ⟨rfl,fun S2 tk2 n2=>?_⟩⟩;unfold E9;rw [if_pos hp];simp only [evF,hf,hb];rw [if_neg nh,if_neg ar,if_neg (by rw [uv]; simp),if_pos hp1,ho]
       ·simp at h
     ·simp at h
    ·simp at h
   ·have uw:(@shF (gM M) f && My P f args.length && !Ext.mv P f && !Ext.on P f)=true:=by
     cases hx:((args.map w2).all pure2 && !Ext.mv P f) with
     | true=>exact absurd hx lg
     | false=>rw [hx] at hp; simpa [zq] using hp
    simp only [Ci,Gb] at uw;obtain ⟨⟨⟨h1,h2⟩,uv⟩,-⟩:=uw;have hpp:¬ (args.map w2).all pure2=true:=fun h=>lg (by simp [h,uv]);simp only [evF] at h;rw [if_neg nh] at h;unfold My at h2;split at h
    ·rename_i fn hf;rw [hf] at h2;simp only at h2;split at h
     ·rename_i c hb;rw [hb] at h2;simp only at h2;split at h
      ·simp at h
      ·simp only [uv,hpp,C5,if_false] at h;split at h
       ·rename_i r' st ho;simp only [A3,Ch] at h;obtain ⟨rfl,rfl,rfl,rfl⟩:=h;have oh:∃ ex,evC P (evF P ok k) ok k c ⟨args++Cg (fn.ntmps - args.length) .bot,S,tk,n⟩=some (ex,st):=by
         generalize evC P (evF P ok k) ok k c ⟨args++Cg (fn.ntmps - args.length) .bot,S,tk,n⟩=o at ho;unfold outA at ho;split at ho
         ·exact Ya1r
         ·exact Ya1r
         ·simp at ho
        obtain ⟨ex,i9⟩:=oh;have hK:=Gl (all:=opsOf c) (nn:=args.length) (m:=S.length) (S0:=S) (tk0:=tk) c _ _ _ (fun o ho=>⟨ho,C4.1 h2 o ho⟩)
         ⟨F2,Cf _,rfl,fun q hq=>.inl (Ama (by simp only [Ci,decide_eq_true_eq] at hq; exact hq.1))⟩ i9
        exact ⟨hK.S,hK.tk,.inl h1⟩
       ·simp at h
     ·simp at h
    ·simp at h
  ·simp at h
theorem Abc [Globs] [Ext P] [hX:Ahu P] {ok:St->List Oper->Bool} (hd:Ae5 P ok):∀ k,Ku P (evF P ok k)
 | 0=>by intro f args S tk n r S' tk' n' h; simp [evF] at h
 | k+1=>by
  have hc:=Abc hd k;intro f args S tk n r S' tk' n' h;by_cases nh:Ext.on P f=true
  ·rw [Ad1 nh] at h;exact hX.ok _ _ _ _ _ _ _ _ _ h
  simp only [evF] at h;rw [if_neg nh] at h;split at h
  ·rename_i fn hf;split at h
   ·rename_i c hb;split at h
    ·simp at h
    ·rename_i ar;refine ⟨⟨fn,hf,dK,by rw [hb]; rfl⟩,?_⟩;rintro C vs rfl rfl rfl hs hv;split at h
     ·split at h
      ·rename_i r' st ho;simp only [A3,Ch] at h;obtain ⟨rfl,rfl,rfl,rfl⟩:=h;exact P9 hc (T6 k) hd (k:=k) hf hb hs hv ho
      ·simp at h
     split at h
     ·rename_i hp;split at h
      ·rename_i r' ho;simp only [A3,Ch] at h;obtain ⟨rfl,rfl,rfl,rfl⟩:=h;have ag:Stays C.w C.alone.w C.Avoid C.alone.Avoid:=fun b o v h1 h2=>⟨h1,fun h3=>h3.elim h2 Tr⟩;have hv':=Np ag hp (Aj2 hv);have one:∀ {as:List AV} {r0:AV},VRs C.alone as vs.toList->runP P ok (evF P ok k) k fn c as=some r0->Calls P f vs C.w fun e w'=>∃ v C',e=.returned v/\C'.w=w'/\Le C C'/\SR C'/\C'.S=C.S/\C'.tk=C.tk/\C'.n=C.n/\VR C' r0 v:=by
        intro as r0 hv' hrun;unfold runP at hrun;split at hrun
        ·rename_i r' st ho;split at hrun
         ·rename_i hp3;simp only [A3] at hrun;subst hrun;refine Calls.mono (P9 hc (T6 k) hd (k:=k) hf hb hs.alone hv' ho) ?_;rintro e w' ⟨v,C',rfl,rfl,hle,hs',hS',-,-,h2⟩;have hbel:Below C.w.heap.size C.w C'.w:=⟨hle.os,hle.tape,hle.output,hle.size,fun b hb=>hle.keep b hb fun o=>Tr⟩;refine ⟨v,C.at C'.w,rfl,rfl,Le.of_below hbel,SR.of_below hs hbel,rfl,rfl,rfl,?_⟩;have h3:=Abm hs' 0 h2;rw [hS'] at h3;refine Ai0 (C:={ C' with S:=st.S.take 0 }) (fun b o x h1 h2=>⟨h1,fun h3=>h2 (.inl ?_)⟩) hp3 (VR_w3 h3);show C'.av b o;rw [hle.av]; exact h3
         ·simp at hrun
        ·simp at hrun
       split at ho
       ·unfold runN at ho;split at ho
        ·rename_i l hl;split at ho
         ·rename_i q1 q2;simp only [A3] at ho;subst ho;rw [hl] at hv';cases vu:vs.toList with
          | nil=>rw [vu] at hv'; simp only [VRs] at hv'
          | cons x xs =>
           rw [vu] at hv';simp only [VRs] at hv';obtain ⟨hx,ur⟩:=hv';simp only [VR] at hx;obtain ⟨a,len,cap,rfl,h1,h2,-,h4⟩:=hx;cases a with
           | none=>exact one (as:=.frz [] .nl :: l) (by rw [vu]; simp only [VRs,VR]; exact ⟨⟨none,len,cap,rfl,h1,h2,rfl,.inl trivial⟩,ur⟩) q1
           | some a=>exact one (as:=.frz [] .nn :: l) (by rw [vu]; simp only [VRs,VR]; exact ⟨⟨some a,len,cap,rfl,h1,h2,rfl,.inl trivial⟩,ur⟩) q2
         ·simp at ho
        ·exact one hv' ho
       ·exact one hv' ho
      ·simp at h
     ·split at h
      ·rename_i r' st ho;simp only [A3,Ch] at h;obtain ⟨rfl,rfl,rfl,rfl⟩:=h;refine Calls.mono (P9 hc (T6 k) hd (k:=k) hf hb hs hv ho) ?_;rintro e w' ⟨v,C',rfl,rfl,hle,hs',e1,e2,e3,h2⟩;have h3:=Abm hs' C.S.length h2;rw [e1] at h3;exact ⟨v,{ C' with S:=C'.S.take C.S.length },rfl,rfl,hle.trans (Le.take _),hs'.take _,by rw [<- e1],e2,e3,by rw [e1]; exact h3⟩
      ·simp at h
   ·simp at h
  ·simp at h
end
end
end Go.Proofs.YthelkgdmgihhiaaGreat
