/- Part 7. -/
import Derived.Test.YthelkgdmgihhiaaGreatZM6
import Derived.Orders
import Derived.Scope
open Array renaming getElem?_eq_some_iff->Ci,getElem?_eq_getElem->Ei,getD_eq_getD_getElem?->Fc,length_toList->Ii,getD->Ou,replicate->Ox,getElem?_setIfInBounds->Sg,toList_inj->Su,ext'->gG,getElem?_push->iF
open Bool renaming and_eq_true->Cf,false_eq_true->C4,or_eq_false_iff->El,not_eq_true'->F3,false_or->Mf
open Go.Addr renaming add->gV
open Go.Builtin renaming zeroCells->Nx,append_->Og
open Go.Instr renaming sureAddr->Oq,loadAt->fV
open Go.Obj renaming cells->gD
open Go.Obj.cells renaming injEq->iA
open Go.Region renaming wanted->Ol
open Go.Result renaming andThen_ok->Ea
open Go.RowKit.Below renaming refl->Fb,cell->iY
open Go.Sem renaming run_bind->Fe,run_pure->Im
open Go.Value renaming int->fO
open Go.World renaming cell?->It
open List renaming replicate->Cd,map_cons->Cm,length_append->Cn,getElem?_append_left->Cp,mem_append->Cr,nil_append->Ct,map_nil->Cw,mem_cons->Cy,all_eq_true->Cz,length_nil->C3,take_of_length_le->Fa,eq_nil_of_length_eq_zero->Fg,getElem?_eq_some_iff->Fq,mem_map->Fy,take_succ_cons->F4,range->F9,length_map->Ib,mem_of_getElem?->Il,getElem?_take_of_lt->Iq,take_length->Ir,getElem?_take->Iw,length_take->Iy,replicate_succ->I4,take_append_of_le_length->I6,all_cons->Oc,foldl_cons->Ov,mem_flatten->O5,getElem?_drop->O9,getElem?_toArray->Sj,drop_append->Sv,mem_range->iO,take_take->iP
open Nat renaming le_refl->Cb,zero_le->Cs,lt_of_lt_of_le->Fi,zero_add->Fo,le_trans->Fv,mul_le_mul_right->F0,lt_or_ge->Ic,lt_succ_self->Ip,le_add_right->Ob,mul_le_mul->Ot,strongRecOn->Ow,add_mul->O8,le_of_not_lt->Ss,le_succ->gX
open Option renaming map_eq_some_iff->B6,isNone_iff_eq_none->F8,bind_some->Lg,getD_some->gH
open Option.some renaming injEq->A0
open Prod.mk renaming injEq->Cc
namespace Go.Proofs.YthelkgdmgihhiaaGreat
section
open Go.RowKit
section
variable {P:Program} {ops:Array Oper}
theorem Eb {listed:Array Bool} {i:Nat} (h:i ∈ Region.ready .any ops listed):listed.getD i true=false/\∃ o,ops[i]?=some o/\∀ e ∈ depsOf ops i,listed.getD e false=true:=by
 obtain ⟨h0,o,ho,hd⟩:=mem_ready.1 h;refine ⟨h0,o,ho,fun e he=>?_⟩;unfold depsOf at he;rw [ho] at he;simp only [Fy,List.mem_filter] at he;obtain ⟨x,⟨hx,hb⟩,rfl⟩:=he;exact hd x cV hb
theorem Na {listed:Array Bool} {i:Nat} {o:Oper} (h0:listed.getD i true=false) (ho:ops[i]?=some o) (hd:∀ e ∈ depsOf ops i,listed.getD e false=true):i ∈ Region.ready .any ops listed:=by
 refine mem_ready.2 ⟨h0,o,ho,fun e he hb=>hd _ ?_⟩;exact Ya20
theorem B8 {listed:Array Bool} (hc:∀ j,listed.getD j false=true->∀ e ∈ depsOf ops j,listed.getD e false=true) {i:Nat} (hd:∀ e ∈ depsOf ops i,listed.getD e false=true) :
  ∀ e ∈ reachAt ops i,listed.getD e false=true:=by
 unfold reachAt;generalize (F9 i).reverse=l;have key:∀ (l:List Nat) (s:List Nat),(∀ e ∈ s,listed.getD e false=true)->∀ e ∈ l.foldl (fun s j=>if s.contains j then depsOf ops j++s else s) s,listed.getD e false=true:=by
  intro l;induction l with
  | nil=>intro s hs; exact hs
  | cons j l ih =>
   intro s hs;simp only [Ov];apply ih;split
   ·rename_i hj;intro e he;rcases Cr.1 he with h|h
    ·exact hc j (hs j bI) e h
    ·exact hs e h
   ·exact hs
 exact key l _ hd
theorem Aom {o:Oper} {a:Act} {w:World} {K:Act->World->Prop} {Q Q':Exit->Act->World->Prop} (hp:∀ c a w,Q (.panic c) a w->Q' (.panic c) a w) (hl:LetsOut Q->LetsOut Q') (hh:o.wp P a w K Q):o.wp P a w K Q':=by
 unfold Oper.wp at *;generalize (execOp a.eval o).run P w=r at *;cases r with
 | ok n w' =>
  cases n <;> simp only [Oper.upon] at hh ⊢ <;>
   first
    | exact hh
    | exact Calls.mono hh (fun e w'' he=>by cases e <;> first|exact he|exact hp _ _ _ he|exact hl he)
    | exact Rows.mono hh (fun _ _ he=>he)
 | halt x w'=>cases x <;> simp only [Oper.upon] at hh ⊢ <;> first|exact hh|exact hp _ _ _ hh|exact hl hh
def Aiw (P:Program) (o:Oper) (Q:Exit->Act->World->Prop):Exit->Act->World->Prop
 | .normal=>fun a w=>o.wp P a w (fun a' w'=>Q .normal a' w') Q
 | ex=>Q ex
theorem Gw {listed:Array Bool} {j:Nat} {d:Bool} (h:j<listed.size):(listed.push false).getD j d=listed.getD j d:=by
 simp [Fc,iF,Nat.ne_of_lt h]
theorem Vz {listed:Array Bool} {d:Bool} : (listed.push false).getD listed.size d=false:=by
 simp [Fc,iF]
theorem Aa4 {init:Array Oper} {o:Oper} {Q:Exit->Act->World->Prop} (hg:o.guard=none) (fg:∀ j,j<init.size->j ∈ reachAt (init.push o) init.size) (dv:∀ e ∈ depsOf (init.push o) init.size,e<init.size)
  (un:∀ i o',init[i]?=some o'->(∀ e ∈ depsOf init i,e<i)/\∀ g w,o'.guard=some (g,w)->g<init.size) :
  ∀ (fuel:Nat) (listed:Array Bool) (a:Act) (w:World),listed.size=init.size->(∀ j,listed.getD j false=true->∀ e ∈ depsOf init j,listed.getD e false=true) ->
   wpAny P .any init (Aiw P o Q) fuel listed a w->wpAny P .any (init.push o) Q (fuel+1) (listed.push false) a w:=by
 have fd:∀ i,i<init.size->(init.push o)[i]?=init[i]?:=fun i hi=>by rw [iF,if_neg aA]
 have iv:(init.push o)[init.size]?=some o:=by simp
 have hdo:∀ i,i<init.size->depsOf (init.push o) i=depsOf init i:=fun i hi=>by unfold depsOf; rw [fd i hi]
 have gf:∀ (listed:Array Bool),listed.size=init.size->∀ i,i<init.size->(i ∈ Region.ready .any (init.push o) (listed.push false)↔i ∈ Region.ready .any init listed):=by
  intro listed jm i hi;constructor
  ·intro h;obtain ⟨h0,o',d7,hd⟩:=Eb h;rw [Gw aA] at h0;rw [fd i hi] at d7;rw [hdo i hi] at hd;refine Na h0 d7 fun e he=>?_;have:=hd e he;have hlt:=(un i o' d7).1 e he;rwa [Gw aA] at this
  ·intro h;obtain ⟨h0,o',d7,hd⟩:=Eb h;refine Na (by rw [Gw aA]; exact h0) (by rw [fd i hi]; exact d7) fun e he=>?_;rw [hdo i hi] at he;have hlt:=(un i o' d7).1 e he;rw [Gw aA]; exact hd e he
 have uo:∀ (listed:Array Bool),listed.size=init.size->Region.ready .any init listed=[]->∀ j,j<init.size->listed.getD j false=true:=by
  intro listed jm c8 j;induction j using Ow with
  | _ j ihj =>
   intro hj;cases hl:listed.getD j false with
   | true=>rfl
   | false =>
    exfalso;have:j ∈ Region.ready .any init listed:=by
     refine Na ?_ (Ei hj) fun e he=>?_
     ·have io:j<listed.size:=aA
      simpa [Ou,io] using hl
     ·have:=(un j _ (Ei hj)).1 e he;exact ihj e this aA
    rw [c8] at this; simp at this
 have xz:∀ (listed:Array Bool),listed.size=init.size->(∀ j,listed.getD j false=true->∀ e ∈ depsOf init j,listed.getD e false=true)->init.size ∈ Region.ready .any (init.push o) (listed.push false)->Region.ready .any init listed=[]:=by
  intro listed jm hcl h;obtain ⟨-,o',-,hd⟩:=Eb h;have hc2:∀ j,(listed.push false).getD j false=true->∀ e ∈ depsOf (init.push o) j,(listed.push false).getD e false=true:=by
   intro j hj e he;by_cases hjn:j<init.size
   ·rw [Gw aA] at hj;rw [hdo j hjn] at he;have hlt:=(un j _ (Ei hjn)).1 e he;rw [Gw aA]; exact hcl j hj e he
   ·exfalso;by_cases hje:j=init.size
    ·rw [hje,<- jm,Vz] at hj; cases hj
    ·rw [Fc,Array.getElem?_eq_none aB] at hj; cases hj
  have bm:∀ j,j<init.size->listed.getD j false=true:=fun j hj=>by
   have:=B8 hc2 hd j (fg j hj);rwa [Gw aA] at this
  cases hr:Region.ready .any init listed with
  | nil=>rfl
  | cons x l =>
   have hx:x ∈ Region.ready .any init listed:=by rw [hr]; simp
   obtain ⟨h0,o',d7,-⟩:=Eb hx;have hxl:=(Ci.1 d7).1;have h1:=bm x hxl;exact Ya28
 have up:∀ (fuel:Nat) (listed:Array Bool) (a:Act) (w:World),listed.size=init.size->(∀ j,j<init.size->listed.getD j false=true)->Aiw P o Q .normal a w ->
   wpOp P (init.push o) Q init.size (wpAny P .any (init.push o) Q fuel ((listed.push false).setIfInBounds init.size true)) a w:=by
  intro fuel listed a w jm bm h;have c8:Region.ready .any (init.push o) ((listed.push false).setIfInBounds init.size true)=[]:=by
   cases hr:Region.ready .any (init.push o) ((listed.push false).setIfInBounds init.size true) with
   | nil=>rfl
   | cons x l =>
    exfalso;have hx:x ∈ Region.ready .any (init.push o) ((listed.push false).setIfInBounds init.size true):=by rw [hr]; simp
    obtain ⟨h0,o',d7,-⟩:=Eb hx;have hxl:=(Ci.1 d7).1;rw [Array.size_push] at hxl;rw [Fc,Sg] at h0;split at h0
    ·split at h0
     ·cases h0
     ·rename_i h1 h2; exact h2 aB
    ·have h1:=bm x aA;rw [<- Fc,Gw aA] at h0;exact Ya28
  unfold wpOp;rw [iv];simp only;have hw:Ol o (yielded (init.push o) a.tmps)=true:=by unfold Ol; rw [hg]
  rw [if_pos hw];left;refine Oper.wp_mono (fun a' w' hq=>?_) h;cases fuel with
  | zero=>exact ⟨c8,hq⟩
  | succ fuel=>exact ⟨fun _=>hq,fun i hi=>by rw [c8] at hi; simp at hi⟩
 intro fuel;induction fuel with
 | zero =>
  intro listed a w jm hcl h;obtain ⟨c8,hq⟩:=h;have bm:=uo listed jm c8;have f9:init.size ∈ Region.ready .any (init.push o) (listed.push false):=by
   exact Ya1z
  refine ⟨fun hn=>by rw [hn] at f9; simp at f9,fun i hi=>?_⟩;by_cases uq:i<init.size
  ·rw [gf listed jm i uq,c8] at hi; simp at hi
  ·have mb:i=init.size:=by
    exact Ya12
   subst mb;exact up 0 listed a w jm bm hq
 | succ fuel ih =>
  intro listed a w jm hcl h;obtain ⟨h1,h2⟩:=h;refine ⟨fun hn=>?_,fun i hi=>?_⟩
  ·exfalso;have c8:Region.ready .any init listed=[]:=by
    cases hr:Region.ready .any init listed with
    | nil=>rfl
    | cons x l =>
     have hx:x ∈ Region.ready .any init listed:=by rw [hr]; simp
     obtain ⟨-,o',d7,-⟩:=Eb hx;have:=(gf listed jm x (Ci.1 d7).1).2 hx;rw [hn] at this; simp at this
   have bm:=uo listed jm c8;have f9:init.size ∈ Region.ready .any (init.push o) (listed.push false):=by
    exact Ya1z
   rw [hn] at f9; simp at f9
  ·by_cases uq:i<init.size
   ·have ar:=(gf listed jm i uq).1 hi;have h3:=h2 i ar;obtain ⟨h0,o',d7,hd⟩:=Eb ar;have ao:(listed.push false).setIfInBounds i true=(listed.setIfInBounds i true).push false:=by
     apply gG;simp [List.set_append,jm,uq]
    have ur:∀ j,(listed.setIfInBounds i true).getD j false=true->∀ e ∈ depsOf init j,(listed.setIfInBounds i true).getD e false=true:=by
     intro j hj e he;have hup:∀ e,listed.getD e false=true->(listed.setIfInBounds i true).getD e false=true:=fun e he=>by
      rw [Fc,Sg];split
      ·rw [if_pos (by rename_i h; omega)]; rfl
      ·rw [<- Fc]; exact he
     by_cases hji:j=i
     ·subst hji; exact hup e (hd e he)
     ·refine hup e (hcl j ?_ e he);rw [Fc,Sg,if_neg (fun h=>hji h.symm),<- Fc] at hj;exact hj
    have hk:∀ a' w',wpAny P .any init (Aiw P o Q) fuel (listed.setIfInBounds i true) a' w'->wpAny P .any (init.push o) Q (fuel+1) ((listed.push false).setIfInBounds i true) a' w':=fun a' w' h=>by
     rw [ao]; exact ih _ a' w' (by simpa using jm) ur h
    unfold wpOp at h3 ⊢;rw [fd i uq];rw [d7] at h3 ⊢;simp only at h3 ⊢;have hy:Ol o' (yielded (init.push o) a.tmps)=Ol o' (yielded init a.tmps):=by
     unfold Ol;cases hgd:o'.guard with
     | none=>rfl
     | some x =>
      obtain ⟨g,b⟩:=x;have hgl:=(un i o' d7).2 g b hgd;simp only [yielded,fd g hgl]
    rw [hy];split
    ·rename_i hw;rw [if_pos hw] at h3;rcases h3 with h3|⟨h3,h4⟩
     ·exact .inl (Oper.wp_mono hk (Aom (fun c a w h=>h) (fun ⟨a,w,h⟩=>⟨a,w,h⟩) h3))
     ·exact .inr ⟨h3,let ⟨a,w,h⟩:=h4; ⟨a,w,h⟩⟩
    ·rename_i hw;rw [if_neg hw] at h3;exact hk _ _ h3
   ·have mb:i=init.size:=by
     exact Ya12
    subst mb;have c8:=xz listed jm hcl hi;exact up (fuel+1) listed a w jm (uo listed jm c8) (h1 c8)
end
section
variable {P:Program}
theorem Adn {C:Cx} {sz m:Nat} {y:AV} {ys:List AV} {vy:Value} (hy:VR C y vy) (h:litC sz y=some (m,ys)) (h0:0<m) (hs:0<sz) :
  ∃ b o cap vs,vy=.slice (some ⟨b,o,none⟩) m cap/\VRs C ys vs/\vs.length=m*sz/\Lie C.w C.Avoid b o vs/\(∀ v ∈ vs,v.oneCell'=true):=by
 unfold litC at h;split at h
 ·rename_i es c;split at h
  ·rename_i hh;simp only [A0,Cc] at h;obtain ⟨rfl,rfl⟩:=h;simp only [VR] at hy;obtain ⟨a,len,cap,rfl,e1,e2,e3,e4⟩:=hy;rcases e4 with rfl|⟨b,o,sz',rfl,hr⟩
   ·simp at h0
   ·have hne:es≠[]:=by intro e; subst e; simp at h0
    have:=Mg hr hh.1 hne;subst this;obtain ⟨l,g1,g2,g3⟩:=Gm hr;exact ⟨b,o,cap,l,by rw [e1],Ja g2,g1,g3,Up g2⟩
  ·simp at h
 ·rename_i len cs;split at h
  ·rename_i hh;simp only [A0,Cc] at h;obtain ⟨rfl,rfl⟩:=h;simp only [VR] at hy;obtain ⟨b,vs,rfl,hl,hv⟩:=hy;have:=A1 hv;exact ⟨b,0,len,vs,rfl,hv,aA,hl,Mv hv hh.2⟩
  ·simp at h
 ·simp at h
def Cx.turn (C:Cx) (w:World) (id b:Nat) (cs:List AV):Cx:={ C with w:=w,φ:=fun i=>if i=id then b else C.φ i,S:=put C.S id ⟨C.n,cs⟩,n:=C.n+1 }
theorem Acr {C:Cx} {w:World} {id b:Nat} {cs:List AV} {x o:Nat} (hm:(C.turn w id b cs).Mut x o):C.Mut x o\/x=b:=by
 rcases hm with ⟨i,hi,e⟩|h
 ·simp only [Cx.turn,Am] at hi e;split at e
  ·exact .inr e.symm
  ·exact .inl (.inl ⟨i,hi,e⟩)
 ·exact .inl (.inr h)
theorem Le.turn {C:Cx} {w:World} {id b:Nat} {cs:List AV} (hid:id<C.S.length) (hb:b=C.φ id\/C.w.heap.size<=b) (hos:w.os=C.w.os) (ud:w.tape=C.w.tape) (ml:w.output=C.w.output) (ue:C.w.heap.size<=w.heap.size)
  (hcell:∀ x o v,C.w.cell? ⟨x,o,none⟩=some v->¬ C.Mut x o->w.cell? ⟨x,o,none⟩=some v) (uf:∀ x,x<C.w.heap.size->(∀ o,¬ C.Mut x o)->w.heap[x]?=C.w.heap[x]?)
  (pg:∀ (b:Nat) (cs:Array Value) (t:TypeId) (fz:Nat × Nat),C.w.heap[b]?=some (gD cs t fz)->∃ cs':Array Value,w.heap[b]?=some (gD cs' t fz)/\cs'.size=cs.size):Le C (C.turn w id b cs):=by
 refine ⟨hos,ud,ml,ue,rfl,gX _,fun x o hx hm=>?_,hcell,uf,pg,fun i e he hn=>?_,fun _ k hk=>⟨k,hk,Cb _,fun _=>rfl⟩⟩
 ·rcases Acr hm with h|rfl
  ·exact h
  ·rcases hb with rfl|hb
   ·exact .inl ⟨id,hid,rfl⟩
   ·omega
 ·by_cases h:id=i
  ·subst h;have:=Dy he;subst this;simp at hn
  ·simp only [Cx.turn] at he ⊢;rw [Ad h] at he;exact ⟨e,he,rfl,by rw [if_neg (fun x=>h x.symm)]⟩
theorem SR.turn [Globs] {C:Cx} (am:SR C) {w:World} {id b:Nat} {cs:List AV} {arr:Array Value} {t:TypeId} (hid:id<C.S.length) (hb:b=C.φ id\/C.w.heap.size<=b) (hle:Le C (C.turn w id b cs)) (ev:w.heap[b]?=some (.cells arr t (0,0)))
  (ug:∀ i,i<C.S.length->i≠id->w.heap[C.φ i]?=C.w.heap[C.φ i]?) (hv:∃ vs r,arr.toList=vs++r/\VRs C cs vs):SR (C.turn w id b cs):=by
 have hne:∀ i,i<C.S.length->i≠id->C.φ i≠b:=fun i hi h e=>by
  rcases hb with hb|hb
  ·exact h (am.ne i id hi hid (by rw [e,hb]))
  ·have:=M5 am hi; omega
 refine ⟨fun i x hx=>?_,fun i j hi hj h=>?_,am.tok,fun i j o hi hj h h1 h2=>?_,fun x o hm=>?_,fun x o ha=>Fi (am.avlt x o ha) hle.size,fun i o hi h1 h2=>Fi (am.tlt i o hi h1 h2) hle.size,Np am hle⟩
 ·by_cases h:id=i
  ·subst h;have:=Dy hx;subst this;obtain ⟨vs,r,zf,zg⟩:=hv;exact ⟨Ip _,arr,t,by simp only [Cx.turn,if_true]; exact ev,vs,r,zf,VRs.mono hle _ _ zg⟩
  ·have hx':nth C.S i=some x:=by simp only [Cx.turn] at hx; rw [<- Ad h]; exact hx
   obtain ⟨h1,a',t',h2,vs,r,sm,h3⟩:=am.ent i x hx';refine ⟨Nat.lt_succ_of_lt h1,a',t',?_,vs,r,sm,VRs.mono hle _ _ h3⟩;simp only [Cx.turn];rw [if_neg (fun e=>h e.symm),ug i (Bb hx') (fun e=>h e.symm)]; exact h2
 ·simp only [Cx.turn,Am] at hi hj h;by_cases ar:i=id <;> by_cases dy:j=id
  ·omega
  ·rw [if_pos ar,if_neg dy] at h;exact absurd h.symm (hne j hj dy)
  ·rw [if_neg ar,if_pos dy] at h;exact absurd h (hne i hi ar)
  ·rw [if_neg ar,if_neg dy] at h;exact am.ne i j hi hj h
 ·simp only [Cx.turn,Am] at hi h hj h1 h2;by_cases ar:i=id
  ·rw [if_pos ar] at h;rcases hb with rfl|hb
   ·exact am.apart id j o hid hj h h1 h2
   ·have:=am.tlt j o hj h1 h2; omega
  ·rw [if_neg ar] at h;exact am.apart i j o hi hj h h1 h2
 ·rcases Acr hm with h|rfl
  ·exact am.own x o h
  ·rcases hb with rfl|hb
   ·exact am.own _ o (.inl ⟨id,hid,rfl⟩)
   ·intro ha;have:=am.avlt _ o ha; omega
theorem Ae8 [Globs] {C:Cx} (am:SR C) {t ty:TypeId} {x y av:AV} {vx vy:Value} {S':List Ent} {n':Nat} (hx:VR C x vx) (hy:VR C y vy) (h:apO P t x y C.S C.n=some (av,S',n')) :
  ∃ v C',(Og #[t,t] ty #[vx,vy]).run P C.w=.ok v C'.w/\Le C C'/\SR C'/\C'.S=S'/\C'.tk=C.tk/\C'.n=n'/\VR C' av v:=by
 unfold apO at h;split at h;case h_2=>simp at h
 rename_i sz hT;split at h;case h_2=>simp at h
 rename_i m ys hL;split at h;case isFalse=>simp at h
 rename_i hm;obtain ⟨cu,hmr⟩:=hm;simp only [roomy,decide_eq_true_eq] at hmr;obtain ⟨e,i,z,hu,hi,hz,hsz,hpos,ry,hby,-⟩:=Uv hT;obtain ⟨b2,o2,cap2,news,rfl,bc,cj,xu,bu⟩:=Adn hy hL cu hpos;have gc:∀ (j:Nat) u,news[j]?=some u->C.w.cell? (gV ⟨b2,o2,none⟩ j)=some u:=fun j u hj=>by rw [Dl]; exact (J1 xu j u hj).1
 unfold apO2 at h;split at h
 ·simp only [A0,Cc] at h;obtain ⟨rfl,rfl,rfl⟩:=h;simp only [VR] at hx;obtain ⟨a,len,cap,rfl,hlen,hcap,hC,hE⟩:=hx;obtain ⟨rfl,hcl⟩:a=none/\cap=len:=hC;simp only [C3] at hlen;subst hlen;subst hcl;have ff:m*i.bytes<=140737488355328:=by
   have:m*i.bytes<=1048576*1048576:=Ot hmr hby
   omega
  have hrun:=run_append_nil (P:=P) C.w t ty e i z hu hi hz ⟨b2,o2,none⟩ m cap2 news cU gc aA aA aA;generalize hA:(news.toArray++Nx z.cells (grownCap C.w m 0 e - m))=arr at hrun;have lu:=grownCap_ge C.w m 0 e;have a1l:arr.size=grownCap C.w m 0 e*sz:=by
   rw [<- hA];simp only [Array.size_append,List.size_toArray,size_zeroCells,ry,cj];rw [Nat.sub_mul];have:=F0 sz lu;omega
  have hd:Below C.w.heap.size C.w C.w.drew:=(Fb _ _).drew;have a05:SR (C.at C.w.drew):=SR.of_below am hd;have hv:∃ vs r,arr.toList=vs++r/\VRs (C.at C.w.drew) ys vs:=⟨news,(Nx z.cells (grownCap C.w m 0 e - m)).toList,by rw [<- hA]; simp,VRs.mono (Le.of_below hd) _ _ bc⟩;refine ⟨_,(C.at C.w.drew).more arr e ys,hrun,(Le.of_below hd).trans (Le.more a05 _ _ _),SR.moreP a05 hv,rfl,rfl,rfl,?_⟩;simp only [VR];refine ⟨C.w.heap.size,_,_,rfl,lu,.inr rfl,Ip _,fun e' po mi=>⟨?_,arr,e,?_,aA⟩⟩
  ·simp [Cx.more,Cx.at]
  ·exact An C.w.drew _
 ·rename_i id ep len sz';split at h;case isFalse=>simp at h
  rename_i hh;obtain ⟨rfl,dz⟩:=hh;split at h;case h_2=>simp at h
  rename_i cs ip;split at h;case isFalse=>simp at h
  rename_i hh;obtain ⟨hcl,bl⟩:=hh;simp only [roomy,decide_eq_true_eq] at bl;simp only [A0,Cc] at h;obtain ⟨rfl,rfl,rfl⟩:=h;obtain ⟨en,h1,h2,rfl⟩:=Dq ip;simp only [VR] at hx;obtain ⟨b,a,cap,rfl,hcap,ha,hn,hb⟩:=hx;obtain rfl:=ha.resolve_left aA;obtain ⟨rfl,arr,tt,h3,eo⟩:=hb en h1 h2;obtain ⟨-,arr',tt',zn,olds,r,hor,l9⟩:=am.ent id en h1;rw [h3] at zn;simp only [A0,iA] at zn;obtain ⟨rfl,rfl,-⟩:=zn;have dt:=Bb h1;have rz:=A1 l9;have a1l:arr.size=olds.length+r.length:=by rw [<- Ii,hor,Cn]
  have jk:len*sz'+m*sz'=(len+m)*sz':=(O8 _ _ _).symm;have yz:VRs C (en.cells++ys) (olds++news):=Gn l9 bc;by_cases d6:len+m<=cap
  ·have tz:(len+m)*sz'<=cap*sz':=F0 _ d6;have hrun:=J5 (P:=P) C.w t ty e i hu hi (C.φ id) len cap tt arr h3 ⟨b2,o2,none⟩ m cap2 news cU gc bu d6 (by rw [hsz,cj]; omega);rw [hsz] at hrun;generalize hA:(arr.toList.take (len*sz')++news++arr.toList.drop (len*sz'+news.length)).toArray=arr1 at hrun;have jz:arr1.size=arr.size:=by rw [<- hA]; simp; omega
   have jx:arr.toList.take (len*sz')=olds:=by rw [hor,I6 aA,Fa aA]
   have hv:∃ vs r,arr1.toList=vs++r/\VRs C (en.cells++ys) vs:=⟨olds++news,arr.toList.drop (len*sz'+news.length),by rw [<- hA,jx],yz⟩;have tx:(C.w.setRow (C.φ id) arr1).heap[C.φ id]?=some (.cells arr1 tt (0,0)):=setRow_heap _ _ _ _ _ _ h3;have hle:Le C (C.turn (C.w.setRow (C.φ id) arr1) id (C.φ id) (en.cells++ys)):=by
    have hm:∀ o,C.Mut (C.φ id) o:=fun o=>.inl ⟨id,dt,rfl⟩;refine Le.turn dt (.inl rfl) rfl rfl rfl (by simp) (fun x o v hv hn=>?_) (fun x _ hn=>?_) (fun x d t' fz hd=>?_)
    ·have hne:x≠C.φ id:=fun h=>hn (h ▸ hm o);have:=setRow_other C.w (C.φ id) x arr1 hne;simpa [It,this] using hv
    ·exact setRow_other C.w (C.φ id) x arr1 fun h=>hn 0 (h ▸ hm 0)
    ·by_cases h:x=C.φ id
     ·subst h;rw [h3] at hd;simp only [A0,iA] at hd;obtain ⟨rfl,rfl,rfl⟩:=hd;exact ⟨arr1,tx,jz⟩
     ·exact ⟨d,Za3f,rfl⟩
   refine ⟨_,_,hrun,hle,SR.turn am dt (.inl rfl) hle tx (fun i hi hne=>setRow_other _ _ _ _ fun h=>hne (am.ne i id hi dt h)) hv,rfl,rfl,rfl,?_⟩;simp only [VR];refine ⟨C.φ id,_,_,rfl,d6,.inr rfl,Ip _,fun e' po mi=>⟨by simp [Cx.turn],arr1,tt,tx,aA⟩⟩
  ·have f8:cap<len+m:=aA
   have ff:(len+m)*i.bytes<=140737488355328:=by
    have:(len+m)*i.bytes<=1048576*1048576:=Ot bl hby
    omega
   have hcells:∀ (j:Nat) v,olds[j]?=some v->C.w.cell? (gV ⟨C.φ id,0,none⟩ j)=some v:=fun j v hj=>by
    rw [Dl,Fo];have:arr.toList[j]?=some v:=by rw [hor,Cp (Fq.1 hj).1]; exact hj
    simp [It,h3]; simpa using this
   have hrun:=run_append_grow (P:=P) C.w t ty e i z hu hi hz ⟨C.φ id,0,none⟩ len cap olds (by rw [hsz]; omega) hcells ⟨b2,o2,none⟩ m cap2 news cU gc f8 aA (growslice_fits f8 ff);generalize hA:(olds.toArray++news.toArray++Nx z.cells (grownCap C.w (len+m) cap e - (len+m)))=arr1 at hrun;have lu:=grownCap_ge C.w (len+m) cap e;have a2l:arr1.size=grownCap C.w (len+m) cap e*sz':=by
    rw [<- hA];simp only [Array.size_append,List.size_toArray,size_zeroCells,ry,cj];rw [Nat.sub_mul];have:=F0 sz' lu;omega
   have hbel:Below C.w.heap.size C.w (C.w.drew.alloc (.cells arr1 e)):=((Fb _ _).drew).alloc (by simp) _;have tx:(C.w.drew.alloc (.cells arr1 e)).heap[C.w.heap.size]?=some (.cells arr1 e (0,0)):=An C.w.drew _;have hle:Le C (C.turn (C.w.drew.alloc (.cells arr1 e)) id C.w.heap.size (en.cells++ys)) :=
    Le.turn dt (.inr (Cb _)) hbel.os hbel.tape hbel.output hbel.size (fun x o v hv _=>Za38) (fun x hx _=>hbel.block x hx) (fun x d t' fz hd=>⟨d,Dc hbel hd,rfl⟩)
   have hv:∃ vs r,arr1.toList=vs++r/\VRs C (en.cells++ys) vs:=⟨olds++news,(Nx z.cells (grownCap C.w (len+m) cap e - (len+m))).toList,by rw [<- hA]; simp,yz⟩;refine ⟨_,_,hrun,hle,SR.turn am dt (.inr (Cb _)) hle tx (fun i hi _=>hbel.block _ (M5 am hi)) hv,rfl,rfl,rfl,?_⟩;simp only [VR];refine ⟨C.w.heap.size,_,_,rfl,lu,.inr rfl,Ip _,fun e' po mi=>⟨by simp [Cx.turn],arr1,e,tx,aA⟩⟩
 ·simp at h
end
section
variable {P:Program}
theorem Le.take {C:Cx} (k:Nat):Le C { C with S:=C.S.take k }:=by
 refine ⟨rfl,rfl,rfl,Cb _,rfl,Cb _,?_,fun _ _ _ h _=>h,fun _ _ _=>rfl,fun _ cs _ _ h=>⟨cs,h,rfl⟩,?_,fun _ q h=>⟨q,h,Cb _,fun _=>rfl⟩⟩
 ·rintro b o - (⟨i,hi,h⟩|h)
  ·exact .inl ⟨i,cB,h⟩
  ·exact .inr h
 ·intro i e h _;rw [Ae,Iw] at h;split at h
  ·exact ⟨e,by rw [Ae]; exact h,rfl,rfl⟩
  ·simp at h
theorem SR.take [Globs] {C:Cx} (hs:SR C) (k:Nat):SR { C with S:=C.S.take k }:=by
 have hle:=Le.take (C:=C) k;refine ⟨fun i e h=>?_,fun i j hi hj h=>hs.ne i j cB (by simp at hj; omega) h,hs.tok,fun i j o hi=>hs.apart i j o cB,?_,hs.avlt,hs.tlt,Np hs hle⟩
 ·rw [Ae,Iw] at h;split at h
  ·obtain ⟨h1,cs,t,h2,vs,r,sm,h3⟩:=hs.ent i e (by rw [Ae]; exact h);exact ⟨h1,cs,t,h2,vs,r,sm,VRs.mono hle _ _ h3⟩
  ·simp at h
 ·rintro b o (⟨i,hi,h⟩|h)
  ·exact hs.own b o (.inl ⟨i,cB,h⟩)
  ·exact hs.own b o (.inr h)
def Jz [Globs] (P:Program) (call:Bd):Prop :=
 ∀ f args S tk n r S' tk' n', call f args S tk n = some (r, S', tk', n') → (∃ fn, P.funcs[f]? = some fn ∧ (fn.name == "runtime.NumGoroutine") = false ∧ fn.body.isNone = false) ∧
  ∀ (C:Cx) (vs:Array Value),C.S=S->C.tk=tk->C.n=n->SR C->VRs C args vs.toList ->
   Calls P f vs C.w fun e w'=>∃ v C',e=.returned v/\C'.w=w'/\Le C C'/\SR C'/\C'.S=S'/\C'.tk=tk'/\C'.n=n'/\VR C' r v
theorem Gj {o:Oper} {a:Act} {w w':World} {v:Value} {next:Act->World->Prop} {Q:Exit->Act->World->Prop} (h:(execOp a.eval o).run P w=.ok (.value v) w') (hn:next (a.put o.dst v) w'):o.wp P a w next Q:=by
 unfold Oper.wp; rw [h]; exact hn
theorem G0 [Globs] {call:Bd} (hc:Jz P call) {C:Cx} {st st':St} {a:Act} {o:Oper} {av:AV} (hr:Rel C st a) (h:evO P call o st=some (av,st')) {next:Act->World->Prop} {Q:Exit->Act->World->Prop}
  (hn:∀ v C',Le C C'->SR C'->C'.S=st'.S->C'.tk=st'.tk->C'.n=st'.n->VR C' av v->next (a.put o.dst v) C'.w):o.wp P a C.w next Q/\st'.T=st.T:=by
 have hρ:=Aay hr.tmps;have quiet:∀ av',evQ P o (opv st.T)=some av'->(av',st)=(av,st')->o.wp P a C.w next Q/\st'.T=st.T:=by
  intro av' hq e;simp only [Cc] at e;obtain ⟨rfl,rfl⟩:=e;obtain ⟨v,w',h1,h2,h3⟩:=Agm hr.sr hρ hq;exact ⟨Gj h1 (hn v (C.at w') (Le.of_below h2) (SR.of_below hr.sr h2) hr.S hr.tk hr.n h3),rfl⟩
 unfold evO at h;split at h
 ·rename_i t x e;simp only [B6,Cc] at h;obtain ⟨v,h,rfl,rfl⟩:=h;rw [<- hr.S] at h;obtain ⟨u,h1,h2⟩:=X1 hr.sr (hρ x) h;exact ⟨Gj (v:=u) (w':=C.w) (by simp [execOp,e,h1]) (hn u C (Le.refl C) hr.sr hr.S hr.tk hr.n h2),rfl⟩
 ·rename_i t x y e;simp only [B6,Cc] at h;obtain ⟨S',h,rfl,rfl⟩:=h;rw [<- hr.S] at h;obtain ⟨C',h1,h2,h3,h4,h5,h6⟩:=Aiq hr.sr (hρ x) (hρ y) h;refine ⟨?_,rfl⟩;unfold Oper.wp;have:(execOp a.eval o).run P C.w=.ok .skip C'.w:=by simp [execOp,e,h1]
  rw [this];exact hn undef C' h2 h3 h4 (h5.trans hr.tk) (h6.trans hr.n) bN
 ·rename_i t e;simp only [B6,Cc] at h;obtain ⟨cs,h,rfl,rfl⟩:=h;obtain ⟨zv,h1,rfl⟩:=Jk (w:=C.w) h;refine ⟨Gj (v:=.pointer (some ⟨C.w.heap.size,0,none⟩)) (w':=C.w.alloc (.cells zv.cells t)) ?_ ?_,rfl⟩
  ·simp only [execOp,e,Instr.alloc,Fe,h1,Ea,newVar,Hh,Im]
  ·have:=hn (.pointer (some ⟨C.w.heap.size,0,none⟩)) (C.more zv.cells t (zv.cells.toList.map cst1)) (Le.more hr.sr _ _ _) (SR.more hr.sr (Hw _)) Za32 hr.tk Za41 (by rw [<- hr.S,<- hr.n]; exact Aly);exact this
 ·rename_i t x e;simp only [B6,Cc] at h;obtain ⟨cs,h,rfl,rfl⟩:=h;have hv:=Gf h (hρ x);refine ⟨Gj (v:=.pointer (some ⟨C.w.heap.size,0,none⟩)) (w':=C.w.alloc (.cells (a.eval x).cells t)) ?_ ?_,rfl⟩
  ·simp only [execOp,e,Instr.box,Fe,Ea,newVar,Hh,Im]
  ·have:=hn (.pointer (some ⟨C.w.heap.size,0,none⟩)) (C.more (a.eval x).cells t cs) (Le.more hr.sr _ _ _) (SR.more hr.sr hv) Za32 hr.tk Za41 (by rw [<- hr.S,<- hr.n]; exact Aly);exact this
 ·rename_i t l c e;simp only [B6,Prod.exists] at h;obtain ⟨l',sz,cs,h,hh⟩:=h;obtain ⟨el,m,arr,r1,r2,r3,r4,r5⟩:=Ahl (hρ l) (hρ c) h;have hrun:(execOp a.eval o).run P C.w=.ok (.value (.slice (some ⟨C.w.heap.size,0,none⟩) l' m)) (C.w.alloc (.cells arr el)):=by simp [execOp,e,r1]
  have hb:Below C.w.heap.size C.w (C.w.alloc (.cells arr el)):=(Fb _ _).alloc (Cb _) _;have ev:cs.length=arr.size:=by rw [<- r2]; simp
  split at hh
  ·rename_i f8;simp only [Cc] at hh;obtain ⟨rfl,rfl⟩:=hh;have y3:l'*sz<=m*sz:=F0 _ r3;have ae:Ba C.tk .tight sz=true:=rfl;have hn':Lp C .tight C.w.heap.size (l'*sz) (m*sz):=.inr (.inl (Cb _));have hle:Le C (C.tok (C.w.alloc (.cells arr el)) .tight (C.w.heap.size,l'*sz,m*sz)) :=
    Le.of_tok ae hn' rfl rfl rfl hb.size (fun x o v hv _=>by rw [iY hb (E2 hv)]; exact hv) (fun x hlt _=>hb.block x hlt) (fun b d t fz hd=>⟨d,Dc hb hd,rfl⟩)
   have am:=SR.of_tok hr.sr ae hn' (fun _=>(Ci.1 (An C.w (.cells arr el))).1) hle (fun i hi=>hb.block _ (M5 hr.sr hi));have hcap:CapR (C.tok (C.w.alloc (.cells arr el)) .tight (C.w.heap.size,l'*sz,m*sz)) (.tok C.tk.length 0 sz) (some ⟨C.w.heap.size,0,none⟩) l' m:=Jp (c:=.tight) ae (.inr ⟨arr,el,rfl,rfl,An _ _,aA⟩);have hv:VR (C.tok (C.w.alloc (.cells arr el)) .tight (C.w.heap.size,l'*sz,m*sz)) (mkV (len0 l) st.tk.length l' sz cs) (.slice (some ⟨C.w.heap.size,0,none⟩) l' m):=by
    unfold mkV;split
    ·rename_i dz;have nh:l'=0:=by
      cases l with
      | const v=>cases v with
       | int k z =>
        unfold len0 at dz
        split at dz
        ·rename_i k' he
         simp only [Operand.const.injEq,fO.injEq] at he
         obtain ⟨rfl,rfl⟩:=he
         simp [opv,cst,cst1,intN] at r5; exact r5.symm
        ·simp at dz
       | _=>simp [len0] at dz
      | _=>simp [len0] at dz
     subst nh;simp only [VR];refine ⟨_,0,m,rfl,rfl,Cs _,?_,.inl trivial⟩;rw [<- hr.tk];exact hcap
    ·unfold Pi;split
     ·rename_i es ub;split
      ·rename_i hp;obtain ⟨g1,g2,g3,g4⟩:=Ll ub;simp only [tokA,VR];refine ⟨_,l',m,rfl,by simp [g1],r3,by rw [<- hr.tk]; exact hcap,.inr ⟨C.w.heap.size,0,sz,rfl,?_⟩⟩;obtain ⟨e1,e2,e3,e4,e5,e6,e7,e8,e9,e10,e11⟩:=Lw (w:=C.w.alloc (.cells arr el)) (x:=(C.w.heap.size,l'*sz,m*sz)) ae;have nk:(es.map (·.map w1)).flatten=((arr.toList.map cst1).take (l'*sz)).map w1:=by rw [r2,<- g3,List.map_flatten]
       have ul:VRs C ((arr.toList.map cst1).take (l'*sz)) (arr.toList.take (l'*sz)):=(Jm (Hw _) (Lm (by rw [r2]; exact g4))).1;refine Ge (l:=arr.toList.take (l'*sz)) (fun e he=>?_) ?_ (J2 fun j v hj=>?_)
       ·exact Ya1w
       ·rw [nk];refine PRs.stays hle.stays _ _ (H9 (C:=C) ?_ (Tr ul));rw [r2,<- g3,Cz];intro c hc;exact Ya0d
       ·rw [Fo];have io:j<l'*sz:=by
         exact Ya0z
        rw [Iq io] at hj;constructor
        ·rw [e1];simp only [It,An];simpa using hj
        ·rintro (di|dx)
         ·rw [e2] at di;have:=hr.sr.avlt _ _ di; omega
         ·rcases Qe ae hn' dx with h|⟨-,h1,h2,-⟩
          ·exact hr.sr.fresh (Cb _) (.inr h)
          ·omega
      ·simp only [tokA,VR]
     ·simp only [tokA,VR]
   exact ⟨Gj hrun (hn _ _ hle am hr.S (by show C.tk++[0]=_; rw [hr.tk]) hr.n hv),rfl⟩
  ·simp only [Cc] at hh;obtain ⟨rfl,rfl⟩:=hh;subst r2;refine ⟨Gj hrun (hn _ (C.more arr el (arr.toList.map cst1)) (Le.more hr.sr _ _ _) (SR.more hr.sr (Hw _)) Za32 hr.tk Za41 ?_),rfl⟩;simp only [VR];refine ⟨C.w.heap.size,some ⟨C.w.heap.size,0,none⟩,m,rfl,r3,.inr rfl,by rw [<- hr.n]; exact Ip _,fun e' po mi=>⟨?_,arr,el,An _ _,?_⟩⟩
   ·rw [<- hr.S];simp [Cx.more]
   ·simp only [Ib,Ii] at r4;omega
 ·rename_i c e;split at h
  ·rename_i hb;split at h
   ·rename_i x y t t' iu ht;split at h
    ·split at h
     ·rename_i r6;subst r6;simp only [B6,Cc,Prod.exists] at h;obtain ⟨v,S',n',h,rfl,rfl⟩:=h;have aa:=Ka hr.tmps c.args.toList;rw [iu] at aa;obtain ⟨ux,uy,hu⟩:=Y0 aa;rw [hu] at aa;simp only [VRs,and_true] at aa;rw [<- hr.S,<- hr.n] at h;obtain ⟨w,C',h1,h2,h3,h4,h5,h6,h7⟩:=Ae8 (ty:=o.type) hr.sr aa.1 aa.2 h;have ha:c.args.map a.eval=#[ux,uy]:=cK
      have pp:c.argTypes=#[t,t]:=cP
      exact ⟨Gj (v:=w) (w':=C'.w) dV (hn w C' h2 h3 h4 (h5.trans hr.tk) h6 h7),rfl⟩
     ·simp at h
    split at h
    ·rename_i r6;subst r6;simp only [B6,Cc,Prod.exists] at h;obtain ⟨v,tk',h,rfl,rfl⟩:=h;have aa:=Ka hr.tmps c.args.toList;rw [iu] at aa;obtain ⟨ux,uy,hu⟩:∃ ux uy,c.args.toList.map a.eval=[ux,uy]:=by
      have:=A1 aa;match hl:c.args.toList.map a.eval with
      | [p,q]=>exact ⟨p,q,rfl⟩
      | []=>rw [hl] at this; simp at this
      | [_]=>rw [hl] at this; simp at this
      | _ :: _ :: _ :: _=>rw [hl] at this; simp at this
     rw [hu] at aa;simp only [VRs,and_true] at aa;rw [<- hr.tk,<- hr.S] at h;obtain ⟨w,C',h1,h2,h3,h4,h5,h6,h7⟩:=Ac5 (ty:=o.type) hr.sr aa.1 aa.2 h;have ha:c.args.map a.eval=#[ux,uy]:=cK
     have pp:c.argTypes=#[t,t]:=cP
     exact Ya1n
    ·simp only [B6,Cc,Prod.exists] at h;obtain ⟨v,tk',h,rfl,rfl⟩:=h;have aa:=Ka hr.tmps c.args.toList;rw [iu] at aa;obtain ⟨ux,uy,hu⟩:=Y0 aa;rw [hu] at aa;simp only [VRs,and_true] at aa;rw [<- hr.tk] at h;obtain ⟨w,C',h1,h2,h3,h4,h5,h6,h7⟩:=Afa (ty:=o.type) hr.sr aa.1 aa.2 h;have ha:c.args.map a.eval=#[ux,uy]:=cK
     have pp:c.argTypes=#[t,t']:=cP
     exact Ya1n
   ·simp at h
  ·rename_i hb;split at h
   ·rename_i x y t t' iu ht;simp only [B6,Cc,Prod.exists] at h;obtain ⟨m,S',h,rfl,rfl⟩:=h;have aa:=Ka hr.tmps c.args.toList;rw [iu] at aa;obtain ⟨ux,uy,hu⟩:=Y0 aa;rw [hu] at aa;simp only [VRs,and_true] at aa;rw [<- hr.S] at h;obtain ⟨C',h1,h2,h3,h4,h5,h6⟩:=Af5 (ty:=o.type) (t':=t') hr.sr aa.1 aa.2 h;have ha:c.args.map a.eval=#[ux,uy]:=cK
    have pp:c.argTypes=#[t,t']:=cP
    exact ⟨Gj (v:=.int .i64 (m:Int)) (w':=C'.w) dV (hn _ C' h2 h3 h4 (h5.trans hr.tk) (h6.trans hr.n) bN),rfl⟩
   ·simp at h
  ·exact Ya27
  ·split at h
   ·rename_i f args ey;simp only [B6,Cc,Prod.exists] at h;obtain ⟨r,S',tk',n',h,rfl,rfl⟩:=h;refine ⟨?_,rfl⟩;unfold Ed at ey;split at ey
    ·rename_i x m hx;split at ey
     ·rename_i ti vi uu;simp only [B6,Cc] at ey;obtain ⟨f',hm,rfl,rfl⟩:=ey;have np:=hρ x;rw [uu] at np;simp only [VR] at np;obtain ⟨u,np,hu⟩:=np;obtain ⟨⟨fn,g1,g2,g3⟩,ci⟩:=hc _ _ _ _ _ _ _ _ _ h;have aa:VRs C (vi :: c.args.toList.map (opv st.T)) (u :: c.args.toList.map a.eval):=by simp only [VRs]; exact ⟨hu,Ka hr.tmps c.args.toList⟩
      have hC:=ci C (#[u]++c.args.map a.eval) hr.S hr.tk hr.n hr.sr (by simpa using aa);have hrun:(execOp a.eval o).run P C.w=.ok (.enter f' (#[u]++c.args.map a.eval)) C.w:=by
       have cj : ¬ fn.name = "runtime.NumGoroutine" := dO
       have cd:¬ fn.body=none:=Za1s
       have hmr:=Ads (P:=P) (w:=C.w) (u:=u) hm;have hz0:(#[Value.iface ti u]++c.args.map a.eval)[0]?=some (.iface ti u):=by simp [Array.getElem?_append]
       have hz1:(#[Value.iface ti u]++c.args.map a.eval).extract 1 (#[Value.iface ti u]++c.args.map a.eval).size=c.args.map a.eval:=by
        apply gG; simp [Fa]
       simp only [execOp,e,resolve,hx,np,invoke,Fe,Im,Ea,hz0,hz1,callMethod];simp [callFunc,hmr,g1,cj,cd]
      exact Yat
     ·simp at ey
    ·rename_i x hx;split at ey
     ·rename_i f' caps uu;simp only [A0,Cc] at ey;obtain ⟨rfl,rfl⟩:=ey;have np:=hρ x;rw [uu] at np;simp only [VR] at np;obtain ⟨us,np,uv⟩:=np;obtain ⟨⟨fn,g1,g2,g3⟩,ci⟩:=hc _ _ _ _ _ _ _ _ _ h;have aa:=Gn (Ka hr.tmps c.args.toList) uv;have hC:=ci C (c.args.map a.eval++us) hr.S hr.tk hr.n hr.sr (by simpa using aa);have hrun:(execOp a.eval o).run P C.w=.ok (.enter f' (c.args.map a.eval++us)) C.w:=by
       have cj : ¬ fn.name = "runtime.NumGoroutine" := dO
       exact Ya18
      exact Yat
     ·rename_i f' caps uu;simp only [A0,Cc] at ey;obtain ⟨rfl,rfl⟩:=ey;have np:=hρ x;rw [uu] at np;simp only [VR] at np;obtain ⟨us,np,uv⟩:=np;obtain ⟨⟨fn,g1,g2,g3⟩,ci⟩:=hc _ _ _ _ _ _ _ _ _ h;have aa:=Gn uv (Ka hr.tmps c.args.toList);have hC:=ci C (us++c.args.map a.eval) hr.S hr.tk hr.n hr.sr (by simpa using aa);have hrun:(execOp a.eval o).run P C.w=.ok (.enter f' (us++c.args.map a.eval)) C.w:=by
       have cj : ¬ fn.name = "runtime.NumGoroutine" := dO
       exact Ya18
      exact Yat
     ·simp at ey
    ·simp at ey
   ·simp at h
 ·exact Ya27
theorem Hr {C:Cx} {T:List AV} {a:Act} {ops:Array Oper} {o:Oper} {b:Bool} (ht:VRs C T a.tmps.toList) (h:Hf ops.toList T o=some b):Ol o (yielded ops a.tmps)=b:=by
 unfold Hf at h;unfold Ol;split at h
 ·rename_i hg; rw [hg]; simpa using h
 ·rename_i g want hg;rw [hg];simp only;split at h
  ·simp at h
  ·rename_i d hd;have d8:(ops[g]?).bind (·.dst)=some d:=by rw [Ae] at hd; simpa using hd
   unfold yielded;rw [d8];simp only [Lg];by_cases hlt:d<T.length
   ·obtain ⟨v,h1,h2⟩:=Tq ht (Agu hlt);have x5:a.tmps[d]?=some v:=aU
    rw [x5];split at h
    ·exact Ya2f
    ·exact Ya2f
    ·simp at h
   ·rw [Ms (Ss hlt)] at h;simp at h
theorem Rel.put [Globs] {C C':Cx} {st st':St} {a:Act} {d:Option Tmp} {v:Value} {av:AV} (hr:Rel C st a) (hle:Le C C') (hs:SR C') (h1:C'.S=st'.S) (h2:C'.tk=st'.tk) (h3:C'.n=st'.n) (hv:VR C' av v) (hT:st'.T=st.T) :
  Rel C' { st' with T:=putT st'.T d av } (a.put d v) :=
 ⟨h1,h2,h3,Ut (by rw [hT]; exact VRs.mono hle _ _ hr.tmps) hv,by cases d <;> exact hr.defers,hs⟩
theorem Nn [Globs] {call:Bd} (hc:Jz P call) {ops:Array Oper} {Q:Exit->Act->World->Prop} : ∀ {l:List Oper} {C:Cx} {st st':St} {a:Act},Rel C st a->evOs P call ops.toList l st=some st' ->
  (∀ a' C',Le C C'->Rel C' st' a'->Q .normal a' C'.w)->wpList P ops Q l a C.w
 | [],C,st,st',a,hr,h,hQ=>by
  simp only [evOs,A0] at h; subst h;exact hQ a C (Le.refl C) hr
 | o :: l,C,st,st',a,hr,h,hQ=>by
  simp only [evOs] at h;split at h
  ·simp at h
  ·rename_i hw;have:=Hr hr.tmps hw;unfold wpList;rw [if_neg (by rw [this]; simp)];exact Nn hc (hr.put (Le.refl C) hr.sr hr.S hr.tk hr.n bN rfl) h hQ
  ·rename_i hw;have:=Hr hr.tmps hw;unfold wpList;rw [if_pos this];split at h
   ·rename_i v st1 ho;split at h;case isFalse=>simp at h
    have hT:st1.T=st.T:=(G0 (next:=fun _ _=>True) (Q:=Q) hc hr ho (fun _ _ _ _ _ _ _ _=>trivial)).2;refine .inl (G0 hc hr ho fun u C' k1 k2 k3 k4 k5 k6=>?_).1;exact Nn hc (hr.put k1 k2 k3 k4 k5 k6 hT) h fun a' C'' k dc=>hQ a' C'' (k1.trans k) dc
   ·simp at h
theorem Aap {c:Code} {Q:Exit->Act->World->Prop} (J:Nat->Act->World->Prop) (round:∀ n a w,J n a w->c.wp P (Exit.then (fun a' w'=>∃ m,m<n/\J m a' w') Q) a w) {n:Nat} {a:Act} {w:World} (h0:J n a w):(Code.loop c).wp P Q a w:=by
 intro b k cs;have key:∀ n a w,J n a w->∃ e a' w',Q e a' w'/\Arrives P (lone (b.at a (.code c :: .inLoop c :: k)) cs w) b k cs e a' w':=by
  intro n;induction n using Ow with
  | _ n ih =>
   intro a w hJ;obtain ⟨e,a₁,w₁,hq,ev⟩:=round n a w hJ b (.inLoop c :: k) cs;cases e with
   | normal =>
    obtain ⟨m,hlt,hJ₁⟩:=hq;obtain ⟨e₂,a₂,w₂,hq₂,harr₂⟩:=ih m hlt a₁ w₁ hJ₁;exact ⟨e₂,a₂,w₂,hq₂,.of_steps (Steps.trans ev (.one step_inLoop)) harr₂⟩
   | exit id=>exact ⟨_,a₁,w₁,hq,.pass (x:=.inLoop c) rfl (fun _ _=>.inl (by simp)) ev⟩
   | goto l=>exact ⟨_,a₁,w₁,hq,.pass (x:=.inLoop c) rfl (fun _ _=>.inl (by simp)) ev⟩
   | ret=>exact ⟨_,a₁,w₁,hq,.pass (x:=.inLoop c) rfl (fun _ _=>.inl (by simp)) ev⟩
   | panic ch=>exact ⟨_,a₁,w₁,hq,.pass (x:=.inLoop c) rfl (fun _ _=>.inl (by simp)) ev⟩
   | outgrown=>exact ⟨_,a₁,w₁,hq,.pass (x:=.inLoop c) rfl (fun _ _=>.inl (by simp)) ev⟩
 obtain ⟨e,a',w',hq,ev⟩:=key n a w h0;exact ⟨e,a',w',hq,.of_steps (.one step_loop) ev⟩
def exOf:Ex->Exit
 | .normal=>.normal
 | .exit id=>.exit id
 | .ret=>.ret
def Aos [Globs] (call:Bd):Prop:=∀ f args S tk n r S' tk' n',call f args S tk n=some (r,S',tk',n')->S'=S/\tk'=tk/\(shF f=true\/(n'=n/\∀ S2 tk2 n2,call f args S2 tk2 n2=some (r,S2,tk2,n2)))
def Qd [Globs] (call:Bd):Prop:=∀ f args S tk n r S' tk' n',call f args S tk n=some (r,S',tk',n')->(xF f && Globs.dr)=true\/(S'=S/\tk'=tk/\(shF f=true\/(n'=n/\∀ S2 tk2 n2,call f args S2 tk2 n2=some (r,S2,tk2,n2))))
def extC (P:Program) [Ext P]:Bd:=fun f args S tk n=>if Ext.on P f=true then Ext.call P f args S tk n else none
class Y5 [Globs] (P:Program) [Ext P]:Prop where
 ok:Jz P (extC P)
 indep:∀ M,@Aos (gM M) (@Ec (gM M) P _ (extC P))
theorem Uw [Globs] [Ext P] {M:Md} {call:Bd} (h:Jz P call):Jz P (@Ec (gM M) P _ call):=by
 intro f args S tk n r S' tk' n' hh;unfold Ec at hh;split at hh
 ·exact h f args S tk n r S' tk' n' hh
 ·simp at hh
def Amp (P:Program) (real ops:Array Oper):Option (Nat × Oper)->Prop
 | none=>real=ops
 | some (p,al)=>real.size=ops.size/\(∀ i:Nat,i≠p->real[i]?=ops[i]?)/\(∀ (i:Nat) (o:Oper),ops[i]?=some o->isMk o=false)/\real[p]?=some al/\al.guard=none/\al.dst.isSome=true/\(∃ t cs,al.op=.alloc t/\Ar P t=some cs)/\ops[p]?=some { al with op:=.move (.global 0) }
def Ry (P:Program) (lt:Option (Nat × Oper)) (st:St):St :=
 match lt with
 | none=>st
 | some (_,al)=>match al.op with
  | .alloc t=>{ st with T:=putT st.T al.dst (.ref st.S.length st.n 0),S:=st.S++[⟨st.n,(Ar P t).getD []⟩],n:=st.n+1 }
  | _=>st
def Aar [Globs] (P:Program) (ok:St->List Oper->Bool):Prop:=P.follows .mixedOrders=true /\
 ∀ (call:Bd),Jz P call->∀ (real ops:Array Oper) (lt:Option (Nat × Oper)),Amp P real ops lt->@Qd (gM (mdOf ops.toList)) call->∀ (C:Cx) (st st':St) (a:Act) (Q:Exit->Act->World->Prop),ok st ops.toList=true->Rel C st a->@evOs (gM (mdOf ops.toList)) P call ops.toList ops.toList st=some st' ->
  (∀ a' C',Le C C'->Rel C' (Ry P lt st') a'->Q .normal a' C'.w)->wpAny P .any real Q real.size (Ox real.size false) a { C.w with drawn:=C.w.drawn+1 }
theorem L3:∀ {L:List Oper} {p:Nat} {al:Oper} {x:Oper},Lt L=some (p,al)->Akk al=true/\L[p]?=some al/\(openL (L++[x])).length=L.length/\(openL (L++[x]))[p]?=some { al with op:=.move (.global 0) }/\(∀ i,i≠p->(openL (L++[x]))[i]?=L[i]?)/\∀ o ∈ openL (L++[x]),isMk o=false
 | [],_,_,_,h=>by simp [Lt] at h
 | o :: l,p,al,x,h=>by
  have hop:∀ (l:List Oper),openL (o :: l++[x])=Ti o :: openL (l++[x]):=fun l=>by cases l <;> rfl
  have keep:∀ (l:List Oper),l.any isMk=false->openL (l++[x])=l:=by
   intro l;induction l with
   | nil=>intro _; rfl
   | cons y l ih =>
    intro hl;simp only [List.any_cons,El] at hl;have e:openL (y :: l++[x])=Ti y :: openL (l++[x]):=by cases l <;> rfl
    rw [e,ih hl.2];unfold Ti;rw [if_neg (by rw [hl.1]; simp)]
  unfold Lt at h;rw [hop];split at h
  ·rename_i j2;split at h
   ·rename_i hc;simp only [Cf,F3] at hc;simp only [A0,Cc] at h;obtain ⟨rfl,rfl⟩:=h;rw [keep l hc.2];refine ⟨hc.1,rfl,rfl,?_,fun i hi=>?_,fun y hy=>?_⟩
    ·unfold Ti; rw [if_pos j2]; rfl
    ·cases i with
     | zero=>exact absurd rfl hi
     | succ i=>rfl
    ·rcases Cy.1 hy with rfl|hy
     ·unfold Ti; rw [if_pos j2]; rfl
     ·simpa using List.any_eq_false.1 hc.2 y hy
   ·cases h
  ·rename_i j2;simp only [B6,Cc,Prod.exists] at h;obtain ⟨p',al',h,rfl,rfl⟩:=h;obtain ⟨a1,a2,a3,a4,a5,a6⟩:=L3 (x:=x) h;have e:Ti o=o:=by unfold Ti; rw [if_neg j2]
   rw [e];refine ⟨a1,a2,by simp [a3],a4,fun i hi=>?_,fun y hy=>?_⟩
   ·cases i with
    | zero=>rfl
    | succ i=>exact a5 i aA
   ·rcases Cy.1 hy with rfl|hy
    ·simpa using j2
    ·exact a6 y hy
theorem T5 [Globs] {L:List Oper} {p:Nat} {al o:Oper} (h:Js L=some (p,al,o)):∃ a,L=a++[o]/\Aoi a o=true/\isSt o=true/\Lt a=some (p,al):=by
 unfold Js at h;split at h
 ·rename_i o' ho;split at h
  ·rename_i ht;simp only [Cf] at ht;simp only [B6,Cc,Prod.exists] at h;obtain ⟨p',al',h,rfl,rfl,rfl⟩:=h;exact ⟨_,by rw [List.getLast?_eq_some_iff] at ho; obtain ⟨l,rfl⟩:=ho; simp,ht.1.2,ht.1.1,h⟩
  ·cases h
 ·cases h
theorem Anu {P:Program} {a:List Oper} {p:Nat} {al o:Oper} {t:TypeId} {cs:List AV} (h:Lt a=some (p,al)) (ht:al.op=.alloc t) (hz:Ar P t=some cs):Amp P a.toArray (openL (a++[o])).toArray (some (p,al)):=by
 obtain ⟨a1,a2,a3,a4,a5,a6⟩:=L3 (x:=o) h;unfold Akk at a1;simp only [Cf,F8] at a1;refine ⟨by simp [a3],fun i hi=>?_,fun i o' ho=>?_,by simpa using a2,a1.1.2,a1.2,⟨t,cs,ht,hz⟩,by simpa using a4⟩
 ·have:=a5 i hi;simp only [Sj];exact this.symm
 ·exact a6 o' (Il eU)
theorem Mb {L a:List Oper} {o:Oper} (h:Ev L=some (a,o)):L=a++[o]/\Aiv a o=true:=by
 unfold Ev at h;split at h
 ·rename_i o' ho;split at h
  ·rename_i ht;simp only [A0,Cc] at h;obtain ⟨rfl,rfl⟩:=h;exact ⟨by rw [List.getLast?_eq_some_iff] at ho; obtain ⟨l,rfl⟩:=ho; simp,ht⟩
  ·cases h
 ·cases h
theorem Abc {kp:Bool} {m:Nat} {S:List Ent} : cutS kp m S=S.take (bif kp then S.length else m):=by
 cases kp <;> simp [cutS]
theorem Zy [Globs] {kp:Bool} {f:St->Option (Ex × St)} {c:Code} (hf:∀ (C:Cx) (st:St) (ex:Ex) (st':St) (a:Act) (Q:Exit->Act->World->Prop),f st=some (ex,st')->Rel C st a->(∀ a' C',Le C C'->Rel C' st' a'->Q (exOf ex) a' C'.w)->c.wp P Q a C.w)
  {k:Nat} {C:Cx} {st st':St} {ex:Ex} {a:Act} {Q:Exit->Act->World->Prop} (h:Kh kp f k st=some (ex,st')) (hr:Rel C st a) (hQ:∀ a' C',Le C C'->Rel C' st' a'->Q (exOf ex) a' C'.w):(Code.loop c).wp P Q a C.w:=by
 refine Aap (fun n a w=>∃ C1 st1,C1.w=w/\Le C C1/\Rel C1 st1 a/\Kh kp f n st1=some (ex,st')) ?_ (n:=k) ⟨C,st,rfl,Le.refl C,hr,h⟩;rintro n a1 w1 ⟨C1,st1,rfl,hle,bo,h1⟩;cases n with
 | zero=>simp [Kh] at h1
 | succ n =>
  simp only [Kh] at h1;split at h1
  ·rename_i st2 h2;refine hf C1 st1 .normal st2 a1 _ h2 bo fun a2 C2 pq ab=>?_;rw [Abc] at h1;generalize (bif kp then st2.S.length else st1.S.length)=mm at h1;refine ⟨n,Ip n,{ C2 with S:=C2.S.take mm },{ st2 with S:=st2.S.take mm },rfl,(hle.trans pq).trans (Le.take _),⟨by rw [ab.S],ab.tk,ab.n,VRs.mono (Le.take _) _ _ ab.tmps,ab.defers,ab.sr.take _⟩,h1⟩
  ·rename_i hne;refine hf C1 st1 ex st' a1 _ h1 bo fun a2 C2 pq ab=>?_;have:=hQ a2 C2 (hle.trans pq) ab;cases ex with
   | normal=>exact absurd h1 (hne st')
   | exit id=>exact this
   | ret=>exact this
theorem Ee [Globs] [Ext P] {call:Bd} (hc:Jz P call) (hi:∀ M,@Qd (gM M) (@Ec (gM M) P _ call)) {ok:St->List Oper->Bool} (hd:Aar P ok) {n:Nat} : ∀ (c:Code) (C:Cx) (st:St) (ex:Ex) (st':St) (a:Act) (Q:Exit->Act->World->Prop),evC P call ok n c st=some (ex,st')->Rel C st a ->
  (∀ a' C',Le C C'->Rel C' st' a'->Q (exOf ex) a' C'.w)->c.wp P Q a C.w
 | .skip,C,st,ex,st',a,Q,h,hr,hQ=>by
  simp only [evC,A0,Cc] at h;obtain ⟨rfl,rfl⟩:=h;exact wp_skip (hQ a C (Le.refl C) hr)
 | .region id ops draw,C,st,ex,st',a,Q,h,hr,hQ=>by
  simp only [evC] at h;cases draw with
  | false =>
   rw [if_neg (by simp)] at h;simp only [B6,Cc] at h;obtain ⟨st1,h,rfl,rfl⟩:=h;refine wp_region ?_;have:=Nn (Q:=Q) hc hr h hQ;have e:=wpOps_eq_wpList (P:=P) (ops:=ops) (Q:=Q) ops.toList 0 (fun j=>by simp);rw [List.range_eq_range'];simp only [Ii] at e;rw [e]; exact this
  | true =>
   rw [if_pos rfl] at h;split at h
   ·rename_i ini o sv;obtain ⟨hL,ht⟩:=Mb sv;split at h
    ·rename_i ae;split at h
     ·rename_i st1 h1;simp only [B6,Cc] at h;obtain ⟨st2,h2,rfl,rfl⟩:=h;unfold Aiv at ht;simp only [Cf,Cz,iO,decide_eq_true_eq,F8] at ht;obtain ⟨⟨⟨⟨-,hg⟩,df⟩,hla⟩,hde⟩:=ht;have uw:ops=ini.toArray.push o:=by
       apply gG;rw [hL]; simp
      subst uw;have nq:ini.toArray.push o=(ini++[o]).toArray:=by simp
      refine wp_region_any hd.1 ?_;have hw:=hd.2 _ (Uw hc) ini.toArray ini.toArray none rfl (hi _) C st st1 a (Aiw P o Q) (by simpa using ae) hr aU fun a' C' hle dc=>by
       show o.wp P a' C'.w (fun a' w'=>Q .normal a' w') Q;simp only [evOs,Hf,hg] at h2;split at h2
       ·rename_i v s3 ho;split at h2;case isFalse=>simp at h2
        have hT:s3.T=st1.T:=(G0 (next:=fun _ _=>True) (Q:=Q) hc dc ho (fun _ _ _ _ _ _ _ _=>trivial)).2;exact Ya0f
       ·simp at h2
      exact Ya7
     ·simp at h
    ·simp at h
   ·split at h
    ·rename_i p al o hlt;obtain ⟨ini,hL,ht,ah,nv⟩:=T5 hlt;rw [hL] at h;split at h
     ·rename_i ae;split at h
      ·rename_i st1 h1;simp only [B6,Cc] at h;obtain ⟨st2,h2,rfl,rfl⟩:=h;unfold Aoi at ht;simp only [Cf,Cz,iO,decide_eq_true_eq,F8] at ht;obtain ⟨⟨⟨hg,df⟩,hla⟩,hde⟩:=ht;have hal:=(L3 (x:=o) nv).1;unfold Akk at hal;simp only [Cf,F8] at hal;obtain ⟨t,hta⟩:∃ t,al.op=.alloc t:=by
        have:=hal.1.1;split at this
        ·rename_i t h; exact ⟨t,h⟩
        ·cases this
       have a1m:=hal.1.2;simp only [evOs,Hf,a1m] at h2;split at h2;case h_2=>simp at h2
       rename_i v s3 jy;split at h2;case isFalse=>simp at h2
       have a06:=jy;simp only [evO,hta,B6,Cc] at a06;obtain ⟨cs,hz,rfl,rfl⟩:=a06;have a1n:({ T:=putT st1.T al.dst (.ref st1.S.length st1.n 0),S:=st1.S++[⟨st1.n,cs⟩],tk:=st1.tk,n:=st1.n+1 } : St)=Ry P (some (p,al)) st1:=by
        simp only [Ry,hta,hz,gH]
       simp only at h2;rw [a1n] at h2;have uw:ops=ini.toArray.push o:=by
        apply gG;rw [hL]; simp
       subst uw;have nq:ini.toArray.push o=(ini++[o]).toArray:=by simp
       refine wp_region_any hd.1 ?_;have hw:=hd.2 _ (Uw hc) ini.toArray (openL (ini++[o])).toArray (some (p,al)) (Anu nv hta hz) (hi _) C st st1 a (Aiw P o Q) (by simpa using ae) hr aU fun a' C' hle dc=>by
        show o.wp P a' C'.w (fun a' w'=>Q .normal a' w') Q;simp only [hg] at h2;split at h2
        ·rename_i v s3 ho;split at h2;case isFalse=>simp at h2
         have hT:s3.T=(Ry P (some (p,al)) st1).T:=(G0 (next:=fun _ _=>True) (Q:=Q) hc dc ho (fun _ _ _ _ _ _ _ _=>trivial)).2;exact Ya0f
        ·simp at h2
       exact Ya7
      ·simp at h
     ·simp at h
    ·split at h
     ·rename_i ae;simp only [B6,Cc] at h;obtain ⟨st1,h,rfl,rfl⟩:=h;exact wp_region_any hd.1 (hd.2 _ (Uw hc) ops ops none rfl (hi _) C st st1 a Q ae hr h hQ)
     ·simp at h
 | .seq x y,C,st,ex,st',a,Q,h,hr,hQ=>by
  simp only [evC] at h;split at h
  ·rename_i st1 h1;refine wp_seq (Ee hc hi hd x C st .normal st1 a _ h1 hr fun a1 C1 jn bo=>?_);exact Ee hc hi hd y C1 st1 ex st' a1 Q h bo fun a2 C2 pq ab=>hQ a2 C2 (jn.trans pq) ab
  ·rename_i hne;refine wp_seq (Ee hc hi hd x C st ex st' a _ h hr fun a1 C1 jn bo=>?_);have:=hQ a1 C1 jn bo;cases ex with
   | normal=>exact absurd h (hne st')
   | exit id=>exact this
   | ret=>exact this
 | .cond x y z,C,st,ex,st',a,Q,h,hr,hQ=>by
  simp only [evC] at h;split at h
  ·rename_i t ht;have hv:=Aay hr.tmps x;rw [ht] at hv; simp only [VR] at hv;cases t with
   | true =>
    rw [if_pos rfl] at h;exact wp_cond_true hv (Ee hc hi hd y C st ex st' a Q h hr hQ)
   | false =>
    rw [if_neg (by simp)] at h;exact wp_cond_false hv (Ee hc hi hd z C st ex st' a Q h hr hQ)
  ·simp at h
 | .block id x,C,st,ex,st',a,Q,h,hr,hQ=>by
  simp only [evC] at h;split at h
  ·rename_i id' st1 h1;refine wp_block (Ee hc hi hd x C st (.exit id') st1 a _ h1 hr fun a1 C1 jn bo=>?_);simp only [exOf,Exit.inBlock];split at h
   ·rename_i hid;simp only [A0,Cc] at h;obtain ⟨rfl,rfl⟩:=h;rw [if_pos hid]; exact hQ a1 C1 jn bo
   ·rename_i hid;simp only [A0,Cc] at h;obtain ⟨rfl,rfl⟩:=h;rw [if_neg hid]; exact hQ a1 C1 jn bo
  ·rename_i hne;refine wp_block (Ee hc hi hd x C st ex st' a _ h hr fun a1 C1 jn bo=>?_);have:=hQ a1 C1 jn bo;cases ex with
   | normal=>exact this
   | exit id=>exact absurd h (hne id st')
   | ret=>exact this
 | .loop x,C,st,ex,st',a,Q,h,hr,hQ=>by
  simp only [evC] at h;exact Zy (fun C st ex st' a Q=>Ee hc hi hd x C st ex st' a Q) h hr hQ
 | .exit id,C,st,ex,st',a,Q,h,hr,hQ=>by
  simp only [evC,A0,Cc] at h;obtain ⟨rfl,rfl⟩:=h;exact wp_exit (hQ a C (Le.refl C) hr)
 | .ret,C,st,ex,st',a,Q,h,hr,hQ=>by
  simp only [evC,A0,Cc] at h;obtain ⟨rfl,rfl⟩:=h;exact wp_ret (hQ a C (Le.refl C) hr)
 | .rangeFunc _ _ _ _,_,_,_,_,_,_,h,_,_=>cW
 | .scope x,C,st,ex,st',a,Q,h,hr,hQ=>by
  simp only [evC] at h;refine wp_scope_straight (Ee hc hi hd x C st ex st' a _ h hr fun a1 C1 jn bo=>?_);have:=hQ a1 C1 jn bo;cases ex <;> exact this
 | .label l,C,st,ex,st',a,Q,h,hr,hQ=>by
  simp only [evC,A0,Cc] at h;obtain ⟨rfl,rfl⟩:=h;exact wp_label (hQ a C (Le.refl C) hr)
 | .goto _,_,_,_,_,_,_,h,_,_=>cW
 | .refuse _,_,_,_,_,_,_,h,_,_=>cW
end
section
variable {P:Program}
def Ace (P:Program) (tmps:Array Value):ResultVar->Sem Value
 | .tmp t=>pure (tmps.getD t undef)
 | .cell a t=>do loadVar t (<- asAddr (tmps.getD a undef))
theorem Alx {C:Cx} {T:List AV} {tmps:Array Value} (h:VRs C T tmps.toList) (t:Tmp):VR C (getT T t) (tmps.getD t undef) :=
 Aay (a:=⟨tmps,[]⟩) h (.tmp t)
theorem Aag [Globs] {C:Cx} {st:St} {a:Act} (hr:Rel C st a) {rv:ResultVar} {v:AV} (h:resA1 P st rv=some v):Has P C (Ace P a.tmps rv) v:=by
 cases rv with
 | tmp t =>
  simp only [resA1,A0] at h; subst h;exact ⟨_,rfl,Alx hr.tmps t⟩
 | cell p t =>
  simp only [resA1] at h;rw [<- hr.S] at h;obtain ⟨u,h1,h2⟩:=X1 hr.sr (Alx hr.tmps p) h;refine ⟨u,?_,h2⟩;simp only [Ace];generalize a.tmps.getD p undef=x at h1;cases x with
  | pointer b =>
   cases b with
   | none=>simp [fV,Oq] at h1
   | some b=>simpa [fV,Oq,asAddr] using h1
  | _=>simp [fV,Oq] at h1
theorem Ab3 [Globs] {C:Cx} {st:St} {a:Act} (hr:Rel C st a):∀ {rs:List ResultVar} {vs:List AV},mapO (resA1 P st) rs=some vs->∃ us,(rs.mapM (Ace P a.tmps)).run P C.w=.ok us C.w/\VRs C vs us
 | [],vs,h=>by
  simp only [mapO,A0] at h; subst h;exact ⟨[],by simp,bT⟩
 | r :: rs,vs,h=>by
  simp only [mapO] at h;split at h
  ·rename_i b l h1 h2;simp only [A0] at h; subst h;obtain ⟨u,g1,g2⟩:=Aag hr h1;obtain ⟨us,g3,g4⟩:=Ab3 hr h2;exact ⟨u :: us,by rw [List.mapM_cons]; simp only [Fe,g1,Ea,g3,Im],by simp only [VRs]; exact ⟨g2,g4⟩⟩
  ·simp at h
theorem Ad6 [Globs] {C:Cx} {st:St} {a:Act} (hr:Rel C st a) {fn:Func} {v:AV} (h:resA P fn.results.toList st=some v):Has P C (results fn a.tmps) v:=by
 simp only [resA,B6] at h;obtain ⟨vs,h,rfl⟩:=h;obtain ⟨us,h1,h2⟩:=Ab3 hr h;have hrun:(results fn a.tmps).run P C.w=.ok (if h:us.toArray.size=1 then us.toArray[0] else .tuple us.toArray) C.w:=by
  have e:results fn a.tmps=(do
   let vs <- fn.results.mapM (Ace P a.tmps)
   pure (if h:vs.size=1 then vs[0] else .tuple vs)):=by
   unfold results;congr 1
  rw [e,Fe,Array.mapM_eq_mapM_toList,Sem.run_map,h1];rfl
 have hlen:=A1 h2;match us,vs,h2,hlen,hrun with
 | [u],[v],h2,_,hrun =>
  simp only [VRs] at h2;exact ⟨u,by rw [hrun]; simp,h2.1⟩
 | [],[],h2,_,hrun=>exact ⟨.tuple #[],by rw [hrun]; simp,Za39⟩
 | u :: u' :: us,v :: v' :: vs,h2,_,hrun=>exact ⟨.tuple (u :: u' :: us).toArray,by rw [hrun]; simp,Za39⟩
theorem VR_w3 {C:Cx} {c x} (h:VR C c x):VR C (w3 c) x:=by
 cases c with
 | tup cs =>
  simp only [w3,VR] at h ⊢;obtain ⟨vs,e,hr⟩:=h;exact ⟨vs,e,Aa1 hr⟩
 | _=>exact Am3 h
theorem Ue {C C':Cx} {c x} (ah:Stays C.w C'.w C.Avoid C'.Avoid) (hp:pure1 c=true) (h:VR C c x):VR C' c x:=Us (PR.stays ah _ _ (Aau hp h))
theorem Rj {C C':Cx} (ah:Stays C.w C'.w C.Avoid C'.Avoid):∀ {cs vs},cs.all pure1=true->VRs C cs vs->VRs C' cs vs
 | [],[],_,_=>bT
 | c :: cs,v :: vs,hp,h=>by
  simp only [Oc,Cf] at hp;simp only [VRs] at h ⊢;exact ⟨Ue ah hp.1 h.1,Rj ah hp.2 h.2⟩
 | [],_ :: _,_,h=>aN
 | _ :: _,[],_,h=>aN
theorem Uf {C C':Cx} {c x} (ah:Stays C.w C'.w C.Avoid C'.Avoid) (hp:pure2 c=true) (h:VR C c x):VR C' c x:=by
 cases c with
 | agg cs =>
  simp only [VR] at h ⊢;obtain ⟨vs,e,hr⟩:=h;exact ⟨vs,e,Rj ah hp hr⟩
 | _=>exact Ue ah hp h
theorem L9 {C C':Cx} (ah:Stays C.w C'.w C.Avoid C'.Avoid):∀ {cs vs},cs.all pure2=true->VRs C cs vs->VRs C' cs vs
 | [],[],_,_=>bT
 | c :: cs,v :: vs,hp,h=>by
  simp only [Oc,Cf] at hp;simp only [VRs] at h ⊢;exact ⟨Uf ah hp.1 h.1,L9 ah hp.2 h.2⟩
 | [],_ :: _,_,h=>aN
 | _ :: _,[],_,h=>aN
theorem Ad0 {C C':Cx} {c x} (ah:Stays C.w C'.w C.Avoid C'.Avoid) (hp:pure3 c=true) (h:VR C c x):VR C' c x:=by
 cases c with
 | tup cs =>
  simp only [VR] at h ⊢;obtain ⟨vs,e,hr⟩:=h;exact ⟨vs,e,L9 ah hp hr⟩
 | _=>exact Uf ah hp h
theorem Aa0 {C:Cx} : ∀ n:Nat,VRs C (Cd n AV.bot) (Cd n undef)
 | 0=>by simp [VRs]
 | n+1=>by simp only [I4,VRs,VR]; exact ⟨trivial,Aa0 n⟩
theorem Nm [Globs] [Ext P] {call:Bd} (hc:Jz P call) (hi:∀ M,@Qd (gM M) (@Ec (gM M) P _ call)) {ok:St->List Oper->Bool} (hd:Aar P ok) {k:Nat} {f:FuncId} {fn:Func} {c:Code} (hf:P.funcs[f]?=some fn) (hb:fn.body=some c) {C:Cx} (hs:SR C) {args:List AV} {vs:Array Value} (hv:VRs C args vs.toList) {r:AV} {st:St}
  (h:outA P fn (evC P call ok k c ⟨args++Cd (fn.ntmps - args.length) .bot,C.S,C.tk,C.n⟩)=some (r,st)) :
  Calls P f vs C.w fun e w'=>∃ v C',e=.returned v/\C'.w=w'/\Le C C'/\SR C'/\C'.S=st.S/\C'.tk=st.tk/\C'.n=st.n/\VR C' r v:=by
 have hlen:vs.size=args.length:=by have:=A1 hv; simpa using this.symm
 refine calls_of_wp hf hb ?_;have hrel:Rel C ⟨args++Cd (fn.ntmps - args.length) .bot,C.S,C.tk,C.n⟩ { tmps:=vs++Ox (fn.ntmps - vs.size) undef,defers:=[] } :=
  ⟨rfl,rfl,rfl,by rw [hlen]; simpa using Gn hv (Aa0 _),rfl,hs⟩
 have fin:∀ {ex:Ex} {st':St},(ex=.normal\/ex=.ret)->(resA P fn.results.toList st').map (fun r=>(r,st'))=some (r,st)->∀ a' C',Le C C'->Rel C' st' a' ->
   bodyPost P fn (fun e w'=>∃ v C',e=.returned v/\C'.w=w'/\Le C C'/\SR C'/\C'.S=st.S/\C'.tk=st.tk/\C'.n=st.n/\VR C' r v) (exOf ex) a' C'.w:=by
  intro ex st' gv he a' C' hle hr;simp only [B6,Cc] at he;obtain ⟨r',he,rfl,rfl⟩:=he;obtain ⟨v,h1,h2⟩:=Ad6 hr he;rcases gv with rfl|rfl
  ·exact Ya2q
  ·exact Ya2q
 generalize he:evC P call ok k c ⟨args++Cd (fn.ntmps - args.length) .bot,C.S,C.tk,C.n⟩=out at h;match out with
 | none=>simp [outA] at h
 | some (.exit _,_)=>simp [outA] at h
 | some (.normal,st')=>exact Ee hc hi hd c C _ .normal st' _ _ he hrel (fin (.inl rfl) h)
 | some (.ret,st')=>exact Ee hc hi hd c C _ .ret st' _ _ he hrel (fin (.inr rfl) h)
def Cx.alone (C:Cx):Cx:={ w:=C.w,av:=C.Avoid,φ:=C.φ,ψ:=C.ψ,S:=[],tk:=[],n:=0 }
theorem Qi {C:Cx} {b o:Nat} : ¬ C.alone.Mut b o:=by
 rintro (⟨i,hi,_⟩|⟨i,hi,_⟩) <;> simp [Cx.alone] at hi
theorem SR.alone [Globs] {C:Cx} (hs:SR C):SR C.alone:=by
 refine ⟨fun i e h=>by simp [Cx.alone,nth] at h,fun i j hi=>eF,fun i j o hi=>eF,fun i j o hi=>eF,fun b o h=>absurd h Qi,fun b o h=>?_,fun i o hi=>eF,fun g o h=>⟨(hs.glob g o h).1,fun i=>.inl ((hs.glob g o h).2 i)⟩⟩;rcases Ic b C.w.heap.size with h'|h'
 ·exact h'
 ·exact absurd h (hs.fresh h')
theorem Apx [Globs] {C:Cx} (hs:SR C) {m id o:Nat} (hid:id<C.S.length) (hm:m<=id):¬ ({ C with S:=C.S.take m } : Cx).Avoid (C.φ id) o:=by
 rintro (h|⟨i,hi,h⟩|⟨i,hi,h1,h2,h3⟩)
 ·exact hs.own _ o (.inl ⟨id,hid,rfl⟩) h
 ·simp only [Iy] at hi;have:=hs.ne i id aA hid h;omega
 ·exact hs.apart id i o hid hi h1.symm h2 h3
theorem Xs [Globs] {C:Cx} (hs:SR C) (m:Nat) {c x} (h:VR C c x):VR { C with S:=C.S.take m } (fz1 m C.S c) x:=by
 have keep:VR { C with S:=C.S.take m } c x:=VR.mono (Le.take m) _ _ h;cases c with
 | sref id ep off len sz =>
  simp only [fz1];split
  ·rename_i hm;unfold fzB;split
   ·rename_i cs ip;obtain ⟨e,h1,h2,rfl⟩:=Dq ip;unfold Pi;split
    ·rename_i es ub;split
     ·rename_i hp;simp only [VR] at h;obtain ⟨b,a,cap,rfl,hcap,ha,hn,hb⟩:=h;obtain rfl:=(hb e h1 h2).1;obtain ⟨hlt,arr,t,h3,h4⟩:=hs.ent id e h1;obtain ⟨pd,h4⟩:=entP h4;obtain ⟨g1,g2,g3,g4⟩:=Ll ub;have g4':len*sz<=((e.cells++pd).drop off).length:=by simp at g4 ⊢; omega
      have g3':es.flatten=((e.cells++pd).drop off).take (len*sz):=by rw [g3,Sv,I6 g4]
      simp only [VR];refine ⟨a,len,cap,rfl,by simp [g1],hcap,trivial,?_⟩;by_cases h0:len=0
      ·left;subst h0;rw [Fg g1]; rfl
      ·right;obtain rfl:=ha.resolve_left h0;have pf:=A1 h4;simp only [Ii] at pf;refine ⟨C.φ id,off,sz,rfl,Ge (l:=(arr.toList.drop off).take (len*sz)) (fun e he=>?_) ?_ (J2 fun j v hj=>⟨?_,Apx hs (Bb h1) hm⟩)⟩
       ·exact Ya1w
       ·have nk:(es.map (·.map w1)).flatten=(((e.cells++pd).drop off).take (len*sz)).map w1:=by rw [<- g3',List.map_flatten]
        have ul:VRs C (((e.cells++pd).drop off).take (len*sz)) ((arr.toList.drop off).take (len*sz)):=(Jm (K6 off h4) (Lm g4')).1;rw [nk];refine H9 (C:={ C with S:=C.S.take m }) ?_ (VRs.mono (Le.take m) _ _ (Tr ul));rw [<- g3',Cz];intro c hc;exact Ya0d
       ·have dy:j<len*sz:=by
         exact Ya0z
        exact Ya1h
     ·simp only [VR]
    ·simp only [VR]
   ·simp only [VR]
  ·exact keep
 | _=>exact keep
theorem T3 [Globs] {C:Cx} (hs:SR C) (m:Nat):∀ {cs vs},VRs C cs vs->VRs { C with S:=C.S.take m } (cs.map (fz1 m C.S)) vs
 | [],[],_=>dE
 | c :: cs,v :: vs,h=>by simp only [VRs,Cm] at h ⊢; exact ⟨Xs hs m h.1,T3 hs m h.2⟩
 | [],_ :: _,h=>aN
 | _ :: _,[],h=>aN
theorem Xt [Globs] {C:Cx} (hs:SR C) (m:Nat) {c x} (h:VR C c x):VR { C with S:=C.S.take m } (fz2 m C.S c) x:=by
 cases c with
 | agg cs =>
  simp only [fz2,VR] at h ⊢;obtain ⟨vs,e,hr⟩:=h;exact ⟨vs,e,T3 hs m hr⟩
 | _=>exact Xs hs m h
theorem T4 [Globs] {C:Cx} (hs:SR C) (m:Nat):∀ {cs vs},VRs C cs vs->VRs { C with S:=C.S.take m } (cs.map (fz2 m C.S)) vs
 | [],[],_=>dE
 | c :: cs,v :: vs,h=>by simp only [VRs,Cm] at h ⊢; exact ⟨Xt hs m h.1,T4 hs m h.2⟩
 | [],_ :: _,h=>aN
 | _ :: _,[],h=>aN
theorem Xu [Globs] {C:Cx} (hs:SR C) (m:Nat) {c x} (h:VR C c x):VR { C with S:=C.S.take m } (fz3 m C.S c) x:=by
 cases c with
 | tup cs =>
  simp only [fz3,VR] at h ⊢;obtain ⟨vs,e,hr⟩:=h;exact ⟨vs,e,T4 hs m hr⟩
 | _=>exact Xt hs m h
theorem Zl [Globs] [Ext P] {ok:St->List Oper->Bool} {k:Nat} {f:FuncId} {args:List AV} {S:List Ent} {tk:List Nat} {n:Nat} (hf:Ext.on P f=true):evF P ok (k+1) f args S tk n=extC P f args S tk n:=by
 simp only [evF,extC,hf,if_true]
structure Ta (A:Nat->Bool) (m:Nat) (S0:List Ent) (tk0:List Nat) (st:St):Prop where
 S:st.S.take m=S0
 le:m<=st.S.length
 tk:st.tk=tk0
 own:∀ q,A q=true->getT st.T q=.bot\/getT st.T q=.prim undef\/∃ id ep off,getT st.T q=.ref id ep off/\m<=id
theorem Agw:∀ {T:List AV} {d:Nat} {v:AV},d<T.length->getT (put T d v) d=v
 | _ :: _,0,_,_=>rfl
 | _ :: T,d+1,_,h=>Agw (T:=T) aI
 | [],_,_,h=>aM
theorem Abx:∀ {T:List AV} {d q:Nat} {v:AV},d≠q->getT (put T d v) q=getT T q
 | [],_,_,_,_=>rfl
 | _ :: _,0,0,_,h=>absurd rfl h
 | _ :: _,0,_+1,_,_=>rfl
 | _ :: _,_+1,0,_,_=>rfl
 | _ :: T,d+1,q+1,_,h=>Abx (T:=T) aA
theorem Ah6:∀ {T:List AV} {d:Nat} {v:AV},T.length<=d->put T d v=T
 | [],_,_,_=>rfl
 | _ :: _,0,_,h=>aM
 | _ :: T,d+1,_,h=>by simp only [put]; rw [Ah6 (T:=T) aI]
theorem Xv {T:List AV} {d:Option Nat} {v:AV} {q:Nat} : getT (putT T d v) q=getT T q\/(d=some q/\getT (putT T d v) q=v):=by
 cases d with
 | none=>exact .inl rfl
 | some d =>
  simp only [putT];by_cases h:d=q
  ·subst h;rcases Ic d T.length with hl|hl
   ·exact .inr ⟨rfl,Agw hl⟩
   ·left; rw [Ah6 hl]
  ·exact .inl (Abx h)
theorem Acm {α:Type} : ∀ {l:List α} {i m:Nat} {v:α},m<=i->(put l i v).take m=l.take m
 | [],_,_,_,_=>rfl
 | _ :: _,0,m,_,h=>by
  have:m=0:=aA
  subst this; rfl
 | _ :: _,_+1,0,_,_=>rfl
 | _ :: l,i+1,m+1,v,h=>by simp only [put,F4,Acm (l:=l) (i:=i) (m:=m) (v:=v) aA]
theorem Ant [Globs] {call:Bd} {o:Oper} {all:List Oper} {nn m:Nat} {S0:List Ent} {tk0:List Nat} {st st':St} {v:AV} (hA:o ∈ all) (hk:Q9 all nn o=true) (hI:Ta (fun q=>decide (nn<=q) && Ko all q) m S0 tk0 st) (h:evO P call o st=some (v,st')) :
  Ta (fun q=>decide (nn<=q) && Ko all q) m S0 tk0 { st' with T:=putT st'.T o.dst v }:=by
 have slot:st'.T=st.T->(Ju o=true->∃ id ep off,v=.ref id ep off/\m<=id)->∀ q,(decide (nn<=q) && Ko all q)=true->getT (putT st'.T o.dst v) q=.bot\/getT (putT st'.T o.dst v) q=.prim undef\/∃ id ep off,getT (putT st'.T o.dst v) q=.ref id ep off/\m<=id:=by
  intro hT hv q hq;rcases Xv (T:=st'.T) (d:=o.dst) (v:=v) (q:=q) with e|⟨e1,e2⟩
  ·rw [e,hT]; exact hI.own q hq
  ·simp only [Cf] at hq;have:=Cz.1 hq.2 o hA;rw [e1] at this;simp only [bne_self_eq_false,Mf] at this;obtain ⟨id,ep,off,rfl,hm⟩:=hv this;exact .inr (.inr ⟨id,ep,off,e2,hm⟩)
 unfold evO at h;unfold Q9 at hk;split at h
 ·rename_i t x e;simp only [B6,Cc] at h;obtain ⟨_,_,rfl,rfl⟩:=h;exact ⟨hI.S,hI.le,hI.tk,slot rfl (fun hm=>eM)⟩
 ·rename_i t x y e;rw [e] at hk;simp only [B6,Cc] at h;obtain ⟨S',hs,rfl,rfl⟩:=h;cases x with
  | tmp q =>
   simp only at hk;unfold stA at hs;split at hs
   ·rename_i id ep off sz vs hx _ _;simp only [opv] at hx;split at hs
    ·split at hs
     ·split at hs
      ·simp only [A0] at hs; subst hs;have hid:m<=id:=by
        rcases hI.own q hk with h1|h1|⟨id',ep',off',h1,h2⟩
        ·rw [h1] at hx; simp at hx
        ·rw [h1] at hx; simp at hx
        ·rw [h1] at hx; simp only [AV.ref.injEq] at hx; omega
       exact ⟨by show (put st.S id _).take m=S0; rw [Acm hid]; exact hI.S,by show m<=(put st.S id _).length; rw [Am]; exact hI.le,hI.tk,slot rfl (fun hm=>eM)⟩
      ·simp at hs
     ·simp at hs
    ·simp at hs
   ·simp at hs
  | _=>simp at hk
 ·rename_i t e;exact Ya0m
 ·rename_i t x e;exact Ya0m
 ·rename_i t l c e;rw [e] at hk;simp only [F3] at hk;simp only [B6,Prod.exists,hk] at h;obtain ⟨l',sz,cs,_,hh⟩:=h;rw [if_neg (by simp)] at hh;simp only [Cc] at hh;obtain ⟨rfl,rfl⟩:=hh;exact ⟨Za07,Zax,hI.tk,slot rfl (fun hm=>eM)⟩
 ·rename_i c e;rw [e] at hk;simp only at hk;split at h
  ·rename_i hb; rw [hb] at hk; simp at hk
  ·rename_i hb; rw [hb] at hk; simp at hk
  ·simp only [B6,Cc] at h; obtain ⟨_,_,rfl,rfl⟩:=h;exact ⟨hI.S,hI.le,hI.tk,slot rfl (fun hm=>eM)⟩
  ·rename_i h1 h2 h3;exfalso;cases hc:c.callee with
   | builtin b=>cases b <;> first|exact h1 hc|exact h2 hc|exact h3 _ hc
   | value x=>rw [hc] at hk; simp at hk
   | invoke x m=>rw [hc] at hk; simp at hk
 ·rename_i h1 h2 h3 h4 h5 h6;simp only [B6,Cc] at h; obtain ⟨_,_,rfl,rfl⟩:=h;refine ⟨hI.S,hI.le,hI.tk,slot rfl (fun hm=>?_)⟩;unfold Ju at hm;split at hm
  ·exact absurd cN (h3 _)
  ·exact absurd cN (h4 _ _)
  ·simp at hm
theorem Lc [G:Globs] {call:Bd} {allr all:List Oper} {nn m:Nat} {S0:List Ent} {tk0:List Nat} : ∀ {l:List Oper} {st st':St},(∀ o ∈ l,o ∈ all/\Q9 all nn o=true)->Ta (fun q=>decide (nn<=q) && Ko all q) m S0 tk0 st->evOs P call allr l st=some st'->Ta (fun q=>decide (nn<=q) && Ko all q) m S0 tk0 st'
 | [],st,st',_,hI,h=>by simp only [evOs,A0] at h; subst h; exact hI
 | o :: l,st,st',hq,hI,h=>by
  simp only [evOs] at h;split at h
  ·simp at h
  ·refine Lc (fun o ho=>hq o (by simp [ho])) ?_ h;refine ⟨hI.S,hI.le,hI.tk,fun q hqq=>?_⟩;rcases Xv (T:=st.T) (d:=o.dst) (v:=.prim undef) (q:=q) with e|⟨_,e⟩
   ·simp only [e]; exact hI.own q hqq
   ·exact .inr (.inl e)
  ·split at h
   ·rename_i v s1 ho;split at h;case isFalse=>simp at h
    obtain ⟨a1,a2⟩:=hq o (by simp);exact Lc (fun o ho=>hq o (by simp [ho])) (Ant a1 a2 hI ho) h
   ·simp at h
theorem Xz {kp:Bool} {A:Nat->Bool} {m:Nat} {S0:List Ent} {tk0:List Nat} {f:St->Option (Ex × St)} (hf:∀ st ex st',Ta A m S0 tk0 st->f st=some (ex,st')->Ta A m S0 tk0 st'):∀ {k:Nat} {st st':St} {ex:Ex},Ta A m S0 tk0 st->Kh kp f k st=some (ex,st')->Ta A m S0 tk0 st'
 | 0,_,_,_,_,h=>by simp [Kh] at h
 | k+1,st,st',ex,hI,h=>by
  simp only [Kh] at h;split at h
  ·rename_i s1 h1;have h2:=hf _ _ _ hI h1;have dj:m<=bif kp then s1.S.length else st.S.length:=by cases kp <;> first|exact hI.le|exact h2.le
   rw [Abc] at h;generalize (bif kp then s1.S.length else st.S.length)=mm at h dj;refine Xz (st:={ s1 with S:=s1.S.take mm }) hf ⟨?_,?_,h2.tk,h2.own⟩ h
   ·show (s1.S.take mm).take m=S0;rw [iP,Nat.min_eq_left dj]; exact h2.S
   ·show m<=(s1.S.take mm).length;rw [Iy];exact Nat.le_min.2 ⟨dj,h2.le⟩
  ·exact hf _ _ _ hI h
theorem Ag9 [Globs] {L:List Oper} {p:Nat} {al o:Oper} {all:List Oper} {nn:Nat} (h:Js L=some (p,al,o)):¬ ∀ o ∈ L,o ∈ all/\Q9 all nn o=true:=by
 intro hq;unfold Js at h;split at h
 ·split at h
  ·rename_i hc;simp only [Cf,List.any_eq_true] at hc;obtain ⟨x,hx,xi⟩:=hc.2;have hk:=(hq x (List.dropLast_subset _ hx)).2;unfold xOp at xi;unfold Q9 at hk;split at xi
   ·rename_i c ek;rw [ek] at hk;simp only at hk;unfold Aaq at xi;split at xi <;> rename_i ak <;> simp_all
   ·simp at xi
  ·simp at h
 ·simp at h
theorem Et [Globs] [Ext P] {call:Bd} {ok:St->List Oper->Bool} {n nn m:Nat} {all:List Oper} {S0:List Ent} {tk0:List Nat} : ∀ (c:Code) (st:St) (ex:Ex) (st':St),(∀ o ∈ opsOf c,o ∈ all/\Q9 all nn o=true)->Ta (fun q=>decide (nn<=q) && Ko all q) m S0 tk0 st->evC P call ok n c st=some (ex,st')->Ta (fun q=>decide (nn<=q) && Ko all q) m S0 tk0 st'
 | .skip,st,ex,st',_,hI,h=>dT
 | .exit _,st,ex,st',_,hI,h=>dT
 | .ret,st,ex,st',_,hI,h=>dT
 | .region _ ops draw,st,ex,st',hq,hI,h=>by
  simp only [opsOf] at hq;simp only [evC] at h;split at h
  ·split at h
   ·rename_i ini o sv;obtain ⟨hL,-⟩:=Mb sv;rw [hL] at hq;split at h
    ·split at h
     ·rename_i s1 h1;simp only [B6,Cc] at h;obtain ⟨s2,h2,_,rfl⟩:=h;exact Lc (fun x hx=>hq x (Cr.2 (.inr hx))) (Lc (G:=gM _) (fun x hx=>hq x (Cr.2 (.inl hx))) hI h1) h2
     ·simp at h
    ·simp at h
   ·split at h
    ·rename_i hlt;exact absurd hq (Ag9 hlt)
    ·split at h
     ·simp only [B6,Cc] at h;obtain ⟨s1,h,_,rfl⟩:=h;exact Lc (G:=gM _) hq hI h
     ·simp at h
  ·simp only [B6,Cc] at h;obtain ⟨s1,h,_,rfl⟩:=h;exact Lc hq hI h
 | .seq a b,st,ex,st',hq,hI,h=>by
  simp only [opsOf,Cr] at hq;simp only [evC] at h;split at h
  ·rename_i s1 h1;exact Et b _ _ _ (fun o ho=>hq o (.inr ho)) (Et a _ _ _ (fun o ho=>hq o (.inl ho)) hI h1) h
  ·exact Et a _ _ _ (fun o ho=>hq o (.inl ho)) hI h
 | .cond x a b,st,ex,st',hq,hI,h=>by
  simp only [opsOf,Cr] at hq;simp only [evC] at h;split at h
  ·split at h
   ·exact Et a _ _ _ (fun o ho=>hq o (.inl ho)) hI h
   ·exact Et b _ _ _ (fun o ho=>hq o (.inr ho)) hI h
  ·simp at h
 | .block id c,st,ex,st',hq,hI,h=>by
  simp only [opsOf] at hq;simp only [evC] at h;split at h
  ·rename_i id' s1 h1;have:=Et c _ _ _ hq hI h1;split at h
   ·exact Ya24
   ·exact Ya24
  ·exact Et c _ _ _ hq hI h
 | .loop c,st,ex,st',hq,hI,h=>by
  simp only [opsOf] at hq;simp only [evC] at h;exact Xz (fun s e s' hs hh=>Et c s e s' hq hs hh) hI h
 | .rangeFunc _ _ _ _,_,_,_,_,_,h=>cW
 | .scope c,st,ex,st',hq,hI,h=>by
  simp only [opsOf] at hq;simp only [evC] at h;exact Et c _ _ _ hq hI h
 | .label _,st,ex,st',_,hI,h=>dT
 | .goto _,_,_,_,_,_,h=>cW
 | .refuse _,_,_,_,_,_,h=>cW
theorem Agv {args:List AV} {q n:Nat} (h:args.length<=q):getT (args++Cd n .bot) q=.bot:=by
 induction args generalizing q with
 | nil =>
  simp only [Ct];induction n generalizing q with
  | zero=>rfl
  | succ n ih=>cases q with
   | zero=>rfl
   | succ q=>exact ih (by simp)
 | cons x args ih=>cases q with
  | zero=>simp at h
  | succ q=>exact ih aI
theorem Qs [Globs] [Ext P] [hX:Y5 P] {ok:St->List Oper->Bool} : ∀ k M,@Qd (gM M) (@Ec (gM M) P _ (evF P ok k))
 | 0,M=>by intro f args S tk n r S' tk' n' h; simp [Ec,evF] at h
 | k+1,M=>by
  intro f args S tk n r S' tk' n' h;by_cases gg:Ext.on P f=true
  ·have e:∀ S tk n,@Ec (gM M) P _ (evF P ok (k+1)) f args S tk n=@Ec (gM M) P _ (extC P) f args S tk n:=by
    intro S tk n; simp only [Ec,Zl gg]
   rw [e] at h;obtain ⟨g1,g2,g4⟩:=hX.indep M _ _ _ _ _ _ _ _ _ h;exact .inr ⟨g1,g2,g4.imp _root_.id fun g4=>⟨g4.1,fun S2 tk2 n2=>by rw [e]; exact g4.2 S2 tk2 n2⟩⟩
  by_cases x6:(@xF (gM M) f && @Globs.dr (gM M))=true
  ·exact .inl x6
  right;unfold Ec at h;split at h
  ·rename_i hp;by_cases j3:((args.map w2).all pure2 && !Ext.mv P f)=true
   ·have fc:=j3;simp only [Cf,F3] at fc;obtain ⟨hp1,sw⟩:=fc;simp only [evF] at h;rw [if_neg gg] at h;split at h
    ·rename_i fn hf;split at h
     ·rename_i c hb;split at h
      ·simp at h
      ·rename_i aq;simp only [sw,hp1,if_true,C4,if_false] at h;split at h
       ·rename_i r' ho;simp only [A0,Cc] at h;obtain ⟨rfl,rfl,rfl,rfl⟩:=h;refine ⟨rfl,rfl,.inr ⟨rfl,fun S2 tk2 n2=>?_⟩⟩;unfold Ec;rw [if_pos hp];simp only [evF,hf,hb];rw [if_neg gg,if_neg aq,if_neg (by rw [sw]; simp),if_pos hp1,ho]
       ·simp at h
     ·simp at h
    ·simp at h
   ·have sx:(@shF (gM M) f && Pd P f args.length && !Ext.mv P f && !Ext.on P f)=true:=by
     cases hx:((args.map w2).all pure2 && !Ext.mv P f) with
     | true=>exact absurd hx j3
     | false=>rw [hx] at hp; simpa [x6] using hp
    simp only [Cf,F3] at sx;obtain ⟨⟨⟨h1,h2⟩,sw⟩,-⟩:=sx;have hpp:¬ (args.map w2).all pure2=true:=fun h=>j3 (by simp [h,sw]);simp only [evF] at h;rw [if_neg gg] at h;unfold Pd at h2;split at h
    ·rename_i fn hf;rw [hf] at h2;simp only at h2;split at h
     ·rename_i c hb;rw [hb] at h2;simp only at h2;split at h
      ·simp at h
      ·simp only [sw,hpp,C4,if_false] at h;split at h
       ·rename_i r' st ho;simp only [A0,Cc] at h;obtain ⟨rfl,rfl,rfl,rfl⟩:=h;have ml:∃ ex,evC P (evF P ok k) ok k c ⟨args++Cd (fn.ntmps - args.length) .bot,S,tk,n⟩=some (ex,st):=by
         generalize evC P (evF P ok k) ok k c ⟨args++Cd (fn.ntmps - args.length) .bot,S,tk,n⟩=o at ho;unfold outA at ho;split at ho
         ·exact Ya15
         ·exact Ya15
         ·simp at ho
        obtain ⟨ex,gv⟩:=ml;have hK:=Et (all:=opsOf c) (nn:=args.length) (m:=S.length) (S0:=S) (tk0:=tk) c _ _ _ (fun o ho=>⟨ho,Cz.1 h2 o ho⟩)
         ⟨Ir,Cb _,rfl,fun q hq=>.inl (Agv (by simp only [Cf,decide_eq_true_eq] at hq; exact hq.1))⟩ gv
        exact ⟨hK.S,hK.tk,.inl h1⟩
       ·simp at h
     ·simp at h
    ·simp at h
  ·simp at h
theorem Xl [Globs] [Ext P] [hX:Y5 P] {ok:St->List Oper->Bool} (hd:Aar P ok):∀ k,Jz P (evF P ok k)
 | 0=>by intro f args S tk n r S' tk' n' h; simp [evF] at h
 | k+1=>by
  have hc:=Xl hd k;intro f args S tk n r S' tk' n' h;by_cases gg:Ext.on P f=true
  ·rw [Zl gg] at h;exact hX.ok _ _ _ _ _ _ _ _ _ h
  simp only [evF] at h;rw [if_neg gg] at h;split at h
  ·rename_i fn hf;split at h
   ·rename_i c hb;split at h
    ·simp at h
    ·rename_i aq;refine ⟨⟨fn,hf,cX,by rw [hb]; rfl⟩,?_⟩;rintro C vs rfl rfl rfl hs hv;split at h
     ·split at h
      ·rename_i r' st ho;simp only [A0,Cc] at h;obtain ⟨rfl,rfl,rfl,rfl⟩:=h;exact Nm hc (Qs k) hd (k:=k) hf hb hs hv ho
      ·simp at h
     split at h
     ·rename_i hp;split at h
      ·rename_i r' ho;simp only [A0,Cc] at h;obtain ⟨rfl,rfl,rfl,rfl⟩:=h;have ah:Stays C.w C.alone.w C.Avoid C.alone.Avoid:=fun b o v h1 h2=>⟨h1,fun h3=>h3.elim h2 Qi⟩;have hv':=L9 ah hp (Aa1 hv);have one:∀ {as:List AV} {r0:AV},VRs C.alone as vs.toList->runP P ok (evF P ok k) k fn c as=some r0->Calls P f vs C.w fun e w'=>∃ v C',e=.returned v/\C'.w=w'/\Le C C'/\SR C'/\C'.S=C.S/\C'.tk=C.tk/\C'.n=C.n/\VR C' r0 v:=by
        intro as r0 hv' hrun;unfold runP at hrun;split at hrun
        ·rename_i r' st ho;split at hrun
         ·rename_i hp3;simp only [A0] at hrun;subst hrun;refine Calls.mono (Nm hc (Qs k) hd (k:=k) hf hb hs.alone hv' ho) ?_;rintro e w' ⟨v,C',rfl,rfl,hle,hs',hS',-,-,h2⟩;have hbel:Below C.w.heap.size C.w C'.w:=⟨hle.os,hle.tape,hle.output,hle.size,fun b hb=>hle.keep b hb fun o=>Qi⟩;refine ⟨v,C.at C'.w,rfl,rfl,Le.of_below hbel,SR.of_below hs hbel,rfl,rfl,rfl,?_⟩;have h3:=Xu hs' 0 h2;rw [hS'] at h3;refine Ad0 (C:={ C' with S:=st.S.take 0 }) (fun b o x h1 h2=>⟨h1,fun h3=>h2 (.inl ?_)⟩) hp3 (VR_w3 h3);show C'.av b o;rw [hle.av]; exact h3
         ·simp at hrun
        ·simp at hrun
       split at ho
       ·unfold runN at ho;split at ho
        ·rename_i l hl;split at ho
         ·rename_i q1 q2;simp only [A0] at ho;subst ho;rw [hl] at hv';cases hvl:vs.toList with
          | nil=>rw [hvl] at hv'; simp only [VRs] at hv'
          | cons x xs =>
           rw [hvl] at hv';simp only [VRs] at hv';obtain ⟨hx,hxs⟩:=hv';simp only [VR] at hx;obtain ⟨a,len,cap,rfl,h1,h2,-,h4⟩:=hx;cases a with
           | none=>exact one (as:=.frz [] .nl :: l) (by rw [hvl]; simp only [VRs,VR]; exact ⟨⟨none,len,cap,rfl,h1,h2,rfl,.inl trivial⟩,hxs⟩) q1
           | some a=>exact one (as:=.frz [] .nn :: l) (by rw [hvl]; simp only [VRs,VR]; exact ⟨⟨some a,len,cap,rfl,h1,h2,rfl,.inl trivial⟩,hxs⟩) q2
         ·simp at ho
        ·exact one hv' ho
       ·exact one hv' ho
      ·simp at h
     ·split at h
      ·rename_i r' st ho;simp only [A0,Cc] at h;obtain ⟨rfl,rfl,rfl,rfl⟩:=h;refine Calls.mono (Nm hc (Qs k) hd (k:=k) hf hb hs hv ho) ?_;rintro e w' ⟨v,C',rfl,rfl,hle,hs',e1,e2,e3,h2⟩;have h3:=Xu hs' C.S.length h2;rw [e1] at h3;exact ⟨v,{ C' with S:=C'.S.take C.S.length },rfl,rfl,hle.trans (Le.take _),hs'.take _,by rw [<- e1],e2,e3,by rw [e1]; exact h3⟩
      ·simp at h
   ·simp at h
  ·simp at h
end
end
end Go.Proofs.YthelkgdmgihhiaaGreat
