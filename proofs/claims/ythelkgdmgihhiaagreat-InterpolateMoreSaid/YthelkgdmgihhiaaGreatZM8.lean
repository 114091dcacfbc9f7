/- Part 8. -/
import Derived.Test.YthelkgdmgihhiaaGreatZM7
open Array renaming getElem?_eq_some_iff->Ci,getElem?_eq_getElem->Ei,getD_eq_getD_getElem?->Fc,length_toList->Ii,toList_setIfInBounds->Om,getD->Ou,replicate->Ox
open Bool renaming and_eq_true->Cf,false_eq_true->C4,or_eq_false_iff->El,or_false->Fk,or_eq_true->Fz,false_and->F2,not_eq_true'->F3,not_true->F6,false_or->Mf,true_or->iI
open Go.Obj renaming cells->gD
open Go.Region renaming wanted->Ol
open Go.Result renaming andThen_ok->Ea
open Go.RowKit.Below renaming refl->Fb,cell->iY
open Go.Sem renaming run_bind->Fe,run_pure->Im
open List renaming replicate->Cd,length_cons->Ck,length_append->Cn,getElem?_append_left->Cp,mem_append->Cr,mem_cons->Cy,all_eq_true->Cz,length_nil->C3,drop_zero->Fs,mem_map->Fy,range->F9,length_map->Ib,getElem?_cons_zero->Iv,foldl_cons->Ov,map_congr_left->O3,contains_iff_mem->fY,countP_cons->gI,mem_range->iO
open Nat renaming le_refl->Cb,lt_of_lt_of_le->Fi,zero_add->Fo,le_trans->Fv,lt_or_ge->Ic,lt_succ_self->Ip,strongRecOn->Ow,lt_trichotomy->O0,add_assoc->Si,le_of_not_lt->Ss,le_max_right->Sw,le_max_left->Wr,le_succ->gX
open Option renaming map_eq_some_iff->B6,map_some->Cu,isNone_iff_eq_none->F8,bind_eq_some_iff->Ie,bind_some->Lg,isSome_iff_exists->O2,getD_some->gH
open Option.some renaming injEq->A0
open Prod.mk renaming injEq->Cc
namespace Go.Proofs.YthelkgdmgihhiaaGreat
section
open Go.RowKit
set_option maxHeartbeats 1000000
section
def rdS (o:Oper):Bool:=match o.op with|.load _ _=>true|_=>false
def wrS [Globs] (o:Oper):Bool:=match o.op with|.store _ _ _|.alloc _|.box _ _=>true|.makeSlice _ l _=>!Q5 o l|.call c=>(match c.callee with|.builtin .copy=>true|.builtin .append=>Globs.own o.dst o.type|.value (.func f)=>shF f || xF f|.value _=>Globs.shAny || Globs.xAny|.invoke _ _=>true|_=>false)|_=>false
def wrT [Globs] (o:Oper):Bool:=match o.op with|.makeSlice _ l _=>Q5 o l|.call c=>(match c.callee with|.builtin .append=>true|.value (.func f)=>xF f|.value _=>Globs.xAny|.invoke _ _=>true|_=>false)|_=>false
def rdA [Globs] (o:Oper):Bool:=match o.op with|.call c=>(match c.callee with|.value (.func f)=>shF f || xF f|.value _=>Globs.shAny || Globs.xAny|.invoke _ _=>true|.builtin .append=>Globs.shAny|_=>false)|_=>false
def conf [Globs] (p o:Oper):Bool:=(wrS p && wrS o) || (wrT p && wrT o) || (rdA p && (wrS o || wrT o)) || ((wrS p || wrT p) && rdA o)
def unwr (ops:Array Oper) (t:Tmp):Bool:=(F9 ops.size).all fun j=>Bu ops j != some t
def T6 (st:St) (ops:Array Oper) (i:Nat) (o:Oper):Option (Option Nat) :=
 match o.op with
 | .load _ (.tmp q) =>
  if unwr ops q=true then (match getT st.T q with|.ref id _ _=>if id<st.S.length then some (some id) else none|.fptr _=>some none|_=>none)
  else ((F9 i).findSome? fun (m:Nat)=>match (ops[m]? : Option Oper) with
   | some o'=>(match o'.dst,o'.op with
    | some d,.fieldAddr _ (.tmp x) _=>if d=q/\unwr ops x=true then (match getT st.T x with|.ref id _ _=>if id<st.S.length then some (some id) else none|.fptr _=>some none|_=>none) else none
    | _,_=>none)
   | none=>none)
 | _=>none
def Lq [Globs] (st:St) (ops:Array Oper) (i:Nat) (o p:Oper):Bool :=
 match T6 st ops i o with
 | none=>false
 | some none=>true
 | some (some id)=>match p.op with
  | .store _ (.tmp q) _=>unwr ops q && (match getT st.T q with|.ref id' _ _=>decide (id≠id')|_=>false)
  | .alloc _=>true
  | .box _ _=>true
  | .makeSlice _ _ _=>true
  | .call c=>(match c.callee with|.value (.func f)=>!xF f|.value _=>!Globs.xAny|_=>false)
  | _=>false
def Ag6 (o:Oper):Bool:=match o.op with|.alloc _|.box _ _|.makeSlice _ _ _=>true|_=>false
def opOk (ops:Array Oper) (i:Nat) (o:Oper):Bool :=
 (match o.op with|.select ..=>false|_=>true) && (depsOf ops i).all (fun j=>decide (j<i)) &&
 (match o.guard with|none=>true|some (g,_)=>(depsOf ops i).contains g) &&
 (o.dst.all fun d=>(F9 i).all fun j=>Bu ops j != some d) &&
 (o.op.operands.all fun x=>match x with
  | .tmp t=>(F9 ops.size).all fun j=>Bu ops j != some t || j == i || (reachAt ops i).contains j || (reachAt ops j).contains i
  | _=>true)
def isAl (o:Oper):Bool:=(match o.op with|.alloc _=>true|_=>false) && o.guard.isNone
def D4 (ops:Array Oper) (j i:Nat):Bool :=
 decide (i=j+1) && (match ops[j]?,ops[i]? with|some p,some o=>isAl p && isAl o|_,_=>false) &&
 (F9 ops.size).all fun k=>k == j || k == i || (reachAt ops k).contains j == (reachAt ops k).contains i
def Va [Globs] (st:St) (L:List Oper):Bool :=
 (F9 L.length).all fun i=>match L.toArray[i]? with
  | none=>false
  | some o=>opOk L.toArray i o && (F9 i).all fun j=>match L.toArray[j]? with
   | none=>false
   | some p=>(!conf p o && !(wrS p && !lkOp p && rdS o) && !(rdS p && wrS o && !lkOp o)) || (reachAt L.toArray i).contains j || (!conf p o && (if rdS o=true then Lq st L.toArray i o p else (Ag6 o || (anOp o && o.dst.isSome) || Lq st L.toArray j p o))) || D4 L.toArray j i
def Bm [Globs] (st:St) (L:List Oper):Bool:=@Va (gM (mdOf L)) st L
theorem SR_M [Globs] {C:Cx} : ∀ {M:Md},@SR (gM M) C↔SR C
 | .no=>Iff.rfl
 | .quiet=>⟨fun h=>⟨@SR.ent (gM .quiet) _ h,@SR.ne (gM .quiet) _ h,@SR.tok (gM .quiet) _ h,@SR.apart (gM .quiet) _ h,@SR.own (gM .quiet) _ h,@SR.avlt (gM .quiet) _ h,@SR.tlt (gM .quiet) _ h,@SR.glob (gM .quiet) _ h⟩,fun h=>@SR.mk (gM .quiet) _ h.ent h.ne h.tok h.apart h.own h.avlt h.tlt h.glob⟩
 | .look=>⟨fun h=>⟨@SR.ent (gM .look) _ h,@SR.ne (gM .look) _ h,@SR.tok (gM .look) _ h,@SR.apart (gM .look) _ h,@SR.own (gM .look) _ h,@SR.avlt (gM .look) _ h,@SR.tlt (gM .look) _ h,@SR.glob (gM .look) _ h⟩,fun h=>@SR.mk (gM .look) _ h.ent h.ne h.tok h.apart h.own h.avlt h.tlt h.glob⟩
 | .vals=>⟨fun h=>⟨@SR.ent (gM .vals) _ h,@SR.ne (gM .vals) _ h,@SR.tok (gM .vals) _ h,@SR.apart (gM .vals) _ h,@SR.own (gM .vals) _ h,@SR.avlt (gM .vals) _ h,@SR.tlt (gM .vals) _ h,@SR.glob (gM .vals) _ h⟩,fun h=>@SR.mk (gM .vals) _ h.ent h.ne h.tok h.apart h.own h.avlt h.tlt h.glob⟩
theorem Ao5 [Globs] {C:Cx} {st:St} {a:Act} {M:Md} : @Rel (gM M) C st a↔Rel C st a :=
 ⟨fun h=>⟨@Rel.S (gM M) _ _ _ h,@Rel.tk (gM M) _ _ _ h,@Rel.n (gM M) _ _ _ h,@Rel.tmps (gM M) _ _ _ h,@Rel.defers (gM M) _ _ _ h,SR_M.1 (@Rel.sr (gM M) _ _ _ h)⟩,fun h=>@Rel.mk (gM M) _ _ _ h.S h.tk h.n h.tmps h.defers (SR_M.2 h.sr)⟩
theorem Ajb [Globs] {P:Program} {call:Bd} {M:Md} (h:Jz P call):@Jz (gM M) P call:=by
 intro f args S tk n r S' tk' n' e;refine ⟨(h _ _ _ _ _ _ _ _ _ e).1,fun C vs h1 h2 h3 hs hv=>((h _ _ _ _ _ _ _ _ _ e).2 C vs h1 h2 h3 (SR_M.1 hs) hv).mono ?_⟩;rintro e w' ⟨v,C',g1,g2,g3,g4,g5⟩;exact ⟨v,C',g1,g2,g3,SR_M.2 g4,g5⟩
theorem Df {l:Array Bool} {i j:Nat} {b d:Bool} (h:i≠j):(l.setIfInBounds i b).getD j d=l.getD j d:=by
 simp [Fc,Array.getElem?_setIfInBounds_ne h]
theorem H7 {l:Array Bool} {i:Nat} {b d:Bool} (h:i<l.size):(l.setIfInBounds i b).getD i d=b:=by
 simp [Ou,h]
theorem Ane {P:Program} {t:TypeId} {d s:AV} {S S':List Ent} {n:Nat} (h:cpA P t d s S=some (n,S')):S'.length=S.length:=by
 unfold cpA at h;split at h
 ·split at h
  ·split at h
   ·split at h
    ·split at h
     ·simp only [A0,Cc] at h;obtain ⟨-,rfl⟩:=h;exact Am
     ·simp at h
    ·simp at h
   ·simp at h
  ·simp at h
 ·simp at h
theorem Am5 {P:Program} {t:TypeId} {x y v:AV} {S S':List Ent} {n n':Nat} (h:apO P t x y S n=some (v,S',n')):S.length<=S'.length:=by
 unfold apO at h;split at h
 ·split at h
  ·split at h
   ·unfold apO2 at h;split at h
    ·simp only [A0,Cc] at h;obtain ⟨-,rfl,-⟩:=h;simp
    ·split at h
     ·split at h
      ·split at h
       ·simp only [A0,Cc] at h;obtain ⟨-,rfl,-⟩:=h;rw [Am];exact Ya2c
       ·simp at h
      ·simp at h
     ·simp at h
    ·simp at h
   ·simp at h
  ·simp at h
 ·simp at h
theorem Aip {P:Program} {t:TypeId} {v:AV} {S S':List Ent} {i e o id:Nat} (h:stA P t (.ref i e o) v S=some S') (hne:i≠id):nth S' id=nth S id:=by
 unfold stA at h;cases h1:szOf P t with
 | none=>rw [h1] at h; simp at h
 | some sz =>
  cases h2:cellsOf v with
  | none=>rw [h1,h2] at h; simp at h
  | some vs =>
   rw [h1,h2] at h;simp only at h;split at h
   ·cases h3:entAt S i e with
    | none=>rw [h3] at h; simp at h
    | some cs =>
     rw [h3] at h;simp only at h;cases h4:over cs o vs with
     | none=>rw [h4] at h; simp at h
     | some cs'=>rw [h4] at h; simp only [A0] at h; subst h; exact Ad hne
   ·simp at h
variable {P:Program} {ops:Array Oper}
theorem Ew {listed:Array Bool} {i:Nat} (h:listed.getD i true=false):listed.getD i false=false/\i<listed.size:=by
 by_cases hi:i<listed.size
 ·exact ⟨by simpa [Ou,hi] using h,hi⟩
 ·simp [Ou,hi] at h
def D2 (listed:Array Bool) (n:Nat):Nat:=(F9 n).countP fun j=>listed.getD j false=false
theorem Y1 {listed:Array Bool} {n i:Nat} (hi:i<n) (hl:listed.size=n) (hu:listed.getD i false=false):D2 (listed.setIfInBounds i true) n+1<=D2 listed n:=by
 have key:∀ (l:List Nat),l.Nodup->(l.countP fun j=>(listed.setIfInBounds i true).getD j false=false)+(if i ∈ l then 1 else 0)=l.countP fun j=>listed.getD j false=false:=by
  intro l;induction l with
  | nil=>intro _; simp
  | cons x l ih =>
   intro hn;rw [List.nodup_cons] at hn;have ih:=ih hn.2;by_cases e:x=i
   ·subst e;have h1:(listed.setIfInBounds x true).getD x false=true:=H7 aA;rw [gI,gI,h1,hu,if_neg hn.1] at *;simp at ih ⊢;omega
   ·have h1:(listed.setIfInBounds i true).getD x false=listed.getD x false:=Df (fun y=>e y.symm);rw [gI,gI,h1];have:(i ∈ x :: l)↔i ∈ l:=by rw [Cy]; exact ⟨fun h=>h.resolve_left fun y=>e y.symm,.inr⟩
    simp only [this];omega
 have:=key (F9 n) List.nodup_range;rw [if_pos eQ] at this;unfold D2;omega
theorem Agl {o:Oper} {ρ ρ':Operand->AV} (h:∀ x ∈ o.op.operands,ρ x=ρ' x):evQ P o ρ=evQ P o ρ':=by
 obtain ⟨dst,op,type,pos,after,guard⟩:=o;have pairs:∀ ps:Array (Nat × Operand),(∀ x ∈ ps.map (·.2),ρ x=ρ' x)->(ps.toList.map fun (i,x)=>(i,ρ x))=(ps.toList.map fun (i,x)=>(i,ρ' x)):=fun ps hp =>
  O3 fun p hm=>by
   obtain ⟨i,x⟩:=p;simp only [hp x (Array.mem_map.2 ⟨(i,x),cF,rfl⟩)]
 have lists:∀ xs:Array Operand,(∀ x ∈ xs,ρ x=ρ' x)->xs.toList.map ρ=xs.toList.map ρ':=fun xs hx=>O3 fun x hm=>hx x cF;cases op <;> simp only [Op.operands] at h <;> simp only [evQ];case build t ps=>rw [pairs ps fun x hx=>h x cV]
 case buildSlice t n ps=>rw [pairs ps fun x hx=>h x cV]
 case slice t x lo hi mx=>cases lo <;> cases hi <;> cases mx <;> simp_all
 case makeFunc fn first caps =>
  have h1:=lists caps fun x hx=>h x bG
  have h2:(caps.toList.all fun x=>Kd (ρ x))=(caps.toList.all fun x=>Kd (ρ' x)):=by
   have:∀ f:Operand->AV,(caps.toList.all fun x=>Kd (f x))=(caps.toList.map f).all Kd:=fun f=>by rw [List.all_map]; rfl
   rw [this,this,h1]
  have h3:=lists first fun x hx=>h x bG
  cases fn with
  | func f=>simp only [h1,h2,h3]
  | method m =>
   simp only
   split
   ·rename_i x hf _
    rw [h x (by
      have:x ∈ first:=by rw [<- Array.mem_toList_iff,hf]; simp
      simp [this])]
   ·rfl
  | _=>rfl
 case call c =>
  have h1:=lists c.args fun x hx=>h x (by simp [Call.operands,hx])
  rw [h1]
 all_goals first|rfl|(simp_all; done)|skip
def Alo [Globs] (P:Program) (call:Bd) (o:Oper) (s s':St) (v:AV):Prop :=
  s'.T=s.T/\(wrS o=false->s'.S=s.S/\s'.n=s.n)/\(wrT o=false->s'.tk=s.tk) /\
  ∀ s2:St,(∀ x ∈ o.op.operands,opv s2.T x=opv s.T x)->(∀ t x,o.op=.load t x->ldA P t (opv s.T x) s2.S=ldA P t (opv s.T x) s.S)->(wrS o=true->s2.S=s.S/\s2.n=s.n)->(wrT o=true->s2.tk=s.tk)->(rdA o=true->s2.S=s.S/\s2.n=s.n/\s2.tk=s.tk) ->
   ∃ s2',evO P call o s2=some (v,s2')/\s2'.T=s2.T/\(wrS o=true->s2'.S=s'.S/\s2'.n=s'.n)/\(wrS o=false->s2'.S=s2.S/\s2'.n=s2.n)/\(wrT o=true->s2'.tk=s'.tk)/\(wrT o=false->s2'.tk=s2.tk)
theorem Q3 [Globs] {call:Bd} {o:Oper} {s s':St} {v v':AV} (hq:evQ P o (opv s.T)=some v') (e:(v',s)=(v,s')) (hw:wrS o=false) (ht:wrT o=false) (bg:∀ s2:St,evO P call o s2=(evQ P o (opv s2.T)).map fun v=>(v,s2)):Alo P call o s s' v:=by
 simp only [Cc] at e;obtain ⟨rfl,rfl⟩:=e;exact ⟨rfl,fun _=>⟨rfl,rfl⟩,fun _=>rfl,fun s2 h2 _ _ _ _=>⟨s2,by rw [bg,Agl h2,hq]; rfl,rfl,fun h=>by rw [hw] at h; simp at h,fun _=>⟨rfl,rfl⟩,fun h=>by rw [ht] at h; simp at h,fun _=>rfl⟩⟩
theorem Qt [Globs] {call:Bd} (hi:Qd call) {o:Oper} {s s':St} {v:AV} (zp:(match o.op with|.select ..=>false|_=>true)=true) (h:evO P call o s=some (v,s')):Alo P call o s s' v:=by
 obtain ⟨dst,op,type,pos,after,guard⟩:=o;cases op;case load t x =>
  simp only [evO,B6,Cc] at h
  obtain ⟨u,h,rfl,rfl⟩:=h
  refine ⟨rfl,fun _=>⟨rfl,rfl⟩,fun _=>rfl,fun s2 h2 hR _ _ _=>⟨s2,?_,rfl,bQ,fun _=>⟨rfl,rfl⟩,by simp [wrT],fun _=>rfl⟩⟩
  have e:ldA P t (opv s.T x) s2.S=ldA P t (opv s.T x) s.S:=hR t x rfl
  simp only [evO,h2 x bZ,e,h,Cu]
 case store t x y =>
  simp only [evO,B6,Cc] at h
  obtain ⟨u,h,rfl,rfl⟩:=h
  refine ⟨rfl,bQ,fun _=>rfl,fun s2 h2 _ hS _ _=>⟨{ s2 with S:=u },?_,rfl,fun _=>⟨rfl,(hS bQ).2⟩,bQ,by simp [wrT],fun _=>rfl⟩⟩
  simp only [evO,h2 x bZ,h2 y bZ,(hS bQ).1,h,Cu]
 case alloc t =>
  simp only [evO,B6,Cc] at h
  obtain ⟨u,h,rfl,rfl⟩:=h
  refine ⟨rfl,bQ,fun _=>rfl,fun s2 h2 _ hS _ _=>?_⟩
  obtain ⟨e1,e2⟩:=hS bQ
  exact ⟨{ s2 with S:=s2.S++[⟨s2.n,u⟩],n:=s2.n+1 },by simp only [evO,h,Cu,e1,e2],rfl,fun _=>by simp [e1,e2],bQ,by simp [wrT],fun _=>rfl⟩
 case box t x =>
  simp only [evO,B6,Cc] at h
  obtain ⟨u,h,rfl,rfl⟩:=h
  refine ⟨rfl,bQ,fun _=>rfl,fun s2 h2 _ hS _ _=>?_⟩
  obtain ⟨e1,e2⟩:=hS bQ
  exact ⟨{ s2 with S:=s2.S++[⟨s2.n,u⟩],n:=s2.n+1 },by simp only [evO,h2 x bZ,h,Cu,e1,e2],rfl,fun _=>by simp [e1,e2],bQ,by simp [wrT],fun _=>rfl⟩
 case makeSlice t l c =>
  simp only [evO,B6,Prod.exists] at h
  obtain ⟨l',sz,cs,h,hh⟩:=h
  split at hh
  ·rename_i hl
   simp only [Cc] at hh
   obtain ⟨rfl,rfl⟩:=hh
   refine ⟨rfl,fun _=>⟨rfl,rfl⟩,by simp [wrT,hl],fun s2 h2 _ _ hT _=>?_⟩
   have e:=hT (by simp [wrT,hl])
   exact ⟨{ s2 with tk:=s2.tk++[0] },by simp only [evO,h2 l bZ,h2 c bZ,h,Cu,hl,if_true,e],rfl,by simp [wrS,hl],fun _=>⟨rfl,rfl⟩,fun _=>by simp [e],by simp [wrT,hl]⟩
  ·rename_i hl
   simp only [Cc] at hh
   obtain ⟨rfl,rfl⟩:=hh
   have nh:Q5 ⟨dst,.makeSlice t l c,type,pos,after,guard⟩ l=false:=bS
   refine ⟨rfl,by simp [wrS,nh],fun _=>rfl,fun s2 h2 _ hS _ _=>?_⟩
   obtain ⟨e1,e2⟩:=hS (by simp [wrS,nh])
   exact ⟨{ s2 with S:=s2.S++[⟨s2.n,cs⟩],n:=s2.n+1 },by simp only [evO,h2 l bZ,h2 c bZ,h,Cu,nh,e1,e2]; rfl,rfl,fun _=>by simp [e1,e2],by simp [wrS,nh],by simp [wrT,nh],fun _=>rfl⟩
 case call c =>
  have aa:∀ s2:St,(∀ x ∈ (Op.call c).operands,opv s2.T x=opv s.T x)->c.args.toList.map (opv s2.T)=c.args.toList.map (opv s.T):=fun s2 h2=>O3 fun x hx=>h2 x (by simp [Op.operands,Call.operands]; right; simpa using hx)
  cases ak:c.callee with
  | builtin b =>
   by_cases hb:b=.append
   ·subst hb
    simp only [evO,ak] at h
    split at h
    ·rename_i x y t t' iu ht
     split at h
     ·rename_i how
      split at h
      ·rename_i r6
       simp only [B6,Cc,Prod.exists] at h
       obtain ⟨u,S',n',h,rfl,rfl⟩:=h
       have hw:wrS ⟨dst,.call c,type,pos,after,guard⟩=true:=by simpa [wrS,ak] using how
       refine ⟨rfl,fun hf=>by rw [hw] at hf; simp at hf,fun _=>rfl,fun s2 h2 _ hS hT _=>?_⟩
       obtain ⟨e1,e2⟩:=hS hw
       have e3:=hT cI
       refine ⟨{ s2 with S:=S',n:=n' },?_,rfl,fun _=>⟨rfl,rfl⟩,fun hf=>by rw [hw] at hf; simp at hf,fun _=>e3,fun _=>rfl⟩
       simp only [evO,ak,aa s2 h2,iu,ht,how,r6,if_true,e1,e2]
       subst r6
       simp only [h,Cu]
      ·simp at h
     rename_i how
     have xj:wrS ⟨dst,.call c,type,pos,after,guard⟩=false:=by simpa [wrS,ak] using how
     split at h
     ·rename_i r6
      simp only [B6,Cc,Prod.exists] at h
      obtain ⟨u,tk',h,rfl,rfl⟩:=h
      refine ⟨rfl,fun _=>⟨rfl,rfl⟩,cI,fun s2 h2 _ _ hT hA=>⟨{ s2 with tk:=tk' },?_,rfl,fun hf=>by rw [xj] at hf; simp at hf,fun _=>⟨rfl,rfl⟩,fun _=>rfl,cI⟩⟩
      have e:=hT cI
      have bh:apB1 P t x y s.tk s2.S=apB1 P t x y s.tk s.S:=by
       cases sx:(Globs.shAny:Bool) with
       | true=>rw [(hA (by simp [rdA,ak,sx])).1]
       | false=>unfold apB1; simp [sx]
      simp only [evO,ak,aa s2 h2,iu,ht,r6,if_true,e,if_neg how]
      subst r6
      rw [bh]
      simp only [h,Cu]
     ·rename_i r6
      simp only [B6,Cc,Prod.exists] at h
      obtain ⟨u,tk',h,rfl,rfl⟩:=h
      refine ⟨rfl,fun _=>⟨rfl,rfl⟩,cI,fun s2 h2 _ _ hT _=>⟨{ s2 with tk:=tk' },?_,rfl,fun hf=>by rw [xj] at hf; simp at hf,fun _=>⟨rfl,rfl⟩,fun _=>rfl,cI⟩⟩
      have e:=hT cI
      simp only [evO,ak,aa s2 h2,iu,ht,e,if_neg r6,h,Cu,if_neg how]
    ·simp at h
   ·by_cases hb2:b=.copy
    ·subst hb2
     simp only [evO,ak] at h
     split at h
     ·rename_i x y t t' iu ht
      simp only [B6,Cc,Prod.exists] at h
      obtain ⟨m,S',h,rfl,rfl⟩:=h
      refine ⟨rfl,fA,fun _=>rfl,fun s2 h2 _ hS _ _=>⟨{ s2 with S:=S' },?_,rfl,fun _=>⟨rfl,(hS fA).2⟩,fA,cI,fun _=>rfl⟩⟩
      simp only [evO,ak,aa s2 h2,iu,ht,(hS fA).1,h,Cu]
     ·simp at h
    ·have bg:∀ s2:St,evO P call ⟨dst,.call c,type,pos,after,guard⟩ s2=(evQ P ⟨dst,.call c,type,pos,after,guard⟩ (opv s2.T)).map fun v=>(v,s2):=by
      intro s2;simp only [evO,ak]
     rw [bg] at h
     simp only [B6] at h
     obtain ⟨v',h1,h2⟩:=h
     exact Q3 h1 h2 (by cases b <;> simp [wrS,ak] at hb hb2 ⊢) (by cases b <;> simp [wrT,ak] at hb ⊢) bg
  | value fx =>
   simp only [evO,ak] at h
   split at h
   ·rename_i f args ey
    simp only [B6,Cc,Prod.exists] at h
    obtain ⟨r,S',tk',n',h,rfl,rfl⟩:=h
    have uz:∀ s2:St,(∀ x ∈ (Op.call c).operands,opv s2.T x=opv s.T x)->Ed P s2.T c=some (f,args):=by
     intro s2 h2;rw [<- ey];unfold Ed;rw [ak];simp only [aa s2 h2,h2 fx Za3h]
    have uu:∀ g,fx=.func g->g=f:=by
     rintro g rfl;unfold Ed at ey;rw [ak] at ey;simp only [opv,A0,Cc] at ey;exact ey.1
    rcases hi _ _ _ _ _ _ _ _ _ h with hxd|⟨rfl,rfl,f9⟩
    ·have x6:xF f=true:=by simp only [Cf] at hxd; exact hxd.1
     have nw:(Globs.xAny:Bool)=true:=by unfold xF at x6; simp only [Cf] at x6; exact x6.1
     have u0:rdA ⟨dst,.call c,type,pos,after,guard⟩=true:=by
      simp only [rdA,ak];exact Ya1q
     have u3:wrS ⟨dst,.call c,type,pos,after,guard⟩=true:=by
      simp only [wrS,ak];exact Ya1q
     have hwt:wrT ⟨dst,.call c,type,pos,after,guard⟩=true:=by
      simp only [wrT,ak];cases fx with
      | func g=>simp only [uu g rfl,x6]
      | _=>exact nw
     refine ⟨rfl,fun hw=>dY,fun hw=>by rw [hwt] at hw; simp at hw,fun s2 h2 _ _ _ hA=>?_⟩
     obtain ⟨a1,a2,a3⟩:=hA u0
     refine ⟨{ s2 with S:=S',tk:=tk',n:=n' },?_,rfl,fun _=>⟨rfl,rfl⟩,fun hw=>dY,fun _=>rfl,fun hw=>by rw [hwt] at hw; simp at hw⟩
     simp only [evO,ak,uz s2 h2]
     rw [a1,a2,a3,h]
     rfl
    by_cases sx:shF f=true
    ·have nw:(Globs.shAny:Bool)=true:=by unfold shF at sx; simp only [Cf] at sx; exact sx.1
     have u0:rdA ⟨dst,.call c,type,pos,after,guard⟩=true:=by
      simp only [rdA,ak];exact Ya1r
     have u3:wrS ⟨dst,.call c,type,pos,after,guard⟩=true:=by
      simp only [wrS,ak];exact Ya1r
     refine ⟨rfl,fun hw=>dY,fun _=>rfl,fun s2 h2 _ _ _ hA=>?_⟩
     obtain ⟨a1,a2,a3⟩:=hA u0
     refine ⟨{ s2 with n:=n' },?_,rfl,fun _=>⟨a1,rfl⟩,fun hw=>dY,fun _=>a3,fun _=>rfl⟩
     simp only [evO,ak,uz s2 h2]
     rw [a1,a2,a3,h]
     simp only [Cu,<- a1,<- a3]
    ·obtain ⟨hnn,a1o⟩:=f9.resolve_left sx
     subst hnn
     refine ⟨rfl,fun _=>⟨rfl,rfl⟩,fun _=>rfl,fun s2 h2 _ hS hT _=>⟨s2,?_,rfl,fun hw=>?_,fun _=>⟨rfl,rfl⟩,fun hw=>?_,fun _=>rfl⟩⟩
     ·simp only [evO,ak,uz s2 h2,a1o s2.S s2.tk s2.n,Cu]
     ·exact hS hw
     ·exact hT hw
   ·simp at h
  | invoke rx m =>
   simp only [evO,ak] at h
   split at h
   ·rename_i f args ey
    simp only [B6,Cc,Prod.exists] at h
    obtain ⟨r,S',tk',n',h,rfl,rfl⟩:=h
    have uz:∀ s2:St,(∀ x ∈ (Op.call c).operands,opv s2.T x=opv s.T x)->Ed P s2.T c=some (f,args):=by
     intro s2 h2;rw [<- ey];unfold Ed;rw [ak];simp only [aa s2 h2,h2 rx Za3h]
    refine ⟨rfl,fun hw=>by simp [wrS,ak] at hw,fun hw=>by simp [wrT,ak] at hw,fun s2 h2 _ _ _ hA=>?_⟩
    obtain ⟨a1,a2,a3⟩:=hA (by simp [rdA,ak])
    refine ⟨{ s2 with S:=S',tk:=tk',n:=n' },?_,rfl,fun _=>⟨rfl,rfl⟩,fun hw=>by simp [wrS,ak] at hw,fun _=>rfl,fun hw=>by simp [wrT,ak] at hw⟩
    simp only [evO,ak,uz s2 h2]
    rw [a1,a2,a3,h]
    rfl
   ·simp at h
 all_goals first
  | (simp at zp; done)
  | (simp only [evO,B6] at h
     obtain ⟨v', h1, h2⟩ := h
     exact Q3 h1 h2 rfl rfl (fun s2 => by simp only [evO]))
def Ae2 [Globs] (P:Program) (call:Bd) (all:List Oper) (o:Oper) (s s':St) (v:AV):Prop :=
 (Hf all s.T o=some false/\v=.prim undef/\s'={ s with T:=putT s.T o.dst v })\/(Hf all s.T o=some true/\∃ s1,evO P call o s=some (v,s1)/\chkO P all o s v s1=true/\s'={ s1 with T:=putT s1.T o.dst v })
theorem Amj [Globs] {call:Bd} {all:List Oper} : ∀ {l:List Oper} {st st':St},evOs P call all l st=some st'->∃ (sts:Nat->St) (val:Nat->AV),sts 0=st/\sts l.length=st'/\∀ (i:Nat) o,l[i]?=some o->Ae2 P call all o (sts i) (sts (i+1)) (val i)
 | [],st,st',h=>by
  simp only [evOs,A0] at h; subst h;exact ⟨fun _=>st,fun _=>.bot,rfl,rfl,by simp⟩
 | o :: l,st,st',h=>by
  have key:∀ {s1:St} {v:AV},Ae2 P call all o st s1 v->evOs P call all l s1=some st'->∃ (sts:Nat->St) (val:Nat->AV),sts 0=st/\sts (o :: l).length=st'/\∀ (i:Nat) o',(o :: l)[i]?=some o'->Ae2 P call all o' (sts i) (sts (i+1)) (val i):=by
   intro s1 v hs h;obtain ⟨sts,val,h1,h2,h3⟩:=Amj h;refine ⟨fun|0=>st|i+1=>sts i,fun|0=>v|i+1=>val i,rfl,h2,fun i o' ho=>?_⟩;cases i with
   | zero =>
    simp only [Iv,A0] at ho; subst ho;show Ae2 P call all o st (sts 0) v;rw [h1]; exact hs
   | succ i=>exact h3 i o' eU
  simp only [evOs] at h;split at h
  ·simp at h
  ·rename_i hw;exact key (.inl ⟨hw,rfl,rfl⟩) h
  ·rename_i hw;split at h
   ·rename_i v s1 ho;split at h
    ·rename_i mc;exact key (.inr ⟨hw,s1,ho,mc,rfl⟩) h
    ·simp at h
   ·simp at h
theorem Hp (T:List AV) (d:Option Tmp) (v:AV):(putT T d v).length=T.length:=by
 cases d <;> simp [putT,Am]
theorem G8:∀ {T:List AV} {d:Nat} {v:AV},d<T.length->getT (put T d v) d=v
 | _ :: _,0,_,_=>rfl
 | _ :: T,d+1,v,h=>G8 (T:=T) aI
 | [],_,_,h=>aM
theorem Bx:∀ {T:List AV} {d t:Nat} {v:AV},d≠t->getT (put T d v) t=getT T t
 | _ :: _,0,0,_,h=>absurd rfl h
 | _ :: _,0,_+1,_,_=>rfl
 | _ :: _,_+1,0,_,_=>rfl
 | _ :: T,d+1,t+1,v,h=>Bx (T:=T) aA
 | [],_,_,_,_=>rfl
theorem Abu:∀ {T T':List AV},T.length=T'.length->(∀ t,getT T t=getT T' t)->T=T'
 | [],[],_,_=>rfl
 | x :: T,y :: T',h,hg=>by
  have h0:=hg 0;simp only [getT] at h0;rw [h0,Abu (T:=T) (T':=T') aI fun t=>hg (t+1)]
 | [],_ :: _,h,_=>aM
 | _ :: _,[],h,_=>aM
def Aeo (w:Nat->Bool) (listed:Array Bool) (n c:Nat):Prop:=c<=n/\(∀ j,j<c->w j=true->listed.getD j false=true)/\(c<n->w c=true/\listed.getD c false=false)
theorem La (w:Nat->Bool) (listed:Array Bool) (n:Nat):∀ k c,n - c<=k->c<=n->(∀ j,j<c->w j=true->listed.getD j false=true)->∃ c',c<=c'/\Aeo w listed n c'/\∀ j,c<=j->j<c'->w j=true->listed.getD j false=true
 | 0,c,hk,hc,h=>⟨c,Cb _,⟨hc,h,fun h=>aA⟩,fun j h1 h2=>aA⟩
 | k+1,c,hk,hc,h=>by
  by_cases hn:c<n/\w c=true/\listed.getD c false=false
  ·exact ⟨c,Cb _,⟨hc,h,fun _=>hn.2⟩,fun j h1 h2=>aA⟩
  ·by_cases y4:c<n
   ·obtain ⟨c',h1,h2,h3⟩:=La w listed n k (c+1) aA aA (fun j hj hw=>by
     by_cases e:j=c
     ·subst e;cases hl:listed.getD j false with
      | true=>rfl
      | false=>exact absurd ⟨y4,hw,hl⟩ hn
     ·exact h j aA hw)
    exact ⟨c',aA,h2,fun j h4 h5 hw=>h2.2.1 j h5 hw⟩
   ·exact ⟨c,Cb _,⟨hc,h,fun h=>absurd h y4⟩,fun j h1 h2=>aA⟩
def wS [Globs] (ops:Array Oper) (j:Nat):Bool:=match ops[j]? with|some o=>wrS o|none=>false
def wT [Globs] (ops:Array Oper) (j:Nat):Bool:=match ops[j]? with|some o=>wrT o|none=>false
structure DInv [Globs] (ops:Array Oper) (st:St) (sts:Nat->St) (val:Nat->AV) (listed:Array Bool) (s:St):Prop where
 len:listed.size=ops.size
 closed:∀ j,listed.getD j false=true->∀ e ∈ depsOf ops j,listed.getD e false=true
 lenT:s.T.length=st.T.length
 t1:∀ j t,listed.getD j false=true->Bu ops j=some t->(∀ e,D4 ops e j=true->listed.getD e false=true)->getT s.T t=if t<st.T.length then val j else .bot
 t2:∀ t,(∀ j,listed.getD j false=true->Bu ops j≠some t)->getT s.T t=getT st.T t
 cS:∃ c,Aeo (wS ops) listed ops.size c/\s.S=(sts c).S/\s.n=(sts c).n
 cT:∃ c,Aeo (wT ops) listed ops.size c/\s.tk=(sts c).tk
theorem Ns {o:Oper} (h:isAl o=true):∃ t,o.op=.alloc t/\o.guard=none:=by
 unfold isAl at h;simp only [Cf,F8] at h;obtain ⟨h1,h2⟩:=h;split at h1
 ·rename_i t e; exact ⟨t,e,h2⟩
 ·simp at h1
theorem Hm [Globs] {o:Oper} (h:isAl o=true):wrS o=true/\rdS o=false/\wrT o=false:=by
 obtain ⟨t,e,-⟩:=Ns h;exact ⟨by simp [wrS,e],by simp [rdS,e],by simp [wrT,e]⟩
theorem Ho {i j:Nat} (h:D4 ops j i=true):∃ p o,ops[j]?=some p/\ops[i]?=some o/\(isAl p=true/\rdS p=false)/\isAl o=true/\rdS o=false:=by
 unfold D4 at h;simp only [Cf] at h;obtain ⟨⟨-,h⟩,-⟩:=h;split at h
 ·rename_i p o h1 h2;simp only [Cf] at h;have key:∀ {o:Oper},isAl o=true->rdS o=false:=fun h=>by
   obtain ⟨t,e,-⟩:=Ns h;simp [rdS,e]
  exact ⟨p,o,h1,h2,⟨h.1,key h.1⟩,h.2,key h.2⟩
 ·simp at h
theorem Ez {i j:Nat} (h:D4 ops j i=true):i=j+1:=by
 unfold D4 at h;simp only [Cf,decide_eq_true_eq] at h;exact h.1.1
theorem Ri {i j:Nat} (h:D4 ops j i=true):j<ops.size/\i<ops.size:=by
 obtain ⟨p,o,h1,h2,-⟩:=Ho h;exact ⟨(Ci.1 h1).1,(Ci.1 h2).1⟩
theorem N0 {i j k:Nat} (h:D4 ops j i=true) (hk:k<ops.size) (h1:k≠j) (h2:k≠i):j ∈ reachAt ops k↔i ∈ reachAt ops k:=by
 unfold D4 at h;simp only [Cf] at h;have h3:=Cz.1 h.2 k (by simpa using hk);simp only [Fz,beq_iff_eq] at h3;rcases h3 with (h3|h3)|h3
 ·exact absurd h3 h1
 ·exact absurd h3 h2
 ·rw [<- fY,<- fY,h3]
structure Le0 (C C':Cx):Prop where
 n:C.n<=C'.n
 stays:Stays C.w C'.w C.Avoid C'.Avoid
 shape:∀ (b:Nat) (cs:Array Value) (t:TypeId) (fz:Nat × Nat),C.w.heap[b]?=some (gD cs t fz)->∃ cs':Array Value,C'.w.heap[b]?=some (gD cs' t fz)/\cs'.size=cs.size
 ent:∀ id e',nth C'.S id=some e'->e'.ep<C.n->∃ e,nth C.S id=some e/\e.ep=e'.ep/\C'.φ id=C.φ id
 tok:∀ id k,nth C.tk id=some k->∃ k',nth C'.tk id=some k'/\k<=k'/\(k'=k->C'.ψ id=C.ψ id)
theorem CapR.mono0 {C C':Cx} (h:Le0 C C') {c a len cap} (hc:CapR C c a len cap):CapR C' c a len cap:=by
 exact Yaj
mutual
theorem VR.mono0 {C C':Cx} (h:Le0 C C'):∀ (c:AV) (x:Value),VR C c x->VR C' c x
 | .bot,_,_=>bN
 | .prim _,_,hx=>by simpa only [VR] using hx
 | .frz es c,x,hx=>by
  simp only [VR] at hx ⊢;obtain ⟨a,len,cap,e,h1,h2,h3,h4⟩:=hx;refine ⟨a,len,cap,e,h1,h2,h3.mono0 h,h4.imp id ?_⟩;rintro ⟨b,o,sz,ea,hr⟩;exact ⟨b,o,sz,ea,Bt.stays h.stays b sz o es hr⟩
 | .fptr cs,x,hx=>by
  exact Ya0v
 | .agg cs,x,hx=>by
  exact Ya1k
 | .tup cs,x,hx=>by
  exact Ya1k
 | .ref id ep off,x,hx=>by
  exact Ya05
 | .sref id ep off len sz,x,hx=>by
  exact Yal
 | .fn f caps,x,hx=>by
  exact Ya1d
 | .bfn f caps,x,hx=>by
  exact Ya1d
 | .ifc t v,x,hx=>by
  exact Ya25
 | .mfn t m v,x,hx=>by
  exact Ya25
 | .lit len cs,x,hx=>by
  simp only [VR] at hx ⊢;obtain ⟨b,vs,e,hl,hr⟩:=hx;exact ⟨b,vs,e,hl.stays h.stays,VRs.mono0 h cs vs hr⟩
theorem VRs.mono0 {C C':Cx} (h:Le0 C C'):∀ (cs:List AV) (vs:List Value),VRs C cs vs->VRs C' cs vs
 | [],[],_=>bT
 | c :: cs,v :: vs,hx=>by simp only [VRs] at hx ⊢; exact ⟨VR.mono0 h c v hx.1,VRs.mono0 h cs vs hx.2⟩
 | [],_ :: _,hx=>eE
 | _ :: _,[],hx=>eE
end
def Cx.hid (C:Cx) (arr:Array Value) (t:TypeId):Cx:={ C with w:=C.w.alloc (.cells arr t),av:=fun x o=>C.av x o\/x=C.w.heap.size }
theorem Ahm [Globs] {C:Cx} (hs:SR C) {b o:Nat} (h:C.Mut b o):b<C.w.heap.size:=by
 rcases h with ⟨i,hi,e⟩|⟨i,hi,e,h1,h2⟩
 ·rw [<- e]; exact M5 hs hi
 ·rw [<- e]; exact hs.tlt i o hi h1 h2
theorem Le0.hid [Globs] {C:Cx} (arr:Array Value) (t:TypeId):Le0 C (C.hid arr t):=by
 have hb:Below C.w.heap.size C.w (C.w.alloc (.cells arr t)):=(Fb _ _).alloc (Cb _) _;refine ⟨Cb _,fun b o v hv ha=>⟨by rw [show (C.hid arr t).w=C.w.alloc (.cells arr t) from rfl,iY hb (E2 hv)]; exact hv,?_⟩,fun b d t' fz hd=>⟨d,Dc hb hd,rfl⟩,fun _ e he _=>⟨e,he,rfl,rfl⟩,fun _ k hk=>⟨k,hk,Cb _,fun _=>rfl⟩⟩;rintro ((h|h)|h)
 ·exact ha (.inl h)
 ·have:=E2 hv; omega
 ·exact ha (.inr h)
theorem SR.hid [Globs] {C:Cx} (hs:SR C) (arr:Array Value) (t:TypeId):SR (C.hid arr t):=by
 have hb:Below C.w.heap.size C.w (C.w.alloc (.cells arr t)):=(Fb _ _).alloc (Cb _) _;refine ⟨fun i x hx=>?_,hs.ne,hs.tok,hs.apart,fun b o hm=>?_,fun b o ha=>?_,fun i o hi h1 h2=>Fi (hs.tlt i o hi h1 h2) hb.size,fun g a hg=>?_⟩
 ·obtain ⟨g1,d,t',g2,vs',r',sm,g3⟩:=hs.ent i x hx;exact ⟨g1,d,t',Dc hb g2,vs',r',sm,VRs.mono0 (Le0.hid arr t) _ _ g3⟩
 ·have dx:C.Mut b o:=hm;have:=Ahm hs dx;rintro (h|h)
  ·exact hs.own b o dx h
  ·omega
 ·rcases ha with h|h
  ·exact Fi (hs.avlt b o h) hb.size
  ·subst h;exact (Ci.1 (An C.w (.cells arr t))).1
 ·obtain ⟨⟨t',fz,h1⟩,h2⟩:=hs.glob g a hg;exact ⟨⟨t',fz,Dc hb h1⟩,fun i=>.inl (h2 i)⟩
def Cx.rev (C:Cx) (av0:Nat->Nat->Prop) (b:Nat) (cs:List AV):Cx :=
 { C with av:=av0,φ:=fun i=>if i=C.S.length then b else C.φ i,S:=C.S++[⟨C.n,cs⟩],n:=C.n+1 }
section
variable {C:Cx} {av0:Nat->Nat->Prop} {b:Nat}
theorem V4 {cs:List AV} {x o:Nat} (h:(C.rev av0 b cs).Mut x o):C.Mut x o\/x=b:=by
 rcases h with ⟨i,hi,e⟩|h
 ·simp only [Cx.rev,Cn,Ck,C3] at hi e;split at e
  ·exact .inr e.symm
  ·exact .inl (.inl ⟨i,aA,e⟩)
 ·exact .inl (.inr h)
theorem Le0.rev (di:∀ o,C.av b o) (gy:∀ x o,x≠b->(C.av x o↔av0 x o)) (h0:∀ o,¬ av0 b o) (cs:List AV):Le0 C (C.rev av0 b cs):=by
 refine ⟨gX _,fun x o v hv ha=>⟨hv,?_⟩,fun _ d _ _ hd=>⟨d,hd,rfl⟩,fun i x hx hn=>?_,fun _ k hk=>⟨k,hk,Cb _,fun _=>rfl⟩⟩
 ·rintro (h|h)
  ·by_cases e:x=b
   ·subst e; exact h0 o h
   ·exact ha (.inl ((gy x o e).2 h))
  ·rcases V4 h with h|h
   ·exact ha (.inr h)
   ·subst h; exact ha (.inl (di o))
 ·rcases Jv hx with ⟨h1,h2⟩|⟨h1,h2⟩
  ·subst h2; simp at hn
  ·refine ⟨x,h2,rfl,?_⟩;simp only [Cx.rev];rw [if_neg aA]
theorem SR.rev [Globs] (hs:SR C) {arr:Array Value} {t:TypeId} (hb:C.w.heap[b]?=some (.cells arr t (0,0))) (di:∀ o,C.av b o) (gy:∀ x o,x≠b->(C.av x o↔av0 x o)) (h0:∀ o,¬ av0 b o) (hg:∀ g a,(g,a) ∈ Globs.gl->∀ i,av0 g i) :
  SR (C.rev av0 b (arr.toList.map cst1)):=by
 have hle:=Le0.rev (C:=C) di gy h0 (arr.toList.map cst1);have nb:∀ i,i<C.S.length->C.φ i≠b:=fun i hi e=>hs.own b 0 (.inl ⟨i,hi,e⟩) (di 0);refine ⟨fun i x hx=>?_,fun i j hi hj h=>?_,hs.tok,fun i j o hi hj h h1 h2=>?_,?_,fun x o ha=>?_,hs.tlt,fun g a hm=>⟨(hs.glob g a hm).1,hg g a hm⟩⟩
 ·rcases Jv hx with ⟨h1,rfl⟩|⟨h1,h2⟩
  ·refine ⟨Ip _,arr,t,?_,arr.toList,[],by simp,Hw _⟩;simp only [Cx.rev,h1,if_true];exact hb
  ·obtain ⟨g1,d,t',g2,vs',r',sm,g3⟩:=hs.ent i x h2;refine ⟨Nat.lt_succ_of_lt g1,d,t',?_,vs',r',sm,VRs.mono0 hle _ _ g3⟩;simp only [Cx.rev];rw [if_neg aA];exact g2
 ·simp only [Cx.rev,Cn,Ck,C3] at hi hj h;by_cases ar:i=C.S.length <;> by_cases dy:j=C.S.length
  ·omega
  ·rw [if_pos ar,if_neg dy] at h;exact absurd h.symm (nb j aA)
  ·rw [if_neg ar,if_pos dy] at h;exact absurd h (nb i aA)
  ·rw [if_neg ar,if_neg dy] at h;exact hs.ne i j aA aA h
 ·simp only [Cx.rev,Cn,Ck,C3] at hi h hj h1 h2;by_cases ar:i=C.S.length
  ·rw [if_pos ar] at h;exact hs.own b o (.inr ⟨j,hj,h.symm,h1,h2⟩) (di o)
  ·rw [if_neg ar] at h;exact hs.apart i j o aA hj h h1 h2
 ·intro x o hm ha;by_cases e:x=b
  ·subst e; exact h0 o ha
  ·rcases V4 hm with h|h
   ·exact hs.own x o h ((gy x o e).2 ha)
   ·exact e h
 ·by_cases e:x=b
  ·subst e; exact absurd ha (h0 o)
  ·exact hs.avlt x o ((gy x o e).2 ha)
end
theorem Aa3 {o:Oper} {t:TypeId} {cs:List AV} (ho:o.op=.alloc t) (hz:Ar P t=some cs):∃ arr:Array Value,arr.toList.map cst1=cs/\∀ (C:Cx) (a:Act) (next:Act->World->Prop) (Q:Exit->Act->World->Prop),next (a.put o.dst (.pointer (some ⟨C.w.heap.size,0,none⟩))) (C.w.alloc (.cells arr t))->o.wp P a C.w next Q:=by
 simp only [Ar,B6,Ie] at hz;obtain ⟨zv,⟨i,h1,h2⟩,rfl⟩:=hz;refine ⟨zv.cells,rfl,fun C a next Q hn=>Gj (v:=.pointer (some ⟨C.w.heap.size,0,none⟩)) (w':=C.w.alloc (.cells zv.cells t)) ?_ hn⟩;have hz:(zeroValue t).run P C.w=.ok zv C.w:=by simp [zeroValue,typeInfo,h1,h2]
 simp only [execOp,ho,Instr.alloc,Fe,hz,Ea,newVar,Hh,Im]
theorem Kb {C:Cx} : ∀ {T vs} {d:Nat} {c},VRs C T vs->(∀ x,vs[d]?=some x->VR C c x)->VRs C (put T d c) vs
 | [],[],_,_,_,_=>by simp only [put,VRs]
 | _ :: _,v :: _,0,_,h,hv=>by simp only [VRs,put] at h ⊢; exact ⟨hv v rfl,h.2⟩
 | _ :: _,_ :: _,d+1,_,h,hv=>by simp only [VRs,put] at h ⊢; exact ⟨h.1,Kb h.2 fun x hx=>hv x cV⟩
 | [],_ :: _,_,_,h,_=>aN
 | _ :: _,[],_,_,h,_=>aN
theorem Afq [Globs] {T:List AV} {c:Call} {f:FuncId} {args:List AV} (h:Ed P T c=some (f,args)) (hx:xF f=true):Aaq c=true:=by
 have nw:(Globs.xAny:Bool)=true:=by unfold xF at hx; simp only [Cf] at hx; exact hx.1
 unfold Ed at h;unfold Aaq;split at h
 ·rename_i hc; rw [hc]
 ·rename_i x hc;rw [hc];cases x with
  | func g =>
   simp only [opv,A0,Cc] at h;simp only [h.1,hx]
  | _=>exact nw
 ·simp at h
theorem Akb [Globs] {call:Bd} {o:Oper} {c:Call} {s s':St} {v:AV} (ho:o.op=.call c) (hb:∀ b,c.callee≠.builtin b) (h:evO P call o s=some (v,s')):∃ f args S' tk' n',Ed P s.T c=some (f,args)/\call f args s.S s.tk s.n=some (v,S',tk',n')/\s'.S=S':=by
 simp only [evO,ho] at h;split at h
 ·exact Ya1x
 ·exact Ya1x
 ·rename_i b _ _ h'; exact absurd h' (hb _)
 ·split at h
  ·rename_i f args ey;simp only [B6,Cc,Prod.exists] at h;obtain ⟨r,S',tk',n',h,rfl,rfl⟩:=h;exact ⟨f,args,S',tk',n',ey,h,rfl⟩
  ·simp at h
theorem Aft [Globs] {all:List Oper} {o:Oper} {s s':St} {v:AV} (h:chkO P all o s v s'=true) (hd:(Globs.dr:Bool)=true) (hx:xOp o=true):chkX P all o s s':=by
 unfold chkO at h;rw [hd,hx] at h;simpa using h
theorem Al3 [Globs] {all:List Oper} {o:Oper} {s s':St} {v:AV} (h:chkO P all o s v s'=true) (hd:(Globs.dr:Bool)=true) (hl:isLd o=true):isB v=false:=by
 have hx:xOp o=false:=by
  unfold isLd at hl;unfold xOp;split at hl
  ·rename_i h'; rw [h']
  ·simp at hl
 unfold chkO at h;rw [hd,hx,hl] at h;simpa using h
theorem lk_x [Globs] {o:Oper} (h:lkOp o=true):(Globs.dr:Bool)=true/\xOp o=true:=by
 unfold lkOp at h;simp only [Cf] at h;refine ⟨h.1,?_⟩;unfold xOp Aaq;split at h
 ·rename_i c ho;split at h
  ·rename_i hc; rw [hc]
  ·rename_i hc;rw [hc];simp only [Cf] at h; exact h.2.1
  ·simp at h
 ·simp at h
theorem an_x [Globs] {o:Oper} (h:anOp o=true):(Globs.dr:Bool)=true/\xOp o=true:=by
 unfold anOp at h;simp only [Cf] at h;exact h.1
theorem Tt [Globs] {call:Bd} (hi:Qd call) {all:List Oper} {o:Oper} {c:Call} {s s':St} {v:AV} (ho:o.op=.call c) (hb:∀ b,c.callee≠.builtin b) (h:evO P call o s=some (v,s')) (mc:chkO P all o s v s'=true):s'.S=s.S\/(xOp o=true/\s.S.length<=s'.S.length):=by
 obtain ⟨f,args,S',tk',n',h1,h2,rfl⟩:=Akb ho hb h;rcases hi _ _ _ _ _ _ _ _ _ h2 with hx|⟨hS,-⟩
 ·right;simp only [Cf] at hx;have hxo:xOp o=true:=by unfold xOp; rw [ho]; exact Afq h1 hx.1
  have hX:=Aft mc hx.2 hxo;refine ⟨hxo,?_⟩;by_cases hl:lkOp o=true
  ·rw [(hX.1 hl).1];exact Ya2c
  ·exact (hX.2 (by simp [anOp,hx.2,hxo,hl])).1
 ·exact .inl hS
theorem Adj {t:TypeId} {a:AV} {S S':List Ent} (h:∀ id ep off,a≠.ref id ep off):ldA P t a S=ldA P t a S':=by
 unfold ldA;split
 ·split
  ·rfl
  ·exact absurd rfl (h _ _ _)
  ·rfl
 ·rfl
theorem P1 {t:TypeId} {id ep off:Nat} {S S':List Ent} (h:nth S' id=nth S id):ldA P t (.ref id ep off) S'=ldA P t (.ref id ep off) S:=by
 have:entAt S' id ep=entAt S id ep:=by unfold entAt; rw [h]
 unfold ldA;simp only [this]
theorem Ade {S S':List Ent} (h:Vh S S'):Vh S' S:=by
 refine ⟨h.1.symm,fun i=>?_⟩;rcases h.2 i with h|⟨ep,b,b',h1,h2⟩
 ·exact .inl h.symm
 ·exact .inr ⟨ep,b',b,h2,h1⟩
theorem Abs {t:TypeId} {id ep off:Nat} {S S':List Ent} {V:AV} (h:Vh S S') (hl:ldA P t (.ref id ep off) S=some V) (hV:isB V=false):ldA P t (.ref id ep off) S'=some V:=by
 rcases h.2 id with h|⟨ep',b,b',h1,h2⟩
 ·rw [P1 h]; exact hl
 ·have hE:entAt S id ep=if ep'=ep then some [.prim (.bool b)] else none:=by unfold entAt; rw [h1]
  have zq:entAt S' id ep=if ep'=ep then some [.prim (.bool b')] else none:=by unfold entAt; rw [h2]
  unfold ldA at hl ⊢;simp only [zq];simp only [hE] at hl;split at hl
  ·rename_i sz bb _ _;split at hl
   ·rename_i cs ip;split at ip
    ·rename_i he;simp only [A0] at ip;subst ip;rw [if_pos he];simp only;unfold partA at hl ⊢;cases bb with
     | false =>
      simp only [C4,if_false] at hl;cases off with
      | zero =>
       simp only [Fs,nth,A0] at hl;subst hl; simp [isB] at hV
      | succ off=>simp [nth] at hl
     | true =>
      simp only [if_true,B6] at hl ⊢;obtain ⟨ds,h3,rfl⟩:=hl;cases sz with
      | zero=>exact ⟨ds,by simpa [takeN] using h3,rfl⟩
      | succ sz =>
       cases off with
       | zero =>
        simp only [Fs,takeN,B6] at h3;obtain ⟨ds',h4,rfl⟩:=h3;cases sz with
        | zero =>
         simp only [takeN,A0] at h4;subst h4;simp [isB] at hV
        | succ sz=>simp [takeN] at h4
       | succ off=>simp [takeN] at h3
    ·simp at ip
   ·simp at hl
  ·simp at hl
theorem Ado {ops:Array Oper} {k i:Nat} {d:Option Tmp} {o:Oper} {t:TypeId} {a:Operand} (hk:k<ops.size) (hd:Bu ops k=d) (jo:∀ j,j<ops.size->Bu ops j=d->j=k) (hi:i<k) (ho:ops[i]?=some o) (hl:o.op=.load t a) (hr:i ∉ reachAt ops k) :
  (t,a,o.dst,Aha ops.toList k i a) ∈ loadsB ops.toList d:=by
 unfold loadsB;have hf:((F9 ops.toList.length).find? fun k=>Bu ops.toList.toArray k == d)=some k:=by
  rw [List.find?_eq_some_iff_append];refine ⟨by simpa using hd,F9 k,(F9 (ops.toList.length - k - 1)).map (fun j=>k+1+j),?_,fun j hj=>?_⟩
  ·have:ops.toList.length=k+(1+(ops.toList.length - k - 1)):=aB
   conv=>lhs; rw [this]
   rw [List.range_add,List.range_add];simp [Si]
  ·simp only [iO] at hj;cases hh:Bu ops.toList.toArray j == d with
   | false=>rfl
   | true =>
    have:=jo j aA (by simpa using hh);omega
 rw [hf];simp only [List.mem_filterMap,iO];refine ⟨i,hi,?_⟩;have:ops.toList[i]?=some o:=eU
 rw [this];simp only [hl];rw [if_neg (by simpa using hr)]
theorem Vb [Globs] (hm:P.follows .mixedOrders=true):∀ (call:Bd),Jz P call->Qd call->∀ (real ops:Array Oper) (lt:Option (Nat × Oper)),Amp P real ops lt->∀ (C:Cx) (st st':St) (a:Act) (Q:Exit->Act->World->Prop),Va st ops.toList=true->Rel C st a->evOs P call ops.toList ops.toList st=some st' ->
  (∀ a' C',Le C C'->Rel C' (Ry P lt st') a'->Q .normal a' C'.w)->wpAny P .any real Q real.size (Ox real.size false) a { C.w with drawn:=C.w.drawn+1 }:=by
 intro call hc hi real ops lt gb C st st' a Q ae hr h hQ;have hsz:real.size=ops.size:=by
  cases lt with
  | none=>rw [show real=ops from gb]
  | some q=>obtain ⟨p,al⟩:=q; exact gb.1
 have a07:∀ i,(∀ p al,lt=some (p,al)->i≠p)->real[i]?=ops[i]?:=by
  intro i ar;cases lt with
  | none=>rw [show real=ops from gb]
  | some q=>obtain ⟨p,al⟩:=q; exact gb.2.1 i (ar p al rfl)
 have y5:∀ i:Nat,(real[i]?).map (fun o=>(o.after,o.dst))=(ops[i]?).map fun o=>(o.after,o.dst):=by
  intro i;cases lt with
  | none=>rw [show real=ops from gb]
  | some q =>
   obtain ⟨p,al⟩:=q;obtain ⟨-,h1,-,h2,-,-,-,h3⟩:=gb;by_cases e:i=p
   ·subst e; rw [h2,h3]; rfl
   ·rw [h1 i e]
 have gf:∀ listed i,i ∈ Region.ready .any real listed↔i ∈ Region.ready .any ops listed:=by
  intro listed i;have dx:=y5 i;rw [mem_ready,mem_ready];constructor
  ·rintro ⟨h0,o,ho,hd⟩;rw [ho] at dx;obtain ⟨o',d7,e⟩:=B6.1 dx.symm;exact Ya2g
  ·rintro ⟨h0,o,ho,hd⟩;rw [ho] at dx;obtain ⟨o',d7,e⟩:=B6.1 dx;exact Ya2g
 have pu:∀ tmps,yielded real tmps=yielded ops tmps:=by
  intro tmps;funext j;have dx:=y5 j;unfold yielded;cases h1:real[j]? with
  | none=>rw [h1] at dx; rw [Option.map_eq_none_iff.1 dx.symm]
  | some o =>
   rw [h1] at dx;obtain ⟨o',d7,e⟩:=B6.1 dx.symm;simp only [Cc] at e;simp only [d7,Lg,e.2]
 have gz:∀ p al,lt=some (p,al)->∀ i j,D4 ops i j=true->False:=by
  intro p al e i j hp;subst e;obtain ⟨p1,p2,q1,-,⟨q3,-⟩,-,-⟩:=Ho hp;have:=gb.2.2.1 i p1 q1;obtain ⟨t,e1,-⟩:=Ns q3;unfold isMk at this;rw [e1] at this; cases this
 obtain ⟨sts,val,ly,r7,ny⟩:=Amj h;simp only [Ii] at r7;have d9:∀ (i:Nat) o,ops[i]?=some o->Ae2 P call ops.toList o (sts i) (sts (i+1)) (val i):=fun i o ho=>ny i o eU;have u4:∀ i o,ops[i]?=some o->opOk ops i o=true/\∀ j p,j<i->ops[j]?=some p->((!conf p o && !(wrS p && !lkOp p && rdS o) && !(rdS p && wrS o && !lkOp o)) || (reachAt ops i).contains j || (!conf p o && (if rdS o=true then Lq st ops i o p else (Ag6 o || (anOp o && o.dst.isSome) || Lq st ops j p o))) || D4 ops j i)=true:=by
  intro i o ho;have hlt:=(Ci.1 ho).1;unfold Va at ae;rw [Cz] at ae;have h1:=ae i aQ;simp only [Array.toArray_toList,ho,Cf] at h1;refine ⟨h1.1,fun j p hj hp=>?_⟩;have h2:=Cz.1 h1.2 j bI;simp only [hp] at h2;exact h2
 have bm:∀ i o,ops[i]?=some o->opOk ops i o=true/\∀ j p,j<i->ops[j]?=some p->conf p o=true->j ∈ reachAt ops i\/D4 ops j i=true:=by
  intro i o ho;refine ⟨(u4 i o ho).1,fun j p hj hp zr=>?_⟩;have h2:=(u4 i o ho).2 j p hj hp;simp only [zr,F6,F2,Mf,Fk,Fz] at h2;exact h2.imp (fun h=>aI) id
 have dp:∀ i o,ops[i]?=some o->∀ j p,j<i->ops[j]?=some p->((wrS p && !lkOp p && rdS o) || (rdS p && wrS o && !lkOp o))=true->j ∈ reachAt ops i\/(if rdS o=true then Lq st ops i o p else (Ag6 o || (anOp o && o.dst.isSome) || Lq st ops j p o))=true:=by
  intro i o ho j p hj hp zr;have h2:=(u4 i o ho).2 j p hj hp;have h3:(!conf p o && !(wrS p && !lkOp p && rdS o) && !(rdS p && wrS o && !lkOp o))=false:=by
   simp only [Fz] at zr;rcases zr with h|h <;> simp [h]
  rw [h3] at h2;simp only [Mf,Fz,Cf] at h2;rcases h2 with (h2|h2)|h2
  ·exact .inl cM
  ·exact .inr h2.2
  ·obtain ⟨p',o',q1,q2,⟨-,q3⟩,-,q4⟩:=Ho h2;rw [hp] at q1; rw [ho] at q2;simp only [A0] at q1 q2;subst q1; subst q2;simp [q3,q4] at zr
 have hop:∀ i o,ops[i]?=some o->(match o.op with|.select ..=>false|_=>true)=true/\(∀ j ∈ depsOf ops i,j<i)/\(∀ g w,o.guard=some (g,w)->g ∈ depsOf ops i)/\(∀ d,o.dst=some d->∀ j,j<i->Bu ops j≠some d) /\
   (∀ t,Operand.tmp t ∈ o.op.operands->∀ j,Bu ops j=some t->j=i\/j ∈ reachAt ops i\/i ∈ reachAt ops j):=by
  intro i o ho;have h1:=(bm i o ho).1;unfold opOk at h1;simp only [Cf] at h1;obtain ⟨⟨⟨⟨a1,a2⟩,a3⟩,a4⟩,a5⟩:=h1;refine ⟨a1,fun j hj=>by simpa using Cz.1 a2 j hj,fun g w hg=>by rw [hg] at a3; simpa using a3,fun d hd j hj=>?_,fun t ht j hj=>?_⟩
  ·rw [hd] at a4;simp only [Option.all_some] at a4;have:=Cz.1 a4 j bI;exact Ya17
  ·have h2:=Array.all_eq_true_iff_forall_mem.1 a5 (.tmp t) ht;have a08:j<ops.size:=by
    unfold Bu at hj;cases hx:ops[j]? with
    | none=>rw [hx] at hj; simp at hj
    | some _=>exact (Ci.1 hx).1
   have h3:=Cz.1 h2 j (by simpa using a08);simp only [hj,bne_self_eq_false,Mf,Fz,beq_iff_eq,fY] at h3;rcases h3 with (h3|h3)|h3
   ·exact .inl h3
   ·exact .inr (.inl h3)
   ·exact .inr (.inr h3)
 have x7:∀ {j:Nat} {d:Tmp},Bu ops j=some d->∃ o,ops[j]?=some o/\o.dst=some d:=by
  intro j d hj;unfold Bu at hj;cases hx:ops[j]? with
  | none=>rw [hx] at hj; simp at hj
  | some o=>rw [hx] at hj; exact ⟨o,rfl,bI⟩
 have jo:∀ {i j:Nat} {d:Tmp},Bu ops i=some d->Bu ops j=some d->i=j:=by
  intro i j d h1 h2;obtain ⟨o,ho,l8⟩:=x7 h1;obtain ⟨p,hp,hpd⟩:=x7 h2;rcases O0 i j with hh|hh|hh
  ·exact absurd h1 ((hop j p hp).2.2.2.1 d hpd i hh)
  ·exact hh
  ·exact absurd h2 ((hop i o ho).2.2.2.1 d l8 j hh)
 have stepT:∀ i o,ops[i]?=some o->(sts (i+1)).T=putT (sts i).T o.dst (val i)/\(wrS o=false->(sts (i+1)).S=(sts i).S/\(sts (i+1)).n=(sts i).n)/\(wrT o=false->(sts (i+1)).tk=(sts i).tk):=by
  intro i o ho;rcases d9 i o ho with ⟨-,-,e⟩|⟨-,s1,h1,-,e⟩
  ·rw [e]; exact ⟨rfl,fun _=>⟨rfl,rfl⟩,fun _=>rfl⟩
  ·obtain ⟨g1,g2,g3,-⟩:=Qt hi (hop i o ho).1 h1;rw [e]; exact ⟨by simp only [g1],g2,g3⟩
 have textLen:∀ i,i<=ops.size->(sts i).T.length=st.T.length:=by
  intro i;induction i with
  | zero=>intro _; rw [ly]
  | succ i ih =>
   intro hlt;rw [(stepT i _ (Ei (show i<ops.size by omega))).1,Hp,ih aA]
 have text2:∀ i,i<=ops.size->∀ t,(∀ j,j<i->Bu ops j≠some t)->getT (sts i).T t=getT st.T t:=by
  intro i;induction i with
  | zero=>intro _ t _; rw [ly]
  | succ i ih =>
   intro hlt t ht;have ho:=Ei (show i<ops.size by omega);rw [(stepT i _ ho).1];have hne:(ops[i]' aA).dst≠some t:=fun e=>ht i aA Za3q;cases hd:(ops[i]' aA).dst with
   | none=>simp only [putT]; exact ih aA t fun j hj=>ht j aA
   | some d =>
    simp only [putT];rw [Bx (fun e=>hne (by rw [hd,e]))];exact ih aA t fun j hj=>ht j aA
 have text1:∀ i,i<=ops.size->∀ j t,j<i->Bu ops j=some t->getT (sts i).T t=if t<st.T.length then val j else .bot:=by
  intro i;induction i with
  | zero=>intro _ j t hj; omega
  | succ i ih =>
   intro hlt j t hj hd;have ho:=Ei (show i<ops.size by omega);rw [(stepT i _ ho).1];by_cases e:j=i
   ·subst e;have d8:(ops[j]' aA).dst=some t:=Za26
    rw [d8];simp only [putT];by_cases g8:t<st.T.length
    ·rw [if_pos g8];exact G8 (by rw [textLen j aA]; exact g8)
    ·rw [if_neg g8];refine Ms ?_;rw [Am,textLen j aA]; exact Ss g8
   ·have hne:Bu ops i≠some t:=fun x=>e (jo hd x);have a1p:(ops[i]' aA).dst≠some t:=fun x=>hne dD;cases d8:(ops[i]' aA).dst with
    | none=>simp only [putT]; exact ih aA j t aA hd
    | some d =>
     simp only [putT];rw [Bx (fun x=>a1p cO)];exact ih aA j t aA hd
 have constS:∀ k i,i+k<=ops.size->(∀ j,i<=j->j<i+k->wS ops j=false)->(sts (i+k)).S=(sts i).S/\(sts (i+k)).n=(sts i).n:=by
  intro k;induction k with
  | zero=>intro i _ _; exact ⟨rfl,rfl⟩
  | succ k ih =>
   intro i hle hw;have ho:=Ei (show i+k<ops.size by omega);have h1:=hw (i+k) aA aA;unfold wS at h1; rw [ho] at h1;have h2:=(stepT (i+k) _ ho).2.1 h1;have h3:=ih i aA fun j a b=>hw j a aA;exact ⟨by rw [<- h3.1,<- h2.1]; rfl,by rw [<- h3.2,<- h2.2]; rfl⟩
 have constT:∀ k i,i+k<=ops.size->(∀ j,i<=j->j<i+k->wT ops j=false)->(sts (i+k)).tk=(sts i).tk:=by
  intro k;induction k with
  | zero=>intro i _ _; rfl
  | succ k ih =>
   intro i hle hw;have ho:=Ei (show i+k<ops.size by omega);have h1:=hw (i+k) aA aA;unfold wT at h1; rw [ho] at h1;have h2:=(stepT (i+k) _ ho).2.2 h1;have h3:=ih i aA fun j a b=>hw j a aA;rw [<- h3,<- h2]; rfl
 have ldB:∀ i o t q id ep off b,ops[i]?=some o->o.op=.load t (.tmp q)->T6 st ops i o=some b->getT (sts i).T q=.ref id ep off->b=some id/\id<st.S.length:=by
  intro i o t q id ep off b ho a1q hb hv;have bj:=(Ci.1 ho).1;have base:∀ x,unwr ops x=true->∀ m,m<=ops.size->getT (sts m).T x=getT st.T x:=by
   intro x hx m dx;refine text2 m dx x fun j hj hd=>?_;have:=Cz.1 hx j aB;rw [hd] at this; simp at this
  unfold T6 at hb;rw [a1q] at hb;simp only at hb;split at hb
  ·rename_i hu;rw [<- base q hu i aA,hv] at hb;simp only at hb;split at hb
   ·rename_i hl; simp only [A0] at hb; exact ⟨hb.symm,hl⟩
   ·simp at hb
  ·obtain ⟨m,dx,jl⟩:=List.exists_of_findSome?_eq_some hb;have hmi:m<i:=by simpa using dx
   split at jl
   ·rename_i o1 hom;split at jl
    ·rename_i d t' x k' hd1 a1r;split at jl
     ·rename_i hdx;obtain ⟨rfl,hux⟩:=hdx;have iw:=text1 i aA m d hmi (by unfold Bu; rw [hom]; exact hd1);rw [hv] at iw;have hvm:val m=.ref id ep off:=by
       split at iw
       ·exact iw.symm
       ·simp at iw
      rcases d9 m _ hom with ⟨-,hsk,-⟩|⟨-,s1,bg,-,-⟩
      ·rw [hsk] at hvm; simp at hvm
      ·simp only [evO,evQ,a1r,B6,Cc] at bg;obtain ⟨v,bg,rfl,-⟩:=bg;simp only [opv] at bg;rw [base x hux m aA] at bg;unfold fldA at bg;split at bg
       ·rename_i hx;simp only [A0] at bg;rw [hvm] at bg; simp at bg
       ·rename_i id0 e0 o0 hf hx;rw [hx] at jl;simp only at jl;simp only [A0] at bg;rw [hvm] at bg;simp only [AV.ref.injEq] at bg;obtain ⟨rfl,-⟩:=bg;split at jl
        ·rename_i hl; simp only [A0] at jl; exact ⟨jl.symm,hl⟩
        ·simp at jl
       ·simp at bg
     ·simp at jl
    ·simp at jl
   ·simp at jl
 have growStep:∀ m,m<ops.size->(sts m).S.length<=(sts (m+1)).S.length:=by
   intro m hlt;have ho:=Ei hlt;rcases d9 m _ ho with ⟨-,-,e⟩|⟨-,s1,bg,mc,e⟩
   ·rw [e];exact Ya2c
   ·rw [e];by_cases hw:wrS (ops[m]'hlt)=true
    ·have grC:∀ c,(ops[m]'hlt).op=.call c->(∀ b,c.callee≠.builtin b)->(sts m).S.length<=s1.S.length:=fun c h1 h2=>by
      rcases Tt hi h1 h2 bg mc with h|⟨-,h⟩
      ·rw [h];exact Ya2c
      ·exact h
     unfold wrS at hw;unfold evO at bg;split at bg
     ·rename_i h'; rw [h'] at hw; simp at hw
     ·simp only [B6,Cc] at bg;obtain ⟨S',ah,-,rfl⟩:=bg;unfold stA at ah;split at ah
      ·split at ah
       ·split at ah
        ·split at ah
         ·simp only [A0] at ah; subst ah; simp [Am]
         ·simp at ah
        ·simp at ah
       ·simp at ah
      ·simp at ah
     ·exact Ya1y
     ·exact Ya1y
     ·rename_i t l c h';rw [h'] at hw;have hl:Q5 (ops[m]'hlt) l=false:=by simpa using hw
      simp only [B6,Prod.exists,hl] at bg;obtain ⟨l',sz,cs,-,hh⟩:=bg;rw [if_neg (by simp)] at hh;simp only [Cc] at hh;obtain ⟨-,rfl⟩:=hh;simp
     ·rename_i c h';rw [h'] at hw;simp only at hw;cases ak:c.callee with
      | builtin b =>
       rw [ak] at hw;cases b <;> simp at hw
       ·simp only [ak] at bg;split at bg
        ·rename_i x y t t' iu ht;rw [if_pos hw] at bg;split at bg
         ·simp only [B6,Cc,Prod.exists] at bg;obtain ⟨u,S',n',bp,-,rfl⟩:=bg;exact Am5 bp
         ·simp at bg
        ·simp at bg
       simp only [ak] at bg;split at bg
       ·simp only [B6,Cc,Prod.exists] at bg;obtain ⟨mm,S',hcp,-,rfl⟩:=bg;rw [Ane hcp];exact Ya2c
       ·simp at bg
      | value x=>exact grC c h' (fun b hb=>eA)
      | invoke _ _=>exact grC c h' (fun b hb=>eA)
     ·rename_i h1 h2 h3 h4 h5 h6;split at hw
      ·exact absurd cN (h2 _ _ _)
      ·exact absurd cN (h3 _)
      ·exact absurd cN (h4 _ _)
      ·exact absurd cN (h5 _ _ _)
      ·exact absurd cN (h6 _)
      ·simp at hw
    ·have:=(Qt hi (hop m _ ho).1 bg).2.1 (by simpa using hw);rw [this.1];exact Ya2c
 have growS2:∀ k i,i+k<=ops.size->(sts i).S.length<=(sts (i+k)).S.length:=by
  intro k;induction k with
  | zero=>intro i _; exact Cb _
  | succ k ih=>intro i hle; exact Fv (ih i aA) (growStep (i+k) aA)
 have growS:∀ m,m<=ops.size->st.S.length<=(sts m).S.length:=fun m hm=>by
  have:=growS2 m 0 aA;rw [ly,Fo] at this; exact this
 have mkStep:∀ k pk id,ops[k]?=some pk->Ag6 pk=true->id<(sts k).S.length->nth (sts (k+1)).S id=nth (sts k).S id:=by
  intro k pk id hk j2 hid;rcases d9 k pk hk with ⟨-,-,e⟩|⟨-,s1,bg,-,e⟩
  ·rw [e]
  ·rw [e];unfold evO at bg;unfold Ag6 at j2;split at j2
   ·rename_i t' ni;exact Yah
   ·rename_i t' x' ni;exact Yah
   ·exact Yan
   ·simp at j2
 have apartStep:∀ i o k pk t q id ep off,ops[i]?=some o->ops[k]?=some pk->o.op=.load t (.tmp q)->getT (sts i).T q=.ref id ep off->Lq st ops i o pk=true->wrS pk=true->nth (sts (k+1)).S id=nth (sts k).S id:=by
  intro i o k pk t q id ep off ho hk t6 hv bp n0;have hkl:=(Ci.1 hk).1;unfold Lq at bp;cases hb:T6 st ops i o with
  | none=>rw [hb] at bp; simp at bp
  | some b =>
   obtain ⟨rfl,dt⟩:=ldB i o t q id ep off b ho t6 hb hv;rw [hb] at bp;simp only at bp;have f8:=growS k aA;rcases d9 k pk hk with ⟨-,-,e⟩|⟨-,s1,bg,mc,e⟩
   ·rw [e]
   ·rw [e];have apC:∀ c,pk.op=.call c->(∀ b,c.callee≠.builtin b)->xOp pk=false->nth s1.S id=nth (sts k).S id:=fun c h1 h2 h3=>by
     rcases Tt hi h1 h2 bg mc with h|⟨h,-⟩
     ·rw [h]
     ·rw [h3] at h; simp at h
    unfold evO at bg;split at bp
    ·rename_i t' q' x' ni;simp only [Cf] at bp;obtain ⟨hu,hne⟩:=bp;simp only [ni,B6,Cc] at bg;obtain ⟨S',ah,-,rfl⟩:=bg;have hq:getT (sts k).T q'=getT st.T q':=text2 k aA q' fun j hj hd=>by
      have:=Cz.1 hu j aB;rw [hd] at this; simp at this
     simp only [opv] at ah;rw [hq] at ah;split at hne
     ·rename_i id' e' o' hx;rw [hx] at ah;simp only [decide_eq_true_eq] at hne;exact Aip ah (fun h=>hne h.symm)
     ·simp at hne
    ·rename_i t' ni;exact Yah
    ·rename_i t' x' ni;exact Yah
    ·exact Yan
    ·rename_i c ni;split at bp
     ·rename_i g ak;exact apC c ni (fun b hb=>eA) (by simpa [xOp,ni,Aaq,ak] using bp)
     ·rename_i x hx ak;refine apC c ni (fun b hb=>eA) ?_;unfold xOp Aaq;rw [ni];simp only [ak];simpa using bp
     ·simp at bp
    ·simp at bp
 have constU:∀ (p:List Ent->Prop) k i,i+k<=ops.size->(∀ j pj,i<=j->j<i+k->ops[j]?=some pj->wrS pj=true->p (sts j).S->p (sts (j+1)).S)->p (sts i).S->p (sts (i+k)).S:=by
  intro p k;induction k with
  | zero=>intro i _ _ h; exact h
  | succ k ih =>
   intro i hle hw h;have ho:=Ei (show i+k<ops.size by omega);have h3:=ih i aA (fun j pj a b=>hw j pj a aA) h;show p (sts (i+k+1)).S;by_cases n0:wrS (ops[i+k]' aA)=true
   ·exact hw (i+k) _ aA aA ho n0 h3
   ·rw [((stepT (i+k) _ ho).2.1 (by simpa using n0)).1]; exact h3
 have constD:∀ (p:List Ent->Prop) k i,i+k<=ops.size->(∀ j pj,i<=j->j<i+k->ops[j]?=some pj->wrS pj=true->p (sts (j+1)).S->p (sts j).S)->p (sts (i+k)).S->p (sts i).S:=by
  intro p k;induction k with
  | zero=>intro i _ _ h; exact h
  | succ k ih =>
   intro i hle hw h;have ho:=Ei (show i+k<ops.size by omega);refine ih i aA (fun j pj a b=>hw j pj a aA) ?_;have h':p (sts (i+k+1)).S:=h;by_cases n0:wrS (ops[i+k]' aA)=true
   ·exact hw (i+k) _ aA aA ho n0 h'
   ·rw [((stepT (i+k) _ ho).2.1 (by simpa using n0)).1] at h'; exact h'
 have textKeep:∀ k i q,i+k<=ops.size->(∀ j,i<=j->j<i+k->Bu ops j≠some q)->getT (sts (i+k)).T q=getT (sts i).T q:=by
  intro k;induction k with
  | zero=>intro i q _ _; rfl
  | succ k ih =>
   intro i q hle hw;have ho:=Ei (show i+k<ops.size by omega);rw [<- ih i q aA fun j a b=>hw j a aA];show getT (sts (i+k+1)).T q=_;rw [(stepT (i+k) _ ho).1];have hne:(ops[i+k]' aA).dst≠some q:=fun e=>hw (i+k) aA aA Za3q;cases hd:(ops[i+k]' aA).dst with
   | none=>rfl
   | some d =>
    simp only [putT];exact Bx (fun e=>hne (by rw [hd,e]))
 have lkStep:∀ k pk,ops[k]?=some pk->lkOp pk=true->Vh (sts k).S (sts (k+1)).S:=by
  intro k pk hk hl;rcases d9 k pk hk with ⟨-,-,e⟩|⟨-,s1,bg,mc,e⟩
  ·rw [e]; exact ⟨rfl,fun _=>.inl rfl⟩
  ·rw [e];obtain ⟨hd,hx⟩:=lk_x hl;exact (Aft mc hd hx).1 hl
 have fin:∀ {listed:Array Bool} {s:St},DInv ops st sts val listed s->(∀ j,j<ops.size->listed.getD j false=true)->s=st':=by
  intro listed s hD hl;have eT:s.T=st'.T:=by
   refine Abu (by rw [hD.lenT,<- r7,textLen _ (Cb _)]) fun t=>?_;rw [<- r7];by_cases hx:∃ j,Bu ops j=some t
   ·obtain ⟨j,hj⟩:=hx;obtain ⟨o,ho,-⟩:=x7 hj;have hlt:=(Ci.1 ho).1;rw [hD.t1 j t (hl j hlt) hj (fun e he=>hl e (Ri he).1),text1 _ (Cb _) j t hlt hj]
   ·rw [hD.t2 t fun j _ hj=>hx ⟨j,hj⟩,text2 _ (Cb _) t fun j _ hj=>hx ⟨j,hj⟩]
  obtain ⟨c,cl,hc2,hc3⟩:=hD.cS;obtain ⟨c',hc4,hc5⟩:=hD.cT;have e1:c=ops.size:=by
   rcases Ic c ops.size with h|h
   ·have:=(cl.2.2 h).2; rw [hl c h] at this; simp at this
   ·have:=cl.1; omega
  have e2:c'=ops.size:=by
   rcases Ic c' ops.size with h|h
   ·have:=(hc4.2.2 h).2; rw [hl c' h] at this; simp at this
   ·have:=hc4.1; omega
  subst e1;rw [e2] at hc5;rw [r7] at hc2 hc3 hc5;cases s; cases st';simp_all
 have none_ready:∀ {listed:Array Bool} {s:St},DInv ops st sts val listed s->Region.ready .any ops listed=[]->∀ j,j<ops.size->listed.getD j false=true:=by
  intro listed s hD c8 j;induction j using Ow with
  | _ j ihj =>
   intro hj;cases hl:listed.getD j false with
   | true=>rfl
   | false =>
    exfalso;have ho:ops[j]?=some (ops[j]'hj):=Ei hj;have:j ∈ Region.ready .any ops listed:=by
     apply mem_ready.2;refine ⟨?_,_,ho,fun e he hb=>?_⟩
     ·have io:j<listed.size:=by rw [hD.len]; exact hj
      simpa [Ou,io] using hl
     ·have dx:e.on ∈ depsOf ops j:=by
       exact Ya20
      have:=(hop j _ ho).2.1 _ dx;exact ihj _ this aA
    rw [c8] at this; simp at this
 have step:∀ {listed:Array Bool} {s:St},DInv ops st sts val listed s->∀ i ∈ Region.ready .any ops listed,(∀ e,D4 ops e i=true->listed.getD e false=true)->(∀ e,D4 ops i e=true->listed.getD e false=false)->∃ o,ops[i]?=some o/\listed.getD i false=false /\
   ∃ b s2,Hf ops.toList s.T o=some b/\(b=true->evO P call o s=some (val i,s2))/\(b=false->val i=.prim undef/\s2=s)/\s2.T=s.T/\DInv ops st sts val (listed.setIfInBounds i true) { s2 with T:=putT s2.T o.dst (val i) }:=by
  intro listed s hD i dd cj bc;obtain ⟨h0,o,ho,j4⟩:=Eb dd;obtain ⟨md,bj⟩:=Ew h0;rw [hD.len] at bj;refine ⟨o,ho,md,?_⟩;have fg:=B8 hD.closed j4;have r8:∀ j,listed.getD j false=true->i ∈ reachAt ops j->False:=fun j hj dc=>by
   have:=B8 hD.closed (hD.closed j hj) i dc;exact Ya2o
  obtain ⟨zp,a1s,hgd,gn,uw⟩:=hop i o ho;have agree:∀ t,(∀ j,Bu ops j=some t->j=i\/j ∈ reachAt ops i\/i ∈ reachAt ops j)->getT s.T t=getT (sts i).T t:=by
   intro t ht;by_cases hx:∃ j,listed.getD j false=true/\Bu ops j=some t
   ·obtain ⟨j,hj,r9⟩:=hx;have hji:j<i:=by
     rcases ht j r9 with e|e|e
     ·subst e; rw [md] at hj; simp at hj
     ·have:∀ e ∈ reachAt ops i,e<i:=by
       unfold reachAt;have key:∀ (l:List Nat) (s:List Nat),(∀ e ∈ s,e<i)->∀ e ∈ l.foldl (fun s j=>if s.contains j then depsOf ops j++s else s) s,e<i:=by
        intro l;induction l with
        | nil=>intro s hs; exact hs
        | cons j l ih =>
         intro s hs;simp only [Ov];apply ih;split
         ·rename_i hj;intro e he;rcases Cr.1 he with h|h
          ·have a08:=hs j bI;cases hx:ops[j]? with
           | none=>unfold depsOf at h; rw [hx] at h; simp at h
           | some p=>have:=(hop j p hx).2.1 e h; omega
          ·exact hs e h
         ·exact hs
       exact key _ _ a1s
      exact this j e
     ·exact (r8 j hj e).elim
    rw [hD.t1 j t hj r9 (fun e he=>?_),text1 i aA j t hji r9];by_cases mb:i=e
    ·subst mb;have:=bc j he; rw [hj] at this; simp at this
    ·rcases ht j r9 with q|q|q
     ·omega
     ·exact fg e ((N0 (k:=i) he bj mb aA).2 q)
     ·exact (r8 j hj q).elim
   ·rw [hD.t2 t fun j hj r9=>hx ⟨j,hj,r9⟩,text2 i aA t fun j hj r9=>?_];rcases ht j r9 with e|e|e
    ·omega
    ·exact hx ⟨j,fg j e,r9⟩
    ·have:i<j:=by
      have key:∀ (l:List Nat) (s:List Nat),(∀ e ∈ s,e<j)->∀ e ∈ l.foldl (fun s j=>if s.contains j then depsOf ops j++s else s) s,e<j:=by
       intro l;induction l with
       | nil=>intro s hs; exact hs
       | cons k l ih =>
        intro s hs;simp only [Ov];apply ih;split
        ·rename_i hk;intro e he;rcases Cr.1 he with h|h
         ·have hklt:=hs k (by simpa using hk);cases hx:ops[k]? with
          | none=>unfold depsOf at h; rw [hx] at h; simp at h
          | some p=>have:=(hop k p hx).2.1 e h; omega
         ·exact hs e h
        ·exact hs
      obtain ⟨p,hp,-⟩:=x7 r9;exact key _ _ (hop j p hp).2.1 i e
     omega
  have agreeO:∀ x ∈ o.op.operands,opv s.T x=opv (sts i).T x:=by
   intro x hx;cases x with
   | tmp t=>exact agree t (uw t hx)
   | _=>rfl
  have agreeG:Hf ops.toList s.T o=Hf ops.toList (sts i).T o:=by
   unfold Hf;cases hg:o.guard with
   | none=>rfl
   | some gw =>
    obtain ⟨g,w⟩:=gw;have hgm:=hgd g w hg;simp only;cases hgb:(nth ops.toList g).bind (·.dst) with
    | none=>rfl
    | some d =>
     have d8:Bu ops g=some d:=by unfold Bu; rw [Ae] at hgb; simpa using hgb
     have:getT s.T d=getT (sts i).T d:=agree d fun j hj=>by
      have:=jo hj d8;subst this;right; left;have key:∀ (l:List Nat) (s:List Nat) (x:Nat),x ∈ s->x ∈ l.foldl (fun s j=>if s.contains j then depsOf ops j++s else s) s:=by
       intro l;induction l with
       | nil=>intro s x hs; exact hs
       | cons k l ih =>
        intro s x hs;simp only [Ov];apply ih;split
        ·exact List.mem_append_right _ hs
        ·exact hs
      exact key _ _ _ hgm
     simp only [this]
  have confl:∀ j p,ops[j]?=some p->conf p o=true->conf o p=true->j≠i->(listed.getD j false=true↔j<i):=by
   intro j p hp h1 h2 hne;rcases Nat.lt_or_gt_of_ne hne with hlt|u5
   ·exact ⟨fun _=>hlt,fun _=>((bm i o ho).2 j p hlt hp h1).elim (fg j) (cj j)⟩
   ·exact ⟨fun hl=>((bm j p hp).2 i o u5 ho h2).elim (fun q=>(r8 j hl q).elim) (fun q=>by have:=bc j q; rw [hl] at this; simp at this),fun h=>aA⟩
  have curS:(wrS o=true\/rdA o=true)->s.S=(sts i).S/\s.n=(sts i).n/\(wrS o=true->Aeo (wS ops) listed ops.size i):=by
   intro dp;obtain ⟨c,cl,hc2,hc3⟩:=hD.cS;have hw:∀ j,j≠i->wS ops j=true->(listed.getD j false=true↔j<i):=by
    intro j hne ck;unfold wS at ck;exact Ya00
   rcases O0 c i with hlt|heq|u5
   ·exact Ya2b
   ·subst heq; exact ⟨hc2,hc3,fun _=>cl⟩
   ·have xj:wrS o=false:=by
     cases cn:wrS o with
     | false=>rfl
     | true =>
      have:=cl.2.1 i u5 (by unfold wS; rw [ho]; exact cn);exact Ya2o
    have sy:∀ j,i<=j->j<i+(c - i)->wS ops j=false:=by
     intro j h1 h2;by_cases e:j=i
     ·subst e; unfold wS; rw [ho]; exact xj
     ·cases ck:wS ops j with
      | false=>rfl
      | true =>
       have h3:=cl.2.1 j aA ck;have:=(hw j e ck).1 h3;omega
    have:=constS (c - i) i Za4e sy;rw [show i+(c - i)=c from by omega] at this;exact ⟨by rw [hc2,this.1],by rw [hc3,this.2],fun h=>by rw [xj] at h; simp at h⟩
  have curL:∀ t x V s1,o.op=.load t x->ldA P t (opv (sts i).T x) (sts i).S=some V->val i=V->chkO P ops.toList o (sts i) V s1=true->ldA P t (opv (sts i).T x) s.S=ldA P t (opv (sts i).T x) (sts i).S:=by
   intro t x V s1 t6 hV iw mc;by_cases hrf:∃ id ep off,opv (sts i).T x=.ref id ep off;case neg=>exact Adj fun id ep off h=>hrf ⟨id,ep,off,h⟩
   obtain ⟨id,ep,off,hv⟩:=hrf;rw [hv] at hV ⊢;rw [hV];have dt:id<(sts i).S.length:=by
    unfold ldA at hV;split at hV
    ·simp only at hV;split at hV
     ·rename_i cs he;obtain ⟨e,h1,-⟩:=Dq he;exact Bb h1
     ·simp at hV
    ·simp at hV
   cases x with
   | tmp q =>
    simp only [opv] at hv;have u0:rdS o=true:=by unfold rdS; rw [t6]
    have xj:wrS o=false:=by unfold wrS; rw [t6]
    have sa:lkOp o=false:=by unfold lkOp; rw [t6]; simp
    have a09:isLd o=true:=by unfold isLd; rw [t6]
    obtain ⟨c,cl,hc2,-⟩:=hD.cS;have nord:∀ pk,wrS pk=true->rdS pk=false:=by
     intro pk hw;unfold wrS at hw;unfold rdS;split at hw <;> rename_i h' <;> first|(rw [h'])|simp at hw
    rw [hc2];rcases Ic c i with hlt|lu
    ·refine constD (fun S=>ldA P t (.ref id ep off) S=some V) (i - c) c aA (fun k pk h1 h2 hk n0 hg=>?_) (by rw [show c+(i - c)=i from by omega]; exact hV);have o6:k<i:=aA
     cases pw:lkOp pk with
     | true =>
      have hgo:=lkStep k pk hk pw;exact Abs (Ade hgo) hg (Al3 mc (lk_x pw).1 a09)
     | false =>
      rcases dp i o ho k pk o6 hk (by simp [n0,u0,pw]) with h3|h3
      ·exfalso;have sb:=fg k h3;have xk:=(cl.2.2 aA).2;by_cases mc:k=c
       ·subst mc; rw [sb] at xk; simp at xk
       ·have hwc:=(cl.2.2 aA).1;unfold wS at hwc;cases hpc:ops[c]? with
        | none=>rw [hpc] at hwc; simp at hwc
        | some pc =>
         rw [hpc] at hwc;rcases (bm k pk hk).2 c pc aA hpc (by simp [conf,hwc,n0]) with hh|hh
         ·have:=B8 hD.closed (hD.closed k sb) c hh;rw [xk] at this; simp at this
         ·have:=fg c ((N0 (k:=i) hh bj aA aA).2 h3);rw [xk] at this; simp at this
      ·rw [if_pos u0] at h3;rw [<- P1 (apartStep i o k pk t q id ep off ho hk t6 hv h3 n0)]; exact hg
    ·have:=constU (fun S=>ldA P t (.ref id ep off) S=some V) (c - i) i Za4e (fun k pk h1 h2 hk n0 hg=>?_) hV
     ·rwa [show i+(c - i)=c from by omega] at this
     have a1t:=(Ci.1 hk).1;have o6:k≠i:=fun e=>by
      subst e;rw [ho] at hk;simp only [A0] at hk;subst hk;rw [xj] at n0; simp at n0
     have sb:=cl.2.1 k aA (by unfold wS; rw [hk]; exact n0);cases pw:lkOp pk with
     | true=>exact Abs (lkStep k pk hk pw) hg (Al3 mc (lk_x pw).1 a09)
     | false =>
      have hnr:i ∉ reachAt ops k:=fun h3=>r8 k sb h3;rcases dp k pk hk i o aA ho (by simp [n0,u0,pw]) with h3|h3
      ·exact (hnr h3).elim
      ·rw [if_neg (by rw [nord pk n0]; simp)] at h3;simp only [Fz] at h3;rcases h3 with (h3|h3)|h3
       ·rw [P1 (mkStep k pk id hk h3 (Fi dt ?_))]
        ·exact hg
        ·have:=growS2 (k - i) i aA;rwa [show i+(k - i)=k from by omega] at this
       ·rcases d9 k pk hk with ⟨-,-,e⟩|⟨-,s1',bg,a1u,e⟩
        ·rw [e]; exact hg
        ·rw [e];simp only [Cf] at h3;obtain ⟨h3,g1⟩:=h3;obtain ⟨hd1,y6⟩:=an_x h3;have g3:=((Aft a1u hd1 y6).2 h3).2 g1;obtain ⟨d0,cw⟩:=O2.1 g1;have px:Bu ops k=pk.dst:=by unfold Bu; rw [hk]; rfl
         have a1v:=Ado a1t px (fun j hj r9=>jo (by rw [r9,cw]) (by rw [px,cw])) aA ho t6 hnr;obtain ⟨f1,d,f2,f3,f4⟩:=g3 _ a1v;simp only [Aha] at f1 f2 f4;have hdi:Bu ops i=some d:=by unfold Bu; rw [ho]; exact f2
         rw [text1 k aA i d aA hdi,if_pos (by rw [textLen k aA] at f3; exact f3),iw] at f4;simp only [opv] at f4;have hq:getT (sts k).T q=getT (sts i).T q:=by
          have:=textKeep (k - i) i q aA fun j a b r9=>by
           have:=Cz.1 f1 j aB;rw [r9] at this;simp at this; omega
          rwa [show i+(k - i)=k from by omega] at this
         rw [hq,hv] at f4;exact f4
       ·rw [P1 (apartStep i o k pk t q id ep off ho hk t6 hv h3 n0)]; exact hg
   | const v=>simp only [opv] at hv; unfold cst at hv; split at hv; (· simp at hv); (· unfold cst1 at hv; split at hv <;> simp at hv)
   | global g=>simp [opv] at hv
   | func f=>simp [opv] at hv
  have curT:(wrT o=true\/rdA o=true)->s.tk=(sts i).tk/\(wrT o=true->Aeo (wT ops) listed ops.size i):=by
   intro dp;obtain ⟨c,cl,hc2⟩:=hD.cT;have hw:∀ j,j≠i->wT ops j=true->(listed.getD j false=true↔j<i):=by
    intro j hne ck;unfold wT at ck;exact Ya00
   rcases O0 c i with hlt|heq|u5
   ·exact Ya2b
   ·subst heq; exact ⟨hc2,fun _=>cl⟩
   ·have xj:wrT o=false:=by
     cases cn:wrT o with
     | false=>rfl
     | true =>
      have:=cl.2.1 i u5 (by unfold wT; rw [ho]; exact cn);exact Ya2o
    have sy:∀ j,i<=j->j<i+(c - i)->wT ops j=false:=by
     intro j h1 h2;by_cases e:j=i
     ·subst e; unfold wT; rw [ho]; exact xj
     ·cases ck:wT ops j with
      | false=>rfl
      | true =>
       have h3:=cl.2.1 j aA ck;have:=(hw j e ck).1 h3;omega
    have:=constT (c - i) i Za4e sy;rw [show i+(c - i)=c from by omega] at this;exact ⟨by rw [hc2,this],fun h=>by rw [xj] at h; simp at h⟩
  obtain ⟨st1,st2,st3⟩:=stepT i o ho;have fromS:∀ {s2:St},s2.T=s.T->(wrS o=true->s2.S=(sts (i+1)).S/\s2.n=(sts (i+1)).n)->(wrS o=false->s2.S=s.S/\s2.n=s.n)->(wrT o=true->s2.tk=(sts (i+1)).tk)->(wrT o=false->s2.tk=s.tk) ->
    DInv ops st sts val (listed.setIfInBounds i true) { s2 with T:=putT s2.T o.dst (val i) }:=by
   intro s2 eT k1 k2 k3 k4;have ao:∀ j,(listed.setIfInBounds i true).getD j false=true↔j=i\/listed.getD j false=true:=by
    intro j;by_cases e:i=j
    ·subst e;simp [H7 (l:=listed) (b:=true) (d:=false) (show i<listed.size by rw [hD.len]; exact bj)]
    ·exact Ya2y
   refine ⟨by simp [hD.len],fun j hj e he=>(ao e).2 (.inr ?_),by simp only [Hp,eT,hD.lenT],fun j t hj hd hnp=>?_,fun t ht=>?_,?_,?_⟩
   ·exact Ya0q
   ·simp only [eT];rcases (ao j).1 hj with rfl|dy
    ·have d8:o.dst=some t:=Za26
     rw [d8];simp only [putT];by_cases g8:t<st.T.length
     ·rw [if_pos g8];exact G8 (by rw [hD.lenT]; exact g8)
     ·rw [if_neg g8];refine Ms ?_;rw [Am,hD.lenT]; exact Ss g8
    ·have hne:o.dst≠some t:=fun x=>by
      have:Bu ops i=some t:=dD
      have:=jo this hd;subst this;rw [md] at dy; simp at dy
     have a1a:∀ e,D4 ops e j=true->listed.getD e false=true:=fun e he=>((ao e).1 (hnp e he)).resolve_left fun x=>by
      subst x;have:=bc j he; rw [dy] at this; simp at this
     cases d8:o.dst with
     | none=>simp only [putT]; exact hD.t1 j t dy hd a1a
     | some d =>
      simp only [putT];rw [Bx (fun x=>hne cO)];exact hD.t1 j t dy hd a1a
   ·simp only [eT];have hne:o.dst≠some t:=fun x=>ht i ((ao i).2 (.inl rfl)) dD;exact Ya0a
   ·cases cn:wrS o with
    | false =>
     obtain ⟨c,cl,hc2,hc3⟩:=hD.cS;have s5:c≠i:=fun e=>by
      subst e;have:=(cl.2.2 bj).1;unfold wS at this;exact Ya2z
     refine ⟨c,⟨cl.1,fun j hj hw=>(ao j).2 (.inr (cl.2.1 j hj hw)),fun hlt=>⟨(cl.2.2 hlt).1,?_⟩⟩,by simp only [(k2 cn).1,hc2],by simp only [(k2 cn).2,hc3]⟩;rw [Df (fun e=>s5 e.symm)]; exact (cl.2.2 hlt).2
    | true =>
     have zt:=(curS (.inl cn)).2.2 cn;obtain ⟨c,g1,g2,g3⟩:=La (wS ops) (listed.setIfInBounds i true) ops.size ops.size (i+1) aA aA (fun j hj hw=>(ao j).2 (by
      by_cases e:j=i
      ·exact .inl e
      ·exact .inr (zt.2.1 j aA hw)))
     have sy:∀ j,i+1<=j->j<(i+1)+(c - (i+1))->wS ops j=false:=by
      intro j h1 h2;cases ck:wS ops j with
      | false=>rfl
      | true =>
       have h3:=g3 j h1 aA ck;rcases (ao j).1 h3 with h4|h4
       ·omega
       ·exfalso;unfold wS at ck;exact Ya0w
     have:=constS (c - (i+1)) (i+1) Za4f sy;rw [show i+1+(c - (i+1))=c from by omega] at this;exact ⟨c,g2,by simp only [(k1 cn).1,this.1],by simp only [(k1 cn).2,this.2]⟩
   ·cases cn:wrT o with
    | false =>
     obtain ⟨c,cl,hc2⟩:=hD.cT;have s5:c≠i:=fun e=>by
      subst e;have:=(cl.2.2 bj).1;unfold wT at this;exact Ya2z
     refine ⟨c,⟨cl.1,fun j hj hw=>(ao j).2 (.inr (cl.2.1 j hj hw)),fun hlt=>⟨(cl.2.2 hlt).1,?_⟩⟩,by simp only [k4 cn,hc2]⟩;rw [Df (fun e=>s5 e.symm)]; exact (cl.2.2 hlt).2
    | true =>
     have zt:=(curT (.inl cn)).2 cn;obtain ⟨c,g1,g2,g3⟩:=La (wT ops) (listed.setIfInBounds i true) ops.size ops.size (i+1) aA aA (fun j hj hw=>(ao j).2 (by
      by_cases e:j=i
      ·exact .inl e
      ·exact .inr (zt.2.1 j aA hw)))
     have sy:∀ j,i+1<=j->j<(i+1)+(c - (i+1))->wT ops j=false:=by
      intro j h1 h2;cases ck:wT ops j with
      | false=>rfl
      | true =>
       have h3:=g3 j h1 aA ck;rcases (ao j).1 h3 with h4|h4
       ·omega
       ·exfalso;unfold wT at ck;exact Ya0w
     have:=constT (c - (i+1)) (i+1) Za4f sy;rw [show i+1+(c - (i+1))=c from by omega] at this;exact ⟨c,g2,by simp only [k3 cn,this]⟩
  rcases d9 i o ho with ⟨hw,hv,he⟩|⟨hw,s1,h1,mc,he⟩
  ·refine ⟨false,s,by rw [agreeG]; exact hw,by simp,fun _=>⟨hv,rfl⟩,rfl,fromS rfl (fun cn=>?_) (fun _=>⟨rfl,rfl⟩) (fun cn=>?_) (fun _=>rfl)⟩
   ·rw [he]; exact ⟨(curS (.inl cn)).1,(curS (.inl cn)).2.1⟩
   ·rw [he]; exact (curT (.inl cn)).1
  ·obtain ⟨g1,g2,g3,g4⟩:=Qt hi zp h1;obtain ⟨s2,e1,e2,e3,e4,e5,e6⟩:=g4 s agreeO (fun t x t6=>by
    have x5:=h1;simp only [evO,t6,B6,Cc] at x5;obtain ⟨V,hV,hVv,-⟩:=x5;exact curL t x V s1 t6 hV hVv.symm (by rw [hVv]; exact mc)) (fun cn=>⟨(curS (.inl cn)).1,(curS (.inl cn)).2.1⟩) (fun cn=>(curT (.inl cn)).1) (fun hA=>⟨(curS (.inr hA)).1,(curS (.inr hA)).2.1,(curT (.inr hA)).1⟩)
   refine ⟨true,s2,by rw [agreeG]; exact hw,fun _=>e1,by simp,e2,fromS e2 (fun cn=>?_) e4 (fun cn=>?_) e6⟩
   ·rw [he]; exact e3 cn
   ·rw [he]; exact e5 cn
 have allocStep:∀ {i:Nat} {o:Oper} {t:TypeId},ops[i]?=some o->o.op=.alloc t->o.guard=none->∃ cs,Ar P t=some cs/\val i=.ref (sts i).S.length (sts i).n 0/\(sts (i+1)).S=(sts i).S++[⟨(sts i).n,cs⟩]/\(sts (i+1)).n=(sts i).n+1/\(sts (i+1)).tk=(sts i).tk:=by
  intro i o t ho e hg;rcases d9 i o ho with ⟨hw,-,-⟩|⟨-,s1,h1,-,he⟩
  ·unfold Hf at hw; rw [hg] at hw; simp at hw
  ·simp only [evO,e,B6,Cc] at h1;obtain ⟨cs,h1,h2,rfl⟩:=h1;exact ⟨cs,h1,h2.symm,by rw [he],by rw [he],by rw [he]⟩
 have setq:∀ {listed:Array Bool} {i:Nat},i<listed.size->∀ j,(listed.setIfInBounds i true).getD j false=true↔j=i\/listed.getD j false=true:=by
  intro listed i bj j;by_cases e:i=j
  ·subst e;simp [H7 (l:=listed) (b:=true) (d:=false) bj]
  ·exact Ya2y
 have stepB:∀ {listed:Array Bool} {s:St} {A:Nat} {o:Oper},DInv ops st sts val listed s->A+1 ∈ Region.ready .any ops listed->D4 ops A (A+1)=true->listed.getD A false=false->ops[A+1]?=some o ->
   DInv ops st sts val (listed.setIfInBounds (A+1) true) { s with T:=putT s.T o.dst .bot }:=by
  intro listed s A o hD dd hp hA ho;obtain ⟨h0,o',d7,j4⟩:=Eb dd;rw [ho] at d7;simp only [A0] at d7;subst d7;obtain ⟨md,bj⟩:=Ew h0;have ao:=setq bj;obtain ⟨pA,pB,q1,q2,⟨q3,-⟩,q4,-⟩:=Ho hp;rw [ho] at q2;simp only [A0] at q2;subst q2;have wA:wS ops A=true:=by unfold wS; rw [q1]; exact (Hm q3).1
  refine ⟨by simp [hD.len],fun j hj e he=>(ao e).2 (.inr ?_),by simp only [Hp]; exact hD.lenT,fun j t hj hd hnp=>?_,fun t ht=>?_,?_,?_⟩
  ·exact Ya0q
  ·rcases (ao j).1 hj with rfl|dy
   ·have:=(ao A).1 (hnp A hp);rcases this with h|h
    ·omega
    ·rw [hA] at h; simp at h
   ·have hne:o.dst≠some t:=fun x=>by
     have:Bu ops (A+1)=some t:=dD
     have:=jo this hd;subst this;rw [md] at dy; simp at dy
    have fd:getT s.T t=if t<st.T.length then val j else .bot:=hD.t1 j t dy hd fun e he=>by
     rcases (ao e).1 (hnp e he) with h|h
     ·subst h;exfalso;have nj:=Ez he;have hlt:=Ri he;obtain ⟨p1,p2,r1,r2,⟨r3,-⟩,r4,-⟩:=Ho he;rcases (bm j p2 r2).2 A pA aA q1 (by simp [conf,(Hm r4).1,(Hm q3).1]) with h|h
      ·have:=B8 hD.closed (hD.closed j dy) A h;rw [hA] at this; simp at this
      ·have:=Ez h; omega
     ·exact h
    cases d8:o.dst with
    | none=>simp only [putT]; exact fd
    | some d =>
     simp only [putT];rw [Bx (fun x=>hne cO)];exact fd
  ·have hne:o.dst≠some t:=fun x=>ht (A+1) ((ao _).2 (.inl rfl)) dD;exact Ya0a
  ·obtain ⟨c,cl,hc2,hc3⟩:=hD.cS;have hcA:c<=A:=by
    rcases Ic A c with h|h
    ·have:=cl.2.1 A h wA; rw [hA] at this; simp at this
    ·exact h
   refine ⟨c,⟨cl.1,fun j hj hw=>(ao j).2 (.inr (cl.2.1 j hj hw)),fun hlt=>⟨(cl.2.2 hlt).1,?_⟩⟩,hc2,hc3⟩;rw [Df aA]; exact (cl.2.2 hlt).2
  ·obtain ⟨c,cl,hc2⟩:=hD.cT;have hcB:c≠A+1:=fun e=>by
    subst e;have:=(cl.2.2 (by rw [<- hD.len]; exact bj)).1;unfold wT at this; rw [ho] at this;simp only [(Hm q4).2.2] at this;simp at this
   refine ⟨c,⟨cl.1,fun j hj hw=>(ao j).2 (.inr (cl.2.1 j hj hw)),fun hlt=>⟨(cl.2.2 hlt).1,?_⟩⟩,hc2⟩;rw [Df (fun e=>hcB e.symm)]; exact (cl.2.2 hlt).2
 have stepA:∀ {listed:Array Bool} {s:St} {A:Nat} {oA oB:Oper},DInv ops st sts val listed s->A ∈ Region.ready .any ops listed->D4 ops A (A+1)=true->listed.getD (A+1) false=true->ops[A]?=some oA->ops[A+1]?=some oB ->
   s.S=(sts A).S/\s.n=(sts A).n/\DInv ops st sts val (listed.setIfInBounds A true) { s with T:=putT (putT s.T oA.dst (val A)) oB.dst (val (A+1)),S:=(sts (A+2)).S,n:=(sts (A+2)).n }:=by
  intro listed s A oA oB hD dd hp hB y7 hoB;obtain ⟨h0,o',d7,j4⟩:=Eb dd;rw [y7] at d7;simp only [A0] at d7;subst d7;obtain ⟨md,bj⟩:=Ew h0;have ao:=setq bj;have fg:=B8 hD.closed j4;have xl:=(Ri hp).2;obtain ⟨pA,pB,q1,q2,⟨q3,-⟩,q4,-⟩:=Ho hp;rw [y7] at q1; rw [hoB] at q2;simp only [A0] at q1 q2;subst q1; subst q2;have wA:wS ops A=true:=by unfold wS; rw [y7]; exact (Hm q3).1
  have wB:wS ops (A+1)=true:=by unfold wS; rw [hoB]; exact (Hm q4).1
  have others:∀ j,j≠A->j≠A+1->wS ops j=true->(listed.getD j false=true↔j<A):=by
   intro j hj1 nj ck;unfold wS at ck;cases hpj:ops[j]? with
   | none=>rw [hpj] at ck; simp at ck
   | some p =>
    rw [hpj] at ck;simp only at ck;rcases Nat.lt_or_gt_of_ne hj1 with hlt|u5
    ·refine ⟨fun _=>hlt,fun _=>?_⟩;rcases (bm (A+1) _ hoB).2 j p aA hpj (by simp [conf,ck,(Hm q4).1]) with h|h
     ·exact B8 hD.closed (hD.closed _ hB) j h
     ·have:=Ez h; omega
    ·refine ⟨fun hl=>?_,fun h=>aA⟩;exfalso;rcases (bm j p hpj).2 A _ aA y7 (by simp [conf,ck,(Hm q3).1]) with h|h
     ·have:=B8 hD.closed (hD.closed _ hl) A h;exact Ya2o
     ·have:=Ez h; omega
  obtain ⟨c,cl,hc2,hc3⟩:=hD.cS;have hcA:c=A:=by
   rcases O0 c A with h|h|h
   ·have h1:=cl.2.2 aA;have:=(others c aA aA h1.1).2 h;rw [h1.2] at this; simp at this
   ·exact h
   ·have:=cl.2.1 A h wA; rw [md] at this; simp at this
  subst hcA;refine ⟨hc2,hc3,⟨by simp [hD.len],fun j hj e he=>(ao e).2 (.inr ?_),by simp only [Hp]; exact hD.lenT,fun j t hj hd hnp=>?_,fun t ht=>?_,?_,?_⟩⟩
  ·exact Ya0q
  ·simp only;have putV:∀ {T:List AV} {o:Oper} {k:Nat} {v:AV},T.length=st.T.length->ops[k]?=some o->(Bu ops k=some t->getT (putT T o.dst v) t=if t<st.T.length then v else .bot)/\(Bu ops k≠some t->getT (putT T o.dst v) t=getT T t):=by
    intro T o k v hl hk;refine ⟨fun e=>?_,fun e=>?_⟩
    ·have d8:o.dst=some t:=by unfold Bu at e; rw [hk] at e; simpa using e
     rw [d8];simp only [putT];by_cases g8:t<st.T.length
     ·rw [if_pos g8]; exact G8 (by rw [hl]; exact g8)
     ·rw [if_neg g8]; exact Ms (by rw [Am,hl]; exact Ss g8)
    ·have hne:o.dst≠some t:=fun x=>e (by unfold Bu; rw [hk]; simpa using x);exact Ya1i
   have hl1:(putT s.T oA.dst (val c)).length=st.T.length:=by rw [Hp]; exact hD.lenT
   by_cases ejB:j=c+1
   ·subst ejB; exact (putV hl1 hoB).1 hd
   ·rw [(putV hl1 hoB).2 fun x=>ejB (jo hd x)];by_cases ejA:j=c
    ·subst ejA; exact (putV hD.lenT y7).1 hd
    ·rw [(putV hD.lenT y7).2 fun x=>ejA (jo hd x)];have dy:=((ao j).1 hj).resolve_left ejA;refine hD.t1 j t dy hd fun e he=>((ao e).1 (hnp e he)).resolve_left fun x=>?_;subst x;have:=Ez he; omega
  ·simp only;have a1w:oA.dst≠some t:=fun x=>ht c ((ao _).2 (.inl rfl)) (by unfold Bu; rw [y7]; simpa using x);have a1x:oB.dst≠some t:=fun x=>ht (c+1) ((ao _).2 (.inr hB)) (by unfold Bu; rw [hoB]; simpa using x);have h3:=hD.t2 t fun j hj=>ht j ((ao j).2 (.inr hj));have one:∀ {T:List AV} {o:Oper} {v:AV},o.dst≠some t->getT (putT T o.dst v) t=getT T t:=by
    intro T o v hne;exact Ya1i
   rw [one a1x,one a1w]; exact h3
  ·obtain ⟨c',g1,g2,g3⟩:=La (wS ops) (listed.setIfInBounds c true) ops.size ops.size (c+2) aA aA (fun j hj hw=>(ao j).2 (by
    by_cases e:j=c
    ·exact .inl e
    ·by_cases e':j=c+1
     ·subst e'; exact .inr hB
     ·exact .inr ((others j e e' hw).2 aA)))
   have sy:∀ j,c+2<=j->j<(c+2)+(c' - (c+2))->wS ops j=false:=by
    intro j h1 h2;cases ck:wS ops j with
    | false=>rfl
    | true =>
     have h3:=g3 j h1 aA ck;rcases (ao j).1 h3 with h4|h4
     ·omega
     ·have:=(others j aA aA ck).1 h4; omega
   have:=constS (c' - (c+2)) (c+2) Za4f sy;rw [show c+2+(c' - (c+2))=c' from by omega] at this;exact ⟨c',g2,this.1.symm,this.2.symm⟩
  ·obtain ⟨c',u6,a1y⟩:=hD.cT;have hcc:c'≠c:=fun e=>by
    subst e;have:=(u6.2.2 aA).1;unfold wT at this; rw [y7] at this;simp only [(Hm q3).2.2] at this;simp at this
   refine ⟨c',⟨u6.1,fun j hj hw=>(ao j).2 (.inr (u6.2.1 j hj hw)),fun hlt=>⟨(u6.2.2 hlt).1,?_⟩⟩,a1y⟩;rw [Df (fun e=>hcc e.symm)]; exact (u6.2.2 hlt).2
 let Norm:Array Bool->Prop:=fun listed=>∀ e j,D4 ops e j=true->listed.getD j false=true->listed.getD e false=true;let Wait:Nat->Array Bool->Cx->Act->Prop:=fun A listed C1 a1=>D4 ops A (A+1)=true/\listed.getD A false=false/\listed.getD (A+1) false=true/\∃ oB tB arr b,ops[A+1]?=some oB/\oB.op=.alloc tB/\Ar P tB=some (arr.toList.map cst1) /\
  (∀ d x,oB.dst=some d->a1.tmps.toList[d]?=some x->x=.pointer (some ⟨b,0,none⟩))/\C1.w.heap[b]?=some (.cells arr tB (0,0))/\C.w.heap.size<=b/\(∀ o,C1.av b o)/\(∀ x o,x≠b->(C1.av x o↔C.av x o))/\Le C { C1 with av:=C.av }
 have clash:∀ {listed:Array Bool} {s:St} {A A':Nat},DInv ops st sts val listed s->D4 ops A (A+1)=true->listed.getD A false=false->listed.getD (A+1) false=true->D4 ops A' (A'+1)=true->listed.getD A' false=false->((∀ e ∈ depsOf ops (A'+1),listed.getD e false=true))->A'=A:=by
  intro listed s A A' hD hp hA hB fc zu zw;obtain ⟨p1,p2,r1,r2,⟨r3,-⟩,r4,-⟩:=Ho hp;obtain ⟨p1',p2',r1',r2',⟨r3',-⟩,r4',-⟩:=Ho fc;rcases O0 A' A with h|h|h
  ·exfalso;rcases (bm (A+1) p2 r2).2 A' p1' aA r1' (by simp [conf,(Hm r3').1,(Hm r4).1]) with h1|h1
   ·have:=B8 hD.closed (hD.closed _ hB) A' h1;rw [zu] at this; simp at this
   ·have:=Ez h1; omega
  ·exact h
  ·exfalso;rcases (bm (A'+1) p2' r2').2 A p1 aA r1 (by simp [conf,(Hm r3).1,(Hm r4').1]) with h1|h1
   ·have:=B8 hD.closed zw A h1;rw [hA] at this; simp at this
   ·have:=Ez h1; omega
 let Held:Array Bool->Cx->Act->Prop:=fun listed C1 a1=>∃ p al t d arr b,lt=some (p,al)/\al.op=.alloc t/\al.dst=some d/\listed.getD p false=true/\Ar P t=some (arr.toList.map cst1) /\
  (∀ x,a1.tmps.toList[d]?=some x->x=.pointer (some ⟨b,0,none⟩))/\C1.w.heap[b]?=some (.cells arr t (0,0))/\C.w.heap.size<=b/\(∀ o,C1.av b o)/\(∀ x o,x≠b->(C1.av x o↔C.av x o))/\Le C { C1 with av:=C.av }
 let Un:Array Bool->Prop:=fun listed=>∀ p al,lt=some (p,al)->listed.getD p false=false;let Hle:Array Bool->Cx->Act->Prop:=fun listed C1 a1=>(Un listed/\((Norm listed/\Le C C1)\/∃ A,Wait A listed C1 a1))\/Held listed C1 a1;have lateLt:∀ p al,lt=some (p,al)->p<ops.size:=by
  intro p al e;subst e;exact (Ci.1 gb.2.2.2.2.2.2.2).1
 have done:∀ {listed:Array Bool} {s:St} {C1:Cx} {a1:Act},Hle listed C1 a1->Rel C1 s a1->DInv ops st sts val listed s->(∀ j,j<ops.size->listed.getD j false=true)->Q .normal a1 C1.w:=by
  intro listed s C1 a1 hle bo hD hl;have e:=fin hD hl;subst e;rcases hle with ⟨md,hle⟩|⟨p,al,t,d,arr,b,e1,e2,e3,hp,hz,hx,hb1,hb2,di,gy,hle⟩
  ·have dz:lt=none:=by
    cases hlt:lt with
    | none=>rfl
    | some q =>
     obtain ⟨p,al⟩:=q;have h1:=md p al hlt;rw [hl p (lateLt p al hlt)] at h1; cases h1
   rcases hle with ⟨-,hle⟩|⟨A,hp,hA,-⟩
   ·refine hQ a1 C1 hle ?_;rw [dz]; exact bo
   ·rw [hl A (Ri hp).1] at hA; simp at hA
  ·have x8:∀ o,¬ C.av b o:=fun o ha=>by have:=hr.sr.avlt b o ha; omega
   have hL0:=Le0.rev (C:=C1) di gy x8 (arr.toList.map cst1);have cz:=SR.rev bo.sr hb1 di gy x8 (fun g a hg=>(hr.sr.glob g a hg).2);have hrv:Ry P lt s={ s with T:=put s.T d (.ref s.S.length s.n 0),S:=s.S++[⟨s.n,arr.toList.map cst1⟩],n:=s.n+1 }:=by
    rw [e1]; simp only [Ry,e2,e3,hz,gH,putT]
   refine hQ a1 (C1.rev C.av b (arr.toList.map cst1)) ?_ ?_
   ·have hl2:=hle;exact Yag
   ·rw [hrv];refine ⟨?_,bo.tk,?_,?_,bo.defers,cz⟩
    ·simp only [Cx.rev,bo.S,bo.n]
    ·simp only [Cx.rev,bo.n]
    ·have aw:VRs (C1.rev C.av b (arr.toList.map cst1)) s.T a1.tmps.toList:=VRs.mono0 hL0 _ _ bo.tmps;refine Kb aw fun x hx'=>?_;rw [hx x hx'];simp only [VR];refine ⟨b,rfl,?_,fun e'' he'' _=>?_⟩
     ·simp only [Cx.rev,bo.n]; omega
     ·simp only [Cx.rev,bo.S,Cn,Ck,C3,if_true]
 have main:∀ (fuel:Nat) (listed:Array Bool) (s:St) (C1:Cx) (a1:Act),D2 listed ops.size<=fuel->Hle listed C1 a1->Rel C1 s a1->DInv ops st sts val listed s->wpAny P .any real Q fuel listed a1 C1.w:=by
  intro fuel;induction fuel with
  | zero =>
   intro listed s C1 a1 a1z hle bo hD;have hl:∀ j,j<ops.size->listed.getD j false=true:=by
    intro j hj;have h0:D2 listed ops.size=0:=aA
    unfold D2 at h0;rw [List.countP_eq_zero] at h0;have:=h0 j bI;exact Ya17
   refine ⟨?_,done hle bo hD hl⟩;cases u0:Region.ready .any real listed with
   | nil=>rfl
   | cons x l =>
    have hx:x ∈ Region.ready .any ops listed:=(gf listed x).1 (by rw [u0]; simp);obtain ⟨h0,o,ho,-⟩:=Eb hx;have md:=(Ew h0).1;rw [hl x (Ci.1 ho).1] at md; simp at md
  | succ fuel ih =>
   intro listed s C1 a1 a1z hle bo hD;refine ⟨fun c8=>done hle bo hD (none_ready hD ?_),fun i a12=>?_⟩
   ·cases u0:Region.ready .any ops listed with
    | nil=>rfl
    | cons x l =>
     have hx:x ∈ Region.ready .any real listed:=(gf listed x).2 (by rw [u0]; simp);rw [c8] at hx; cases hx
   have dd:=(gf listed i).1 a12;obtain ⟨h0,o0,s6,zx⟩:=Eb dd;obtain ⟨py,a13⟩:=Ew h0;have ao:=setq a13;have a2m:=Y1 (Ci.1 s6).1 hD.len py;by_cases hL8:∃ al,lt=some (i,al)
   ·obtain ⟨al,el⟩:=hL8;have u7:=gb;rw [el] at u7;obtain ⟨-,-,-,r1,r2,r3,⟨t,cs,r4,hz⟩,r5⟩:=u7;rw [s6] at r5;simp only [A0] at r5;obtain ⟨d,r3⟩:=O2.1 r3;have hle:Le C C1:=by
     rcases hle with ⟨-,⟨-,h⟩|⟨A,hp,-⟩⟩|⟨p,al',-,-,-,-,e1,-,-,hp,-⟩
     ·exact h
     ·exact (gz _ _ el _ _ hp).elim
     ·rw [el] at e1;simp only [A0,Cc] at e1;obtain ⟨rfl,-⟩:=e1;rw [py] at hp; cases hp
    obtain ⟨o,ho,md,bb,s2,hw,hb1,hb2,hT,hD2⟩:=step hD i dd (fun e he=>(gz _ _ el _ _ he).elim) (fun e he=>(gz _ _ el _ _ he).elim);rw [s6] at ho;simp only [A0] at ho;subst ho;have lz:o0.guard=none:=by rw [r5]; exact r2
    have cw:o0.dst=some d:=by rw [r5]; exact r3
    have hw1:Hf ops.toList s.T o0=some true:=by unfold Hf; rw [lz]
    rw [hw] at hw1;simp only [A0] at hw1;have bg:=hb1 hw1;simp only [evO,r5,evQ,opv,Cu,A0,Cc] at bg;obtain ⟨hv,fh⟩:=bg;subst fh;rw [<- hv,cw] at hD2;obtain ⟨arr,ev,hwp⟩:=Aa3 (P:=P) r4 hz;unfold wpOp;rw [r1];simp only;have hwn:Ol al (yielded real a1.tmps)=true:=by unfold Ol; rw [r2]
    rw [if_pos hwn];refine .inl (hwp C1 a1 _ _ ?_);have hbel:Below C1.w.heap.size C1.w (C1.w.alloc (.cells arr t)):=(Fb _ _).alloc (Cb _) _;have ab:Rel (C1.hid arr t) { s with T:=putT s.T (some d) .bot } (a1.put al.dst (.pointer (some ⟨C1.w.heap.size,0,none⟩))):=by
     rw [r3];exact ⟨bo.S,bo.tk,bo.n,Ut (d:=some d) (VRs.mono0 (Le0.hid arr t) _ _ bo.tmps) bN,bo.defers,bo.sr.hid arr t⟩
    refine ih _ _ (C1.hid arr t) _ aA (.inr ⟨i,al,t,d,arr,C1.w.heap.size,el,r4,r3,(ao _).2 (.inl rfl),by rw [ev]; exact hz,?_,An _ _,hle.size,fun o=>.inr rfl,fun x o hx=>?_,?_⟩) ab hD2
    ·intro x hx;rw [r3] at hx;exact Ya0l
    ·exact Ya2h
    ·exact Ya07
   have co:real[i]?=ops[i]?:=a07 i fun p al e hip=>hL8 ⟨al,by rw [hip]; exact e⟩;have hUn:∀ {L:Array Bool},Un listed->(∀ j,L.getD j false=true->j=i\/listed.getD j false=true)->Un L:=by
    intro L hu hs p al e;cases hx:L.getD p false with
    | false=>rfl
    | true =>
     rcases hs p hx with h|h
     ·exact absurd ⟨al,by rw [<- h]; exact e⟩ hL8
     ·rw [hu p al e] at h; cases h
   have ih':∀ (s:St) (C1:Cx) (a1:Act),Un listed->((Norm (listed.setIfInBounds i true)/\Le C C1)\/∃ A,Wait A (listed.setIfInBounds i true) C1 a1)->Rel C1 s a1->DInv ops st sts val (listed.setIfInBounds i true) s->wpAny P .any real Q fuel (listed.setIfInBounds i true) a1 C1.w :=
    fun s C1 a1 hu h=>ih _ s C1 a1 aA (.inl ⟨hUn hu fun j=>(ao j).1,h⟩)
   by_cases hB:∃ A,D4 ops A i=true/\listed.getD A false=false
   ·obtain ⟨A,hp,hA⟩:=hB;have hi1:=Ez hp;subst hi1;obtain ⟨zy,hle⟩:Un listed/\((Norm listed/\Le C C1)\/∃ A,Wait A listed C1 a1):=hle.resolve_right fun ⟨p,al,_,_,_,_,e1,_⟩=>gz p al e1 _ _ hp;have hN:Norm listed/\Le C C1:=by
     rcases hle with h|⟨A',fc,zu,x9,-⟩
     ·exact h
     ·exfalso;have:=clash hD fc zu x9 hp hA zx;subst this;rw [py] at x9; simp at x9
    obtain ⟨hN,hle⟩:=hN;obtain ⟨pA,pB,q1,q2,⟨q3,-⟩,q4,-⟩:=Ho hp;rw [s6] at q2;simp only [A0] at q2;subst q2;obtain ⟨t,e,hg⟩:=Ns q4;obtain ⟨cs,hz,-⟩:=allocStep s6 e hg;obtain ⟨arr,ev,hwp⟩:=Aa3 (P:=P) e hz;unfold wpOp;rw [co,pu];simp only [s6];have hw:Hf ops.toList s.T o0=some true:=by unfold Hf; rw [hg]
    rw [if_pos (Hr bo.tmps hw)];refine .inl (hwp C1 a1 _ _ ?_);have hbel:Below C1.w.heap.size C1.w (C1.w.alloc (.cells arr t)):=(Fb _ _).alloc (Cb _) _;have ab:Rel (C1.hid arr t) { s with T:=putT s.T o0.dst .bot } (a1.put o0.dst (.pointer (some ⟨C1.w.heap.size,0,none⟩))) :=
     ⟨bo.S,bo.tk,bo.n,Ut (VRs.mono0 (Le0.hid arr t) _ _ bo.tmps) bN,by cases o0.dst <;> exact bo.defers,bo.sr.hid arr t⟩
    refine ih' _ (C1.hid arr t) _ zy (.inr ⟨A,hp,?_,?_,o0,t,arr,C1.w.heap.size,s6,e,by rw [ev]; exact hz,?_,An _ _,hle.size,fun o=>.inr rfl,fun x o hx=>?_,?_⟩) ab (stepB hD dd hp hA s6)
    ·rw [Df aA]; exact hA
    ·exact (ao _).2 (.inl rfl)
    ·intro d x hd hx;rw [hd] at hx;exact Ya0l
    ·exact Ya2h
    ·exact Ya07
   ·by_cases hA2:∃ b,D4 ops i b=true/\listed.getD b false=true
    ·obtain ⟨b',hp,x9⟩:=hA2;have hi1:=Ez hp;subst hi1;obtain ⟨zy,hle⟩:Un listed/\((Norm listed/\Le C C1)\/∃ A,Wait A listed C1 a1):=hle.resolve_right fun ⟨p,al,_,_,_,_,e1,_⟩=>gz p al e1 _ _ hp;rcases hle with ⟨hN,-⟩|⟨A,fc,zu,hB'',oB,tB,arr,b,fw,e1,hz1,y6,hb1,hb2,di,gy,hle⟩
     ·have:=hN _ _ hp x9;rw [py] at this; simp at this
     ·have hAi:i=A:=clash hD fc zu hB'' hp py (hD.closed _ x9);subst hAi;obtain ⟨pA,pB,q1,q2,⟨q3,-⟩,q4,-⟩:=Ho hp;rw [s6] at q1; rw [fw] at q2;simp only [A0] at q1 q2;subst q1; subst q2;obtain ⟨t,e,hg⟩:=Ns q3;obtain ⟨t',e',hg'⟩:=Ns q4;rw [e1] at e';simp only [Op.alloc.injEq] at e';subst e';obtain ⟨g1,g2,g3⟩:=stepA hD dd hp x9 s6 fw;obtain ⟨cs,hz,v1,v2,v3,v4⟩:=allocStep s6 e hg;obtain ⟨cs',lw,v1',v2',v3',v4'⟩:=allocStep fw e1 hg';rw [hz1] at lw;simp only [A0] at lw;subst lw;have cn:Hf ops.toList s.T o0=some true:=by unfold Hf; rw [hg]
      have bg:evO P call o0 s=some (val i,{ s with S:=s.S++[⟨s.n,cs⟩],n:=s.n+1 }):=by
       simp only [evO,e,hz,Cu,v1,g1,g2]
      unfold wpOp;rw [co,pu];simp only [s6];rw [if_pos (Hr bo.tmps cn)];refine .inl (G0 hc bo bg fun u C2 k1 k2 k3 k4 k5 k6=>?_).1;have ab:=bo.put (d:=o0.dst) k1 k2 k3 k4 k5 k6 rfl;have nm:∀ o,¬ C1.Mut b o:=fun o hm=>bo.sr.own b o hm (di o);have u9:C2.w.heap[b]?=some (.cells arr tB (0,0)):=by
       rw [k1.keep b (Ci.1 hb1).1 nm]; exact hb1
      have a1b:∀ o,C2.av b o:=fun o=>Za3w
      have y8:∀ x o,x≠b->(C2.av x o↔C.av x o):=fun x o hx=>Za2u
      have x8:∀ o,¬ C.av b o:=fun o ha=>by have:=hr.sr.avlt b o ha; omega
      have hL0:=Le0.rev (C:=C2) a1b y8 x8 (arr.toList.map cst1);have cz:=SR.rev k2 u9 a1b y8 x8 (fun g a hg=>(hr.sr.glob g a hg).2);have dv:(sts (i+2)).S=s.S++[⟨s.n,cs⟩]++[⟨s.n+1,arr.toList.map cst1⟩]/\(sts (i+2)).n=s.n+1+1:=by
       rw [show i+2=i+1+1 from rfl,v2',v3',v2,v3,g1,g2]; exact ⟨rfl,rfl⟩
      refine ih' _ (C2.rev C.av b (arr.toList.map cst1)) _ zy (.inl ⟨?_,?_⟩) ⟨?_,?_,?_,?_,ab.defers,cz⟩ g3
      ·intro e' j' hp2 dy;rcases (ao j').1 dy with h|h
       ·subst h;have:=Ez hp2;exfalso;subst this;obtain ⟨p1,p2,r1,r2,⟨r3,-⟩,r4,-⟩:=Ho hp2;rcases (bm (e'+1+1) _ fw).2 e' p1 aA r1 (by simp [conf,(Hm r3).1,(Hm q4).1]) with h1|h1
        ·have h2:=(N0 hp2 (Ri hp).2 aA aA).1 h1;have:=B8 hD.closed (hD.closed _ x9) _ h2;rw [py] at this; simp at this
        ·have:=Ez h1; omega
       ·by_cases he:listed.getD e' false=true
        ·exact (ao _).2 (.inr he)
        ·have fh:=Ez hp2;subst fh;have:=clash hD hp py x9 hp2 eY (hD.closed _ h);exact (ao _).2 (.inl this)
      ·have hl2:Le C { C2 with av:=C.av }:=hle.trans ⟨k1.os,k1.tape,k1.output,k1.size,rfl,k1.n,k1.mt,k1.cell,k1.keep,k1.shape,k1.ent,k1.tok⟩;exact Yag
      ·simp only [Cx.rev,dv.1,k3,k5]
      ·exact k4
      ·simp only [Cx.rev,dv.2,k5]
      ·have aw:VRs (C2.rev C.av b (arr.toList.map cst1)) (putT s.T o0.dst (val i)) (a1.put o0.dst u).tmps.toList:=VRs.mono0 hL0 _ _ ab.tmps;simp only;cases hd:oB.dst with
       | none=>exact aw
       | some d =>
        refine Kb aw fun x hx=>?_;have gn:o0.dst≠some d:=fun h=>by
         have h1:Bu ops i=some d:=by unfold Bu; rw [s6]; simpa using h
         have h2:Bu ops (i+1)=some d:=by unfold Bu; rw [fw]; simpa using hd
         have:=jo h1 h2; omega
        have hx':a1.tmps.toList[d]?=some x:=by
         cases cw:o0.dst with
         | none=>rw [cw] at hx; exact hx
         | some d0 =>
          exact Yar
        rw [y6 d x hd hx',v1',v2,v3,g1.symm,g2.symm];simp only [VR];refine ⟨b,rfl,?_,fun e'' he'' _=>?_⟩
        ·simp only [Cx.rev,k5]; omega
        ·simp only [Cx.rev,k3,Cn,Ck,C3,if_true]
    ·have cj:∀ e,D4 ops e i=true->listed.getD e false=true:=fun e he=>by
      cases h:listed.getD e false with
      | true=>rfl
      | false=>exact absurd ⟨e,he,h⟩ hB
     have bc:∀ e,D4 ops i e=true->listed.getD e false=false:=fun e he=>by
      cases h:listed.getD e false with
      | false=>rfl
      | true=>exact absurd ⟨e,he,h⟩ hA2
     obtain ⟨o,ho,md,b,s2,hw,hb1,hb2,hT,hD2⟩:=step hD i dd cj bc;have sc:=Hr bo.tmps hw;have keepW:∀ {C2:Cx} {u:Value},Le C1 C2->((Norm listed/\Le C C1)\/∃ A,Wait A listed C1 a1)->((Norm (listed.setIfInBounds i true)/\Le C C2)\/∃ A,Wait A (listed.setIfInBounds i true) C2 (a1.put o.dst u)):=by
      intro C2 u k1 hle;rcases hle with ⟨hN,hle⟩|⟨A,fc,zu,hB'',oB,tB,arr,b,fw,e1,hz1,y6,hb1,hb2,di,gy,hle⟩
      ·refine .inl ⟨fun e j hp hj=>(ao e).2 ?_,hle.trans k1⟩;rcases (ao j).1 hj with h|h
       ·subst h; exact .inr (cj e hp)
       ·exact .inr (hN e j hp h)
      ·have hiA:i≠A:=fun h=>by
        subst h;have:=bc _ fc; rw [hB''] at this; simp at this
       refine .inr ⟨A,fc,?_,(ao _).2 (.inr hB''),oB,tB,arr,b,fw,e1,hz1,fun d x hd hx=>?_,?_,hb2,fun o=>Za3w,fun x o hx=>Za2u,hle.trans ⟨k1.os,k1.tape,k1.output,k1.size,rfl,k1.n,k1.mt,k1.cell,k1.keep,k1.shape,k1.ent,k1.tok⟩⟩
       ·rw [Df hiA]; exact zu
       ·refine y6 d x hd ?_;have gn:o.dst≠some d:=fun h=>by
         have h1:Bu ops i=some d:=by unfold Bu; rw [ho]; simpa using h
         have h2:Bu ops (A+1)=some d:=by unfold Bu; rw [fw]; simpa using hd
         have:=jo h1 h2;subst this;rw [md] at hB''; simp at hB''
        exact Ya37
       ·exact Ya1e
     have keepH:∀ {C2:Cx} {u:Value},Le C1 C2->Hle listed C1 a1->Hle (listed.setIfInBounds i true) C2 (a1.put o.dst u):=by
      intro C2 u k1 hle;rcases hle with ⟨hu,hle⟩|⟨p,al,t,d,arr,b,e1,e2,e3,hp,hz,y6,hb1,hb2,di,gy,hle⟩
      ·exact .inl ⟨hUn hu fun j=>(ao j).1,keepW k1 hle⟩
      ·refine .inr ⟨p,al,t,d,arr,b,e1,e2,e3,(ao _).2 (.inr hp),hz,fun x hx=>?_,?_,hb2,fun o=>Za3w,fun x o hx=>Za2u,hle.trans ⟨k1.os,k1.tape,k1.output,k1.size,rfl,k1.n,k1.mt,k1.cell,k1.keep,k1.shape,k1.ent,k1.tok⟩⟩
       ·refine y6 x ?_;have gn:o.dst≠some d:=fun h=>by
         have nh:=gb;rw [e1] at nh;have h1:Bu ops i=some d:=by unfold Bu; rw [ho]; simpa using h
         have h2:Bu ops p=some d:=by unfold Bu; rw [nh.2.2.2.2.2.2.2]; simpa using e3
         have:=jo h1 h2;subst this;rw [md] at hp; cases hp
        exact Ya37
       ·exact Ya1e
     unfold wpOp;rw [co,pu];simp only [ho];cases b with
     | false =>
      rw [if_neg (by rw [sc]; simp)];obtain ⟨hv,rfl⟩:=hb2 rfl;refine ih _ _ C1 _ aA (keepH (Le.refl C1) hle) ?_ hD2;rw [hv];exact bo.put (Le.refl C1) bo.sr bo.S bo.tk bo.n bN rfl
     | true =>
      rw [if_pos sc];refine .inl (G0 hc bo (hb1 rfl) fun u C2 k1 k2 k3 k4 k5 k6=>?_).1;exact ih _ _ C2 _ aA (keepH k1 hle) (bo.put k1 k2 k3 k4 k5 k6 hT) hD2
 have hbel:Below C.w.heap.size C.w C.w.drew:=(Fb _ _).drew;rw [hsz];refine main ops.size _ st (C.at C.w.drew) a ?_ (.inl ⟨fun p al _=>by simp [Ou],.inl ⟨fun e j _ hj=>by simp [Ou] at hj,Le.of_below hbel⟩⟩) ⟨hr.S,hr.tk,hr.n,VRs.mono (Le.of_below hbel) _ _ hr.tmps,hr.defers,SR.of_below hr.sr hbel⟩ ⟨by simp,?_,rfl,?_,fun t _=>rfl,?_,?_⟩
 ·unfold D2;exact Fv List.countP_le_length (by simp)
 ·intro j hj; simp [Ou] at hj
 ·intro j t hj; simp [Ou] at hj
 ·obtain ⟨c,h1,h2,h3⟩:=La (wS ops) (Ox ops.size false) ops.size ops.size 0 aA aA (by intro j hj; omega);have sy:∀ j,0<=j->j<0+c->wS ops j=false:=by
   intro j _ hj;cases ck:wS ops j with
   | false=>rfl
   | true =>
    have:=h2.2.1 j aA ck;simp [Ou] at this
  have:=constS c 0 (by have:=h2.1; omega) sy;rw [Fo,ly] at this;exact ⟨c,h2,this.1.symm,this.2.symm⟩
 ·obtain ⟨c,h1,h2,h3⟩:=La (wT ops) (Ox ops.size false) ops.size ops.size 0 aA aA (by intro j hj; omega);have sy:∀ j,0<=j->j<0+c->wT ops j=false:=by
   intro j _ hj;cases ck:wT ops j with
   | false=>rfl
   | true =>
    have:=h2.2.1 j aA ck;simp [Ou] at this
  have:=constT c 0 (by have:=h2.1; omega) sy;rw [Fo,ly] at this;exact ⟨c,h2,this.symm⟩
theorem Xh [Globs] (hm:P.follows .mixedOrders=true):Aar P Bm:=by
 refine ⟨hm,?_⟩;intro call hc real ops lt hlt hi C st st' a Q ae hr h hQ;exact @Vb P (gM (mdOf ops.toList)) hm call (Ajb hc) hi real ops lt hlt C st st' a Q ae (Ao5.2 hr) h (fun a' C' hle dc=>hQ a' C' hle (Ao5.1 dc))
end
end
section
open Go.RowKit
section
variable {P:Program}
def CLe (a b:Bd):Prop:=∀ f args S tk n r,a f args S tk n=some r->b f args S tk n=some r
theorem Abn [Globs] {a b:Bd} (h:CLe a b) {o:Oper} {st:St} {r:AV × St} (he:evO P a o st=some r):evO P b o st=some r:=by
 unfold evO at he ⊢;split <;> simp_all only
 ·rename_i c _;split <;> simp_all only;split <;> simp_all only
  ·rename_i f args ey;simp only [B6] at he ⊢;obtain ⟨x,h1,h2⟩:=he;exact ⟨x,h _ _ _ _ _ _ h1,h2⟩
theorem Bn [G:Globs] {a b:Bd} (h:CLe a b) {all:List Oper} : ∀ {l:List Oper} {st st':St},evOs P a all l st=some st'->evOs P b all l st=some st'
 | [],_,_,he=>he
 | o :: l,st,st',he=>by
  simp only [evOs] at he ⊢;split at he
  ·simp at he
  ·exact Bn h he
  ·split at he
   ·rename_i v s1 ho;rw [Abn h ho];simp only;split at he
    ·rename_i mc;rw [if_pos mc]; exact Bn h he
    ·simp at he
   ·simp at he
theorem CLe.pure [Globs] [Ext P] {M:Md} {a b:Bd} (h:CLe a b):CLe (@Ec (gM M) P _ a) (@Ec (gM M) P _ b):=by
 intro f args S tk n r he;unfold Ec at he ⊢;split at he
 ·rename_i hp; rw [if_pos hp]; exact h _ _ _ _ _ _ he
 ·simp at he
theorem Lh {kp:Bool} {f g:St->Option (Ex × St)} (h:∀ s r,f s=some r->g s=some r):∀ {k m:Nat} {s:St} {r:Ex × St},k<=m->Kh kp f k s=some r->Kh kp g m s=some r
 | 0,_,_,_,_,he=>by simp [Kh] at he
 | k+1,0,_,_,o7,_=>aA
 | k+1,m+1,s,r,o7,he=>by
  simp only [Kh] at he ⊢;split at he
  ·rename_i s1 h1;rw [h _ _ h1];exact Lh h aA he
  ·rename_i hne;rw [h _ _ he];exact Ya1o
theorem B9 [Globs] [Ext P] {a b:Bd} (h:CLe a b) {ok:St->List Oper->Bool} {n m:Nat} (fe:n<=m):∀ (c:Code) (st:St) (r:Ex × St),evC P a ok n c st=some r->evC P b ok m c st=some r
 | .skip,_,_,he=>dZ
 | .region _ ops draw,st,r,he=>by
  simp only [evC] at he ⊢;split at he
  ·rename_i hd;rw [if_pos hd];split at he
   ·rename_i ini o sv;exact Yav
   ·split at he
    ·exact Yav
    ·split at he
     ·rename_i ae;simp only [ae,if_true];simp only [B6] at he ⊢;obtain ⟨x,h1,h2⟩:=he;exact ⟨x,Bn (G:=gM _) h.pure h1,h2⟩
     ·simp at he
  ·rename_i hd;rw [if_neg hd];simp only [B6] at he ⊢;obtain ⟨x,h1,h2⟩:=he;exact ⟨x,Bn h h1,h2⟩
 | .seq x y,st,r,he=>by
  simp only [evC] at he ⊢;split at he
  ·rename_i s1 h1;rw [B9 h fe x st _ h1];exact B9 h fe y s1 r he
  ·rename_i hne;rw [B9 h fe x st _ he];exact Ya1o
 | .cond x y z,st,r,he=>by
  simp only [evC] at he ⊢;split at he
  ·rename_i t ht;split at he
   ·rename_i h1; rw [if_pos h1]; exact B9 h fe y st r he
   ·rename_i h1; rw [if_neg h1]; exact B9 h fe z st r he
  ·simp at he
 | .block id x,st,r,he=>by
  simp only [evC] at he ⊢;split at he
  ·rename_i id' s1 h1;rw [B9 h fe x st _ h1]; exact he
  ·rename_i hne;rw [B9 h fe x st _ he];obtain ⟨ex,s2⟩:=r;cases ex with
   | normal=>rfl
   | exit id=>exact absurd he (hne id s2)
   | ret=>rfl
 | .loop x,st,r,he=>by
  simp only [evC] at he ⊢;exact Lh (fun s r=>B9 h fe x s r) fe he
 | .exit id,_,_,he=>dZ
 | .ret,_,_,he=>dZ
 | .rangeFunc _ _ _ _,_,_,he=>by simp [evC] at he
 | .scope c,st,r,he=>by
  simp only [evC] at he ⊢;exact B9 h fe c st r he
 | .label _,_,_,he=>dZ
 | .goto _,_,_,he=>by simp [evC] at he
 | .refuse _,_,_,he=>by simp [evC] at he
theorem Kn {fn:Func} {x y:Option (Ex × St)} {r:AV × St} (h:∀ z,x=some z->y=some z) (he:outA P fn x=some r):outA P fn y=some r:=by
 match x with
 | none=>simp [outA] at he
 | some z=>rw [h z rfl]; exact he
theorem D1 [Globs] [Ext P] {ok:St->List Oper->Bool} : ∀ {k m:Nat},k<=m->CLe (evF P ok k) (evF P ok m)
 | 0,_,_=>Za2m
 | k+1,0,h=>aA
 | k+1,m+1,h=>by
  have ih:CLe (evF P ok k) (evF P ok m):=D1 aA;intro f args S tk n r he;simp only [evF] at he ⊢;split at he
  ·rename_i gg; rw [if_pos gg]; exact he
  rename_i gg;rw [if_neg gg];split at he
  ·rename_i fn hf;split at he
   ·rename_i c hb;split at he
    ·simp at he
    ·rename_i aq;rw [if_neg aq];split at he
     ·rename_i sw;rw [if_pos sw];exact Ya1p
     rename_i sw;rw [if_neg sw];split at he
     ·rename_i hp;rw [if_pos hp];have one:∀ {as:List AV} {r0:AV},runP P ok (evF P ok k) k fn c as=some r0->runP P ok (evF P ok m) m fn c as=some r0:=by
       intro as r0 hrun;unfold runP at hrun ⊢;split at hrun
       ·rename_i r' s1 ho;rw [Kn (fun z hz=>B9 ih aA c _ z hz) ho];exact hrun
       ·simp at hrun
      split at he
      ·rename_i r' ho;have:(if G6 c=true then runN (runP P ok (evF P ok m) m fn c) (args.map w2) else runP P ok (evF P ok m) m fn c (args.map w2))=some r':=by
        exact Yay
       rw [this]; exact he
      ·simp at he
     ·rename_i hp;rw [if_neg hp];exact Ya1p
   ·simp at he
  ·simp at he
noncomputable def lim {α:Type} (F:Nat->Option α):Option α:=by
 classical
 exact if h:∃ x,∃ k,F k=some x then some h.choose else none
theorem Ahf {α:Type} {F:Nat->Option α} (hm:∀ k m x,k<=m->F k=some x->F m=some x) {x:α} : lim F=some x↔∃ k,F k=some x:=by
 unfold lim;constructor
 ·intro h;split at h
  ·rename_i hx;simp only [A0] at h; subst h;exact hx.choose_spec
  ·simp at h
 ·rintro ⟨k,hk⟩;have hx:∃ x,∃ k,F k=some x:=⟨x,k,hk⟩;rw [dif_pos hx];obtain ⟨m,dx⟩:=hx.choose_spec;have h1:=hm _ _ _ (Wr k m) hk;have h2:=hm _ _ _ (Sw k m) dx;rw [h1] at h2;simp only [A0] at h2;rw [<- h2]
theorem Jw {α:Type} {a b:Option α} (h:∀ x,a=some x↔b=some x):a=b:=by
 cases a with
 | none =>
  cases b with
  | none=>rfl
  | some y=>have:=(h y).2 rfl; simp at this
 | some x=>exact ((h x).1 rfl).symm
noncomputable def cL [Globs] (P:Program) [Ext P]:Bd:=fun f args S tk n=>lim fun k=>evF P Bm k f args S tk n
noncomputable def eL [Globs] (P:Program) [Ext P] (c:Code) (st:St):Option (Ex × St):=lim fun k=>evC P (evF P Bm k) Bm k c st
theorem J0 [Globs] [Ext P] {f args S tk n x} : cL P f args S tk n=some x↔∃ k,evF P Bm k f args S tk n=some x:=Ahf fun _ _ _ h he=>D1 h _ _ _ _ _ _ he
theorem Bk [Globs] [Ext P] {c:Code} {st:St} {x:Ex × St} : eL P c st=some x↔∃ k,evC P (evF P Bm k) Bm k c st=some x:=Ahf fun _ _ _ h he=>B9 (D1 h) h _ _ _ he
theorem Ac7 [Globs] [Ext P] (k:Nat):CLe (evF P Bm k) (cL P):=fun _ _ _ _ _ _ h=>J0.2 ⟨k,h⟩
section
variable {F:Nat->Bd} {L:Bd} (hF:∀ k m,k<=m->CLe (F k) (F m)) (hL:∀ f args S tk n x,L f args S tk n=some x->∃ k,F k f args S tk n=some x)
include hL
theorem Anj [Globs] {o:Oper} {st:St} {r:AV × St} (h:evO P L o st=some r):∃ k,evO P (F k) o st=some r:=by
 by_cases hc:∃ c f args,o.op=.call c/\Ed P st.T c=some (f,args)/\(∀ b,c.callee≠.builtin b)
 ·obtain ⟨c,f,args,ho,ey,hb⟩:=hc;have e:∀ call:Bd,evO P call o st=(call f args st.S st.tk st.n).map fun (v,S,tk,n)=>(v,{ st with S:=S,tk:=tk,n:=n }):=by
   intro call;unfold evO;rw [ho];simp only;split
   ·exact Ya1x
   ·exact Ya1x
   ·rename_i b _ _ h'; exact absurd h' (hb _)
   ·rw [ey]
  rw [e] at h;simp only [B6] at h;obtain ⟨x,h1,h2⟩:=h;obtain ⟨k,hk⟩:=hL _ _ _ _ _ _ h1;exact ⟨k,by rw [e,hk]; simp [h2]⟩
 ·refine ⟨0,?_⟩;have e:∀ call call':Bd,evO P call o st=evO P call' o st:=by
   intro call call';unfold evO;split <;> try rfl
   rename_i c ho;split <;> try rfl
   rename_i h1 h2 h3;split
   ·rename_i f args ey;exact absurd ⟨c,f,args,ho,ey,fun b hb=>by cases b <;> first|exact h1 hb|exact h2 hb|exact h3 _ hb⟩ hc
   ·rfl
  rw [e _ L]; exact h
include hF
theorem Py [G:Globs] {all:List Oper} : ∀ {l:List Oper} {st st':St},evOs P L all l st=some st'->∃ k,evOs P (F k) all l st=some st'
 | [],_,_,h=>⟨0,h⟩
 | o :: l,st,st',h=>by
  simp only [evOs] at h;split at h
  ·simp at h
  ·rename_i hw;obtain ⟨k,hk⟩:=Py h;exact ⟨k,by simp only [evOs,hw]; exact hk⟩
  ·rename_i hw;split at h
   ·rename_i v s1 ho;split at h;case isFalse=>simp at h
    rename_i mc;obtain ⟨k,hk⟩:=Anj hL ho;obtain ⟨m,hm⟩:=Py h;refine ⟨max k m,?_⟩;simp only [evOs,hw];rw [Abn (hF _ _ (Wr k m)) hk];simp only;rw [if_pos mc];exact Bn (hF _ _ (Sw k m)) hm
   ·simp at h
end
theorem Zm [Globs] [Ext P] {all l:List Oper} {st st':St} (h:evOs P (cL P) all l st=some st'):∃ k,evOs P (evF P Bm k) all l st=some st' :=
 Py (fun _ _ h=>D1 h) (fun _ _ _ _ _ _ h=>J0.1 h) h
theorem Zn [Globs] [Ext P] {M:Md} {all l:List Oper} {st st':St} (h:@evOs (gM M) P (@Ec (gM M) P _ (cL P)) all l st=some st'):∃ k,@evOs (gM M) P (@Ec (gM M) P _ (evF P Bm k)) all l st=some st':=by
 refine Py (F:=fun k=>@Ec (gM M) P _ (evF P Bm k)) (G:=gM M) (fun _ _ h=>(D1 h).pure) (fun f args S tk n x h=>?_) h;unfold Ec at h;split at h
 ·rename_i hp;obtain ⟨k,hk⟩:=J0.1 h;exact ⟨k,by unfold Ec; rw [if_pos hp]; exact hk⟩
 ·simp at h
inductive Kont where
 | seq (c:Code)|block (id:Nat)|loop (c:Code) (k:Nat)
noncomputable def cont [Globs] (P:Program) [Ext P] (fn:Func):Ex->St->List Kont->Option (AV × St)
 | e,st,[]=>outA P fn (some (e,st))
 | .normal,st,.seq c :: k=>match eL P c st with|some (e,st')=>cont P fn e st' k|none=>none
 | .normal,st,.block _ :: k=>cont P fn .normal st k
 | .normal,st,.loop c n :: k=>match eL P (.loop c) { st with S:=cutS (Nv c) n st.S } with|some (e,st')=>cont P fn e st' k|none=>none
 | .exit id,st,.seq _ :: k=>cont P fn (.exit id) st k
 | .exit id,st,.block id' :: k=>if id=id' then cont P fn .normal st k else cont P fn (.exit id) st k
 | .exit id,st,.loop _ _ :: k=>cont P fn (.exit id) st k
 | .ret,st,_ :: k=>cont P fn .ret st k
noncomputable def RK [Globs] (P:Program) [Ext P] (fn:Func) (c:Code) (st:St) (k:List Kont):Option (AV × St):=match eL P c st with|some (e,st')=>cont P fn e st' k|none=>none
noncomputable def Hs [Globs] (M:Md) (P:Program) [Ext P] (call:Bd):Bd:=@Ec (gM M) P _ call
noncomputable def RO [Globs] (P:Program) [Ext P] (fn:Func) (M:Md) (call:Bd) (all l:List Oper) (st:St) (k:List Kont):Option (AV × St):=match @evOs (gM M) P call all l st with|some st'=>cont P fn .normal st' k|none=>none
def br {α:Type} (w:Option Bool) (a b:Option α):Option α:=match w with|some true=>a|some false=>b|none=>none
variable {fn:Func} {st:St} {k:List Kont}
theorem Amv [Globs] [Ext P]:RK P fn .skip st k=cont P fn .normal st k:=by
 have:eL P .skip st=some (.normal,st):=Bk.2 ⟨0,rfl⟩;simp only [RK,this]
theorem Amt [Globs] [Ext P] {id:Nat} : RK P fn (.exit id) st k=cont P fn (.exit id) st k:=by
 have:eL P (.exit id) st=some (.exit id,st):=Bk.2 ⟨0,rfl⟩;simp only [RK,this]
theorem Aoy [Globs] [Ext P]:RK P fn .ret st k=cont P fn .ret st k:=by
 have:eL P .ret st=some (.ret,st):=Bk.2 ⟨0,rfl⟩;simp only [RK,this]
theorem Al8 [Globs] [Ext P] {a b:Code} : eL P (.seq a b) st=match eL P a st with|some (.normal,st')=>eL P b st'|r=>r:=by
 apply Jw;intro x;constructor
 ·intro h;obtain ⟨n,h⟩:=Bk.1 h;simp only [evC] at h;split at h
  ·rename_i s1 h1;rw [Bk.2 ⟨n,h1⟩];exact Bk.2 ⟨n,h⟩
  ·rename_i hne;rw [Bk.2 ⟨n,h⟩];exact Yaq
 ·intro h;split at h
  ·rename_i s1 h1;obtain ⟨n,h1⟩:=Bk.1 h1;obtain ⟨m,h⟩:=Bk.1 h;refine Bk.2 ⟨max n m,?_⟩;simp only [evC];rw [B9 (D1 (Wr n m)) (Wr n m) _ _ _ h1];exact B9 (D1 (Sw n m)) (Sw n m) _ _ _ h
  ·rename_i hne;obtain ⟨n,h1⟩:=Bk.1 h;refine Bk.2 ⟨n,?_⟩;simp only [evC];rw [h1];exact Yaq
theorem Aoz [Globs] [Ext P] {a b:Code} : RK P fn (.seq a b) st k=RK P fn a st (.seq b :: k):=by
 simp only [RK,Al8];cases h:eL P a st with
 | none=>rfl
 | some x =>
  obtain ⟨e,s⟩:=x;cases e <;> simp only [cont]
theorem Agd [Globs] [Ext P] {c:Operand} {a b:Code} : eL P (.cond c a b) st=match opv st.T c with|.prim (.bool t)=>if t=true then eL P a st else eL P b st|_=>none:=by
 apply Jw;intro x;rw [Bk];simp only [evC];generalize opv st.T c=v;cases v with
 | prim u =>
  cases u with
  | bool t=>cases t <;> simp [Bk]
  | _=>simp
 | _=>simp
theorem Ams [Globs] [Ext P] {c:Operand} {a b:Code} : RK P fn (.cond c a b) st k=match opv st.T c with|.prim (.bool t)=>if t=true then RK P fn a st k else RK P fn b st k|_=>none:=by
 simp only [RK,Agd];generalize opv st.T c=v;cases v with
 | prim u =>
  cases u with
  | bool t=>cases t <;> simp
  | _=>rfl
 | _=>rfl
theorem Abj [Globs] [Ext P] {id:Nat} {c:Code} : eL P (.block id c) st=match eL P c st with|some (.exit id',st')=>if id'=id then some (.normal,st') else some (.exit id',st')|r=>r:=by
 apply Jw;intro x;constructor
 ·intro h;obtain ⟨n,h⟩:=Bk.1 h;simp only [evC] at h;split at h
  ·rename_i s1 h1;rw [Bk.2 ⟨n,h1⟩]; exact h
  ·rename_i hne;rw [Bk.2 ⟨n,h⟩];exact Ya1j
 ·intro h;split at h
  ·rename_i id' s1 h1;obtain ⟨n,h1⟩:=Bk.1 h1;exact Bk.2 ⟨n,by simp only [evC]; rw [h1]; exact h⟩
  ·rename_i hne;obtain ⟨n,h1⟩:=Bk.1 h;refine Bk.2 ⟨n,?_⟩;simp only [evC];rw [h1];exact Ya1j
theorem Ajf [Globs] [Ext P] {id:Nat} {c:Code} : RK P fn (.block id c) st k=RK P fn c st (.block id :: k):=by
 simp only [RK,Abj];cases h:eL P c st with
 | none=>rfl
 | some x =>
  obtain ⟨e,s⟩:=x;cases e with
  | exit id'=>by_cases hid:id'=id <;> simp [cont,hid]
  | normal=>simp only [cont]
  | ret=>simp only [cont]
theorem Agg [Globs] [Ext P] {c:Code} : eL P (.loop c) st=match eL P c st with|some (.normal,st')=>eL P (.loop c) { st' with S:=cutS (Nv c) st.S.length st'.S } | r=>r:=by
 apply Jw;intro x;constructor
 ·intro h;obtain ⟨n,h⟩:=Bk.1 h;simp only [evC] at h;cases n with
  | zero=>simp [Kh] at h
  | succ n =>
   simp only [Kh] at h;split at h
   ·rename_i s1 h1;rw [Bk.2 ⟨n+1,h1⟩];exact Bk.2 ⟨n+1,by simp only [evC]; exact Lh (fun _ _ h=>h) (gX n) h⟩
   ·rename_i hne;rw [Bk.2 ⟨n+1,h⟩];exact Yaq
 ·intro h;split at h
  ·rename_i s1 h1;obtain ⟨n,h1⟩:=Bk.1 h1;obtain ⟨m,h⟩:=Bk.1 h;simp only [evC] at h;refine Bk.2 ⟨max n m+1,?_⟩;simp only [evC,Kh];rw [B9 (D1 (show n<=max n m+1 by omega)) (show n<=max n m+1 by omega) _ _ _ h1];exact Lh (fun s r=>B9 (D1 (show m<=max n m+1 by omega)) (show m<=max n m+1 by omega) c s r) (show m<=max n m by omega) h
  ·rename_i hne;obtain ⟨n,h1⟩:=Bk.1 h;refine Bk.2 ⟨n+1,?_⟩;simp only [evC,Kh];rw [B9 (D1 (gX n)) (gX n) _ _ _ h1];exact Yaq
theorem Y7 [Globs] [Ext P] {c:Code} : RK P fn (.loop c) st k=RK P fn c st (.loop c st.S.length :: k):=by
 rw [RK,Agg,RK];cases h:eL P c st with
 | none=>rfl
 | some x =>
  obtain ⟨e,s⟩:=x;cases e <;> simp only [cont]
theorem Mp [Globs] [Ext P] {id:Nat} {ops:Array Oper} : eL P (.region id ops false) st=(evOs P (cL P) ops.toList ops.toList st).map fun st=>(.normal,st):=by
 apply Jw;intro x;rw [Bk];simp only [evC,B6,C4,if_false];constructor
 ·rintro ⟨n,s,h1,h2⟩; exact ⟨s,Bn (Ac7 n) h1,h2⟩
 ·rintro ⟨s,h1,h2⟩;obtain ⟨n,hn⟩:=Zm h1;exact ⟨n,s,hn,h2⟩
theorem Age [Globs] [Ext P] {id:Nat} {ops:Array Oper} (hs:Ev ops.toList=none) (hl:Js ops.toList=none):eL P (.region id ops true) st=if Bm st ops.toList=true then (@evOs (gM (mdOf ops.toList)) P (Hs (mdOf ops.toList) P (cL P)) ops.toList ops.toList st).map fun st=>(.normal,st) else none:=by
 apply Jw;intro x;rw [Bk];simp only [evC,if_true,hs,hl];by_cases ae:Bm st ops.toList=true
 ·simp only [ae,if_true,B6];constructor
  ·rintro ⟨n,s,h1,h2⟩; exact ⟨s,Bn (G:=gM _) (Ac7 n).pure h1,h2⟩
  ·rintro ⟨s,h1,h2⟩;obtain ⟨n,hn⟩:=Zn h1;exact ⟨n,s,hn,h2⟩
 ·simp [ae]
theorem Agh [Globs] [Ext P] {id:Nat} {ops:Array Oper} {a:List Oper} {o:Oper} (hs:Ev ops.toList=some (a,o)):eL P (.region id ops true) st=if Bm st a=true then (match @evOs (gM (mdOf a)) P (Hs (mdOf a) P (cL P)) a a st with|some st1=>(evOs P (cL P) [o] [o] st1).map fun st=>(.normal,st)|none=>none) else none:=by
 apply Jw;intro x;rw [Bk];simp only [evC,if_true,hs];exact Ya8
theorem Agf [Globs] [Ext P] {id:Nat} {ops:Array Oper} {p:Nat} {al o:Oper} (hs:Ev ops.toList=none) (hl:Js ops.toList=some (p,al,o)):eL P (.region id ops true) st=if Bm st (openL ops.toList)=true then (match @evOs (gM (mdOf (openL ops.toList))) P (Hs (mdOf (openL ops.toList)) P (cL P)) (openL ops.toList) (openL ops.toList) st with|some st1=>(evOs P (cL P) [al,o] [al,o] st1).map fun st=>(.normal,st)|none=>none) else none:=by
 apply Jw;intro x;rw [Bk];simp only [evC,if_true,hs,hl];generalize openL ops.toList=a;exact Ya8
theorem Ajh [Globs] [Ext P] {c:Code} : RK P fn (.scope c) st k=RK P fn c st k:=by
 have:eL P (.scope c) st=eL P c st:=by
  apply Jw;intro x;rw [Bk,Bk];simp only [evC]
 simp only [RK,this]
theorem Ajg [Globs] [Ext P] {l:Nat} : RK P fn (.label l) st k=cont P fn .normal st k:=by
 have:eL P (.label l) st=some (.normal,st):=Bk.2 ⟨0,cE⟩;simp only [RK,this]
theorem Aex [Globs] [Ext P] {id:Nat} {ops:Array Oper} : RK P fn (.region id ops false) st k=RO P fn .no (cL P) ops.toList ops.toList st k:=by
 simp only [RK,Mp];show _=match evOs P (cL P) ops.toList ops.toList st with|some st'=>cont P fn .normal st' k|none=>none
 cases evOs P (cL P) ops.toList ops.toList st <;> rfl
theorem Qf [Globs] [Ext P] {id:Nat} {ops:Array Oper} (hs:Ev ops.toList=none) (hl:Js ops.toList=none) (h:Bm st ops.toList=true):RK P fn (.region id ops true) st k=RO P fn (mdOf ops.toList) (Hs (mdOf ops.toList) P (cL P)) ops.toList ops.toList st k:=by
 simp only [RK,RO,Age hs hl,if_true,h];cases @evOs (gM (mdOf ops.toList)) P (Hs (mdOf ops.toList) P (cL P)) ops.toList ops.toList st <;> rfl
theorem Amw [Globs] [Ext P] {id:Nat} {ops:Array Oper} {a:List Oper} {o:Oper} (hs:Ev ops.toList=some (a,o)) (fh:Ev a=none) (hl2:Js a=none) (h:Bm st a=true):RK P fn (.region id ops true) st k=RK P fn (.region id a.toArray true) st (.seq (.region id #[o] false) :: k):=by
 rw [Qf (ops:=a.toArray) (by simpa using fh) (by simpa using hl2) aI];simp only [RK,RO,Agh hs,if_true,h];cases @evOs (gM (mdOf a)) P (Hs (mdOf a) P (cL P)) a a st with
 | none=>rfl
 | some s1 =>
  simp only [cont,RK,Mp]
theorem Amu [Globs] [Ext P] {id:Nat} {ops:Array Oper} {p:Nat} {al o:Oper} (hs:Ev ops.toList=none) (hl:Js ops.toList=some (p,al,o)) (h:Bm st (openL ops.toList)=true):RK P fn (.region id ops true) st k=RO P fn (mdOf (openL ops.toList)) (Hs (mdOf (openL ops.toList)) P (cL P)) (openL ops.toList) (openL ops.toList) st (.seq (.region id #[al,o] false) :: k):=by
 simp only [RK,RO,Agf hs hl,if_true,h];cases @evOs (gM (mdOf (openL ops.toList))) P (Hs (mdOf (openL ops.toList)) P (cL P)) (openL ops.toList) (openL ops.toList) st with
 | none=>rfl
 | some s1 =>
  simp only [cont,RK,Mp]
theorem Y8 [Globs] [Ext P] {M:Md} {call:Bd} {all l:List Oper} {o:Oper} : RO P fn M call all (o :: l) st k=br (Hf all st.T o) (match @evO (gM M) P call o st with|some (v,st')=>if @chkO (gM M) P all o st v st'=true then RO P fn M call all l { st' with T:=putT st'.T o.dst v } k else none|none=>none) (RO P fn M call all l { st with T:=putT st.T o.dst (.prim undef) } k):=by
 simp only [RO,evOs];cases Hf all st.T o with
 | none=>rfl
 | some b =>
  cases b with
  | false=>rfl
  | true =>
   simp only [br];cases @evO (gM M) P call o st with
   | none=>rfl
   | some x =>
    obtain ⟨v,s1⟩:=x;simp only;cases @chkO (gM M) P all o st v s1 <;> rfl
theorem Aj5 [Globs] [Ext P] {x:Kont} : cont P fn .ret st (x :: k)=cont P fn .ret st k:=by cases x <;> rfl
theorem Vs [Globs] [Ext P] {x:Code} {r:AV × St} (h:RK P fn x st []=some r):∃ n,outA P fn (evC P (evF P Bm n) Bm n x st)=some r:=by
 unfold RK at h;cases he:eL P x st with
 | none=>rw [he] at h; simp at h
 | some z =>
  rw [he] at h;obtain ⟨n,hn⟩:=Bk.1 he;obtain ⟨e,s⟩:=z;refine ⟨n,?_⟩;rw [hn];cases e <;> exact h
def asB:AV->Option Bool|.prim (.bool t)=>some t|_=>none
theorem asB_bool {t:Bool} : asB (.prim (.bool t))=some t:=rfl
theorem RK_if [Globs] [Ext P] {c:Operand} {a b:Code} : RK P fn (.cond c a b) st k=br (asB (opv st.T c)) (RK P fn a st k) (RK P fn b st k):=by
 rw [Ams];generalize opv st.T c=v;cases v with
 | prim u =>
  cases u with
  | bool t=>cases t <;> rfl
  | _=>rfl
 | _=>rfl
def fin1 (x:Option (AV × St)):Option AV:=match x with|some (r,s)=>some (w3 (fz3 0 s.S r))|none=>none
theorem fin1_some {r:AV} {s:St} : fin1 (some (r,s))=some (w3 (fz3 0 s.S r)):=rfl
def finS (b:Nat) (x:Option (AV × St)):Option (AV × List Ent × List Nat × Nat):=match x with|some (r,s)=>some (fz3 b s.S r,s.S.take b,s.tk,s.n)|none=>none
theorem finS_some {b:Nat} {r:AV} {s:St} : finS b (some (r,s))=some (fz3 b s.S r,s.S.take b,s.tk,s.n):=rfl
theorem Anm {t:Bool} {a b:Option (AV × St)} {r:AV} : fin1 (br (some t) a b)=some r↔(t=true->fin1 a=some r)/\(t=false->fin1 b=some r):=Za42
theorem Ano {n:Nat} {t:Bool} {a b:Option (AV × St)} {r:AV × List Ent × List Nat × Nat} : finS n (br (some t) a b)=some r↔(t=true->finS n a=some r)/\(t=false->finS n b=some r):=Za42
theorem Apl {α:Type} {t:Bool} {a b:Option α} : br (some (!t)) a b=br (some t) b a:=by cases t <;> rfl
theorem Ahi [Globs] [Ext P] {ι:Type} {c:Code} (I:ι->St->Prop) (μ:ι->Nat) (G:ι->AV) (h:∀ x st,I x st->(∀ y st',μ y<μ x->I y st'->fin1 (RK P fn (.loop c) st' k)=some (G y))->fin1 (RK P fn c st (.loop c st.S.length :: k))=some (G x)) {x:ι} {st:St} (h0:I x st):fin1 (RK P fn (.loop c) st k)=some (G x):=by
 have key:∀ n x st,μ x=n->I x st->fin1 (RK P fn (.loop c) st k)=some (G x):=by
  intro n;exact Ya35
 exact key _ x st rfl h0
theorem Adq [Globs] [Ext P] {ι:Type} {c:Code} {m:Nat} (I:ι->St->Prop) (μ:ι->Nat) (G:ι->AV × List Ent × List Nat × Nat) (h:∀ x st,I x st->(∀ y st',μ y<μ x->I y st'->finS m (RK P fn (.loop c) st' k)=some (G y))->finS m (RK P fn c st (.loop c st.S.length :: k))=some (G x)) {x:ι} {st:St} (h0:I x st):finS m (RK P fn (.loop c) st k)=some (G x):=by
 have key:∀ n x st,μ x=n->I x st->finS m (RK P fn (.loop c) st k)=some (G x):=by
  intro n;exact Ya35
 exact key _ x st rfl h0
theorem P6 [Globs] [Ext P] {c:Code} {as:List AV} {r:AV} (hp3:pure3 r=true) (h:fin1 (RK P fn c ⟨as++bots (fn.ntmps - as.length),[],[],0⟩ [])=some r):∃ m,runP P Bm (evF P Bm m) m fn c as=some r:=by
 rw [Ql] at h;cases hr:RK P fn c ⟨as++Cd (fn.ntmps - as.length) .bot,[],[],0⟩ [] with
 | none=>rw [hr] at h; simp [fin1] at h
 | some x =>
  obtain ⟨r',s⟩:=x;rw [hr,fin1_some] at h;simp only [A0] at h;obtain ⟨m,hm⟩:=Vs hr;refine ⟨m,?_⟩;unfold runP;rw [hm];simp only [h,hp3,if_true]
theorem Yq [Globs] [Ext P] {k m:Nat} (h:k<=m) {c:Code} {as:List AV} {r:AV} (hr:runP P Bm (evF P Bm k) k fn c as=some r):runP P Bm (evF P Bm m) m fn c as=some r:=by
 unfold runP at hr ⊢;split at hr
 ·rename_i r' s1 ho;rw [Kn (fun z hz=>B9 (D1 h) h c _ z hz) ho];exact hr
 ·simp at hr
theorem W4 [Globs] [Ext P] {f : FuncId} {c : Code} (hf : P.funcs[f]? = some fn) (hx : (Ext.on P f || Ext.mv P f) = false) (hb : fn.body = some c) (c8 : G6 c = false) (aq : (fn.name == "runtime.NumGoroutine") = false) {args args' : List AV} {nt : Nat} (j5 : fn.ntmps = nt) (aa : args.map w2 = args') (hp : args'.all pure2 = true) {r : AV}
  (S:List Ent) (tk:List Nat) (n:Nat) (hp3:pure3 r=true) (h:fin1 (RK P fn c ⟨args'++bots (nt - args.length),[],[],0⟩ [])=some r):cL P f args S tk n=some (r,S,tk,n):=by
 subst aa j5;obtain ⟨m,hm⟩:=P6 (as:=args.map w2) hp3 (by rw [Ib]; exact h);refine J0.2 ⟨m+1,?_⟩;have hn : ¬ fn.name = "runtime.NumGoroutine" := cX
 simp only [El] at hx;simp only [evF,hf,hb];rw [if_neg dJ,if_neg hn,if_neg eO,if_pos hp,if_neg (by rw [c8]; simp),hm]
theorem Mk [Globs] [Ext P] {f : FuncId} {c : Code} (hf : P.funcs[f]? = some fn) (hx : (Ext.on P f || Ext.mv P f) = false) (hb : fn.body = some c) (c8 : G6 c = true) (aq : (fn.name == "runtime.NumGoroutine") = false) {e : List AV} {es : List (List AV)} {args args' : List AV} {nt : Nat} (j5 : fn.ntmps = nt) (aa : args.map w2 = .frz (e :: es) .unk :: args') (hp : (AV.frz (e :: es) .unk :: args').all pure2 = true) {r : AV}
  (S:List Ent) (tk:List Nat) (n:Nat) (hp3:pure3 r=true) (h:fin1 (RK P fn c ⟨(.frz (e :: es) .unk :: args')++bots (nt - (args'.length+1)),[],[],0⟩ [])=some r):cL P f args S tk n=some (r,S,tk,n):=by
 subst j5;obtain ⟨m,hm⟩:=P6 (as:=.frz (e :: es) .unk :: args') hp3 h;refine J0.2 ⟨m+1,?_⟩;have hn : ¬ fn.name = "runtime.NumGoroutine" := cX
 simp only [El] at hx;simp only [evF,hf,hb];rw [if_neg dJ,if_neg hn,if_neg eO,if_pos (by rw [aa]; exact hp),if_pos c8,aa];simp only [runN,hm]
theorem Pa [Globs] [Ext P] {f : FuncId} {c : Code} (hf : P.funcs[f]? = some fn) (hx : (Ext.on P f || Ext.mv P f) = false) (hb : fn.body = some c) (c8 : G6 c = true) (aq : (fn.name == "runtime.NumGoroutine") = false) {args args' : List AV} {nt : Nat} (j5 : fn.ntmps = nt) (aa : args.map w2 = .frz [] .unk :: args') (hp : args'.all pure2 = true)
  (S:List Ent) (tk:List Nat) (n:Nat) (h1:fin1 (RK P fn c ⟨(.frz [] .nl :: args')++bots (nt - (args'.length+1)),[],[],0⟩ [])=some (.frz [] .unk)) (h2:fin1 (RK P fn c ⟨(.frz [] .nn :: args')++bots (nt - (args'.length+1)),[],[],0⟩ [])=some (.frz [] .unk)):cL P f args S tk n=some (.frz [] .unk,S,tk,n):=by
 subst j5;obtain ⟨m1,cq⟩:=P6 (as:=.frz [] .nl :: args') rfl h1;obtain ⟨m2,ew⟩:=P6 (as:=.frz [] .nn :: args') rfl h2;refine J0.2 ⟨max m1 m2+1,?_⟩;have hn : ¬ fn.name = "runtime.NumGoroutine" := cX
 simp only [El] at hx;simp only [evF,hf,hb];rw [if_neg dJ,if_neg hn,if_neg eO,if_pos (by rw [aa]; simpa [pure2,pure1] using hp),if_pos c8,aa];simp only [runN,Yq (Wr m1 m2) cq,Yq (Sw m1 m2) ew]
theorem Ly [Globs] [Ext P] {f : FuncId} {c : Code} (hf : P.funcs[f]? = some fn) (hx : (Ext.on P f || Ext.mv P f) = false) (hb : fn.body = some c) (aq : (fn.name == "runtime.NumGoroutine") = false) {args : List AV} {nt : Nat} (j5 : fn.ntmps = nt) (hp : (args.map w2).all pure2 = false) {S : List Ent} {tk : List Nat} {n : Nat} {r : AV × List Ent × List Nat × Nat}
  (h:finS S.length (RK P fn c ⟨args++bots (nt - args.length),S,tk,n⟩ [])=some r):cL P f args S tk n=some r:=by
 subst j5;rw [Ql] at h;cases hr:RK P fn c ⟨args++Cd (fn.ntmps - args.length) .bot,S,tk,n⟩ [] with
 | none=>rw [hr] at h; simp [finS] at h
 | some x =>
  obtain ⟨r',s⟩:=x;rw [hr,finS_some] at h;obtain ⟨m,hm⟩:=Vs hr;refine J0.2 ⟨m+1,?_⟩;have hn : ¬ fn.name = "runtime.NumGoroutine" := cX
  simp only [El] at hx;simp only [evF,hf,hb];rw [if_neg dJ,if_neg hn,if_neg eO,if_neg (by rw [hp]; simp),hm];exact h
def finM (x:Option (AV × St)):Option (AV × List Ent × List Nat × Nat):=match x with|some (r,s)=>some (r,s.S,s.tk,s.n)|none=>none
theorem finM_some {r:AV} {s:St} : finM (some (r,s))=some (r,s.S,s.tk,s.n):=rfl
theorem Ann {t:Bool} {a b:Option (AV × St)} {r:AV × List Ent × List Nat × Nat} : finM (br (some t) a b)=some r↔(t=true->finM a=some r)/\(t=false->finM b=some r):=Za42
theorem Afp [Globs] [Ext P] {f : FuncId} {c : Code} (hf : P.funcs[f]? = some fn) (hx : (!Ext.on P f && Ext.mv P f) = true) (hb : fn.body = some c) (aq : (fn.name == "runtime.NumGoroutine") = false) {args : List AV} {nt : Nat} (j5 : fn.ntmps = nt) {S : List Ent} {tk : List Nat} {n : Nat} {r : AV × List Ent × List Nat × Nat}
  (h:finM (RK P fn c ⟨args++bots (nt - args.length),S,tk,n⟩ [])=some r):cL P f args S tk n=some r:=by
 subst j5;rw [Ql] at h;cases hr:RK P fn c ⟨args++Cd (fn.ntmps - args.length) .bot,S,tk,n⟩ [] with
 | none=>rw [hr] at h; simp [finM] at h
 | some x =>
  obtain ⟨r',s⟩:=x;rw [hr,finM_some] at h;obtain ⟨m,hm⟩:=Vs hr;refine J0.2 ⟨m+1,?_⟩;have hn : ¬ fn.name = "runtime.NumGoroutine" := cX
  simp only [Cf,F3] at hx;simp only [evF,hf,hb];rw [if_neg dJ,if_neg hn,if_pos hx.2,hm];exact h
theorem Pv [Globs] [Ext P] {f:FuncId} (hf:Ext.on P f=true) {args:List AV} {S:List Ent} {tk:List Nat} {n:Nat} {r:AV × List Ent × List Nat × Nat} (h:Ext.call P f args S tk n=some r):cL P f args S tk n=some r:=by
 refine J0.2 ⟨1,?_⟩;rw [Zl hf];unfold extC;rw [if_pos hf]; exact h
theorem Ux [Ext P] [Globs] [Y5 P] {f:FuncId} {args:List AV} {S:List Ent} {tk:List Nat} {n:Nat} {r:AV} {S':List Ent} {tk':List Nat} {n':Nat} (hm:P.follows .mixedOrders=true) (h:cL P f args S tk n=some (r,S',tk',n')) {C:Cx} {vs:Array Value} (h1:C.S=S) (h2:C.tk=tk) (h3:C.n=n) (hs:SR C) (hv:VRs C args vs.toList) :
  Calls P f vs C.w fun e w'=>∃ v C',e=.returned v/\C'.w=w'/\Le C C'/\SR C'/\C'.S=S'/\C'.tk=tk'/\C'.n=n'/\VR C' r v:=by
 obtain ⟨k,hk⟩:=J0.1 h;exact (Xl (Xh hm) k _ _ _ _ _ _ _ _ _ hk).2 C vs h1 h2 h3 hs hv
end
end
end Go.Proofs.YthelkgdmgihhiaaGreat
