/- Part 8. -/
import Derived.Test.YthelkgdmgihhiaaGreatZF7
open Array renaming getElem?_eq_some_iff->Ck,getElem?_eq_getElem->Fx,getD_eq_getD_getElem?->F2,length_toList->Iy,toList_setIfInBounds->Sl,getD->Sp,replicate->Su
open Bool renaming and_eq_true->Ch,false_eq_true->C7,false_and->Fo,not_true->Fs,or_eq_false_iff->F0,or_false->F5,not_eq_true'->Ig,or_eq_true->Io,false_or->Oe,true_or->jU
open Go.Obj renaming cells->kD
open Go.Region renaming wanted->Sk
open Go.Result renaming andThen_ok->Fv
open Go.RowKit.Below renaming refl->F1,cell->lP
open Go.Sem renaming run_bind->F3,run_pure->I4
open List renaming replicate->Cg,length_cons->Cj,length_append->Cn,mem_append->Cu,length_nil->Cv,getElem?_append_left->Cy,mem_cons->C4,range->E7,all_eq_true->Fc,length_map->Fg,drop_zero->Fz,mem_map->F6,getElem?_cons_zero->Oa,foldl_cons->Sr,map_congr_left->Sy,mem_range->iR,contains_iff_mem->kA,countP_cons->kG
open Nat renaming le_refl->Ce,le_trans->Fh,zero_add->Fk,lt_of_lt_of_le->F7,lt_or_ge->Ia,lt_succ_self->I9,add_assoc->O4,lt_trichotomy->Sc,strongRecOn->Ss,le_of_not_lt->iW,le_max_right->iZ,le_max_left->jI,le_succ->kL
open Option renaming map_eq_some_iff->Cd,map_some->Fa,isNone_iff_eq_none->Ii,bind_eq_some_iff->Il,getD_some->Oi,bind_some->Ov,isSome_iff_exists->Sx
open Option.some renaming injEq->Bg
open Prod.mk renaming injEq->Cf
namespace Go.Proofs.YthelkgdmgihhiaaGreat
section
open Go.RowKit
set_option maxHeartbeats 1000000
section
def rdS (o:Oper):Bool:=match o.op with|.load _ _=>true|_=>false
def wrS [Globs] (o:Oper):Bool:=match o.op with|.store _ _ _|.alloc _|.box _ _=>true|.makeSlice _ l _=>!Wt o l|.call c=>(match c.callee with|.builtin .copy=>true|.builtin .append=>Globs.own o.dst o.type|.value (.func f)=>shF f || xF f|.value _=>Globs.shAny || Globs.xAny|.invoke _ _=>true|_=>false)|_=>false
def wrT [Globs] (o:Oper):Bool:=match o.op with|.makeSlice _ l _=>Wt o l|.call c=>(match c.callee with|.builtin .append=>true|.value (.func f)=>xF f|.value _=>Globs.xAny|.invoke _ _=>true|_=>false)|_=>false
def rdA [Globs] (o:Oper):Bool:=match o.op with|.call c=>(match c.callee with|.value (.func f)=>shF f || xF f|.value _=>Globs.shAny || Globs.xAny|.invoke _ _=>true|.builtin .append=>Globs.shAny|_=>false)|_=>false
def conf [Globs] (p o:Oper):Bool:=(wrS p && wrS o) || (wrT p && wrT o) || (rdA p && (wrS o || wrT o)) || ((wrS p || wrT p) && rdA o)
def unwr (ops:Array Oper) (t:Tmp):Bool:=(E7 ops.size).all fun j=>B7 ops j != some t
def Agf (st:St) (ops:Array Oper) (i:Nat) (o:Oper):Option (Option Nat) :=
 match o.op with
 | .load _ (.tmp q) =>
  if unwr ops q=true then (match getT st.T q with|.ref id _ _=>if id<st.S.length then some (some id) else none|.fptr _=>some none|_=>none)
  else ((E7 i).findSome? fun (m:Nat)=>match (ops[m]? : Option Oper) with
   | some o'=>(match o'.dst,o'.op with
    | some d,.fieldAddr _ (.tmp x) _=>if d=q/\unwr ops x=true then (match getT st.T x with|.ref id _ _=>if id<st.S.length then some (some id) else none|.fptr _=>some none|_=>none) else none
    | _,_=>none)
   | none=>none)
 | _=>none
def R8 [Globs] (st:St) (ops:Array Oper) (i:Nat) (o p:Oper):Bool :=
 match Agf st ops i o with
 | none=>false
 | some none=>true
 | some (some id)=>match p.op with
  | .store _ (.tmp q) _=>unwr ops q && (match getT st.T q with|.ref id' _ _=>decide (id≠id')|_=>false)
  | .alloc _=>true
  | .box _ _=>true
  | .makeSlice _ _ _=>true
  | .call c=>(match c.callee with|.value (.func f)=>!xF f|.value _=>!Globs.xAny|_=>false)
  | _=>false
def Amd (o:Oper):Bool:=match o.op with|.alloc _|.box _ _|.makeSlice _ _ _=>true|_=>false
def opOk (ops:Array Oper) (i:Nat) (o:Oper):Bool :=
 (match o.op with|.select ..=>false|_=>true) && (depsOf ops i).all (fun j=>decide (j<i)) &&
 (match o.guard with|none=>true|some (g,_)=>(depsOf ops i).contains g) &&
 (o.dst.all fun d=>(E7 i).all fun j=>B7 ops j != some d) &&
 (o.op.operands.all fun x=>match x with
  | .tmp t=>(E7 ops.size).all fun j=>B7 ops j != some t || j == i || (reachAt ops i).contains j || (reachAt ops j).contains i
  | _=>true)
def isAl (o:Oper):Bool:=(match o.op with|.alloc _=>true|_=>false) && o.guard.isNone
def Eu (ops:Array Oper) (j i:Nat):Bool :=
 decide (i=j+1) && (match ops[j]?,ops[i]? with|some p,some o=>isAl p && isAl o|_,_=>false) &&
 (E7 ops.size).all fun k=>k == j || k == i || (reachAt ops k).contains j == (reachAt ops k).contains i
def Adt [Globs] (st:St) (L:List Oper):Bool :=
 (E7 L.length).all fun i=>match L.toArray[i]? with
  | none=>false
  | some o=>opOk L.toArray i o && (E7 i).all fun j=>match L.toArray[j]? with
   | none=>false
   | some p=>(!conf p o && !(wrS p && !lkOp p && rdS o) && !(rdS p && wrS o && !lkOp o)) || (reachAt L.toArray i).contains j || (!conf p o && (if rdS o=true then R8 st L.toArray i o p else (Amd o || (anOp o && o.dst.isSome) || R8 st L.toArray j p o))) || Eu L.toArray j i
def B0 [Globs] (st:St) (L:List Oper):Bool:=@Adt (gM (mdOf L)) st L
theorem SR_M [Globs] {C:Cx} : ∀ {M:Md},@SR (gM M) C↔SR C
 | .no=>Iff.rfl
 | .quiet=>⟨fun h=>⟨@SR.ent (gM .quiet) _ h,@SR.ne (gM .quiet) _ h,@SR.tok (gM .quiet) _ h,@SR.apart (gM .quiet) _ h,@SR.own (gM .quiet) _ h,@SR.avlt (gM .quiet) _ h,@SR.tlt (gM .quiet) _ h,@SR.glob (gM .quiet) _ h⟩,fun h=>@SR.mk (gM .quiet) _ h.ent h.ne h.tok h.apart h.own h.avlt h.tlt h.glob⟩
 | .look=>⟨fun h=>⟨@SR.ent (gM .look) _ h,@SR.ne (gM .look) _ h,@SR.tok (gM .look) _ h,@SR.apart (gM .look) _ h,@SR.own (gM .look) _ h,@SR.avlt (gM .look) _ h,@SR.tlt (gM .look) _ h,@SR.glob (gM .look) _ h⟩,fun h=>@SR.mk (gM .look) _ h.ent h.ne h.tok h.apart h.own h.avlt h.tlt h.glob⟩
 | .vals=>⟨fun h=>⟨@SR.ent (gM .vals) _ h,@SR.ne (gM .vals) _ h,@SR.tok (gM .vals) _ h,@SR.apart (gM .vals) _ h,@SR.own (gM .vals) _ h,@SR.avlt (gM .vals) _ h,@SR.tlt (gM .vals) _ h,@SR.glob (gM .vals) _ h⟩,fun h=>@SR.mk (gM .vals) _ h.ent h.ne h.tok h.apart h.own h.avlt h.tlt h.glob⟩
theorem Avt [Globs] {C:Cx} {st:St} {a:Act} {M:Md} : @Rel (gM M) C st a↔Rel C st a :=
 ⟨fun h=>⟨@Rel.S (gM M) _ _ _ h,@Rel.tk (gM M) _ _ _ h,@Rel.n (gM M) _ _ _ h,@Rel.tmps (gM M) _ _ _ h,@Rel.defers (gM M) _ _ _ h,SR_M.1 (@Rel.sr (gM M) _ _ _ h)⟩,fun h=>@Rel.mk (gM M) _ _ _ h.S h.tk h.n h.tmps h.defers (SR_M.2 h.sr)⟩
theorem Aow [Globs] {P:Program} {call:Dv} {M:Md} (h:Ll P call):@Ll (gM M) P call:=by
 intro f args S tk n r S' tk' n' e;refine ⟨(h _ _ _ _ _ _ _ _ _ e).1,fun C vs h1 h2 h3 hs hv=>((h _ _ _ _ _ _ _ _ _ e).2 C vs h1 h2 h3 (SR_M.1 hs) hv).mono ?_⟩;rintro e w' ⟨v,C',g1,g2,g3,g4,g5⟩;exact ⟨v,C',g1,g2,g3,SR_M.2 g4,g5⟩
theorem D0 {l:Array Bool} {i j:Nat} {b d:Bool} (h:i≠j):(l.setIfInBounds i b).getD j d=l.getD j d:=by
 simp [F2,Array.getElem?_setIfInBounds_ne h]
theorem Ko {l:Array Bool} {i:Nat} {b d:Bool} (h:i<l.size):(l.setIfInBounds i b).getD i d=b:=by
 simp [Sp,h]
theorem Atj {P:Program} {t:TypeId} {d s:AV} {S S':List Ent} {n:Nat} (h:cpA P t d s S=some (n,S')):S'.length=S.length:=by
 unfold cpA at h;split at h
 ·split at h
  ·split at h
   ·split at h
    ·split at h
     ·simp only [Bg,Cf] at h;obtain ⟨-,rfl⟩:=h;exact Am
     ·simp at h
    ·simp at h
   ·simp at h
  ·simp at h
 ·simp at h
theorem As9 {P:Program} {t:TypeId} {x y v:AV} {S S':List Ent} {n n':Nat} (h:apO P t x y S n=some (v,S',n')):S.length<=S'.length:=by
 unfold apO at h;split at h
 ·split at h
  ·split at h
   ·unfold apO2 at h;split at h
    ·simp only [Bg,Cf] at h;obtain ⟨-,rfl,-⟩:=h;simp
    ·split at h
     ·split at h
      ·split at h
       ·simp only [Bg,Cf] at h;obtain ⟨-,rfl,-⟩:=h;rw [Am];exact Ya3f
       ·simp at h
      ·simp at h
     ·simp at h
    ·simp at h
   ·simp at h
  ·simp at h
 ·simp at h
theorem An5 {P:Program} {t:TypeId} {v:AV} {S S':List Ent} {i e o id:Nat} (h:stA P t (.ref i e o) v S=some S') (hne:i≠id):nth S' id=nth S id:=by
 unfold stA at h;cases h1:szOf P t with
 | none=>rw [h1] at h; simp at h
 | some sz =>
  cases h2:cellsOf v with
  | none=>rw [h1,h2] at h; simp at h
  | some vs =>
   rw [h1,h2] at h;simp only at h;split at h
   ·cases h3:entAt S i e with
    | none=>rw [h3] at h; simp at h
    | some cs =>
     rw [h3] at h;simp only at h;cases h4:over cs o vs with
     | none=>rw [h4] at h; simp at h
     | some cs'=>rw [h4] at h; simp only [Bg] at h; subst h; exact Ae hne
   ·simp at h
variable {P:Program} {ops:Array Oper}
theorem G4 {listed:Array Bool} {i:Nat} (h:listed.getD i true=false):listed.getD i false=false/\i<listed.size:=by
 by_cases hi:i<listed.size
 ·exact ⟨by simpa [Sp,hi] using h,hi⟩
 ·simp [Sp,hi] at h
def Es (listed:Array Bool) (n:Nat):Nat:=(E7 n).countP fun j=>listed.getD j false=false
theorem Ac0 {listed:Array Bool} {n i:Nat} (hi:i<n) (hl:listed.size=n) (hu:listed.getD i false=false):Es (listed.setIfInBounds i true) n+1<=Es listed n:=by
 have key:∀ (l:List Nat),l.Nodup->(l.countP fun j=>(listed.setIfInBounds i true).getD j false=false)+(if i ∈ l then 1 else 0)=l.countP fun j=>listed.getD j false=false:=by
  intro l;induction l with
  | nil=>intro _; simp
  | cons x l ih =>
   intro hn;rw [List.nodup_cons] at hn;have ih:=ih hn.2;by_cases e:x=i
   ·subst e;have h1:(listed.setIfInBounds x true).getD x false=true:=Ko aA;rw [kG,kG,h1,hu,if_neg hn.1] at *;simp at ih ⊢;omega
   ·have h1:(listed.setIfInBounds i true).getD x false=listed.getD x false:=D0 (fun y=>e y.symm);rw [kG,kG,h1];have:(i ∈ x :: l)↔i ∈ l:=by rw [C4]; exact ⟨fun h=>h.resolve_left fun y=>e y.symm,.inr⟩
    simp only [this];omega
 have:=key (E7 n) List.nodup_range;rw [if_pos (by simpa using hi)] at this;unfold Es;omega
theorem Als {o:Oper} {ρ ρ':Operand->AV} (h:∀ x ∈ o.op.operands,ρ x=ρ' x):evQ P o ρ=evQ P o ρ':=by
 obtain ⟨dst,op,type,pos,after,guard⟩:=o;have pairs:∀ ps:Array (Nat × Operand),(∀ x ∈ ps.map (·.2),ρ x=ρ' x)->(ps.toList.map fun (i,x)=>(i,ρ x))=(ps.toList.map fun (i,x)=>(i,ρ' x)):=fun ps hp =>
  Sy fun p hm=>by
   obtain ⟨i,x⟩:=p;simp only [hp x (Array.mem_map.2 ⟨(i,x),cB,rfl⟩)]
 have lists:∀ xs:Array Operand,(∀ x ∈ xs,ρ x=ρ' x)->xs.toList.map ρ=xs.toList.map ρ':=fun xs hx=>Sy fun x hm=>hx x cB;cases op <;> simp only [Op.operands] at h <;> simp only [evQ];case build t ps=>rw [pairs ps fun x hx=>h x dE]
 case buildSlice t n ps=>rw [pairs ps fun x hx=>h x dE]
 case slice t x lo hi mx=>cases lo <;> cases hi <;> cases mx <;> simp_all
 case makeFunc fn first caps =>
  have h1:=lists caps fun x hx=>h x bP
  have h2:(caps.toList.all fun x=>L4 (ρ x))=(caps.toList.all fun x=>L4 (ρ' x)):=by
   have:∀ f:Operand->AV,(caps.toList.all fun x=>L4 (f x))=(caps.toList.map f).all L4:=fun f=>by rw [List.all_map]; rfl
   rw [this,this,h1]
  have h3:=lists first fun x hx=>h x bP
  cases fn with
  | func f=>simp only [h1,h2,h3]
  | method m =>
   simp only
   split
   ·rename_i x hf _
    rw [h x (by
      have:x ∈ first:=by rw [<- Array.mem_toList_iff,hf]; simp
      simp [this])]
   ·rfl
  | _=>rfl
 case call c =>
  have h1:=lists c.args fun x hx=>h x (by simp [Call.operands,hx])
  rw [h1]
 all_goals first|rfl|(simp_all; done)|skip
def Arl [Globs] (P:Program) (call:Dv) (o:Oper) (s s':St) (v:AV):Prop :=
  s'.T=s.T/\(wrS o=false->s'.S=s.S/\s'.n=s.n)/\(wrT o=false->s'.tk=s.tk) /\
  ∀ s2:St,(∀ x ∈ o.op.operands,opv s2.T x=opv s.T x)->(∀ t x,o.op=.load t x->ldA P t (opv s.T x) s2.S=ldA P t (opv s.T x) s.S)->(wrS o=true->s2.S=s.S/\s2.n=s.n)->(wrT o=true->s2.tk=s.tk)->(rdA o=true->s2.S=s.S/\s2.n=s.n/\s2.tk=s.tk) ->
   ∃ s2',evO P call o s2=some (v,s2')/\s2'.T=s2.T/\(wrS o=true->s2'.S=s'.S/\s2'.n=s'.n)/\(wrS o=false->s2'.S=s2.S/\s2'.n=s2.n)/\(wrT o=true->s2'.tk=s'.tk)/\(wrT o=false->s2'.tk=s2.tk)
theorem Vc [Globs] {call:Dv} {o:Oper} {s s':St} {v v':AV} (hq:evQ P o (opv s.T)=some v') (e:(v',s)=(v,s')) (hw:wrS o=false) (ht:wrT o=false) (bu:∀ s2:St,evO P call o s2=(evQ P o (opv s2.T)).map fun v=>(v,s2)):Arl P call o s s' v:=by
 simp only [Cf] at e;obtain ⟨rfl,rfl⟩:=e;exact ⟨rfl,fun _=>⟨rfl,rfl⟩,fun _=>rfl,fun s2 h2 _ _ _ _=>⟨s2,by rw [bu,Als h2,hq]; rfl,rfl,fun h=>by rw [hw] at h; simp at h,fun _=>⟨rfl,rfl⟩,fun h=>by rw [ht] at h; simp at h,fun _=>rfl⟩⟩
theorem Uz [Globs] {call:Dv} (hi:Ue call) {o:Oper} {s s':St} {v:AV} (a05:(match o.op with|.select ..=>false|_=>true)=true) (h:evO P call o s=some (v,s')):Arl P call o s s' v:=by
 obtain ⟨dst,op,type,pos,after,guard⟩:=o;cases op;case load t x =>
  simp only [evO,Cd,Cf] at h
  obtain ⟨u,h,rfl,rfl⟩:=h
  refine ⟨rfl,fun _=>⟨rfl,rfl⟩,fun _=>rfl,fun s2 h2 hR _ _ _=>⟨s2,?_,rfl,bY,fun _=>⟨rfl,rfl⟩,by simp [wrT],fun _=>rfl⟩⟩
  have e:ldA P t (opv s.T x) s2.S=ldA P t (opv s.T x) s.S:=hR t x rfl
  simp only [evO,h2 x cO,e,h,Fa]
 case store t x y =>
  simp only [evO,Cd,Cf] at h
  obtain ⟨u,h,rfl,rfl⟩:=h
  refine ⟨rfl,bY,fun _=>rfl,fun s2 h2 _ hS _ _=>⟨{ s2 with S:=u },?_,rfl,fun _=>⟨rfl,(hS bY).2⟩,bY,by simp [wrT],fun _=>rfl⟩⟩
  simp only [evO,h2 x cO,h2 y cO,(hS bY).1,h,Fa]
 case alloc t =>
  simp only [evO,Cd,Cf] at h
  obtain ⟨u,h,rfl,rfl⟩:=h
  refine ⟨rfl,bY,fun _=>rfl,fun s2 h2 _ hS _ _=>?_⟩
  obtain ⟨e1,e2⟩:=hS bY
  exact ⟨{ s2 with S:=s2.S++[⟨s2.n,u⟩],n:=s2.n+1 },by simp only [evO,h,Fa,e1,e2],rfl,fun _=>by simp [e1,e2],bY,by simp [wrT],fun _=>rfl⟩
 case box t x =>
  simp only [evO,Cd,Cf] at h
  obtain ⟨u,h,rfl,rfl⟩:=h
  refine ⟨rfl,bY,fun _=>rfl,fun s2 h2 _ hS _ _=>?_⟩
  obtain ⟨e1,e2⟩:=hS bY
  exact ⟨{ s2 with S:=s2.S++[⟨s2.n,u⟩],n:=s2.n+1 },by simp only [evO,h2 x cO,h,Fa,e1,e2],rfl,fun _=>by simp [e1,e2],bY,by simp [wrT],fun _=>rfl⟩
 case makeSlice t l c =>
  simp only [evO,Cd,Prod.exists] at h
  obtain ⟨l',sz,cs,h,hh⟩:=h
  split at hh
  ·rename_i hl
   simp only [Cf] at hh
   obtain ⟨rfl,rfl⟩:=hh
   refine ⟨rfl,fun _=>⟨rfl,rfl⟩,by simp [wrT,hl],fun s2 h2 _ _ hT _=>?_⟩
   have e:=hT (by simp [wrT,hl])
   exact ⟨{ s2 with tk:=s2.tk++[0] },by simp only [evO,h2 l cO,h2 c cO,h,Fa,hl,if_true,e],rfl,by simp [wrS,hl],fun _=>⟨rfl,rfl⟩,fun _=>by simp [e],by simp [wrT,hl]⟩
  ·rename_i hl
   simp only [Cf] at hh
   obtain ⟨rfl,rfl⟩:=hh
   have qx:Wt ⟨dst,.makeSlice t l c,type,pos,after,guard⟩ l=false:=cH
   refine ⟨rfl,by simp [wrS,qx],fun _=>rfl,fun s2 h2 _ hS _ _=>?_⟩
   obtain ⟨e1,e2⟩:=hS (by simp [wrS,qx])
   exact ⟨{ s2 with S:=s2.S++[⟨s2.n,cs⟩],n:=s2.n+1 },by simp only [evO,h2 l cO,h2 c cO,h,Fa,qx,e1,e2]; rfl,rfl,fun _=>by simp [e1,e2],by simp [wrS,qx],by simp [wrT,qx],fun _=>rfl⟩
 case call c =>
  have aa:∀ s2:St,(∀ x ∈ (Op.call c).operands,opv s2.T x=opv s.T x)->c.args.toList.map (opv s2.T)=c.args.toList.map (opv s.T):=fun s2 h2=>Sy fun x hx=>h2 x (by simp [Op.operands,Call.operands]; right; simpa using hx)
  cases ao:c.callee with
  | builtin b =>
   by_cases hb:b=.append
   ·subst hb
    simp only [evO,ao] at h
    split at h
    ·rename_i x y t t' iw ht
     split at h
     ·rename_i how
      split at h
      ·rename_i vq
       simp only [Cd,Cf,Prod.exists] at h
       obtain ⟨u,S',n',h,rfl,rfl⟩:=h
       have hw:wrS ⟨dst,.call c,type,pos,after,guard⟩=true:=by simpa [wrS,ao] using how
       refine ⟨rfl,fun hf=>by rw [hw] at hf; simp at hf,fun _=>rfl,fun s2 h2 _ hS hT _=>?_⟩
       obtain ⟨e1,e2⟩:=hS hw
       have e3:=hT cZ
       refine ⟨{ s2 with S:=S',n:=n' },?_,rfl,fun _=>⟨rfl,rfl⟩,fun hf=>by rw [hw] at hf; simp at hf,fun _=>e3,fun _=>rfl⟩
       simp only [evO,ao,aa s2 h2,iw,ht,how,vq,if_true,e1,e2]
       subst vq
       simp only [h,Fa]
      ·simp at h
     rename_i how
     have hnw:wrS ⟨dst,.call c,type,pos,after,guard⟩=false:=by simpa [wrS,ao] using how
     split at h
     ·rename_i vq
      simp only [Cd,Cf,Prod.exists] at h
      obtain ⟨u,tk',h,rfl,rfl⟩:=h
      refine ⟨rfl,fun _=>⟨rfl,rfl⟩,cZ,fun s2 h2 _ _ hT hA=>⟨{ s2 with tk:=tk' },?_,rfl,fun hf=>by rw [hnw] at hf; simp at hf,fun _=>⟨rfl,rfl⟩,fun _=>rfl,cZ⟩⟩
      have e:=hT cZ
      have bl:apB1 P t x y s.tk s2.S=apB1 P t x y s.tk s.S:=by
       cases wv:(Globs.shAny:Bool) with
       | true=>rw [(hA (by simp [rdA,ao,wv])).1]
       | false=>unfold apB1; simp [wv]
      simp only [evO,ao,aa s2 h2,iw,ht,vq,if_true,e,if_neg how]
      subst vq
      rw [bl]
      simp only [h,Fa]
     ·rename_i vq
      simp only [Cd,Cf,Prod.exists] at h
      obtain ⟨u,tk',h,rfl,rfl⟩:=h
      refine ⟨rfl,fun _=>⟨rfl,rfl⟩,cZ,fun s2 h2 _ _ hT _=>⟨{ s2 with tk:=tk' },?_,rfl,fun hf=>by rw [hnw] at hf; simp at hf,fun _=>⟨rfl,rfl⟩,fun _=>rfl,cZ⟩⟩
      have e:=hT cZ
      simp only [evO,ao,aa s2 h2,iw,ht,e,if_neg vq,h,Fa,if_neg how]
    ·simp at h
   ·by_cases hb2:b=.copy
    ·subst hb2
     simp only [evO,ao] at h
     split at h
     ·rename_i x y t t' iw ht
      simp only [Cd,Cf,Prod.exists] at h
      obtain ⟨m,S',h,rfl,rfl⟩:=h
      refine ⟨rfl,gK,fun _=>rfl,fun s2 h2 _ hS _ _=>⟨{ s2 with S:=S' },?_,rfl,fun _=>⟨rfl,(hS gK).2⟩,gK,cZ,fun _=>rfl⟩⟩
      simp only [evO,ao,aa s2 h2,iw,ht,(hS gK).1,h,Fa]
     ·simp at h
    ·have bu:∀ s2:St,evO P call ⟨dst,.call c,type,pos,after,guard⟩ s2=(evQ P ⟨dst,.call c,type,pos,after,guard⟩ (opv s2.T)).map fun v=>(v,s2):=by
      intro s2;simp only [evO,ao]
     rw [bu] at h
     simp only [Cd] at h
     obtain ⟨v',h1,h2⟩:=h
     exact Vc h1 h2 (by cases b <;> simp [wrS,ao] at hb hb2 ⊢) (by cases b <;> simp [wrT,ao] at hb ⊢) bu
  | value fx =>
   simp only [evO,ao] at h
   split at h
   ·rename_i f args gt
    simp only [Cd,Cf,Prod.exists] at h
    obtain ⟨r,S',tk',n',h,rfl,rfl⟩:=h
    have yk:∀ s2:St,(∀ x ∈ (Op.call c).operands,opv s2.T x=opv s.T x)->Gy P s2.T c=some (f,args):=by
     intro s2 h2;rw [<- gt];unfold Gy;rw [ao];simp only [aa s2 h2,h2 fx Za4q]
    have yh:∀ g,fx=.func g->g=f:=by
     rintro g rfl;unfold Gy at gt;rw [ao] at gt;simp only [opv,Bg,Cf] at gt;exact gt.1
    rcases hi _ _ _ _ _ _ _ _ _ h with hxd|⟨rfl,rfl,dd⟩
    ·have hxf:xF f=true:=by simp only [Ch] at hxd; exact hxd.1
     have ro:(Globs.xAny:Bool)=true:=by unfold xF at hxf; simp only [Ch] at hxf; exact hxf.1
     have yl:rdA ⟨dst,.call c,type,pos,after,guard⟩=true:=by
      simp only [rdA,ao];exact Ya2k
     have ym:wrS ⟨dst,.call c,type,pos,after,guard⟩=true:=by
      simp only [wrS,ao];exact Ya2k
     have hwt:wrT ⟨dst,.call c,type,pos,after,guard⟩=true:=by
      simp only [wrT,ao];cases fx with
      | func g=>simp only [yh g rfl,hxf]
      | _=>exact ro
     refine ⟨rfl,fun hw=>fB,fun hw=>by rw [hwt] at hw; simp at hw,fun s2 h2 _ _ _ hA=>?_⟩
     obtain ⟨a1,a2,a3⟩:=hA yl
     refine ⟨{ s2 with S:=S',tk:=tk',n:=n' },?_,rfl,fun _=>⟨rfl,rfl⟩,fun hw=>fB,fun _=>rfl,fun hw=>by rw [hwt] at hw; simp at hw⟩
     simp only [evO,ao,yk s2 h2]
     rw [a1,a2,a3,h]
     rfl
    by_cases wv:shF f=true
    ·have ro:(Globs.shAny:Bool)=true:=by unfold shF at wv; simp only [Ch] at wv; exact wv.1
     have yl:rdA ⟨dst,.call c,type,pos,after,guard⟩=true:=by
      simp only [rdA,ao];exact Ya2n
     have ym:wrS ⟨dst,.call c,type,pos,after,guard⟩=true:=by
      simp only [wrS,ao];exact Ya2n
     refine ⟨rfl,fun hw=>fB,fun _=>rfl,fun s2 h2 _ _ _ hA=>?_⟩
     obtain ⟨a1,a2,a3⟩:=hA yl
     refine ⟨{ s2 with n:=n' },?_,rfl,fun _=>⟨a1,rfl⟩,fun hw=>fB,fun _=>a3,fun _=>rfl⟩
     simp only [evO,ao,yk s2 h2]
     rw [a1,a2,a3,h]
     simp only [Fa,<- a1,<- a3]
    ·obtain ⟨hnn,kq⟩:=dd.resolve_left wv
     subst hnn
     refine ⟨rfl,fun _=>⟨rfl,rfl⟩,fun _=>rfl,fun s2 h2 _ hS hT _=>⟨s2,?_,rfl,fun hw=>?_,fun _=>⟨rfl,rfl⟩,fun hw=>?_,fun _=>rfl⟩⟩
     ·simp only [evO,ao,yk s2 h2,kq s2.S s2.tk s2.n,Fa]
     ·exact hS hw
     ·exact hT hw
   ·simp at h
  | invoke rx m =>
   simp only [evO,ao] at h
   split at h
   ·rename_i f args gt
    simp only [Cd,Cf,Prod.exists] at h
    obtain ⟨r,S',tk',n',h,rfl,rfl⟩:=h
    have yk:∀ s2:St,(∀ x ∈ (Op.call c).operands,opv s2.T x=opv s.T x)->Gy P s2.T c=some (f,args):=by
     intro s2 h2;rw [<- gt];unfold Gy;rw [ao];simp only [aa s2 h2,h2 rx Za4q]
    refine ⟨rfl,fun hw=>by simp [wrS,ao] at hw,fun hw=>by simp [wrT,ao] at hw,fun s2 h2 _ _ _ hA=>?_⟩
    obtain ⟨a1,a2,a3⟩:=hA (by simp [rdA,ao])
    refine ⟨{ s2 with S:=S',tk:=tk',n:=n' },?_,rfl,fun _=>⟨rfl,rfl⟩,fun hw=>by simp [wrS,ao] at hw,fun _=>rfl,fun hw=>by simp [wrT,ao] at hw⟩
    simp only [evO,ao,yk s2 h2]
    rw [a1,a2,a3,h]
    rfl
   ·simp at h
 all_goals first
  | (simp at a05; done)
  | (simp only [evO,Cd] at h
     obtain ⟨v', h1, h2⟩ := h
     exact Vc h1 h2 rfl rfl (fun s2 => by simp only [evO]))
def Aj8 [Globs] (P:Program) (call:Dv) (all:List Oper) (o:Oper) (s s':St) (v:AV):Prop :=
 (J7 all s.T o=some false/\v=.prim undef/\s'={ s with T:=putT s.T o.dst v })\/(J7 all s.T o=some true/\∃ s1,evO P call o s=some (v,s1)/\chkO P all o s v s1=true/\s'={ s1 with T:=putT s1.T o.dst v })
theorem Ash [Globs] {call:Dv} {all:List Oper} : ∀ {l:List Oper} {st st':St},evOs P call all l st=some st'->∃ (sts:Nat->St) (val:Nat->AV),sts 0=st/\sts l.length=st'/\∀ (i:Nat) o,l[i]?=some o->Aj8 P call all o (sts i) (sts (i+1)) (val i)
 | [],st,st',h=>by
  simp only [evOs,Bg] at h; subst h;exact ⟨fun _=>st,fun _=>.bot,rfl,rfl,by simp⟩
 | o :: l,st,st',h=>by
  have key:∀ {s1:St} {v:AV},Aj8 P call all o st s1 v->evOs P call all l s1=some st'->∃ (sts:Nat->St) (val:Nat->AV),sts 0=st/\sts (o :: l).length=st'/\∀ (i:Nat) o',(o :: l)[i]?=some o'->Aj8 P call all o' (sts i) (sts (i+1)) (val i):=by
   intro s1 v hs h;obtain ⟨sts,val,h1,h2,h3⟩:=Ash h;refine ⟨fun|0=>st|i+1=>sts i,fun|0=>v|i+1=>val i,rfl,h2,fun i o' ho=>?_⟩;cases i with
   | zero =>
    simp only [Oa,Bg] at ho; subst ho;show Aj8 P call all o st (sts 0) v;rw [h1]; exact hs
   | succ i=>exact h3 i o' fX
  simp only [evOs] at h;split at h
  ·simp at h
  ·rename_i hw;exact key (.inl ⟨hw,rfl,rfl⟩) h
  ·rename_i hw;split at h
   ·rename_i v s1 ho;split at h
    ·rename_i oq;exact key (.inr ⟨hw,s1,ho,oq,rfl⟩) h
    ·simp at h
   ·simp at h
theorem Jw (T:List AV) (d:Option Tmp) (v:AV):(putT T d v).length=T.length:=by
 cases d <;> simp [putT,Am]
theorem Je:∀ {T:List AV} {d:Nat} {v:AV},d<T.length->getT (put T d v) d=v
 | _ :: _,0,_,_=>rfl
 | _ :: T,d+1,v,h=>Je (T:=T) aO
 | [],_,_,h=>aR
theorem Da:∀ {T:List AV} {d t:Nat} {v:AV},d≠t->getT (put T d v) t=getT T t
 | _ :: _,0,0,_,h=>absurd rfl h
 | _ :: _,0,_+1,_,_=>rfl
 | _ :: _,_+1,0,_,_=>rfl
 | _ :: T,d+1,t+1,v,h=>Da (T:=T) aA
 | [],_,_,_,_=>rfl
theorem Af9:∀ {T T':List AV},T.length=T'.length->(∀ t,getT T t=getT T' t)->T=T'
 | [],[],_,_=>rfl
 | x :: T,y :: T',h,hg=>by
  have h0:=hg 0;simp only [getT] at h0;rw [h0,Af9 (T:=T) (T':=T') aO fun t=>hg (t+1)]
 | [],_ :: _,h,_=>aR
 | _ :: _,[],h,_=>aR
def Ajg (w:Nat->Bool) (listed:Array Bool) (n c:Nat):Prop:=c<=n/\(∀ j,j<c->w j=true->listed.getD j false=true)/\(c<n->w c=true/\listed.getD c false=false)
theorem M4 (w:Nat->Bool) (listed:Array Bool) (n:Nat):∀ k c,n - c<=k->c<=n->(∀ j,j<c->w j=true->listed.getD j false=true)->∃ c',c<=c'/\Ajg w listed n c'/\∀ j,c<=j->j<c'->w j=true->listed.getD j false=true
 | 0,c,hk,hc,h=>⟨c,Ce _,⟨hc,h,fun h=>aA⟩,fun j h1 h2=>aA⟩
 | k+1,c,hk,hc,h=>by
  by_cases hn:c<n/\w c=true/\listed.getD c false=false
  ·exact ⟨c,Ce _,⟨hc,h,fun _=>hn.2⟩,fun j h1 h2=>aA⟩
  ·by_cases xp:c<n
   ·obtain ⟨c',h1,h2,h3⟩:=M4 w listed n k (c+1) aA aA (fun j hj hw=>by
     by_cases e:j=c
     ·subst e;cases hl:listed.getD j false with
      | true=>rfl
      | false=>exact absurd ⟨xp,hw,hl⟩ hn
     ·exact h j aA hw)
    exact ⟨c',aA,h2,fun j h4 h5 hw=>h2.2.1 j h5 hw⟩
   ·exact ⟨c,Ce _,⟨hc,h,fun h=>absurd h xp⟩,fun j h1 h2=>aA⟩
def wS [Globs] (ops:Array Oper) (j:Nat):Bool:=match ops[j]? with|some o=>wrS o|none=>false
def wT [Globs] (ops:Array Oper) (j:Nat):Bool:=match ops[j]? with|some o=>wrT o|none=>false
structure DInv [Globs] (ops:Array Oper) (st:St) (sts:Nat->St) (val:Nat->AV) (listed:Array Bool) (s:St):Prop where
 len:listed.size=ops.size
 closed:∀ j,listed.getD j false=true->∀ e ∈ depsOf ops j,listed.getD e false=true
 lenT:s.T.length=st.T.length
 t1:∀ j t,listed.getD j false=true->B7 ops j=some t->(∀ e,Eu ops e j=true->listed.getD e false=true)->getT s.T t=if t<st.T.length then val j else .bot
 t2:∀ t,(∀ j,listed.getD j false=true->B7 ops j≠some t)->getT s.T t=getT st.T t
 cS:∃ c,Ajg (wS ops) listed ops.size c/\s.S=(sts c).S/\s.n=(sts c).n
 cT:∃ c,Ajg (wT ops) listed ops.size c/\s.tk=(sts c).tk
theorem Rk {o:Oper} (h:isAl o=true):∃ t,o.op=.alloc t/\o.guard=none:=by
 unfold isAl at h;simp only [Ch,Ii] at h;obtain ⟨h1,h2⟩:=h;split at h1
 ·rename_i t e; exact ⟨t,e,h2⟩
 ·simp at h1
theorem Js [Globs] {o:Oper} (h:isAl o=true):wrS o=true/\rdS o=false/\wrT o=false:=by
 obtain ⟨t,e,-⟩:=Rk h;exact ⟨by simp [wrS,e],by simp [rdS,e],by simp [wrT,e]⟩
theorem Jv {i j:Nat} (h:Eu ops j i=true):∃ p o,ops[j]?=some p/\ops[i]?=some o/\(isAl p=true/\rdS p=false)/\isAl o=true/\rdS o=false:=by
 unfold Eu at h;simp only [Ch] at h;obtain ⟨⟨-,h⟩,-⟩:=h;split at h
 ·rename_i p o h1 h2;simp only [Ch] at h;have key:∀ {o:Oper},isAl o=true->rdS o=false:=fun h=>by
   obtain ⟨t,e,-⟩:=Rk h;simp [rdS,e]
  exact ⟨p,o,h1,h2,⟨h.1,key h.1⟩,h.2,key h.2⟩
 ·simp at h
theorem G7 {i j:Nat} (h:Eu ops j i=true):i=j+1:=by
 unfold Eu at h;simp only [Ch,decide_eq_true_eq] at h;exact h.1.1
theorem Vy {i j:Nat} (h:Eu ops j i=true):j<ops.size/\i<ops.size:=by
 obtain ⟨p,o,h1,h2,-⟩:=Jv h;exact ⟨(Ck.1 h1).1,(Ck.1 h2).1⟩
theorem Rv {i j k:Nat} (h:Eu ops j i=true) (hk:k<ops.size) (h1:k≠j) (h2:k≠i):j ∈ reachAt ops k↔i ∈ reachAt ops k:=by
 unfold Eu at h;simp only [Ch] at h;have h3:=Fc.1 h.2 k (by simpa using hk);simp only [Io,beq_iff_eq] at h3;rcases h3 with (h3|h3)|h3
 ·exact absurd h3 h1
 ·exact absurd h3 h2
 ·rw [<- kA,<- kA,h3]
structure Le0 (C C':Cx):Prop where
 n:C.n<=C'.n
 stays:Stays C.w C'.w C.Avoid C'.Avoid
 shape:∀ (b:Nat) (cs:Array Value) (t:TypeId) (fz:Nat × Nat),C.w.heap[b]?=some (kD cs t fz)->∃ cs':Array Value,C'.w.heap[b]?=some (kD cs' t fz)/\cs'.size=cs.size
 ent:∀ id e',nth C'.S id=some e'->e'.ep<C.n->∃ e,nth C.S id=some e/\e.ep=e'.ep/\C'.φ id=C.φ id
 tok:∀ id k,nth C.tk id=some k->∃ k',nth C'.tk id=some k'/\k<=k'/\(k'=k->C'.ψ id=C.ψ id)
theorem CapR.mono0 {C C':Cx} (h:Le0 C C') {c a len cap} (hc:CapR C c a len cap):CapR C' c a len cap:=by
 exact Yaw
mutual
theorem VR.mono0 {C C':Cx} (h:Le0 C C'):∀ (c:AV) (x:Value),VR C c x->VR C' c x
 | .bot,_,_=>bW
 | .prim _,_,hx=>by simpa only [VR] using hx
 | .frz es c,x,hx=>by
  simp only [VR] at hx ⊢;obtain ⟨a,len,cap,e,h1,h2,h3,h4⟩:=hx;refine ⟨a,len,cap,e,h1,h2,h3.mono0 h,h4.imp id ?_⟩;rintro ⟨b,o,sz,ea,hr⟩;exact ⟨b,o,sz,ea,B6.stays h.stays b sz o es hr⟩
 | .fptr cs,x,hx=>by
  exact Ya1k
 | .agg cs,x,hx=>by
  exact Ya2f
 | .tup cs,x,hx=>by
  exact Ya2f
 | .ref id ep off,x,hx=>by
  exact Ya0p
 | .sref id ep off len sz,x,hx=>by
  exact Yaz
 | .fn f caps,x,hx=>by
  exact Ya29
 | .bfn f caps,x,hx=>by
  exact Ya29
 | .ifc t v,x,hx=>by
  exact Ya36
 | .mfn t m v,x,hx=>by
  exact Ya36
 | .lit len cs,x,hx=>by
  simp only [VR] at hx ⊢;obtain ⟨b,vs,e,hl,hr⟩:=hx;exact ⟨b,vs,e,hl.stays h.stays,VRs.mono0 h cs vs hr⟩
theorem VRs.mono0 {C C':Cx} (h:Le0 C C'):∀ (cs:List AV) (vs:List Value),VRs C cs vs->VRs C' cs vs
 | [],[],_=>cI
 | c :: cs,v :: vs,hx=>by simp only [VRs] at hx ⊢; exact ⟨VR.mono0 h c v hx.1,VRs.mono0 h cs vs hx.2⟩
 | [],_ :: _,hx=>fG
 | _ :: _,[],hx=>fG
end
def Cx.hid (C:Cx) (arr:Array Value) (t:TypeId):Cx:={ C with w:=C.w.alloc (.cells arr t),av:=fun x o=>C.av x o\/x=C.w.heap.size }
theorem Amz [Globs] {C:Cx} (hs:SR C) {b o:Nat} (h:C.Mut b o):b<C.w.heap.size:=by
 rcases h with ⟨i,hi,e⟩|⟨i,hi,e,h1,h2⟩
 ·rw [<- e]; exact Qq hs hi
 ·rw [<- e]; exact hs.tlt i o hi h1 h2
theorem Le0.hid [Globs] {C:Cx} (arr:Array Value) (t:TypeId):Le0 C (C.hid arr t):=by
 have hb:Below C.w.heap.size C.w (C.w.alloc (.cells arr t)):=(F1 _ _).alloc (Ce _) _;refine ⟨Ce _,fun b o v hv ha=>⟨by rw [show (C.hid arr t).w=C.w.alloc (.cells arr t) from rfl,lP hb (Ha hv)]; exact hv,?_⟩,fun b d t' fz hd=>⟨d,Dw hb hd,rfl⟩,fun _ e he _=>⟨e,he,rfl,rfl⟩,fun _ k hk=>⟨k,hk,Ce _,fun _=>rfl⟩⟩;rintro ((h|h)|h)
 ·exact ha (.inl h)
 ·have:=Ha hv; omega
 ·exact ha (.inr h)
theorem SR.hid [Globs] {C:Cx} (hs:SR C) (arr:Array Value) (t:TypeId):SR (C.hid arr t):=by
 have hb:Below C.w.heap.size C.w (C.w.alloc (.cells arr t)):=(F1 _ _).alloc (Ce _) _;refine ⟨fun i x hx=>?_,hs.ne,hs.tok,hs.apart,fun b o hm=>?_,fun b o ha=>?_,fun i o hi h1 h2=>F7 (hs.tlt i o hi h1 h2) hb.size,fun g a hg=>?_⟩
 ·obtain ⟨g1,d,t',g2,vs',r',wl,g3⟩:=hs.ent i x hx;exact ⟨g1,d,t',Dw hb g2,vs',r',wl,VRs.mono0 (Le0.hid arr t) _ _ g3⟩
 ·have ft:C.Mut b o:=hm;have:=Amz hs ft;rintro (h|h)
  ·exact hs.own b o ft h
  ·omega
 ·rcases ha with h|h
  ·exact F7 (hs.avlt b o h) hb.size
  ·subst h;exact (Ck.1 (Az C.w (.cells arr t))).1
 ·obtain ⟨⟨t',fz,h1⟩,h2⟩:=hs.glob g a hg;exact ⟨⟨t',fz,Dw hb h1⟩,fun i=>.inl (h2 i)⟩
def Cx.rev (C:Cx) (av0:Nat->Nat->Prop) (b:Nat) (cs:List AV):Cx :=
 { C with av:=av0,φ:=fun i=>if i=C.S.length then b else C.φ i,S:=C.S++[⟨C.n,cs⟩],n:=C.n+1 }
section
variable {C:Cx} {av0:Nat->Nat->Prop} {b:Nat}
theorem Zm {cs:List AV} {x o:Nat} (h:(C.rev av0 b cs).Mut x o):C.Mut x o\/x=b:=by
 rcases h with ⟨i,hi,e⟩|h
 ·simp only [Cx.rev,Cn,Cj,Cv] at hi e;split at e
  ·exact .inr e.symm
  ·exact .inl (.inl ⟨i,aA,e⟩)
 ·exact .inl (.inr h)
theorem Le0.rev (fc:∀ o,C.av b o) (j1:∀ x o,x≠b->(C.av x o↔av0 x o)) (h0:∀ o,¬ av0 b o) (cs:List AV):Le0 C (C.rev av0 b cs):=by
 refine ⟨kL _,fun x o v hv ha=>⟨hv,?_⟩,fun _ d _ _ hd=>⟨d,hd,rfl⟩,fun i x hx hn=>?_,fun _ k hk=>⟨k,hk,Ce _,fun _=>rfl⟩⟩
 ·rintro (h|h)
  ·by_cases e:x=b
   ·subst e; exact h0 o h
   ·exact ha (.inl ((j1 x o e).2 h))
  ·rcases Zm h with h|h
   ·exact ha (.inr h)
   ·subst h; exact ha (.inl (fc o))
 ·rcases Lh hx with ⟨h1,h2⟩|⟨h1,h2⟩
  ·subst h2; simp at hn
  ·refine ⟨x,h2,rfl,?_⟩;simp only [Cx.rev];rw [if_neg aA]
theorem SR.rev [Globs] (hs:SR C) {arr:Array Value} {t:TypeId} (hb:C.w.heap[b]?=some (.cells arr t (0,0))) (fc:∀ o,C.av b o) (j1:∀ x o,x≠b->(C.av x o↔av0 x o)) (h0:∀ o,¬ av0 b o) (hg:∀ g a,(g,a) ∈ Globs.gl->∀ i,av0 g i) :
  SR (C.rev av0 b (arr.toList.map cst1)):=by
 have hle:=Le0.rev (C:=C) fc j1 h0 (arr.toList.map cst1);have nb:∀ i,i<C.S.length->C.φ i≠b:=fun i hi e=>hs.own b 0 (.inl ⟨i,hi,e⟩) (fc 0);refine ⟨fun i x hx=>?_,fun i j hi hj h=>?_,hs.tok,fun i j o hi hj h h1 h2=>?_,?_,fun x o ha=>?_,hs.tlt,fun g a hm=>⟨(hs.glob g a hm).1,hg g a hm⟩⟩
 ·rcases Lh hx with ⟨h1,rfl⟩|⟨h1,h2⟩
  ·refine ⟨I9 _,arr,t,?_,arr.toList,[],by simp,Ka _⟩;simp only [Cx.rev,h1,if_true];exact hb
  ·obtain ⟨g1,d,t',g2,vs',r',wl,g3⟩:=hs.ent i x h2;refine ⟨Nat.lt_succ_of_lt g1,d,t',?_,vs',r',wl,VRs.mono0 hle _ _ g3⟩;simp only [Cx.rev];rw [if_neg aA];exact g2
 ·simp only [Cx.rev,Cn,Cj,Cv] at hi hj h;by_cases au:i=C.S.length <;> by_cases fu:j=C.S.length
  ·omega
  ·rw [if_pos au,if_neg fu] at h;exact absurd h.symm (nb j aA)
  ·rw [if_neg au,if_pos fu] at h;exact absurd h (nb i aA)
  ·rw [if_neg au,if_neg fu] at h;exact hs.ne i j aA aA h
 ·simp only [Cx.rev,Cn,Cj,Cv] at hi h hj h1 h2;by_cases au:i=C.S.length
  ·rw [if_pos au] at h;exact hs.own b o (.inr ⟨j,hj,h.symm,h1,h2⟩) (fc o)
  ·rw [if_neg au] at h;exact hs.apart i j o aA hj h h1 h2
 ·intro x o hm ha;by_cases e:x=b
  ·subst e; exact h0 o ha
  ·rcases Zm hm with h|h
   ·exact hs.own x o h ((j1 x o e).2 ha)
   ·exact e h
 ·by_cases e:x=b
  ·subst e; exact absurd ha (h0 o)
  ·exact hs.avlt x o ((j1 x o e).2 ha)
end
theorem Afc {o:Oper} {t:TypeId} {cs:List AV} (ho:o.op=.alloc t) (hz:A2 P t=some cs):∃ arr:Array Value,arr.toList.map cst1=cs/\∀ (C:Cx) (a:Act) (next:Act->World->Prop) (Q:Exit->Act->World->Prop),next (a.put o.dst (.pointer (some ⟨C.w.heap.size,0,none⟩))) (C.w.alloc (.cells arr t))->o.wp P a C.w next Q:=by
 simp only [A2,Cd,Il] at hz;obtain ⟨zv,⟨i,h1,h2⟩,rfl⟩:=hz;refine ⟨zv.cells,rfl,fun C a next Q hn=>Hr (v:=.pointer (some ⟨C.w.heap.size,0,none⟩)) (w':=C.w.alloc (.cells zv.cells t)) ?_ hn⟩;have hz:(zeroValue t).run P C.w=.ok zv C.w:=by simp [zeroValue,typeInfo,h1,h2]
 simp only [execOp,ho,Instr.alloc,F3,hz,Fv,newVar,Jp,I4]
theorem Ly {C:Cx} : ∀ {T vs} {d:Nat} {c},VRs C T vs->(∀ x,vs[d]?=some x->VR C c x)->VRs C (put T d c) vs
 | [],[],_,_,_,_=>by simp only [put,VRs]
 | _ :: _,v :: _,0,_,h,hv=>by simp only [VRs,put] at h ⊢; exact ⟨hv v rfl,h.2⟩
 | _ :: _,_ :: _,d+1,_,h,hv=>by simp only [VRs,put] at h ⊢; exact ⟨h.1,Ly h.2 fun x hx=>hv x dE⟩
 | [],_ :: _,_,_,h,_=>aW
 | _ :: _,[],_,_,h,_=>aW
theorem Ak3 [Globs] {T:List AV} {c:Call} {f:FuncId} {args:List AV} (h:Gy P T c=some (f,args)) (hx:xF f=true):Aev c=true:=by
 have ro:(Globs.xAny:Bool)=true:=by unfold xF at hx; simp only [Ch] at hx; exact hx.1
 unfold Gy at h;unfold Aev;split at h
 ·rename_i hc; rw [hc]
 ·rename_i x hc;rw [hc];cases x with
  | func g =>
   simp only [opv,Bg,Cf] at h;simp only [h.1,hx]
  | _=>exact ro
 ·simp at h
theorem Ap9 [Globs] {call:Dv} {o:Oper} {c:Call} {s s':St} {v:AV} (ho:o.op=.call c) (hb:∀ b,c.callee≠.builtin b) (h:evO P call o s=some (v,s')):∃ f args S' tk' n',Gy P s.T c=some (f,args)/\call f args s.S s.tk s.n=some (v,S',tk',n')/\s'.S=S':=by
 simp only [evO,ho] at h;split at h
 ·exact Ya2v
 ·exact Ya2v
 ·rename_i b _ _ h'; exact absurd h' (hb _)
 ·split at h
  ·rename_i f args gt;simp only [Cd,Cf,Prod.exists] at h;obtain ⟨r,S',tk',n',h,rfl,rfl⟩:=h;exact ⟨f,args,S',tk',n',gt,h,rfl⟩
  ·simp at h
theorem Ak6 [Globs] {all:List Oper} {o:Oper} {s s':St} {v:AV} (h:chkO P all o s v s'=true) (hd:(Globs.dr:Bool)=true) (hx:xOp o=true):chkX P all o s s':=by
 unfold chkO at h;rw [hd,hx] at h;simpa using h
theorem Ar1 [Globs] {all:List Oper} {o:Oper} {s s':St} {v:AV} (h:chkO P all o s v s'=true) (hd:(Globs.dr:Bool)=true) (hl:isLd o=true):isB v=false:=by
 have hx:xOp o=false:=by
  unfold isLd at hl;unfold xOp;split at hl
  ·rename_i h'; rw [h']
  ·simp at hl
 unfold chkO at h;rw [hd,hx,hl] at h;simpa using h
theorem lk_x [Globs] {o:Oper} (h:lkOp o=true):(Globs.dr:Bool)=true/\xOp o=true:=by
 unfold lkOp at h;simp only [Ch] at h;refine ⟨h.1,?_⟩;unfold xOp Aev;split at h
 ·rename_i c ho;split at h
  ·rename_i hc; rw [hc]
  ·rename_i hc;rw [hc];simp only [Ch] at h; exact h.2.1
  ·simp at h
 ·simp at h
theorem an_x [Globs] {o:Oper} (h:anOp o=true):(Globs.dr:Bool)=true/\xOp o=true:=by
 unfold anOp at h;simp only [Ch] at h;exact h.1
theorem Xc [Globs] {call:Dv} (hi:Ue call) {all:List Oper} {o:Oper} {c:Call} {s s':St} {v:AV} (ho:o.op=.call c) (hb:∀ b,c.callee≠.builtin b) (h:evO P call o s=some (v,s')) (oq:chkO P all o s v s'=true):s'.S=s.S\/(xOp o=true/\s.S.length<=s'.S.length):=by
 obtain ⟨f,args,S',tk',n',h1,h2,rfl⟩:=Ap9 ho hb h;rcases hi _ _ _ _ _ _ _ _ _ h2 with hx|⟨hS,-⟩
 ·right;simp only [Ch] at hx;have hxo:xOp o=true:=by unfold xOp; rw [ho]; exact Ak3 h1 hx.1
  have hX:=Ak6 oq hx.2 hxo;refine ⟨hxo,?_⟩;by_cases hl:lkOp o=true
  ·rw [(hX.1 hl).1];exact Ya3f
  ·exact (hX.2 (by simp [anOp,hx.2,hxo,hl])).1
 ·exact .inl hS
theorem Aif {t:TypeId} {a:AV} {S S':List Ent} (h:∀ id ep off,a≠.ref id ep off):ldA P t a S=ldA P t a S':=by
 unfold ldA;split
 ·split
  ·rfl
  ·exact absurd rfl (h _ _ _)
  ·rfl
 ·rfl
theorem T4 {t:TypeId} {id ep off:Nat} {S S':List Ent} (h:nth S' id=nth S id):ldA P t (.ref id ep off) S'=ldA P t (.ref id ep off) S:=by
 have:entAt S' id ep=entAt S id ep:=by unfold entAt; rw [h]
 unfold ldA;simp only [this]
theorem Aia {S S':List Ent} (h:Abm S S'):Abm S' S:=by
 refine ⟨h.1.symm,fun i=>?_⟩;rcases h.2 i with h|⟨ep,b,b',h1,h2⟩
 ·exact .inl h.symm
 ·exact .inr ⟨ep,b',b,h2,h1⟩
theorem Af8 {t:TypeId} {id ep off:Nat} {S S':List Ent} {V:AV} (h:Abm S S') (hl:ldA P t (.ref id ep off) S=some V) (hV:isB V=false):ldA P t (.ref id ep off) S'=some V:=by
 rcases h.2 id with h|⟨ep',b,b',h1,h2⟩
 ·rw [T4 h]; exact hl
 ·have hE:entAt S id ep=if ep'=ep then some [.prim (.bool b)] else none:=by unfold entAt; rw [h1]
  have hE':entAt S' id ep=if ep'=ep then some [.prim (.bool b')] else none:=by unfold entAt; rw [h2]
  unfold ldA at hl ⊢;simp only [hE'];simp only [hE] at hl;split at hl
  ·rename_i sz bb _ _;split at hl
   ·rename_i cs gp;split at gp
    ·rename_i he;simp only [Bg] at gp;subst gp;rw [if_pos he];simp only;unfold partA at hl ⊢;cases bb with
     | false =>
      simp only [C7,if_false] at hl;cases off with
      | zero =>
       simp only [Fz,nth,Bg] at hl;subst hl; simp [isB] at hV
      | succ off=>simp [nth] at hl
     | true =>
      simp only [if_true,Cd] at hl ⊢;obtain ⟨ds,h3,rfl⟩:=hl;cases sz with
      | zero=>exact ⟨ds,by simpa [takeN] using h3,rfl⟩
      | succ sz =>
       cases off with
       | zero =>
        simp only [Fz,takeN,Cd] at h3;obtain ⟨ds',h4,rfl⟩:=h3;cases sz with
        | zero =>
         simp only [takeN,Bg] at h4;subst h4;simp [isB] at hV
        | succ sz=>simp [takeN] at h4
       | succ off=>simp [takeN] at h3
    ·simp at gp
   ·simp at hl
  ·simp at hl
theorem Ail {ops:Array Oper} {k i:Nat} {d:Option Tmp} {o:Oper} {t:TypeId} {a:Operand} (hk:k<ops.size) (hd:B7 ops k=d) (lu:∀ j,j<ops.size->B7 ops j=d->j=k) (hi:i<k) (ho:ops[i]?=some o) (hl:o.op=.load t a) (hr:i ∉ reachAt ops k) :
  (t,a,o.dst,Ami ops.toList k i a) ∈ loadsB ops.toList d:=by
 unfold loadsB;have hf:((E7 ops.toList.length).find? fun k=>B7 ops.toList.toArray k == d)=some k:=by
  rw [List.find?_eq_some_iff_append];refine ⟨by simpa using hd,E7 k,(E7 (ops.toList.length - k - 1)).map (fun j=>k+1+j),?_,fun j hj=>?_⟩
  ·have:ops.toList.length=k+(1+(ops.toList.length - k - 1)):=aC
   conv=>lhs; rw [this]
   rw [List.range_add,List.range_add];simp [O4]
  ·simp only [iR] at hj;cases hh:B7 ops.toList.toArray j == d with
   | false=>rfl
   | true =>
    have:=lu j aA (by simpa using hh);omega
 rw [hf];simp only [List.mem_filterMap,iR];refine ⟨i,hi,?_⟩;have:ops.toList[i]?=some o:=fX
 rw [this];simp only [hl];rw [if_neg (by simpa using hr)]
theorem Yv [Globs] (hm:P.follows .mixedOrders=true):∀ (call:Dv),Ll P call->Ue call->∀ (real ops:Array Oper) (lt:Option (Nat × Oper)),Asn P real ops lt->∀ (C:Cx) (st st':St) (a:Act) (Q:Exit->Act->World->Prop),Adt st ops.toList=true->Rel C st a->evOs P call ops.toList ops.toList st=some st' ->
  (∀ a' C',Le C C'->Rel C' (Wb P lt st') a'->Q .normal a' C'.w)->wpAny P .any real Q real.size (Su real.size false) a { C.w with drawn:=C.w.drawn+1 }:=by
 intro call hc hi real ops lt je C st st' a Q ab hr h hQ;have hsz:real.size=ops.size:=by
  cases lt with
  | none=>rw [show real=ops from je]
  | some q=>obtain ⟨p,al⟩:=q; exact je.1
 have a2m:∀ i,(∀ p al,lt=some (p,al)->i≠p)->real[i]?=ops[i]?:=by
  intro i au;cases lt with
  | none=>rw [show real=ops from je]
  | some q=>obtain ⟨p,al⟩:=q; exact je.2.1 i (au p al rfl)
 have a0t:∀ i:Nat,(real[i]?).map (fun o=>(o.after,o.dst))=(ops[i]?).map fun o=>(o.after,o.dst):=by
  intro i;cases lt with
  | none=>rw [show real=ops from je]
  | some q =>
   obtain ⟨p,al⟩:=q;obtain ⟨-,h1,-,h2,-,-,-,h3⟩:=je;by_cases e:i=p
   ·subst e; rw [h2,h3]; rfl
   ·rw [h1 i e]
 have jn:∀ listed i,i ∈ Region.ready .any real listed↔i ∈ Region.ready .any ops listed:=by
  intro listed i;have ft:=a0t i;rw [mem_ready,mem_ready];constructor
  ·rintro ⟨h0,o,ho,hd⟩;rw [ho] at ft;obtain ⟨o',gc,e⟩:=Cd.1 ft.symm;exact Ya3l
  ·rintro ⟨h0,o,ho,hd⟩;rw [ho] at ft;obtain ⟨o',gc,e⟩:=Cd.1 ft;exact Ya3l
 have te:∀ tmps,yielded real tmps=yielded ops tmps:=by
  intro tmps;funext j;have ft:=a0t j;unfold yielded;cases h1:real[j]? with
  | none=>rw [h1] at ft; rw [Option.map_eq_none_iff.1 ft.symm]
  | some o =>
   rw [h1] at ft;obtain ⟨o',gc,e⟩:=Cd.1 ft.symm;simp only [Cf] at e;simp only [gc,Ov,e.2]
 have j2:∀ p al,lt=some (p,al)->∀ i j,Eu ops i j=true->False:=by
  intro p al e i j hp;subst e;obtain ⟨p1,p2,q1,-,⟨q3,-⟩,-,-⟩:=Jv hp;have:=je.2.2.1 i p1 q1;obtain ⟨t,e1,-⟩:=Rk q3;unfold isMk at this;rw [e1] at this; cases this
 obtain ⟨sts,val,ko,o6,j3⟩:=Ash h;simp only [Iy] at o6;have gf:∀ (i:Nat) o,ops[i]?=some o->Aj8 P call ops.toList o (sts i) (sts (i+1)) (val i):=fun i o ho=>j3 i o fX;have yn:∀ i o,ops[i]?=some o->opOk ops i o=true/\∀ j p,j<i->ops[j]?=some p->((!conf p o && !(wrS p && !lkOp p && rdS o) && !(rdS p && wrS o && !lkOp o)) || (reachAt ops i).contains j || (!conf p o && (if rdS o=true then R8 st ops i o p else (Amd o || (anOp o && o.dst.isSome) || R8 st ops j p o))) || Eu ops j i)=true:=by
  intro i o ho;have hlt:=(Ck.1 ho).1;unfold Adt at ab;rw [Fc] at ab;have h1:=ab i aI;simp only [Array.toArray_toList,ho,Ch] at h1;refine ⟨h1.1,fun j p hj hp=>?_⟩;have h2:=Fc.1 h1.2 j bN;simp only [hp] at h2;exact h2
 have ar:∀ i o,ops[i]?=some o->opOk ops i o=true/\∀ j p,j<i->ops[j]?=some p->conf p o=true->j ∈ reachAt ops i\/Eu ops j i=true:=by
  intro i o ho;refine ⟨(yn i o ho).1,fun j p hj hp hcf=>?_⟩;have h2:=(yn i o ho).2 j p hj hp;simp only [hcf,Fs,Fo,Oe,F5,Io] at h2;exact h2.imp (fun h=>aO) id
 have dk:∀ i o,ops[i]?=some o->∀ j p,j<i->ops[j]?=some p->((wrS p && !lkOp p && rdS o) || (rdS p && wrS o && !lkOp o))=true->j ∈ reachAt ops i\/(if rdS o=true then R8 st ops i o p else (Amd o || (anOp o && o.dst.isSome) || R8 st ops j p o))=true:=by
  intro i o ho j p hj hp hcf;have h2:=(yn i o ho).2 j p hj hp;have h3:(!conf p o && !(wrS p && !lkOp p && rdS o) && !(rdS p && wrS o && !lkOp o))=false:=by
   simp only [Io] at hcf;rcases hcf with h|h <;> simp [h]
  rw [h3] at h2;simp only [Oe,Io,Ch] at h2;rcases h2 with (h2|h2)|h2
  ·exact .inl cA
  ·exact .inr h2.2
  ·obtain ⟨p',o',q1,q2,⟨-,q3⟩,-,q4⟩:=Jv h2;rw [hp] at q1; rw [ho] at q2;simp only [Bg] at q1 q2;subst q1; subst q2;simp [q3,q4] at hcf
 have hop:∀ i o,ops[i]?=some o->(match o.op with|.select ..=>false|_=>true)=true/\(∀ j ∈ depsOf ops i,j<i)/\(∀ g w,o.guard=some (g,w)->g ∈ depsOf ops i)/\(∀ d,o.dst=some d->∀ j,j<i->B7 ops j≠some d) /\
   (∀ t,Operand.tmp t ∈ o.op.operands->∀ j,B7 ops j=some t->j=i\/j ∈ reachAt ops i\/i ∈ reachAt ops j):=by
  intro i o ho;have h1:=(ar i o ho).1;unfold opOk at h1;simp only [Ch] at h1;obtain ⟨⟨⟨⟨a1,a2⟩,a3⟩,a4⟩,a5⟩:=h1;refine ⟨a1,fun j hj=>by simpa using Fc.1 a2 j hj,fun g w hg=>by rw [hg] at a3; simpa using a3,fun d hd j hj=>?_,fun t ht j hj=>?_⟩
  ·rw [hd] at a4;simp only [Option.all_some] at a4;have:=Fc.1 a4 j bN;exact Ya22
  ·have h2:=Array.all_eq_true_iff_forall_mem.1 a5 (.tmp t) ht;have a2n:j<ops.size:=by
    unfold B7 at hj;cases hx:ops[j]? with
    | none=>rw [hx] at hj; simp at hj
    | some _=>exact (Ck.1 hx).1
   have h3:=Fc.1 h2 j (by simpa using a2n);simp only [hj,bne_self_eq_false,Oe,Io,beq_iff_eq,kA] at h3;rcases h3 with (h3|h3)|h3
   ·exact .inl h3
   ·exact .inr (.inl h3)
   ·exact .inr (.inr h3)
 have a0h:∀ {j:Nat} {d:Tmp},B7 ops j=some d->∃ o,ops[j]?=some o/\o.dst=some d:=by
  intro j d hj;unfold B7 at hj;cases hx:ops[j]? with
  | none=>rw [hx] at hj; simp at hj
  | some o=>rw [hx] at hj; exact ⟨o,rfl,bN⟩
 have lu:∀ {i j:Nat} {d:Tmp},B7 ops i=some d->B7 ops j=some d->i=j:=by
  intro i j d h1 h2;obtain ⟨o,ho,ph⟩:=a0h h1;obtain ⟨p,hp,hpd⟩:=a0h h2;rcases Sc i j with hh|hh|hh
  ·exact absurd h1 ((hop j p hp).2.2.2.1 d hpd i hh)
  ·exact hh
  ·exact absurd h2 ((hop i o ho).2.2.2.1 d ph j hh)
 have stepT:∀ i o,ops[i]?=some o->(sts (i+1)).T=putT (sts i).T o.dst (val i)/\(wrS o=false->(sts (i+1)).S=(sts i).S/\(sts (i+1)).n=(sts i).n)/\(wrT o=false->(sts (i+1)).tk=(sts i).tk):=by
  intro i o ho;rcases gf i o ho with ⟨-,-,e⟩|⟨-,s1,h1,-,e⟩
  ·rw [e]; exact ⟨rfl,fun _=>⟨rfl,rfl⟩,fun _=>rfl⟩
  ·obtain ⟨g1,g2,g3,-⟩:=Uz hi (hop i o ho).1 h1;rw [e]; exact ⟨by simp only [g1],g2,g3⟩
 have textLen:∀ i,i<=ops.size->(sts i).T.length=st.T.length:=by
  intro i;induction i with
  | zero=>intro _; rw [ko]
  | succ i ih =>
   intro hlt;rw [(stepT i _ (Fx (show i<ops.size by omega))).1,Jw,ih aA]
 have text2:∀ i,i<=ops.size->∀ t,(∀ j,j<i->B7 ops j≠some t)->getT (sts i).T t=getT st.T t:=by
  intro i;induction i with
  | zero=>intro _ t _; rw [ko]
  | succ i ih =>
   intro hlt t ht;have ho:=Fx (show i<ops.size by omega);rw [(stepT i _ ho).1];have hne:(ops[i]' aA).dst≠some t:=fun e=>ht i aA Za52;cases hd:(ops[i]' aA).dst with
   | none=>simp only [putT]; exact ih aA t fun j hj=>ht j aA
   | some d =>
    simp only [putT];rw [Da (fun e=>hne (by rw [hd,e]))];exact ih aA t fun j hj=>ht j aA
 have text1:∀ i,i<=ops.size->∀ j t,j<i->B7 ops j=some t->getT (sts i).T t=if t<st.T.length then val j else .bot:=by
  intro i;induction i with
  | zero=>intro _ j t hj; omega
  | succ i ih =>
   intro hlt j t hj hd;have ho:=Fx (show i<ops.size by omega);rw [(stepT i _ ho).1];by_cases e:j=i
   ·subst e;have d8:(ops[j]' aA).dst=some t:=Za39
    rw [d8];simp only [putT];by_cases j4:t<st.T.length
    ·rw [if_pos j4];exact Je (by rw [textLen j aA]; exact j4)
    ·rw [if_neg j4];refine P8 ?_;rw [Am,textLen j aA]; exact iW j4
   ·have hne:B7 ops i≠some t:=fun x=>e (lu hd x);have a3d:(ops[i]' aA).dst≠some t:=fun x=>hne eG;cases d8:(ops[i]' aA).dst with
    | none=>simp only [putT]; exact ih aA j t aA hd
    | some d =>
     simp only [putT];rw [Da (fun x=>a3d dJ)];exact ih aA j t aA hd
 have constS:∀ k i,i+k<=ops.size->(∀ j,i<=j->j<i+k->wS ops j=false)->(sts (i+k)).S=(sts i).S/\(sts (i+k)).n=(sts i).n:=by
  intro k;induction k with
  | zero=>intro i _ _; exact ⟨rfl,rfl⟩
  | succ k ih =>
   intro i hle hw;have ho:=Fx (show i+k<ops.size by omega);have h1:=hw (i+k) aA aA;unfold wS at h1; rw [ho] at h1;have h2:=(stepT (i+k) _ ho).2.1 h1;have h3:=ih i aA fun j a b=>hw j a aA;exact ⟨by rw [<- h3.1,<- h2.1]; rfl,by rw [<- h3.2,<- h2.2]; rfl⟩
 have constT:∀ k i,i+k<=ops.size->(∀ j,i<=j->j<i+k->wT ops j=false)->(sts (i+k)).tk=(sts i).tk:=by
  intro k;induction k with
  | zero=>intro i _ _; rfl
  | succ k ih =>
   intro i hle hw;have ho:=Fx (show i+k<ops.size by omega);have h1:=hw (i+k) aA aA;unfold wT at h1; rw [ho] at h1;have h2:=(stepT (i+k) _ ho).2.2 h1;have h3:=ih i aA fun j a b=>hw j a aA;rw [<- h3,<- h2]; rfl
 have ldB:∀ i o t q id ep off b,ops[i]?=some o->o.op=.load t (.tmp q)->Agf st ops i o=some b->getT (sts i).T q=.ref id ep off->b=some id/\id<st.S.length:=by
  intro i o t q id ep off b ho a3e hb hv;have b6:=(Ck.1 ho).1;have base:∀ x,unwr ops x=true->∀ m,m<=ops.size->getT (sts m).T x=getT st.T x:=by
   intro x hx m ft;refine text2 m ft x fun j hj hd=>?_;have:=Fc.1 hx j aC;rw [hd] at this; simp at this
  unfold Agf at hb;rw [a3e] at hb;simp only at hb;split at hb
  ·rename_i hu;rw [<- base q hu i aA,hv] at hb;simp only at hb;split at hb
   ·rename_i hl; simp only [Bg] at hb; exact ⟨hb.symm,hl⟩
   ·simp at hb
  ·obtain ⟨m,ft,lm⟩:=List.exists_of_findSome?_eq_some hb;have hmi:m<i:=by simpa using ft
   split at lm
   ·rename_i o1 hom;split at lm
    ·rename_i d t' x k' hd1 a3f;split at lm
     ·rename_i hdx;obtain ⟨rfl,hux⟩:=hdx;have kr:=text1 i aA m d hmi (by unfold B7; rw [hom]; exact hd1);rw [hv] at kr;have hvm:val m=.ref id ep off:=by
       split at kr
       ·exact kr.symm
       ·simp at kr
      rcases gf m _ hom with ⟨-,hsk,-⟩|⟨-,s1,bu,-,-⟩
      ·rw [hsk] at hvm; simp at hvm
      ·simp only [evO,evQ,a3f,Cd,Cf] at bu;obtain ⟨v,bu,rfl,-⟩:=bu;simp only [opv] at bu;rw [base x hux m aA] at bu;unfold fldA at bu;split at bu
       ·rename_i hx;simp only [Bg] at bu;rw [hvm] at bu; simp at bu
       ·rename_i id0 e0 o0 hf hx;rw [hx] at lm;simp only at lm;simp only [Bg] at bu;rw [hvm] at bu;simp only [AV.ref.injEq] at bu;obtain ⟨rfl,-⟩:=bu;split at lm
        ·rename_i hl; simp only [Bg] at lm; exact ⟨lm.symm,hl⟩
        ·simp at lm
       ·simp at bu
     ·simp at lm
    ·simp at lm
   ·simp at lm
 have growStep:∀ m,m<ops.size->(sts m).S.length<=(sts (m+1)).S.length:=by
   intro m hlt;have ho:=Fx hlt;rcases gf m _ ho with ⟨-,-,e⟩|⟨-,s1,bu,oq,e⟩
   ·rw [e];exact Ya3f
   ·rw [e];by_cases hw:wrS (ops[m]'hlt)=true
    ·have grC:∀ c,(ops[m]'hlt).op=.call c->(∀ b,c.callee≠.builtin b)->(sts m).S.length<=s1.S.length:=fun c h1 h2=>by
      rcases Xc hi h1 h2 bu oq with h|⟨-,h⟩
      ·rw [h];exact Ya3f
      ·exact h
     unfold wrS at hw;unfold evO at bu;split at bu
     ·rename_i h'; rw [h'] at hw; simp at hw
     ·simp only [Cd,Cf] at bu;obtain ⟨S',ai,-,rfl⟩:=bu;unfold stA at ai;split at ai
      ·split at ai
       ·split at ai
        ·split at ai
         ·simp only [Bg] at ai; subst ai; simp [Am]
         ·simp at ai
        ·simp at ai
       ·simp at ai
      ·simp at ai
     ·exact Ya2w
     ·exact Ya2w
     ·rename_i t l c h';rw [h'] at hw;have hl:Wt (ops[m]'hlt) l=false:=by simpa using hw
      simp only [Cd,Prod.exists,hl] at bu;obtain ⟨l',sz,cs,-,hh⟩:=bu;rw [if_neg (by simp)] at hh;simp only [Cf] at hh;obtain ⟨-,rfl⟩:=hh;simp
     ·rename_i c h';rw [h'] at hw;simp only at hw;cases ao:c.callee with
      | builtin b =>
       rw [ao] at hw;cases b <;> simp at hw
       ·simp only [ao] at bu;split at bu
        ·rename_i x y t t' iw ht;rw [if_pos hw] at bu;split at bu
         ·simp only [Cd,Cf,Prod.exists] at bu;obtain ⟨u,S',n',bh,-,rfl⟩:=bu;exact As9 bh
         ·simp at bu
        ·simp at bu
       simp only [ao] at bu;split at bu
       ·simp only [Cd,Cf,Prod.exists] at bu;obtain ⟨mm,S',xx,-,rfl⟩:=bu;rw [Atj xx];exact Ya3f
       ·simp at bu
      | value x=>exact grC c h' (fun b hb=>fE)
      | invoke _ _=>exact grC c h' (fun b hb=>fE)
     ·rename_i h1 h2 h3 h4 h5 h6;split at hw
      ·exact absurd dH (h2 _ _ _)
      ·exact absurd dH (h3 _)
      ·exact absurd dH (h4 _ _)
      ·exact absurd dH (h5 _ _ _)
      ·exact absurd dH (h6 _)
      ·simp at hw
    ·have:=(Uz hi (hop m _ ho).1 bu).2.1 (by simpa using hw);rw [this.1];exact Ya3f
 have growS2:∀ k i,i+k<=ops.size->(sts i).S.length<=(sts (i+k)).S.length:=by
  intro k;induction k with
  | zero=>intro i _; exact Ce _
  | succ k ih=>intro i hle; exact Fh (ih i aA) (growStep (i+k) aA)
 have growS:∀ m,m<=ops.size->st.S.length<=(sts m).S.length:=fun m hm=>by
  have:=growS2 m 0 aA;rw [ko,Fk] at this; exact this
 have mkStep:∀ k pk id,ops[k]?=some pk->Amd pk=true->id<(sts k).S.length->nth (sts (k+1)).S id=nth (sts k).S id:=by
  intro k pk id hk gd hid;rcases gf k pk hk with ⟨-,-,e⟩|⟨-,s1,bu,-,e⟩
  ·rw [e]
  ·rw [e];unfold evO at bu;unfold Amd at gd;split at gd
   ·rename_i t' q8;exact Yas
   ·rename_i t' x' q8;exact Yas
   ·exact Ya03
   ·simp at gd
 have apartStep:∀ i o k pk t q id ep off,ops[i]?=some o->ops[k]?=some pk->o.op=.load t (.tmp q)->getT (sts i).T q=.ref id ep off->R8 st ops i o pk=true->wrS pk=true->nth (sts (k+1)).S id=nth (sts k).S id:=by
  intro i o k pk t q id ep off ho hk rp hv bh rq;have hkl:=(Ck.1 hk).1;unfold R8 at bh;cases hb:Agf st ops i o with
  | none=>rw [hb] at bh; simp at bh
  | some b =>
   obtain ⟨rfl,dx⟩:=ldB i o t q id ep off b ho rp hb hv;rw [hb] at bh;simp only at bh;have jd:=growS k aA;rcases gf k pk hk with ⟨-,-,e⟩|⟨-,s1,bu,oq,e⟩
   ·rw [e]
   ·rw [e];have apC:∀ c,pk.op=.call c->(∀ b,c.callee≠.builtin b)->xOp pk=false->nth s1.S id=nth (sts k).S id:=fun c h1 h2 h3=>by
     rcases Xc hi h1 h2 bu oq with h|⟨h,-⟩
     ·rw [h]
     ·rw [h3] at h; simp at h
    unfold evO at bu;split at bh
    ·rename_i t' q' x' q8;simp only [Ch] at bh;obtain ⟨hu,hne⟩:=bh;simp only [q8,Cd,Cf] at bu;obtain ⟨S',ai,-,rfl⟩:=bu;have hq:getT (sts k).T q'=getT st.T q':=text2 k aA q' fun j hj hd=>by
      have:=Fc.1 hu j aC;rw [hd] at this; simp at this
     simp only [opv] at ai;rw [hq] at ai;split at hne
     ·rename_i id' e' o' hx;rw [hx] at ai;simp only [decide_eq_true_eq] at hne;exact An5 ai (fun h=>hne h.symm)
     ·simp at hne
    ·rename_i t' q8;exact Yas
    ·rename_i t' x' q8;exact Yas
    ·exact Ya03
    ·rename_i c q8;split at bh
     ·rename_i g ao;exact apC c q8 (fun b hb=>fE) (by simpa [xOp,q8,Aev,ao] using bh)
     ·rename_i x hx ao;refine apC c q8 (fun b hb=>fE) ?_;unfold xOp Aev;rw [q8];simp only [ao];simpa using bh
     ·simp at bh
    ·simp at bh
 have constU:∀ (p:List Ent->Prop) k i,i+k<=ops.size->(∀ j pj,i<=j->j<i+k->ops[j]?=some pj->wrS pj=true->p (sts j).S->p (sts (j+1)).S)->p (sts i).S->p (sts (i+k)).S:=by
  intro p k;induction k with
  | zero=>intro i _ _ h; exact h
  | succ k ih =>
   intro i hle hw h;have ho:=Fx (show i+k<ops.size by omega);have h3:=ih i aA (fun j pj a b=>hw j pj a aA) h;show p (sts (i+k+1)).S;by_cases rq:wrS (ops[i+k]' aA)=true
   ·exact hw (i+k) _ aA aA ho rq h3
   ·rw [((stepT (i+k) _ ho).2.1 (by simpa using rq)).1]; exact h3
 have constD:∀ (p:List Ent->Prop) k i,i+k<=ops.size->(∀ j pj,i<=j->j<i+k->ops[j]?=some pj->wrS pj=true->p (sts (j+1)).S->p (sts j).S)->p (sts (i+k)).S->p (sts i).S:=by
  intro p k;induction k with
  | zero=>intro i _ _ h; exact h
  | succ k ih =>
   intro i hle hw h;have ho:=Fx (show i+k<ops.size by omega);refine ih i aA (fun j pj a b=>hw j pj a aA) ?_;have h':p (sts (i+k+1)).S:=h;by_cases rq:wrS (ops[i+k]' aA)=true
   ·exact hw (i+k) _ aA aA ho rq h'
   ·rw [((stepT (i+k) _ ho).2.1 (by simpa using rq)).1] at h'; exact h'
 have textKeep:∀ k i q,i+k<=ops.size->(∀ j,i<=j->j<i+k->B7 ops j≠some q)->getT (sts (i+k)).T q=getT (sts i).T q:=by
  intro k;induction k with
  | zero=>intro i q _ _; rfl
  | succ k ih =>
   intro i q hle hw;have ho:=Fx (show i+k<ops.size by omega);rw [<- ih i q aA fun j a b=>hw j a aA];show getT (sts (i+k+1)).T q=_;rw [(stepT (i+k) _ ho).1];have hne:(ops[i+k]' aA).dst≠some q:=fun e=>hw (i+k) aA aA Za52;cases hd:(ops[i+k]' aA).dst with
   | none=>rfl
   | some d =>
    simp only [putT];exact Da (fun e=>hne (by rw [hd,e]))
 have lkStep:∀ k pk,ops[k]?=some pk->lkOp pk=true->Abm (sts k).S (sts (k+1)).S:=by
  intro k pk hk hl;rcases gf k pk hk with ⟨-,-,e⟩|⟨-,s1,bu,oq,e⟩
  ·rw [e]; exact ⟨rfl,fun _=>.inl rfl⟩
  ·rw [e];obtain ⟨hd,hx⟩:=lk_x hl;exact (Ak6 oq hd hx).1 hl
 have fin:∀ {listed:Array Bool} {s:St},DInv ops st sts val listed s->(∀ j,j<ops.size->listed.getD j false=true)->s=st':=by
  intro listed s hD hl;have eT:s.T=st'.T:=by
   refine Af9 (by rw [hD.lenT,<- o6,textLen _ (Ce _)]) fun t=>?_;rw [<- o6];by_cases hx:∃ j,B7 ops j=some t
   ·obtain ⟨j,hj⟩:=hx;obtain ⟨o,ho,-⟩:=a0h hj;have hlt:=(Ck.1 ho).1;rw [hD.t1 j t (hl j hlt) hj (fun e he=>hl e (Vy he).1),text1 _ (Ce _) j t hlt hj]
   ·rw [hD.t2 t fun j _ hj=>hx ⟨j,hj⟩,text2 _ (Ce _) t fun j _ hj=>hx ⟨j,hj⟩]
  obtain ⟨c,dz,hc2,hc3⟩:=hD.cS;obtain ⟨c',hc4,hc5⟩:=hD.cT;have e1:c=ops.size:=by
   rcases Ia c ops.size with h|h
   ·have:=(dz.2.2 h).2; rw [hl c h] at this; simp at this
   ·have:=dz.1; omega
  have e2:c'=ops.size:=by
   rcases Ia c' ops.size with h|h
   ·have:=(hc4.2.2 h).2; rw [hl c' h] at this; simp at this
   ·have:=hc4.1; omega
  subst e1;rw [e2] at hc5;rw [o6] at hc2 hc3 hc5;cases s; cases st';simp_all
 have none_ready:∀ {listed:Array Bool} {s:St},DInv ops st sts val listed s->Region.ready .any ops listed=[]->∀ j,j<ops.size->listed.getD j false=true:=by
  intro listed s hD ee j;induction j using Ss with
  | _ j ihj =>
   intro hj;cases hl:listed.getD j false with
   | true=>rfl
   | false =>
    exfalso;have ho:ops[j]?=some (ops[j]'hj):=Fx hj;have:j ∈ Region.ready .any ops listed:=by
     apply mem_ready.2;refine ⟨?_,_,ho,fun e he hb=>?_⟩
     ·have jm:j<listed.size:=by rw [hD.len]; exact hj
      simpa [Sp,jm] using hl
     ·have ft:e.on ∈ depsOf ops j:=by
       exact Ya31
      have:=(hop j _ ho).2.1 _ ft;exact ihj _ this aA
    rw [ee] at this; simp at this
 have step:∀ {listed:Array Bool} {s:St},DInv ops st sts val listed s->∀ i ∈ Region.ready .any ops listed,(∀ e,Eu ops e i=true->listed.getD e false=true)->(∀ e,Eu ops i e=true->listed.getD e false=false)->∃ o,ops[i]?=some o/\listed.getD i false=false /\
   ∃ b s2,J7 ops.toList s.T o=some b/\(b=true->evO P call o s=some (val i,s2))/\(b=false->val i=.prim undef/\s2=s)/\s2.T=s.T/\DInv ops st sts val (listed.setIfInBounds i true) { s2 with T:=putT s2.T o.dst (val i) }:=by
  intro listed s hD i cd b7 bm;obtain ⟨h0,o,ho,mg⟩:=Ga cd;obtain ⟨pn,b6⟩:=G4 h0;rw [hD.len] at b6;refine ⟨o,ho,pn,?_⟩;have ie:=Dr hD.closed mg;have vt:∀ j,listed.getD j false=true->i ∈ reachAt ops j->False:=fun j hj ju=>by
   have:=Dr hD.closed (hD.closed j hj) i ju;exact Ya3u
  obtain ⟨a05,a3g,hgd,jf,yj⟩:=hop i o ho;have agree:∀ t,(∀ j,B7 ops j=some t->j=i\/j ∈ reachAt ops i\/i ∈ reachAt ops j)->getT s.T t=getT (sts i).T t:=by
   intro t ht;by_cases hx:∃ j,listed.getD j false=true/\B7 ops j=some t
   ·obtain ⟨j,hj,vu⟩:=hx;have hji:j<i:=by
     rcases ht j vu with e|e|e
     ·subst e; rw [pn] at hj; simp at hj
     ·have:∀ e ∈ reachAt ops i,e<i:=by
       unfold reachAt;have key:∀ (l:List Nat) (s:List Nat),(∀ e ∈ s,e<i)->∀ e ∈ l.foldl (fun s j=>if s.contains j then depsOf ops j++s else s) s,e<i:=by
        intro l;induction l with
        | nil=>intro s hs; exact hs
        | cons j l ih =>
         intro s hs;simp only [Sr];apply ih;split
         ·rename_i hj;intro e he;rcases Cu.1 he with h|h
          ·have a2n:=hs j bN;cases hx:ops[j]? with
           | none=>unfold depsOf at h; rw [hx] at h; simp at h
           | some p=>have:=(hop j p hx).2.1 e h; omega
          ·exact hs e h
         ·exact hs
       exact key _ _ a3g
      exact this j e
     ·exact (vt j hj e).elim
    rw [hD.t1 j t hj vu (fun e he=>?_),text1 i aA j t hji vu];by_cases fv:i=e
    ·subst fv;have:=bm j he; rw [hj] at this; simp at this
    ·rcases ht j vu with q|q|q
     ·omega
     ·exact ie e ((Rv (k:=i) he b6 fv aA).2 q)
     ·exact (vt j hj q).elim
   ·rw [hD.t2 t fun j hj vu=>hx ⟨j,hj,vu⟩,text2 i aA t fun j hj vu=>?_];rcases ht j vu with e|e|e
    ·omega
    ·exact hx ⟨j,ie j e,vu⟩
    ·have:i<j:=by
      have key:∀ (l:List Nat) (s:List Nat),(∀ e ∈ s,e<j)->∀ e ∈ l.foldl (fun s j=>if s.contains j then depsOf ops j++s else s) s,e<j:=by
       intro l;induction l with
       | nil=>intro s hs; exact hs
       | cons k l ih =>
        intro s hs;simp only [Sr];apply ih;split
        ·rename_i hk;intro e he;rcases Cu.1 he with h|h
         ·have hklt:=hs k (by simpa using hk);cases hx:ops[k]? with
          | none=>unfold depsOf at h; rw [hx] at h; simp at h
          | some p=>have:=(hop k p hx).2.1 e h; omega
         ·exact hs e h
        ·exact hs
      obtain ⟨p,hp,-⟩:=a0h vu;exact key _ _ (hop j p hp).2.1 i e
     omega
  have agreeO:∀ x ∈ o.op.operands,opv s.T x=opv (sts i).T x:=by
   intro x hx;cases x with
   | tmp t=>exact agree t (yj t hx)
   | _=>rfl
  have agreeG:J7 ops.toList s.T o=J7 ops.toList (sts i).T o:=by
   unfold J7;cases hg:o.guard with
   | none=>rfl
   | some gw =>
    obtain ⟨g,w⟩:=gw;have hgm:=hgd g w hg;simp only;cases hgb:(nth ops.toList g).bind (·.dst) with
    | none=>rfl
    | some d =>
     have d8:B7 ops g=some d:=by unfold B7; rw [Af] at hgb; simpa using hgb
     have:getT s.T d=getT (sts i).T d:=agree d fun j hj=>by
      have:=lu hj d8;subst this;right; left;have key:∀ (l:List Nat) (s:List Nat) (x:Nat),x ∈ s->x ∈ l.foldl (fun s j=>if s.contains j then depsOf ops j++s else s) s:=by
       intro l;induction l with
       | nil=>intro s x hs; exact hs
       | cons k l ih =>
        intro s x hs;simp only [Sr];apply ih;split
        ·exact List.mem_append_right _ hs
        ·exact hs
      exact key _ _ _ hgm
     simp only [this]
  have confl:∀ j p,ops[j]?=some p->conf p o=true->conf o p=true->j≠i->(listed.getD j false=true↔j<i):=by
   intro j p hp h1 h2 hne;rcases Nat.lt_or_gt_of_ne hne with hlt|xq
   ·exact ⟨fun _=>hlt,fun _=>((ar i o ho).2 j p hlt hp h1).elim (ie j) (b7 j)⟩
   ·exact ⟨fun hl=>((ar j p hp).2 i o xq ho h2).elim (fun q=>(vt j hl q).elim) (fun q=>by have:=bm j q; rw [hl] at this; simp at this),fun h=>aA⟩
  have curS:(wrS o=true\/rdA o=true)->s.S=(sts i).S/\s.n=(sts i).n/\(wrS o=true->Ajg (wS ops) listed ops.size i):=by
   intro dk;obtain ⟨c,dz,hc2,hc3⟩:=hD.cS;have hw:∀ j,j≠i->wS ops j=true->(listed.getD j false=true↔j<i):=by
    intro j hne dj;unfold wS at dj;exact Ya0i
   rcases Sc c i with hlt|heq|xq
   ·exact Ya3d
   ·subst heq; exact ⟨hc2,hc3,fun _=>dz⟩
   ·have hnw:wrS o=false:=by
     cases d6:wrS o with
     | false=>rfl
     | true =>
      have:=dz.2.1 i xq (by unfold wS; rw [ho]; exact d6);exact Ya3u
    have tf:∀ j,i<=j->j<i+(c - i)->wS ops j=false:=by
     intro j h1 h2;by_cases e:j=i
     ·subst e; unfold wS; rw [ho]; exact hnw
     ·cases dj:wS ops j with
      | false=>rfl
      | true =>
       have h3:=dz.2.1 j aA dj;have:=(hw j e dj).1 h3;omega
    have:=constS (c - i) i Za5x tf;rw [show i+(c - i)=c from by omega] at this;exact ⟨by rw [hc2,this.1],by rw [hc3,this.2],fun h=>by rw [hnw] at h; simp at h⟩
  have curL:∀ t x V s1,o.op=.load t x->ldA P t (opv (sts i).T x) (sts i).S=some V->val i=V->chkO P ops.toList o (sts i) V s1=true->ldA P t (opv (sts i).T x) s.S=ldA P t (opv (sts i).T x) (sts i).S:=by
   intro t x V s1 rp hV kr oq;by_cases hrf:∃ id ep off,opv (sts i).T x=.ref id ep off;case neg=>exact Aif fun id ep off h=>hrf ⟨id,ep,off,h⟩
   obtain ⟨id,ep,off,hv⟩:=hrf;rw [hv] at hV ⊢;rw [hV];have dx:id<(sts i).S.length:=by
    unfold ldA at hV;split at hV
    ·simp only at hV;split at hV
     ·rename_i cs he;obtain ⟨e,h1,-⟩:=Ds he;exact Bl h1
     ·simp at hV
    ·simp at hV
   cases x with
   | tmp q =>
    simp only [opv] at hv;have yl:rdS o=true:=by unfold rdS; rw [rp]
    have hnw:wrS o=false:=by unfold wrS; rw [rp]
    have hnl:lkOp o=false:=by unfold lkOp; rw [rp]; simp
    have a2o:isLd o=true:=by unfold isLd; rw [rp]
    obtain ⟨c,dz,hc2,-⟩:=hD.cS;have nord:∀ pk,wrS pk=true->rdS pk=false:=by
     intro pk hw;unfold wrS at hw;unfold rdS;split at hw <;> rename_i h' <;> first|(rw [h'])|simp at hw
    rw [hc2];rcases Ia c i with hlt|lh
    ·refine constD (fun S=>ldA P t (.ref id ep off) S=some V) (i - c) c aA (fun k pk h1 h2 hk rq hg=>?_) (by rw [show c+(i - c)=i from by omega]; exact hV);have oi:k<i:=aA
     cases th:lkOp pk with
     | true =>
      have hgo:=lkStep k pk hk th;exact Af8 (Aia hgo) hg (Ar1 oq (lk_x th).1 a2o)
     | false =>
      rcases dk i o ho k pk oi hk (by simp [rq,yl,th]) with h3|h3
      ·exfalso;have vv:=ie k h3;have tj:=(dz.2.2 aA).2;by_cases oq:k=c
       ·subst oq; rw [vv] at tj; simp at tj
       ·have hwc:=(dz.2.2 aA).1;unfold wS at hwc;cases hpc:ops[c]? with
        | none=>rw [hpc] at hwc; simp at hwc
        | some pc =>
         rw [hpc] at hwc;rcases (ar k pk hk).2 c pc aA hpc (by simp [conf,hwc,rq]) with hh|hh
         ·have:=Dr hD.closed (hD.closed k vv) c hh;rw [tj] at this; simp at this
         ·have:=ie c ((Rv (k:=i) hh b6 aA aA).2 h3);rw [tj] at this; simp at this
      ·rw [if_pos yl] at h3;rw [<- T4 (apartStep i o k pk t q id ep off ho hk rp hv h3 rq)]; exact hg
    ·have:=constU (fun S=>ldA P t (.ref id ep off) S=some V) (c - i) i Za5x (fun k pk h1 h2 hk rq hg=>?_) hV
     ·rwa [show i+(c - i)=c from by omega] at this
     have a3h:=(Ck.1 hk).1;have oi:k≠i:=fun e=>by
      subst e;rw [ho] at hk;simp only [Bg] at hk;subst hk;rw [hnw] at rq; simp at rq
     have vv:=dz.2.1 k aA (by unfold wS; rw [hk]; exact rq);cases th:lkOp pk with
     | true=>exact Af8 (lkStep k pk hk th) hg (Ar1 oq (lk_x th).1 a2o)
     | false =>
      have hnr:i ∉ reachAt ops k:=fun h3=>vt k vv h3;rcases dk k pk hk i o aA ho (by simp [rq,yl,th]) with h3|h3
      ·exact (hnr h3).elim
      ·rw [if_neg (by rw [nord pk rq]; simp)] at h3;simp only [Io] at h3;rcases h3 with (h3|h3)|h3
       ·rw [T4 (mkStep k pk id hk h3 (F7 dx ?_))]
        ·exact hg
        ·have:=growS2 (k - i) i aA;rwa [show i+(k - i)=k from by omega] at this
       ·rcases gf k pk hk with ⟨-,-,e⟩|⟨-,s1',bu,a3i,e⟩
        ·rw [e]; exact hg
        ·rw [e];simp only [Ch] at h3;obtain ⟨h3,g1⟩:=h3;obtain ⟨hd1,hx1⟩:=an_x h3;have g3:=((Ak6 a3i hd1 hx1).2 h3).2 g1;obtain ⟨d0,de⟩:=Sx.1 g1;have lw:B7 ops k=pk.dst:=by unfold B7; rw [hk]; rfl
         have a3j:=Ail a3h lw (fun j hj vu=>lu (by rw [vu,de]) (by rw [lw,de])) aA ho rp hnr;obtain ⟨f1,d,f2,f3,f4⟩:=g3 _ a3j;simp only [Ami] at f1 f2 f4;have hdi:B7 ops i=some d:=by unfold B7; rw [ho]; exact f2
         rw [text1 k aA i d aA hdi,if_pos (by rw [textLen k aA] at f3; exact f3),kr] at f4;simp only [opv] at f4;have hq:getT (sts k).T q=getT (sts i).T q:=by
          have:=textKeep (k - i) i q aA fun j a b vu=>by
           have:=Fc.1 f1 j aC;rw [vu] at this;simp at this; omega
          rwa [show i+(k - i)=k from by omega] at this
         rw [hq,hv] at f4;exact f4
       ·rw [T4 (apartStep i o k pk t q id ep off ho hk rp hv h3 rq)]; exact hg
   | const v=>simp only [opv] at hv; unfold cst at hv; split at hv; (· simp at hv); (· unfold cst1 at hv; split at hv <;> simp at hv)
   | global g=>simp [opv] at hv
   | func f=>simp [opv] at hv
  have curT:(wrT o=true\/rdA o=true)->s.tk=(sts i).tk/\(wrT o=true->Ajg (wT ops) listed ops.size i):=by
   intro dk;obtain ⟨c,dz,hc2⟩:=hD.cT;have hw:∀ j,j≠i->wT ops j=true->(listed.getD j false=true↔j<i):=by
    intro j hne dj;unfold wT at dj;exact Ya0i
   rcases Sc c i with hlt|heq|xq
   ·exact Ya3d
   ·subst heq; exact ⟨hc2,fun _=>dz⟩
   ·have hnw:wrT o=false:=by
     cases d6:wrT o with
     | false=>rfl
     | true =>
      have:=dz.2.1 i xq (by unfold wT; rw [ho]; exact d6);exact Ya3u
    have tf:∀ j,i<=j->j<i+(c - i)->wT ops j=false:=by
     intro j h1 h2;by_cases e:j=i
     ·subst e; unfold wT; rw [ho]; exact hnw
     ·cases dj:wT ops j with
      | false=>rfl
      | true =>
       have h3:=dz.2.1 j aA dj;have:=(hw j e dj).1 h3;omega
    have:=constT (c - i) i Za5x tf;rw [show i+(c - i)=c from by omega] at this;exact ⟨by rw [hc2,this],fun h=>by rw [hnw] at h; simp at h⟩
  obtain ⟨st1,st2,st3⟩:=stepT i o ho;have fromS:∀ {s2:St},s2.T=s.T->(wrS o=true->s2.S=(sts (i+1)).S/\s2.n=(sts (i+1)).n)->(wrS o=false->s2.S=s.S/\s2.n=s.n)->(wrT o=true->s2.tk=(sts (i+1)).tk)->(wrT o=false->s2.tk=s.tk) ->
    DInv ops st sts val (listed.setIfInBounds i true) { s2 with T:=putT s2.T o.dst (val i) }:=by
   intro s2 eT k1 k2 k3 k4;have az:∀ j,(listed.setIfInBounds i true).getD j false=true↔j=i\/listed.getD j false=true:=by
    intro j;by_cases e:i=j
    ·subst e;simp [Ko (l:=listed) (b:=true) (d:=false) (show i<listed.size by rw [hD.len]; exact b6)]
    ·exact Ya4a
   refine ⟨by simp [hD.len],fun j hj e he=>(az e).2 (.inr ?_),by simp only [Jw,eT,hD.lenT],fun j t hj hd hnp=>?_,fun t ht=>?_,?_,?_⟩
   ·exact Ya19
   ·simp only [eT];rcases (az j).1 hj with rfl|fu
    ·have d8:o.dst=some t:=Za39
     rw [d8];simp only [putT];by_cases j4:t<st.T.length
     ·rw [if_pos j4];exact Je (by rw [hD.lenT]; exact j4)
     ·rw [if_neg j4];refine P8 ?_;rw [Am,hD.lenT]; exact iW j4
    ·have hne:o.dst≠some t:=fun x=>by
      have:B7 ops i=some t:=eG
      have:=lu this hd;subst this;rw [pn] at fu; simp at fu
     have a2p:∀ e,Eu ops e j=true->listed.getD e false=true:=fun e he=>((az e).1 (hnp e he)).resolve_left fun x=>by
      subst x;have:=bm j he; rw [fu] at this; simp at this
     cases d8:o.dst with
     | none=>simp only [putT]; exact hD.t1 j t fu hd a2p
     | some d =>
      simp only [putT];rw [Da (fun x=>hne dJ)];exact hD.t1 j t fu hd a2p
   ·simp only [eT];have hne:o.dst≠some t:=fun x=>ht i ((az i).2 (.inl rfl)) eG;exact Ya0t
   ·cases d6:wrS o with
    | false =>
     obtain ⟨c,dz,hc2,hc3⟩:=hD.cS;have ww:c≠i:=fun e=>by
      subst e;have:=(dz.2.2 b6).1;unfold wS at this;exact Ya4b
     refine ⟨c,⟨dz.1,fun j hj hw=>(az j).2 (.inr (dz.2.1 j hj hw)),fun hlt=>⟨(dz.2.2 hlt).1,?_⟩⟩,by simp only [(k2 d6).1,hc2],by simp only [(k2 d6).2,hc3]⟩;rw [D0 (fun e=>ww e.symm)]; exact (dz.2.2 hlt).2
    | true =>
     have a06:=(curS (.inl d6)).2.2 d6;obtain ⟨c,g1,g2,g3⟩:=M4 (wS ops) (listed.setIfInBounds i true) ops.size ops.size (i+1) aA aA (fun j hj hw=>(az j).2 (by
      by_cases e:j=i
      ·exact .inl e
      ·exact .inr (a06.2.1 j aA hw)))
     have tf:∀ j,i+1<=j->j<(i+1)+(c - (i+1))->wS ops j=false:=by
      intro j h1 h2;cases dj:wS ops j with
      | false=>rfl
      | true =>
       have h3:=g3 j h1 aA dj;rcases (az j).1 h3 with h4|h4
       ·omega
       ·exfalso;unfold wS at dj;exact Ya1l
     have:=constS (c - (i+1)) (i+1) Za5y tf;rw [show i+1+(c - (i+1))=c from by omega] at this;exact ⟨c,g2,by simp only [(k1 d6).1,this.1],by simp only [(k1 d6).2,this.2]⟩
   ·cases d6:wrT o with
    | false =>
     obtain ⟨c,dz,hc2⟩:=hD.cT;have ww:c≠i:=fun e=>by
      subst e;have:=(dz.2.2 b6).1;unfold wT at this;exact Ya4b
     refine ⟨c,⟨dz.1,fun j hj hw=>(az j).2 (.inr (dz.2.1 j hj hw)),fun hlt=>⟨(dz.2.2 hlt).1,?_⟩⟩,by simp only [k4 d6,hc2]⟩;rw [D0 (fun e=>ww e.symm)]; exact (dz.2.2 hlt).2
    | true =>
     have a06:=(curT (.inl d6)).2 d6;obtain ⟨c,g1,g2,g3⟩:=M4 (wT ops) (listed.setIfInBounds i true) ops.size ops.size (i+1) aA aA (fun j hj hw=>(az j).2 (by
      by_cases e:j=i
      ·exact .inl e
      ·exact .inr (a06.2.1 j aA hw)))
     have tf:∀ j,i+1<=j->j<(i+1)+(c - (i+1))->wT ops j=false:=by
      intro j h1 h2;cases dj:wT ops j with
      | false=>rfl
      | true =>
       have h3:=g3 j h1 aA dj;rcases (az j).1 h3 with h4|h4
       ·omega
       ·exfalso;unfold wT at dj;exact Ya1l
     have:=constT (c - (i+1)) (i+1) Za5y tf;rw [show i+1+(c - (i+1))=c from by omega] at this;exact ⟨c,g2,by simp only [k3 d6,this]⟩
  rcases gf i o ho with ⟨hw,hv,he⟩|⟨hw,s1,h1,oq,he⟩
  ·refine ⟨false,s,by rw [agreeG]; exact hw,by simp,fun _=>⟨hv,rfl⟩,rfl,fromS rfl (fun d6=>?_) (fun _=>⟨rfl,rfl⟩) (fun d6=>?_) (fun _=>rfl)⟩
   ·rw [he]; exact ⟨(curS (.inl d6)).1,(curS (.inl d6)).2.1⟩
   ·rw [he]; exact (curT (.inl d6)).1
  ·obtain ⟨g1,g2,g3,g4⟩:=Uz hi a05 h1;obtain ⟨s2,e1,e2,e3,e4,e5,e6⟩:=g4 s agreeO (fun t x rp=>by
    have qa:=h1;simp only [evO,rp,Cd,Cf] at qa;obtain ⟨V,hV,hVv,-⟩:=qa;exact curL t x V s1 rp hV hVv.symm (by rw [hVv]; exact oq)) (fun d6=>⟨(curS (.inl d6)).1,(curS (.inl d6)).2.1⟩) (fun d6=>(curT (.inl d6)).1) (fun hA=>⟨(curS (.inr hA)).1,(curS (.inr hA)).2.1,(curT (.inr hA)).1⟩)
   refine ⟨true,s2,by rw [agreeG]; exact hw,fun _=>e1,by simp,e2,fromS e2 (fun d6=>?_) e4 (fun d6=>?_) e6⟩
   ·rw [he]; exact e3 d6
   ·rw [he]; exact e5 d6
 have allocStep:∀ {i:Nat} {o:Oper} {t:TypeId},ops[i]?=some o->o.op=.alloc t->o.guard=none->∃ cs,A2 P t=some cs/\val i=.ref (sts i).S.length (sts i).n 0/\(sts (i+1)).S=(sts i).S++[⟨(sts i).n,cs⟩]/\(sts (i+1)).n=(sts i).n+1/\(sts (i+1)).tk=(sts i).tk:=by
  intro i o t ho e hg;rcases gf i o ho with ⟨hw,-,-⟩|⟨-,s1,h1,-,he⟩
  ·unfold J7 at hw; rw [hg] at hw; simp at hw
  ·simp only [evO,e,Cd,Cf] at h1;obtain ⟨cs,h1,h2,rfl⟩:=h1;exact ⟨cs,h1,h2.symm,by rw [he],by rw [he],by rw [he]⟩
 have setq:∀ {listed:Array Bool} {i:Nat},i<listed.size->∀ j,(listed.setIfInBounds i true).getD j false=true↔j=i\/listed.getD j false=true:=by
  intro listed i b6 j;by_cases e:i=j
  ·subst e;simp [Ko (l:=listed) (b:=true) (d:=false) b6]
  ·exact Ya4a
 have stepB:∀ {listed:Array Bool} {s:St} {A:Nat} {o:Oper},DInv ops st sts val listed s->A+1 ∈ Region.ready .any ops listed->Eu ops A (A+1)=true->listed.getD A false=false->ops[A+1]?=some o ->
   DInv ops st sts val (listed.setIfInBounds (A+1) true) { s with T:=putT s.T o.dst .bot }:=by
  intro listed s A o hD cd hp hA ho;obtain ⟨h0,o',gc,mg⟩:=Ga cd;rw [ho] at gc;simp only [Bg] at gc;subst gc;obtain ⟨pn,b6⟩:=G4 h0;have az:=setq b6;obtain ⟨pA,pB,q1,q2,⟨q3,-⟩,q4,-⟩:=Jv hp;rw [ho] at q2;simp only [Bg] at q2;subst q2;have wA:wS ops A=true:=by unfold wS; rw [q1]; exact (Js q3).1
  refine ⟨by simp [hD.len],fun j hj e he=>(az e).2 (.inr ?_),by simp only [Jw]; exact hD.lenT,fun j t hj hd hnp=>?_,fun t ht=>?_,?_,?_⟩
  ·exact Ya19
  ·rcases (az j).1 hj with rfl|fu
   ·have:=(az A).1 (hnp A hp);rcases this with h|h
    ·omega
    ·rw [hA] at h; simp at h
   ·have hne:o.dst≠some t:=fun x=>by
     have:B7 ops (A+1)=some t:=eG
     have:=lu this hd;subst this;rw [pn] at fu; simp at fu
    have gz:getT s.T t=if t<st.T.length then val j else .bot:=hD.t1 j t fu hd fun e he=>by
     rcases (az e).1 (hnp e he) with h|h
     ·subst h;exfalso;have mh:=G7 he;have hlt:=Vy he;obtain ⟨p1,p2,r1,r2,⟨r3,-⟩,r4,-⟩:=Jv he;rcases (ar j p2 r2).2 A pA aA q1 (by simp [conf,(Js r4).1,(Js q3).1]) with h|h
      ·have:=Dr hD.closed (hD.closed j fu) A h;rw [hA] at this; simp at this
      ·have:=G7 h; omega
     ·exact h
    cases d8:o.dst with
    | none=>simp only [putT]; exact gz
    | some d =>
     simp only [putT];rw [Da (fun x=>hne dJ)];exact gz
  ·have hne:o.dst≠some t:=fun x=>ht (A+1) ((az _).2 (.inl rfl)) eG;exact Ya0t
  ·obtain ⟨c,dz,hc2,hc3⟩:=hD.cS;have hcA:c<=A:=by
    rcases Ia A c with h|h
    ·have:=dz.2.1 A h wA; rw [hA] at this; simp at this
    ·exact h
   refine ⟨c,⟨dz.1,fun j hj hw=>(az j).2 (.inr (dz.2.1 j hj hw)),fun hlt=>⟨(dz.2.2 hlt).1,?_⟩⟩,hc2,hc3⟩;rw [D0 aA]; exact (dz.2.2 hlt).2
  ·obtain ⟨c,dz,hc2⟩:=hD.cT;have hcB:c≠A+1:=fun e=>by
    subst e;have:=(dz.2.2 (by rw [<- hD.len]; exact b6)).1;unfold wT at this; rw [ho] at this;simp only [(Js q4).2.2] at this;simp at this
   refine ⟨c,⟨dz.1,fun j hj hw=>(az j).2 (.inr (dz.2.1 j hj hw)),fun hlt=>⟨(dz.2.2 hlt).1,?_⟩⟩,hc2⟩;rw [D0 (fun e=>hcB e.symm)]; exact (dz.2.2 hlt).2
 have stepA:∀ {listed:Array Bool} {s:St} {A:Nat} {oA oB:Oper},DInv ops st sts val listed s->A ∈ Region.ready .any ops listed->Eu ops A (A+1)=true->listed.getD (A+1) false=true->ops[A]?=some oA->ops[A+1]?=some oB ->
   s.S=(sts A).S/\s.n=(sts A).n/\DInv ops st sts val (listed.setIfInBounds A true) { s with T:=putT (putT s.T oA.dst (val A)) oB.dst (val (A+1)),S:=(sts (A+2)).S,n:=(sts (A+2)).n }:=by
  intro listed s A oA oB hD cd hp hB hoA hoB;obtain ⟨h0,o',gc,mg⟩:=Ga cd;rw [hoA] at gc;simp only [Bg] at gc;subst gc;obtain ⟨pn,b6⟩:=G4 h0;have az:=setq b6;have ie:=Dr hD.closed mg;have hlB:=(Vy hp).2;obtain ⟨pA,pB,q1,q2,⟨q3,-⟩,q4,-⟩:=Jv hp;rw [hoA] at q1; rw [hoB] at q2;simp only [Bg] at q1 q2;subst q1; subst q2;have wA:wS ops A=true:=by unfold wS; rw [hoA]; exact (Js q3).1
  have wB:wS ops (A+1)=true:=by unfold wS; rw [hoB]; exact (Js q4).1
  have others:∀ j,j≠A->j≠A+1->wS ops j=true->(listed.getD j false=true↔j<A):=by
   intro j yo mh dj;unfold wS at dj;cases hpj:ops[j]? with
   | none=>rw [hpj] at dj; simp at dj
   | some p =>
    rw [hpj] at dj;simp only at dj;rcases Nat.lt_or_gt_of_ne yo with hlt|xq
    ·refine ⟨fun _=>hlt,fun _=>?_⟩;rcases (ar (A+1) _ hoB).2 j p aA hpj (by simp [conf,dj,(Js q4).1]) with h|h
     ·exact Dr hD.closed (hD.closed _ hB) j h
     ·have:=G7 h; omega
    ·refine ⟨fun hl=>?_,fun h=>aA⟩;exfalso;rcases (ar j p hpj).2 A _ aA hoA (by simp [conf,dj,(Js q3).1]) with h|h
     ·have:=Dr hD.closed (hD.closed _ hl) A h;exact Ya3u
     ·have:=G7 h; omega
  obtain ⟨c,dz,hc2,hc3⟩:=hD.cS;have hcA:c=A:=by
   rcases Sc c A with h|h|h
   ·have h1:=dz.2.2 aA;have:=(others c aA aA h1.1).2 h;rw [h1.2] at this; simp at this
   ·exact h
   ·have:=dz.2.1 A h wA; rw [pn] at this; simp at this
  subst hcA;refine ⟨hc2,hc3,⟨by simp [hD.len],fun j hj e he=>(az e).2 (.inr ?_),by simp only [Jw]; exact hD.lenT,fun j t hj hd hnp=>?_,fun t ht=>?_,?_,?_⟩⟩
  ·exact Ya19
  ·simp only;have putV:∀ {T:List AV} {o:Oper} {k:Nat} {v:AV},T.length=st.T.length->ops[k]?=some o->(B7 ops k=some t->getT (putT T o.dst v) t=if t<st.T.length then v else .bot)/\(B7 ops k≠some t->getT (putT T o.dst v) t=getT T t):=by
    intro T o k v hl hk;refine ⟨fun e=>?_,fun e=>?_⟩
    ·have d8:o.dst=some t:=by unfold B7 at e; rw [hk] at e; simpa using e
     rw [d8];simp only [putT];by_cases j4:t<st.T.length
     ·rw [if_pos j4]; exact Je (by rw [hl]; exact j4)
     ·rw [if_neg j4]; exact P8 (by rw [Am,hl]; exact iW j4)
    ·have hne:o.dst≠some t:=fun x=>e (by unfold B7; rw [hk]; simpa using x);exact Ya2d
   have hl1:(putT s.T oA.dst (val c)).length=st.T.length:=by rw [Jw]; exact hD.lenT
   by_cases ejB:j=c+1
   ·subst ejB; exact (putV hl1 hoB).1 hd
   ·rw [(putV hl1 hoB).2 fun x=>ejB (lu hd x)];by_cases ejA:j=c
    ·subst ejA; exact (putV hD.lenT hoA).1 hd
    ·rw [(putV hD.lenT hoA).2 fun x=>ejA (lu hd x)];have fu:=((az j).1 hj).resolve_left ejA;refine hD.t1 j t fu hd fun e he=>((az e).1 (hnp e he)).resolve_left fun x=>?_;subst x;have:=G7 he; omega
  ·simp only;have a3k:oA.dst≠some t:=fun x=>ht c ((az _).2 (.inl rfl)) (by unfold B7; rw [hoA]; simpa using x);have a3l:oB.dst≠some t:=fun x=>ht (c+1) ((az _).2 (.inr hB)) (by unfold B7; rw [hoB]; simpa using x);have h3:=hD.t2 t fun j hj=>ht j ((az j).2 (.inr hj));have one:∀ {T:List AV} {o:Oper} {v:AV},o.dst≠some t->getT (putT T o.dst v) t=getT T t:=by
    intro T o v hne;exact Ya2d
   rw [one a3l,one a3k]; exact h3
  ·obtain ⟨c',g1,g2,g3⟩:=M4 (wS ops) (listed.setIfInBounds c true) ops.size ops.size (c+2) aA aA (fun j hj hw=>(az j).2 (by
    by_cases e:j=c
    ·exact .inl e
    ·by_cases e':j=c+1
     ·subst e'; exact .inr hB
     ·exact .inr ((others j e e' hw).2 aA)))
   have tf:∀ j,c+2<=j->j<(c+2)+(c' - (c+2))->wS ops j=false:=by
    intro j h1 h2;cases dj:wS ops j with
    | false=>rfl
    | true =>
     have h3:=g3 j h1 aA dj;rcases (az j).1 h3 with h4|h4
     ·omega
     ·have:=(others j aA aA dj).1 h4; omega
   have:=constS (c' - (c+2)) (c+2) Za5y tf;rw [show c+2+(c' - (c+2))=c' from by omega] at this;exact ⟨c',g2,this.1.symm,this.2.symm⟩
  ·obtain ⟨c',yp,a3m⟩:=hD.cT;have hcc:c'≠c:=fun e=>by
    subst e;have:=(yp.2.2 aA).1;unfold wT at this; rw [hoA] at this;simp only [(Js q3).2.2] at this;simp at this
   refine ⟨c',⟨yp.1,fun j hj hw=>(az j).2 (.inr (yp.2.1 j hj hw)),fun hlt=>⟨(yp.2.2 hlt).1,?_⟩⟩,a3m⟩;rw [D0 (fun e=>hcc e.symm)]; exact (yp.2.2 hlt).2
 let Norm:Array Bool->Prop:=fun listed=>∀ e j,Eu ops e j=true->listed.getD j false=true->listed.getD e false=true;let Wait:Nat->Array Bool->Cx->Act->Prop:=fun A listed C1 a1=>Eu ops A (A+1)=true/\listed.getD A false=false/\listed.getD (A+1) false=true/\∃ oB tB arr b,ops[A+1]?=some oB/\oB.op=.alloc tB/\A2 P tB=some (arr.toList.map cst1) /\
  (∀ d x,oB.dst=some d->a1.tmps.toList[d]?=some x->x=.pointer (some ⟨b,0,none⟩))/\C1.w.heap[b]?=some (.cells arr tB (0,0))/\C.w.heap.size<=b/\(∀ o,C1.av b o)/\(∀ x o,x≠b->(C1.av x o↔C.av x o))/\Le C { C1 with av:=C.av }
 have clash:∀ {listed:Array Bool} {s:St} {A A':Nat},DInv ops st sts val listed s->Eu ops A (A+1)=true->listed.getD A false=false->listed.getD (A+1) false=true->Eu ops A' (A'+1)=true->listed.getD A' false=false->((∀ e ∈ depsOf ops (A'+1),listed.getD e false=true))->A'=A:=by
  intro listed s A A' hD hp hA hB ez hA' a07;obtain ⟨p1,p2,r1,r2,⟨r3,-⟩,r4,-⟩:=Jv hp;obtain ⟨p1',p2',r1',r2',⟨r3',-⟩,r4',-⟩:=Jv ez;rcases Sc A' A with h|h|h
  ·exfalso;rcases (ar (A+1) p2 r2).2 A' p1' aA r1' (by simp [conf,(Js r3').1,(Js r4).1]) with h1|h1
   ·have:=Dr hD.closed (hD.closed _ hB) A' h1;rw [hA'] at this; simp at this
   ·have:=G7 h1; omega
  ·exact h
  ·exfalso;rcases (ar (A'+1) p2' r2').2 A p1 aA r1 (by simp [conf,(Js r3).1,(Js r4').1]) with h1|h1
   ·have:=Dr hD.closed a07 A h1;rw [hA] at this; simp at this
   ·have:=G7 h1; omega
 let Held:Array Bool->Cx->Act->Prop:=fun listed C1 a1=>∃ p al t d arr b,lt=some (p,al)/\al.op=.alloc t/\al.dst=some d/\listed.getD p false=true/\A2 P t=some (arr.toList.map cst1) /\
  (∀ x,a1.tmps.toList[d]?=some x->x=.pointer (some ⟨b,0,none⟩))/\C1.w.heap[b]?=some (.cells arr t (0,0))/\C.w.heap.size<=b/\(∀ o,C1.av b o)/\(∀ x o,x≠b->(C1.av x o↔C.av x o))/\Le C { C1 with av:=C.av }
 let Un:Array Bool->Prop:=fun listed=>∀ p al,lt=some (p,al)->listed.getD p false=false;let Hle:Array Bool->Cx->Act->Prop:=fun listed C1 a1=>(Un listed/\((Norm listed/\Le C C1)\/∃ A,Wait A listed C1 a1))\/Held listed C1 a1;have lateLt:∀ p al,lt=some (p,al)->p<ops.size:=by
  intro p al e;subst e;exact (Ck.1 je.2.2.2.2.2.2.2).1
 have done:∀ {listed:Array Bool} {s:St} {C1:Cx} {a1:Act},Hle listed C1 a1->Rel C1 s a1->DInv ops st sts val listed s->(∀ j,j<ops.size->listed.getD j false=true)->Q .normal a1 C1.w:=by
  intro listed s C1 a1 hle bz hD hl;have e:=fin hD hl;subst e;rcases hle with ⟨pn,hle⟩|⟨p,al,t,d,arr,b,e1,e2,e3,hp,hz,hx,hb1,hb2,fc,j1,hle⟩
  ·have bw:lt=none:=by
    cases hlt:lt with
    | none=>rfl
    | some q =>
     obtain ⟨p,al⟩:=q;have h1:=pn p al hlt;rw [hl p (lateLt p al hlt)] at h1; cases h1
   rcases hle with ⟨-,hle⟩|⟨A,hp,hA,-⟩
   ·refine hQ a1 C1 hle ?_;rw [bw]; exact bz
   ·rw [hl A (Vy hp).1] at hA; simp at hA
  ·have h00:∀ o,¬ C.av b o:=fun o ha=>by have:=hr.sr.avlt b o ha; omega
   have hL0:=Le0.rev (C:=C1) fc j1 h00 (arr.toList.map cst1);have cu:=SR.rev bz.sr hb1 fc j1 h00 (fun g a hg=>(hr.sr.glob g a hg).2);have hrv:Wb P lt s={ s with T:=put s.T d (.ref s.S.length s.n 0),S:=s.S++[⟨s.n,arr.toList.map cst1⟩],n:=s.n+1 }:=by
    rw [e1]; simp only [Wb,e2,e3,hz,Oi,putT]
   refine hQ a1 (C1.rev C.av b (arr.toList.map cst1)) ?_ ?_
   ·have hl2:=hle;exact Yan
   ·rw [hrv];refine ⟨?_,bz.tk,?_,?_,bz.defers,cu⟩
    ·simp only [Cx.rev,bz.S,bz.n]
    ·simp only [Cx.rev,bz.n]
    ·have ah:VRs (C1.rev C.av b (arr.toList.map cst1)) s.T a1.tmps.toList:=VRs.mono0 hL0 _ _ bz.tmps;refine Ly ah fun x hx'=>?_;rw [hx x hx'];simp only [VR];refine ⟨b,rfl,?_,fun e'' he'' _=>?_⟩
     ·simp only [Cx.rev,bz.n]; omega
     ·simp only [Cx.rev,bz.S,Cn,Cj,Cv,if_true]
 have main:∀ (fuel:Nat) (listed:Array Bool) (s:St) (C1:Cx) (a1:Act),Es listed ops.size<=fuel->Hle listed C1 a1->Rel C1 s a1->DInv ops st sts val listed s->wpAny P .any real Q fuel listed a1 C1.w:=by
  intro fuel;induction fuel with
  | zero =>
   intro listed s C1 a1 a3n hle bz hD;have hl:∀ j,j<ops.size->listed.getD j false=true:=by
    intro j hj;have h0:Es listed ops.size=0:=aA
    unfold Es at h0;rw [List.countP_eq_zero] at h0;have:=h0 j bN;exact Ya22
   refine ⟨?_,done hle bz hD hl⟩;cases yl:Region.ready .any real listed with
   | nil=>rfl
   | cons x l =>
    have hx:x ∈ Region.ready .any ops listed:=(jn listed x).1 (by rw [yl]; simp);obtain ⟨h0,o,ho,-⟩:=Ga hx;have pn:=(G4 h0).1;rw [hl x (Ck.1 ho).1] at pn; simp at pn
  | succ fuel ih =>
   intro listed s C1 a1 a3n hle bz hD;refine ⟨fun ee=>done hle bz hD (none_ready hD ?_),fun i a3o=>?_⟩
   ·cases yl:Region.ready .any ops listed with
    | nil=>rfl
    | cons x l =>
     have hx:x ∈ Region.ready .any real listed:=(jn listed x).2 (by rw [yl]; simp);rw [ee] at hx; cases hx
   have cd:=(jn listed i).1 a3o;obtain ⟨h0,o0,wx,a08⟩:=Ga cd;obtain ⟨tl,a3p⟩:=G4 h0;have az:=setq a3p;have a4r:=Ac0 (Ck.1 wx).1 hD.len tl;by_cases hL8:∃ al,lt=some (i,al)
   ·obtain ⟨al,el⟩:=hL8;have yq:=je;rw [el] at yq;obtain ⟨-,-,-,r1,r2,r3,⟨t,cs,r4,hz⟩,r5⟩:=yq;rw [wx] at r5;simp only [Bg] at r5;obtain ⟨d,r3⟩:=Sx.1 r3;have hle:Le C C1:=by
     rcases hle with ⟨-,⟨-,h⟩|⟨A,hp,-⟩⟩|⟨p,al',-,-,-,-,e1,-,-,hp,-⟩
     ·exact h
     ·exact (j2 _ _ el _ _ hp).elim
     ·rw [el] at e1;simp only [Bg,Cf] at e1;obtain ⟨rfl,-⟩:=e1;rw [tl] at hp; cases hp
    obtain ⟨o,ho,pn,bb,s2,hw,hb1,hb2,hT,mi⟩:=step hD i cd (fun e he=>(j2 _ _ el _ _ he).elim) (fun e he=>(j2 _ _ el _ _ he).elim);rw [wx] at ho;simp only [Bg] at ho;subst ho;have kt:o0.guard=none:=by rw [r5]; exact r2
    have de:o0.dst=some d:=by rw [r5]; exact r3
    have hw1:J7 ops.toList s.T o0=some true:=by unfold J7; rw [kt]
    rw [hw] at hw1;simp only [Bg] at hw1;have bu:=hb1 hw1;simp only [evO,r5,evQ,opv,Fa,Bg,Cf] at bu;obtain ⟨hv,du⟩:=bu;subst du;rw [<- hv,de] at mi;obtain ⟨arr,gn,hwp⟩:=Afc (P:=P) r4 hz;unfold wpOp;rw [r1];simp only;have hwn:Sk al (yielded real a1.tmps)=true:=by unfold Sk; rw [r2]
    rw [if_pos hwn];refine .inl (hwp C1 a1 _ _ ?_);have hbel:Below C1.w.heap.size C1.w (C1.w.alloc (.cells arr t)):=(F1 _ _).alloc (Ce _) _;have ae:Rel (C1.hid arr t) { s with T:=putT s.T (some d) .bot } (a1.put al.dst (.pointer (some ⟨C1.w.heap.size,0,none⟩))):=by
     rw [r3];exact ⟨bz.S,bz.tk,bz.n,Yh (d:=some d) (VRs.mono0 (Le0.hid arr t) _ _ bz.tmps) bW,bz.defers,bz.sr.hid arr t⟩
    refine ih _ _ (C1.hid arr t) _ aA (.inr ⟨i,al,t,d,arr,C1.w.heap.size,el,r4,r3,(az _).2 (.inl rfl),by rw [gn]; exact hz,?_,Az _ _,hle.size,fun o=>.inr rfl,fun x o hx=>?_,?_⟩) ae mi
    ·intro x hx;rw [r3] at hx;exact Ya13
    ·exact Ya3m
    ·exact Ya0r
   have d7:real[i]?=ops[i]?:=a2m i fun p al e hip=>hL8 ⟨al,by rw [hip]; exact e⟩;have hUn:∀ {L:Array Bool},Un listed->(∀ j,L.getD j false=true->j=i\/listed.getD j false=true)->Un L:=by
    intro L hu hs p al e;cases hx:L.getD p false with
    | false=>rfl
    | true =>
     rcases hs p hx with h|h
     ·exact absurd ⟨al,by rw [<- h]; exact e⟩ hL8
     ·rw [hu p al e] at h; cases h
   have ih':∀ (s:St) (C1:Cx) (a1:Act),Un listed->((Norm (listed.setIfInBounds i true)/\Le C C1)\/∃ A,Wait A (listed.setIfInBounds i true) C1 a1)->Rel C1 s a1->DInv ops st sts val (listed.setIfInBounds i true) s->wpAny P .any real Q fuel (listed.setIfInBounds i true) a1 C1.w :=
    fun s C1 a1 hu h=>ih _ s C1 a1 aA (.inl ⟨hUn hu fun j=>(az j).1,h⟩)
   by_cases hB:∃ A,Eu ops A i=true/\listed.getD A false=false
   ·obtain ⟨A,hp,hA⟩:=hB;have hi1:=G7 hp;subst hi1;obtain ⟨a09,hle⟩:Un listed/\((Norm listed/\Le C C1)\/∃ A,Wait A listed C1 a1):=hle.resolve_right fun ⟨p,al,_,_,_,_,e1,_⟩=>j2 p al e1 _ _ hp;have hN:Norm listed/\Le C C1:=by
     rcases hle with h|⟨A',ez,hA',hB',-⟩
     ·exact h
     ·exfalso;have:=clash hD ez hA' hB' hp hA a08;subst this;rw [tl] at hB'; simp at hB'
    obtain ⟨hN,hle⟩:=hN;obtain ⟨pA,pB,q1,q2,⟨q3,-⟩,q4,-⟩:=Jv hp;rw [wx] at q2;simp only [Bg] at q2;subst q2;obtain ⟨t,e,hg⟩:=Rk q4;obtain ⟨cs,hz,-⟩:=allocStep wx e hg;obtain ⟨arr,gn,hwp⟩:=Afc (P:=P) e hz;unfold wpOp;rw [d7,te];simp only [wx];have hw:J7 ops.toList s.T o0=some true:=by unfold J7; rw [hg]
    rw [if_pos (J1 bz.tmps hw)];refine .inl (hwp C1 a1 _ _ ?_);have hbel:Below C1.w.heap.size C1.w (C1.w.alloc (.cells arr t)):=(F1 _ _).alloc (Ce _) _;have ae:Rel (C1.hid arr t) { s with T:=putT s.T o0.dst .bot } (a1.put o0.dst (.pointer (some ⟨C1.w.heap.size,0,none⟩))) :=
     ⟨bz.S,bz.tk,bz.n,Yh (VRs.mono0 (Le0.hid arr t) _ _ bz.tmps) bW,by cases o0.dst <;> exact bz.defers,bz.sr.hid arr t⟩
    refine ih' _ (C1.hid arr t) _ a09 (.inr ⟨A,hp,?_,?_,o0,t,arr,C1.w.heap.size,wx,e,by rw [gn]; exact hz,?_,Az _ _,hle.size,fun o=>.inr rfl,fun x o hx=>?_,?_⟩) ae (stepB hD cd hp hA wx)
    ·rw [D0 aA]; exact hA
    ·exact (az _).2 (.inl rfl)
    ·intro d x hd hx;rw [hd] at hx;exact Ya13
    ·exact Ya3m
    ·exact Ya0r
   ·by_cases hA2:∃ b,Eu ops i b=true/\listed.getD b false=true
    ·obtain ⟨b',hp,hB'⟩:=hA2;have hi1:=G7 hp;subst hi1;obtain ⟨a09,hle⟩:Un listed/\((Norm listed/\Le C C1)\/∃ A,Wait A listed C1 a1):=hle.resolve_right fun ⟨p,al,_,_,_,_,e1,_⟩=>j2 p al e1 _ _ hp;rcases hle with ⟨hN,-⟩|⟨A,ez,hA',hB'',oB,tB,arr,b,i5,e1,hz1,hx1,hb1,hb2,fc,j1,hle⟩
     ·have:=hN _ _ hp hB';rw [tl] at this; simp at this
     ·have hAi:i=A:=clash hD ez hA' hB'' hp tl (hD.closed _ hB');subst hAi;obtain ⟨pA,pB,q1,q2,⟨q3,-⟩,q4,-⟩:=Jv hp;rw [wx] at q1; rw [i5] at q2;simp only [Bg] at q1 q2;subst q1; subst q2;obtain ⟨t,e,hg⟩:=Rk q3;obtain ⟨t',e',hg'⟩:=Rk q4;rw [e1] at e';simp only [Op.alloc.injEq] at e';subst e';obtain ⟨g1,g2,g3⟩:=stepA hD cd hp hB' wx i5;obtain ⟨cs,hz,v1,v2,v3,v4⟩:=allocStep wx e hg;obtain ⟨cs',eo,v1',v2',v3',v4'⟩:=allocStep i5 e1 hg';rw [hz1] at eo;simp only [Bg] at eo;subst eo;have d6:J7 ops.toList s.T o0=some true:=by unfold J7; rw [hg]
      have bu:evO P call o0 s=some (val i,{ s with S:=s.S++[⟨s.n,cs⟩],n:=s.n+1 }):=by
       simp only [evO,e,hz,Fa,v1,g1,g2]
      unfold wpOp;rw [d7,te];simp only [wx];rw [if_pos (J1 bz.tmps d6)];refine .inl (H4 hc bz bu fun u C2 k1 k2 k3 k4 k5 k6=>?_).1;have ae:=bz.put (d:=o0.dst) k1 k2 k3 k4 k5 k6 rfl;have nm:∀ o,¬ C1.Mut b o:=fun o hm=>bz.sr.own b o hm (fc o);have yr:C2.w.heap[b]?=some (.cells arr tB (0,0)):=by
       rw [k1.keep b (Ck.1 hb1).1 nm]; exact hb1
      have a2q:∀ o,C2.av b o:=fun o=>Za58
      have a0u:∀ x o,x≠b->(C2.av x o↔C.av x o):=fun x o hx=>Za3x
      have h00:∀ o,¬ C.av b o:=fun o ha=>by have:=hr.sr.avlt b o ha; omega
      have hL0:=Le0.rev (C:=C2) a2q a0u h00 (arr.toList.map cst1);have cu:=SR.rev k2 yr a2q a0u h00 (fun g a hg=>(hr.sr.glob g a hg).2);have fk:(sts (i+2)).S=s.S++[⟨s.n,cs⟩]++[⟨s.n+1,arr.toList.map cst1⟩]/\(sts (i+2)).n=s.n+1+1:=by
       rw [show i+2=i+1+1 from rfl,v2',v3',v2,v3,g1,g2];exact Ya4c
      refine ih' _ (C2.rev C.av b (arr.toList.map cst1)) _ a09 (.inl ⟨?_,?_⟩) ⟨?_,?_,?_,?_,ae.defers,cu⟩ g3
      ·intro e' j' yt fu;rcases (az j').1 fu with h|h
       ·subst h;have:=G7 yt;exfalso;subst this;obtain ⟨p1,p2,r1,r2,⟨r3,-⟩,r4,-⟩:=Jv yt;rcases (ar (e'+1+1) _ i5).2 e' p1 aA r1 (by simp [conf,(Js r3).1,(Js q4).1]) with h1|h1
        ·have h2:=(Rv yt (Vy hp).2 aA aA).1 h1;have:=Dr hD.closed (hD.closed _ hB') _ h2;rw [tl] at this; simp at this
        ·have:=G7 h1; omega
       ·by_cases he:listed.getD e' false=true
        ·exact (az _).2 (.inr he)
        ·have du:=G7 yt;subst du;have:=clash hD hp tl hB' yt gJ (hD.closed _ h);exact (az _).2 (.inl this)
      ·have hl2:Le C { C2 with av:=C.av }:=hle.trans ⟨k1.os,k1.tape,k1.output,k1.size,rfl,k1.n,k1.mt,k1.cell,k1.keep,k1.shape,k1.ent,k1.tok⟩;exact Yan
      ·simp only [Cx.rev,fk.1,k3,k5]
      ·exact k4
      ·simp only [Cx.rev,fk.2,k5]
      ·have ah:VRs (C2.rev C.av b (arr.toList.map cst1)) (putT s.T o0.dst (val i)) (a1.put o0.dst u).tmps.toList:=VRs.mono0 hL0 _ _ ae.tmps;simp only;cases hd:oB.dst with
       | none=>exact ah
       | some d =>
        refine Ly ah fun x hx=>?_;have jf:o0.dst≠some d:=fun h=>by
         have h1:B7 ops i=some d:=by unfold B7; rw [wx]; simpa using h
         have h2:B7 ops (i+1)=some d:=by unfold B7; rw [i5]; simpa using hd
         have:=lu h1 h2; omega
        have hx':a1.tmps.toList[d]?=some x:=by
         cases de:o0.dst with
         | none=>rw [de] at hx; exact hx
         | some d0 =>
          exact Ya08
        rw [hx1 d x hd hx',v1',v2,v3,g1.symm,g2.symm];simp only [VR];refine ⟨b,rfl,?_,fun e'' he'' _=>?_⟩
        ·simp only [Cx.rev,k5]; omega
        ·simp only [Cx.rev,k3,Cn,Cj,Cv,if_true]
    ·have b7:∀ e,Eu ops e i=true->listed.getD e false=true:=fun e he=>by
      cases h:listed.getD e false with
      | true=>rfl
      | false=>exact absurd ⟨e,he,h⟩ hB
     have bm:∀ e,Eu ops i e=true->listed.getD e false=false:=fun e he=>by
      cases h:listed.getD e false with
      | false=>rfl
      | true=>exact absurd ⟨e,he,h⟩ hA2
     obtain ⟨o,ho,pn,b,s2,hw,hb1,hb2,hT,mi⟩:=step hD i cd b7 bm;have vw:=J1 bz.tmps hw;have keepW:∀ {C2:Cx} {u:Value},Le C1 C2->((Norm listed/\Le C C1)\/∃ A,Wait A listed C1 a1)->((Norm (listed.setIfInBounds i true)/\Le C C2)\/∃ A,Wait A (listed.setIfInBounds i true) C2 (a1.put o.dst u)):=by
      intro C2 u k1 hle;rcases hle with ⟨hN,hle⟩|⟨A,ez,hA',hB'',oB,tB,arr,b,i5,e1,hz1,hx1,hb1,hb2,fc,j1,hle⟩
      ·refine .inl ⟨fun e j hp hj=>(az e).2 ?_,hle.trans k1⟩;rcases (az j).1 hj with h|h
       ·subst h; exact .inr (b7 e hp)
       ·exact .inr (hN e j hp h)
      ·have hiA:i≠A:=fun h=>by
        subst h;have:=bm _ ez; rw [hB''] at this; simp at this
       refine .inr ⟨A,ez,?_,(az _).2 (.inr hB''),oB,tB,arr,b,i5,e1,hz1,fun d x hd hx=>?_,?_,hb2,fun o=>Za58,fun x o hx=>Za3x,hle.trans ⟨k1.os,k1.tape,k1.output,k1.size,rfl,k1.n,k1.mt,k1.cell,k1.keep,k1.shape,k1.ent,k1.tok⟩⟩
       ·rw [D0 hiA]; exact hA'
       ·refine hx1 d x hd ?_;have jf:o.dst≠some d:=fun h=>by
         have h1:B7 ops i=some d:=by unfold B7; rw [ho]; simpa using h
         have h2:B7 ops (A+1)=some d:=by unfold B7; rw [i5]; simpa using hd
         have:=lu h1 h2;subst this;rw [pn] at hB''; simp at hB''
        exact Ya4m
       ·exact Ya2a
     have keepH:∀ {C2:Cx} {u:Value},Le C1 C2->Hle listed C1 a1->Hle (listed.setIfInBounds i true) C2 (a1.put o.dst u):=by
      intro C2 u k1 hle;rcases hle with ⟨hu,hle⟩|⟨p,al,t,d,arr,b,e1,e2,e3,hp,hz,hx1,hb1,hb2,fc,j1,hle⟩
      ·exact .inl ⟨hUn hu fun j=>(az j).1,keepW k1 hle⟩
      ·refine .inr ⟨p,al,t,d,arr,b,e1,e2,e3,(az _).2 (.inr hp),hz,fun x hx=>?_,?_,hb2,fun o=>Za58,fun x o hx=>Za3x,hle.trans ⟨k1.os,k1.tape,k1.output,k1.size,rfl,k1.n,k1.mt,k1.cell,k1.keep,k1.shape,k1.ent,k1.tok⟩⟩
       ·refine hx1 x ?_;have jf:o.dst≠some d:=fun h=>by
         have qx:=je;rw [e1] at qx;have h1:B7 ops i=some d:=by unfold B7; rw [ho]; simpa using h
         have h2:B7 ops p=some d:=by unfold B7; rw [qx.2.2.2.2.2.2.2]; simpa using e3
         have:=lu h1 h2;subst this;rw [pn] at hp; cases hp
        exact Ya4m
       ·exact Ya2a
     unfold wpOp;rw [d7,te];simp only [ho];cases b with
     | false =>
      rw [if_neg (by rw [vw]; simp)];obtain ⟨hv,rfl⟩:=hb2 rfl;refine ih _ _ C1 _ aA (keepH (Le.refl C1) hle) ?_ mi;rw [hv];exact bz.put (Le.refl C1) bz.sr bz.S bz.tk bz.n bW rfl
     | true =>
      rw [if_pos vw];refine .inl (H4 hc bz (hb1 rfl) fun u C2 k1 k2 k3 k4 k5 k6=>?_).1;exact ih _ _ C2 _ aA (keepH k1 hle) (bz.put k1 k2 k3 k4 k5 k6 hT) mi
 have hbel:Below C.w.heap.size C.w C.w.drew:=(F1 _ _).drew;rw [hsz];refine main ops.size _ st (C.at C.w.drew) a ?_ (.inl ⟨fun p al _=>by simp [Sp],.inl ⟨fun e j _ hj=>by simp [Sp] at hj,Le.of_below hbel⟩⟩) ⟨hr.S,hr.tk,hr.n,VRs.mono (Le.of_below hbel) _ _ hr.tmps,hr.defers,SR.of_below hr.sr hbel⟩ ⟨by simp,?_,rfl,?_,fun t _=>rfl,?_,?_⟩
 ·unfold Es;exact Fh List.countP_le_length (by simp)
 ·intro j hj; simp [Sp] at hj
 ·intro j t hj; simp [Sp] at hj
 ·obtain ⟨c,h1,h2,h3⟩:=M4 (wS ops) (Su ops.size false) ops.size ops.size 0 aA aA (by intro j hj; omega);have tf:∀ j,0<=j->j<0+c->wS ops j=false:=by
   intro j _ hj;cases dj:wS ops j with
   | false=>rfl
   | true =>
    have:=h2.2.1 j aA dj;simp [Sp] at this
  have:=constS c 0 (by have:=h2.1; omega) tf;rw [Fk,ko] at this;exact ⟨c,h2,this.1.symm,this.2.symm⟩
 ·obtain ⟨c,h1,h2,h3⟩:=M4 (wT ops) (Su ops.size false) ops.size ops.size 0 aA aA (by intro j hj; omega);have tf:∀ j,0<=j->j<0+c->wT ops j=false:=by
   intro j _ hj;cases dj:wT ops j with
   | false=>rfl
   | true =>
    have:=h2.2.1 j aA dj;simp [Sp] at this
  have:=constT c 0 (by have:=h2.1; omega) tf;rw [Fk,ko] at this;exact ⟨c,h2,this.symm⟩
theorem Aba [Globs] (hm:P.follows .mixedOrders=true):Aew P B0:=by
 refine ⟨hm,?_⟩;intro call hc real ops lt hlt hi C st st' a Q ab hr h hQ;exact @Yv P (gM (mdOf ops.toList)) hm call (Aow hc) hi real ops lt hlt C st st' a Q ab (Avt.2 hr) h (fun a' C' hle ju=>hQ a' C' hle (Avt.1 ju))
end
end
section
open Go.RowKit
section
variable {P:Program}
def CLe (a b:Dv):Prop:=∀ f args S tk n r,a f args S tk n=some r->b f args S tk n=some r
theorem Af1 [Globs] {a b:Dv} (h:CLe a b) {o:Oper} {st:St} {r:AV × St} (he:evO P a o st=some r):evO P b o st=some r:=by
 unfold evO at he ⊢;split <;> simp_all only
 ·rename_i c _;split <;> simp_all only;split <;> simp_all only
  ·rename_i f args gt;simp only [Cd] at he ⊢;obtain ⟨x,h1,h2⟩:=he;exact ⟨x,h _ _ _ _ _ _ h1,h2⟩
theorem Dc [G:Globs] {a b:Dv} (h:CLe a b) {all:List Oper} : ∀ {l:List Oper} {st st':St},evOs P a all l st=some st'->evOs P b all l st=some st'
 | [],_,_,he=>he
 | o :: l,st,st',he=>by
  simp only [evOs] at he ⊢;split at he
  ·simp at he
  ·exact Dc h he
  ·split at he
   ·rename_i v s1 ho;rw [Af1 h ho];simp only;split at he
    ·rename_i oq;rw [if_pos oq]; exact Dc h he
    ·simp at he
   ·simp at he
theorem CLe.pure [Globs] [Ext P] {M:Md} {a b:Dv} (h:CLe a b):CLe (@Gp (gM M) P _ a) (@Gp (gM M) P _ b):=by
 intro f args S tk n r he;unfold Gp at he ⊢;split at he
 ·rename_i hp; rw [if_pos hp]; exact h _ _ _ _ _ _ he
 ·simp at he
theorem Nf {kp:Bool} {f g:St->Option (Ex × St)} (h:∀ s r,f s=some r->g s=some r):∀ {k m:Nat} {s:St} {r:Ex × St},k<=m->L9 kp f k s=some r->L9 kp g m s=some r
 | 0,_,_,_,_,he=>by simp [L9] at he
 | k+1,0,_,_,mj,_=>aA
 | k+1,m+1,s,r,mj,he=>by
  simp only [L9] at he ⊢;split at he
  ·rename_i s1 h1;rw [h _ _ h1];exact Nf h aA he
  ·rename_i hne;rw [h _ _ he];exact Ya2j
theorem Dt [Globs] [Ext P] {a b:Dv} (h:CLe a b) {ok:St->List Oper->Bool} {n m:Nat} (g8:n<=m):∀ (c:Code) (st:St) (r:Ex × St),evC P a ok n c st=some r->evC P b ok m c st=some r
 | .skip,_,_,he=>fC
 | .region _ ops draw,st,r,he=>by
  simp only [evC] at he ⊢;split at he
  ·rename_i hd;rw [if_pos hd];split at he
   ·rename_i ini o ws;exact Ya0d
   ·split at he
    ·exact Ya0d
    ·split at he
     ·rename_i ab;simp only [ab,if_true];simp only [Cd] at he ⊢;obtain ⟨x,h1,h2⟩:=he;exact ⟨x,Dc (G:=gM _) h.pure h1,h2⟩
     ·simp at he
  ·rename_i hd;rw [if_neg hd];simp only [Cd] at he ⊢;obtain ⟨x,h1,h2⟩:=he;exact ⟨x,Dc h h1,h2⟩
 | .seq x y,st,r,he=>by
  simp only [evC] at he ⊢;split at he
  ·rename_i s1 h1;rw [Dt h g8 x st _ h1];exact Dt h g8 y s1 r he
  ·rename_i hne;rw [Dt h g8 x st _ he];exact Ya2j
 | .cond x y z,st,r,he=>by
  simp only [evC] at he ⊢;split at he
  ·rename_i t ht;split at he
   ·rename_i h1; rw [if_pos h1]; exact Dt h g8 y st r he
   ·rename_i h1; rw [if_neg h1]; exact Dt h g8 z st r he
  ·simp at he
 | .block id x,st,r,he=>by
  simp only [evC] at he ⊢;split at he
  ·rename_i id' s1 h1;rw [Dt h g8 x st _ h1]; exact he
  ·rename_i hne;rw [Dt h g8 x st _ he];obtain ⟨ex,s2⟩:=r;cases ex with
   | normal=>rfl
   | exit id=>exact absurd he (hne id s2)
   | ret=>rfl
 | .loop x,st,r,he=>by
  simp only [evC] at he ⊢;exact Nf (fun s r=>Dt h g8 x s r) g8 he
 | .exit id,_,_,he=>fC
 | .ret,_,_,he=>fC
 | .rangeFunc _ _ _ _,_,_,he=>by simp [evC] at he
 | .scope c,st,r,he=>by
  simp only [evC] at he ⊢;exact Dt h g8 c st r he
 | .label _,_,_,he=>fC
 | .goto _,_,_,he=>by simp [evC] at he
 | .refuse _,_,_,he=>by simp [evC] at he
theorem Mf {fn:Func} {x y:Option (Ex × St)} {r:AV × St} (h:∀ z,x=some z->y=some z) (he:outA P fn x=some r):outA P fn y=some r:=by
 match x with
 | none=>simp [outA] at he
 | some z=>rw [h z rfl]; exact he
theorem Er [Globs] [Ext P] {ok:St->List Oper->Bool} : ∀ {k m:Nat},k<=m->CLe (evF P ok k) (evF P ok m)
 | 0,_,_=>Za3p
 | k+1,0,h=>aA
 | k+1,m+1,h=>by
  have ih:CLe (evF P ok k) (evF P ok m):=Er aA;intro f args S tk n r he;simp only [evF] at he ⊢;split at he
  ·rename_i wu; rw [if_pos wu]; exact he
  rename_i wu;rw [if_neg wu];split at he
  ·rename_i fn hf;split at he
   ·rename_i c hb;split at he
    ·simp at he
    ·rename_i a7;rw [if_neg a7];split at he
     ·rename_i td;rw [if_pos td];exact Ya2l
     rename_i td;rw [if_neg td];split at he
     ·rename_i hp;rw [if_pos hp];have one:∀ {as:List AV} {r0:AV},runP P ok (evF P ok k) k fn c as=some r0->runP P ok (evF P ok m) m fn c as=some r0:=by
       intro as r0 hrun;unfold runP at hrun ⊢;split at hrun
       ·rename_i r' s1 ho;rw [Mf (fun z hz=>Dt ih aA c _ z hz) ho];exact hrun
       ·simp at hrun
      split at he
      ·rename_i r' ho;have:(if Ju c=true then runN (runP P ok (evF P ok m) m fn c) (args.map w2) else runP P ok (evF P ok m) m fn c (args.map w2))=some r':=by
        exact Ya0g
       rw [this]; exact he
      ·simp at he
     ·rename_i hp;rw [if_neg hp];exact Ya2l
   ·simp at he
  ·simp at he
noncomputable def lim {α:Type} (F:Nat->Option α):Option α:=by
 classical
 exact if h:∃ x,∃ k,F k=some x then some h.choose else none
theorem Amn {α:Type} {F:Nat->Option α} (hm:∀ k m x,k<=m->F k=some x->F m=some x) {x:α} : lim F=some x↔∃ k,F k=some x:=by
 unfold lim;constructor
 ·intro h;split at h
  ·rename_i hx;simp only [Bg] at h; subst h;exact hx.choose_spec
  ·simp at h
 ·rintro ⟨k,hk⟩;have hx:∃ x,∃ k,F k=some x:=⟨x,k,hk⟩;rw [dif_pos hx];obtain ⟨m,ft⟩:=hx.choose_spec;have h1:=hm _ _ _ (jI k m) hk;have h2:=hm _ _ _ (iZ k m) ft;rw [h1] at h2;simp only [Bg] at h2;rw [<- h2]
theorem Lj {α:Type} {a b:Option α} (h:∀ x,a=some x↔b=some x):a=b:=by
 cases a with
 | none =>
  cases b with
  | none=>rfl
  | some y=>have:=(h y).2 rfl; simp at this
 | some x=>exact ((h x).1 rfl).symm
noncomputable def cL [Globs] (P:Program) [Ext P]:Dv:=fun f args S tk n=>lim fun k=>evF P B0 k f args S tk n
noncomputable def eL [Globs] (P:Program) [Ext P] (c:Code) (st:St):Option (Ex × St):=lim fun k=>evC P (evF P B0 k) B0 k c st
theorem Kt [Globs] [Ext P] {f args S tk n x} : cL P f args S tk n=some x↔∃ k,evF P B0 k f args S tk n=some x:=Amn fun _ _ _ h he=>Er h _ _ _ _ _ _ he
theorem Dk [Globs] [Ext P] {c:Code} {st:St} {x:Ex × St} : eL P c st=some x↔∃ k,evC P (evF P B0 k) B0 k c st=some x:=Amn fun _ _ _ h he=>Dt (Er h) h _ _ _ he
theorem Ah2 [Globs] [Ext P] (k:Nat):CLe (evF P B0 k) (cL P):=fun _ _ _ _ _ _ h=>Kt.2 ⟨k,h⟩
section
variable {F:Nat->Dv} {L:Dv} (hF:∀ k m,k<=m->CLe (F k) (F m)) (hL:∀ f args S tk n x,L f args S tk n=some x->∃ k,F k f args S tk n=some x)
include hL
theorem Atu [Globs] {o:Oper} {st:St} {r:AV × St} (h:evO P L o st=some r):∃ k,evO P (F k) o st=some r:=by
 by_cases hc:∃ c f args,o.op=.call c/\Gy P st.T c=some (f,args)/\(∀ b,c.callee≠.builtin b)
 ·obtain ⟨c,f,args,ho,gt,hb⟩:=hc;have e:∀ call:Dv,evO P call o st=(call f args st.S st.tk st.n).map fun (v,S,tk,n)=>(v,{ st with S:=S,tk:=tk,n:=n }):=by
   intro call;unfold evO;rw [ho];simp only;split
   ·exact Ya2v
   ·exact Ya2v
   ·rename_i b _ _ h'; exact absurd h' (hb _)
   ·rw [gt]
  rw [e] at h;simp only [Cd] at h;obtain ⟨x,h1,h2⟩:=h;obtain ⟨k,hk⟩:=hL _ _ _ _ _ _ h1;exact ⟨k,by rw [e,hk]; simp [h2]⟩
 ·refine ⟨0,?_⟩;have e:∀ call call':Dv,evO P call o st=evO P call' o st:=by
   intro call call';unfold evO;split <;> try rfl
   rename_i c ho;split <;> try rfl
   rename_i h1 h2 h3;split
   ·rename_i f args gt;exact absurd ⟨c,f,args,ho,gt,fun b hb=>by cases b <;> first|exact h1 hb|exact h2 hb|exact h3 _ hb⟩ hc
   ·rfl
  rw [e _ L]; exact h
include hF
theorem T1 [G:Globs] {all:List Oper} : ∀ {l:List Oper} {st st':St},evOs P L all l st=some st'->∃ k,evOs P (F k) all l st=some st'
 | [],_,_,h=>⟨0,h⟩
 | o :: l,st,st',h=>by
  simp only [evOs] at h;split at h
  ·simp at h
  ·rename_i hw;obtain ⟨k,hk⟩:=T1 h;exact ⟨k,by simp only [evOs,hw]; exact hk⟩
  ·rename_i hw;split at h
   ·rename_i v s1 ho;split at h;case isFalse=>simp at h
    rename_i oq;obtain ⟨k,hk⟩:=Atu hL ho;obtain ⟨m,hm⟩:=T1 h;refine ⟨max k m,?_⟩;simp only [evOs,hw];rw [Af1 (hF _ _ (jI k m)) hk];simp only;rw [if_pos oq];exact Dc (hF _ _ (iZ k m)) hm
   ·simp at h
end
theorem Adv [Globs] [Ext P] {all l:List Oper} {st st':St} (h:evOs P (cL P) all l st=some st'):∃ k,evOs P (evF P B0 k) all l st=some st' :=
 T1 (fun _ _ h=>Er h) (fun _ _ _ _ _ _ h=>Kt.1 h) h
theorem Adw [Globs] [Ext P] {M:Md} {all l:List Oper} {st st':St} (h:@evOs (gM M) P (@Gp (gM M) P _ (cL P)) all l st=some st'):∃ k,@evOs (gM M) P (@Gp (gM M) P _ (evF P B0 k)) all l st=some st':=by
 refine T1 (F:=fun k=>@Gp (gM M) P _ (evF P B0 k)) (G:=gM M) (fun _ _ h=>(Er h).pure) (fun f args S tk n x h=>?_) h;unfold Gp at h;split at h
 ·rename_i hp;obtain ⟨k,hk⟩:=Kt.1 h;exact ⟨k,by unfold Gp; rw [if_pos hp]; exact hk⟩
 ·simp at h
inductive Kont where
 | seq (c:Code)|block (id:Nat)|loop (c:Code) (k:Nat)
noncomputable def cont [Globs] (P:Program) [Ext P] (fn:Func):Ex->St->List Kont->Option (AV × St)
 | e,st,[]=>outA P fn (some (e,st))
 | .normal,st,.seq c :: k=>match eL P c st with|some (e,st')=>cont P fn e st' k|none=>none
 | .normal,st,.block _ :: k=>cont P fn .normal st k
 | .normal,st,.loop c n :: k=>match eL P (.loop c) { st with S:=cutS (Ad0 c) n st.S } with|some (e,st')=>cont P fn e st' k|none=>none
 | .exit id,st,.seq _ :: k=>cont P fn (.exit id) st k
 | .exit id,st,.block id' :: k=>if id=id' then cont P fn .normal st k else cont P fn (.exit id) st k
 | .exit id,st,.loop _ _ :: k=>cont P fn (.exit id) st k
 | .ret,st,_ :: k=>cont P fn .ret st k
noncomputable def RK [Globs] (P:Program) [Ext P] (fn:Func) (c:Code) (st:St) (k:List Kont):Option (AV × St):=match eL P c st with|some (e,st')=>cont P fn e st' k|none=>none
noncomputable def Ku [Globs] (M:Md) (P:Program) [Ext P] (call:Dv):Dv:=@Gp (gM M) P _ call
noncomputable def RO [Globs] (P:Program) [Ext P] (fn:Func) (M:Md) (call:Dv) (all l:List Oper) (st:St) (k:List Kont):Option (AV × St):=match @evOs (gM M) P call all l st with|some st'=>cont P fn .normal st' k|none=>none
def br {α:Type} (w:Option Bool) (a b:Option α):Option α:=match w with|some true=>a|some false=>b|none=>none
variable {fn:Func} {st:St} {k:List Kont}
theorem Asy [Globs] [Ext P]:RK P fn .skip st k=cont P fn .normal st k:=by
 have:eL P .skip st=some (.normal,st):=Dk.2 ⟨0,rfl⟩;simp only [RK,this]
theorem Asw [Globs] [Ext P] {id:Nat} : RK P fn (.exit id) st k=cont P fn (.exit id) st k:=by
 have:eL P (.exit id) st=some (.exit id,st):=Dk.2 ⟨0,rfl⟩;simp only [RK,this]
theorem Avm [Globs] [Ext P]:RK P fn .ret st k=cont P fn .ret st k:=by
 have:eL P .ret st=some (.ret,st):=Dk.2 ⟨0,rfl⟩;simp only [RK,this]
theorem Awh [Globs] [Ext P] {a b:Code} : eL P (.seq a b) st=match eL P a st with|some (.normal,st')=>eL P b st'|r=>r:=by
 apply Lj;intro x;constructor
 ·intro h;obtain ⟨n,h⟩:=Dk.1 h;simp only [evC] at h;split at h
  ·rename_i s1 h1;rw [Dk.2 ⟨n,h1⟩];exact Dk.2 ⟨n,h⟩
  ·rename_i hne;rw [Dk.2 ⟨n,h⟩];exact Ya06
 ·intro h;split at h
  ·rename_i s1 h1;obtain ⟨n,h1⟩:=Dk.1 h1;obtain ⟨m,h⟩:=Dk.1 h;refine Dk.2 ⟨max n m,?_⟩;simp only [evC];rw [Dt (Er (jI n m)) (jI n m) _ _ _ h1];exact Dt (Er (iZ n m)) (iZ n m) _ _ _ h
  ·rename_i hne;obtain ⟨n,h1⟩:=Dk.1 h;refine Dk.2 ⟨n,?_⟩;simp only [evC];rw [h1];exact Ya06
theorem Avn [Globs] [Ext P] {a b:Code} : RK P fn (.seq a b) st k=RK P fn a st (.seq b :: k):=by
 simp only [RK,Awh];cases h:eL P a st with
 | none=>rfl
 | some x =>
  obtain ⟨e,s⟩:=x;cases e <;> simp only [cont]
theorem Ato [Globs] [Ext P] {c:Operand} {a b:Code} : eL P (.cond c a b) st=match opv st.T c with|.prim (.bool t)=>if t=true then eL P a st else eL P b st|_=>none:=by
 apply Lj;intro x;rw [Dk];simp only [evC];generalize opv st.T c=v;cases v with
 | prim u =>
  cases u with
  | bool t=>cases t <;> simp [Dk]
  | _=>simp
 | _=>simp
theorem Asv [Globs] [Ext P] {c:Operand} {a b:Code} : RK P fn (.cond c a b) st k=match opv st.T c with|.prim (.bool t)=>if t=true then RK P fn a st k else RK P fn b st k|_=>none:=by
 simp only [RK,Ato];generalize opv st.T c=v;cases v with
 | prim u =>
  cases u with
  | bool t=>cases t <;> simp
  | _=>rfl
 | _=>rfl
theorem Ap7 [Globs] [Ext P] {id:Nat} {c:Code} : eL P (.block id c) st=match eL P c st with|some (.exit id',st')=>if id'=id then some (.normal,st') else some (.exit id',st')|r=>r:=by
 apply Lj;intro x;constructor
 ·intro h;obtain ⟨n,h⟩:=Dk.1 h;simp only [evC] at h;split at h
  ·rename_i s1 h1;rw [Dk.2 ⟨n,h1⟩]; exact h
  ·rename_i hne;rw [Dk.2 ⟨n,h⟩];exact Ya2e
 ·intro h;split at h
  ·rename_i id' s1 h1;obtain ⟨n,h1⟩:=Dk.1 h1;exact Dk.2 ⟨n,by simp only [evC]; rw [h1]; exact h⟩
  ·rename_i hne;obtain ⟨n,h1⟩:=Dk.1 h;refine Dk.2 ⟨n,?_⟩;simp only [evC];rw [h1];exact Ya2e
theorem Ao8 [Globs] [Ext P] {id:Nat} {c:Code} : RK P fn (.block id c) st k=RK P fn c st (.block id :: k):=by
 simp only [RK,Ap7];cases h:eL P c st with
 | none=>rfl
 | some x =>
  obtain ⟨e,s⟩:=x;cases e with
  | exit id'=>by_cases hid:id'=id <;> simp [cont,hid]
  | normal=>simp only [cont]
  | ret=>simp only [cont]
theorem Atr [Globs] [Ext P] {c:Code} : eL P (.loop c) st=match eL P c st with|some (.normal,st')=>eL P (.loop c) { st' with S:=cutS (Ad0 c) st.S.length st'.S } | r=>r:=by
 apply Lj;intro x;constructor
 ·intro h;obtain ⟨n,h⟩:=Dk.1 h;simp only [evC] at h;cases n with
  | zero=>simp [L9] at h
  | succ n =>
   simp only [L9] at h;split at h
   ·rename_i s1 h1;rw [Dk.2 ⟨n+1,h1⟩];exact Dk.2 ⟨n+1,by simp only [evC]; exact Nf (fun _ _ h=>h) (kL n) h⟩
   ·rename_i hne;rw [Dk.2 ⟨n+1,h⟩];exact Ya06
 ·intro h;split at h
  ·rename_i s1 h1;obtain ⟨n,h1⟩:=Dk.1 h1;obtain ⟨m,h⟩:=Dk.1 h;simp only [evC] at h;refine Dk.2 ⟨max n m+1,?_⟩;simp only [evC,L9];rw [Dt (Er (show n<=max n m+1 by omega)) (show n<=max n m+1 by omega) _ _ _ h1];exact Nf (fun s r=>Dt (Er (show m<=max n m+1 by omega)) (show m<=max n m+1 by omega) c s r) (show m<=max n m by omega) h
  ·rename_i hne;obtain ⟨n,h1⟩:=Dk.1 h;refine Dk.2 ⟨n+1,?_⟩;simp only [evC,L9];rw [Dt (Er (kL n)) (kL n) _ _ _ h1];exact Ya06
theorem Yb [Globs] [Ext P] {c:Code} : RK P fn (.loop c) st k=RK P fn c st (.loop c st.S.length :: k):=by
 rw [RK,Atr,RK];cases h:eL P c st with
 | none=>rfl
 | some x =>
  obtain ⟨e,s⟩:=x;cases e <;> simp only [cont]
theorem Ux [Globs] [Ext P] {id:Nat} {ops:Array Oper} : eL P (.region id ops false) st=(evOs P (cL P) ops.toList ops.toList st).map fun st=>(.normal,st):=by
 apply Lj;intro x;rw [Dk];simp only [evC,Cd,C7,if_false];constructor
 ·rintro ⟨n,s,h1,h2⟩; exact ⟨s,Dc (Ah2 n) h1,h2⟩
 ·rintro ⟨s,h1,h2⟩;obtain ⟨n,hn⟩:=Adv h1;exact ⟨n,s,hn,h2⟩
theorem Atp [Globs] [Ext P] {id:Nat} {ops:Array Oper} (hs:Hq ops.toList=none) (hl:L7 ops.toList=none):eL P (.region id ops true) st=if B0 st ops.toList=true then (@evOs (gM (mdOf ops.toList)) P (Ku (mdOf ops.toList) P (cL P)) ops.toList ops.toList st).map fun st=>(.normal,st) else none:=by
 apply Lj;intro x;rw [Dk];simp only [evC,if_true,hs,hl];by_cases ab:B0 st ops.toList=true
 ·simp only [ab,if_true,Cd];constructor
  ·rintro ⟨n,s,h1,h2⟩; exact ⟨s,Dc (G:=gM _) (Ah2 n).pure h1,h2⟩
  ·rintro ⟨s,h1,h2⟩;obtain ⟨n,hn⟩:=Adw h1;exact ⟨n,s,hn,h2⟩
 ·simp [ab]
theorem Ats [Globs] [Ext P] {id:Nat} {ops:Array Oper} {a:List Oper} {o:Oper} (hs:Hq ops.toList=some (a,o)):eL P (.region id ops true) st=if B0 st a=true then (match @evOs (gM (mdOf a)) P (Ku (mdOf a) P (cL P)) a a st with|some st1=>(evOs P (cL P) [o] [o] st1).map fun st=>(.normal,st)|none=>none) else none:=by
 apply Lj;intro x;rw [Dk];simp only [evC,if_true,hs];exact Yad
theorem Atq [Globs] [Ext P] {id:Nat} {ops:Array Oper} {p:Nat} {al o:Oper} (hs:Hq ops.toList=none) (hl:L7 ops.toList=some (p,al,o)):eL P (.region id ops true) st=if B0 st (openL ops.toList)=true then (match @evOs (gM (mdOf (openL ops.toList))) P (Ku (mdOf (openL ops.toList)) P (cL P)) (openL ops.toList) (openL ops.toList) st with|some st1=>(evOs P (cL P) [al,o] [al,o] st1).map fun st=>(.normal,st)|none=>none) else none:=by
 apply Lj;intro x;rw [Dk];simp only [evC,if_true,hs,hl];generalize openL ops.toList=a;exact Yad
theorem Apa [Globs] [Ext P] {c:Code} : RK P fn (.scope c) st k=RK P fn c st k:=by
 have:eL P (.scope c) st=eL P c st:=by
  apply Lj;intro x;rw [Dk,Dk];simp only [evC]
 simp only [RK,this]
theorem Ao9 [Globs] [Ext P] {l:Nat} : RK P fn (.label l) st k=cont P fn .normal st k:=by
 have:eL P (.label l) st=some (.normal,st):=Dk.2 ⟨0,cU⟩;simp only [RK,this]
theorem Aj3 [Globs] [Ext P] {id:Nat} {ops:Array Oper} : RK P fn (.region id ops false) st k=RO P fn .no (cL P) ops.toList ops.toList st k:=by
 simp only [RK,Ux];show _=match evOs P (cL P) ops.toList ops.toList st with|some st'=>cont P fn .normal st' k|none=>none
 cases evOs P (cL P) ops.toList ops.toList st <;> rfl
theorem Uk [Globs] [Ext P] {id:Nat} {ops:Array Oper} (hs:Hq ops.toList=none) (hl:L7 ops.toList=none) (h:B0 st ops.toList=true):RK P fn (.region id ops true) st k=RO P fn (mdOf ops.toList) (Ku (mdOf ops.toList) P (cL P)) ops.toList ops.toList st k:=by
 simp only [RK,RO,Atp hs hl,if_true,h];cases @evOs (gM (mdOf ops.toList)) P (Ku (mdOf ops.toList) P (cL P)) ops.toList ops.toList st <;> rfl
theorem Asz [Globs] [Ext P] {id:Nat} {ops:Array Oper} {a:List Oper} {o:Oper} (hs:Hq ops.toList=some (a,o)) (du:Hq a=none) (hl2:L7 a=none) (h:B0 st a=true):RK P fn (.region id ops true) st k=RK P fn (.region id a.toArray true) st (.seq (.region id #[o] false) :: k):=by
 rw [Uk (ops:=a.toArray) (by simpa using du) (by simpa using hl2) aO];simp only [RK,RO,Ats hs,if_true,h];cases @evOs (gM (mdOf a)) P (Ku (mdOf a) P (cL P)) a a st with
 | none=>rfl
 | some s1 =>
  simp only [cont,RK,Ux]
theorem Asx [Globs] [Ext P] {id:Nat} {ops:Array Oper} {p:Nat} {al o:Oper} (hs:Hq ops.toList=none) (hl:L7 ops.toList=some (p,al,o)) (h:B0 st (openL ops.toList)=true):RK P fn (.region id ops true) st k=RO P fn (mdOf (openL ops.toList)) (Ku (mdOf (openL ops.toList)) P (cL P)) (openL ops.toList) (openL ops.toList) st (.seq (.region id #[al,o] false) :: k):=by
 simp only [RK,RO,Atq hs hl,if_true,h];cases @evOs (gM (mdOf (openL ops.toList))) P (Ku (mdOf (openL ops.toList)) P (cL P)) (openL ops.toList) (openL ops.toList) st with
 | none=>rfl
 | some s1 =>
  simp only [cont,RK,Ux]
theorem Ada [Globs] [Ext P] {M:Md} {call:Dv} {all l:List Oper} {o:Oper} : RO P fn M call all (o :: l) st k=br (J7 all st.T o) (match @evO (gM M) P call o st with|some (v,st')=>if @chkO (gM M) P all o st v st'=true then RO P fn M call all l { st' with T:=putT st'.T o.dst v } k else none|none=>none) (RO P fn M call all l { st with T:=putT st.T o.dst (.prim undef) } k):=by
 simp only [RO,evOs];cases J7 all st.T o with
 | none=>rfl
 | some b =>
  cases b with
  | false=>rfl
  | true =>
   simp only [br];cases @evO (gM M) P call o st with
   | none=>rfl
   | some x =>
    obtain ⟨v,s1⟩:=x;simp only;cases @chkO (gM M) P all o st v s1 <;> rfl
theorem Ap1 [Globs] [Ext P] {x:Kont} : cont P fn .ret st (x :: k)=cont P fn .ret st k:=by cases x <;> rfl
theorem Zb [Globs] [Ext P] {x:Code} {r:AV × St} (h:RK P fn x st []=some r):∃ n,outA P fn (evC P (evF P B0 n) B0 n x st)=some r:=by
 unfold RK at h;cases he:eL P x st with
 | none=>rw [he] at h; simp at h
 | some z =>
  rw [he] at h;obtain ⟨n,hn⟩:=Dk.1 he;obtain ⟨e,s⟩:=z;refine ⟨n,?_⟩;rw [hn];cases e <;> exact h
def asB:AV->Option Bool|.prim (.bool t)=>some t|_=>none
theorem asB_bool {t:Bool} : asB (.prim (.bool t))=some t:=rfl
theorem RK_if [Globs] [Ext P] {c:Operand} {a b:Code} : RK P fn (.cond c a b) st k=br (asB (opv st.T c)) (RK P fn a st k) (RK P fn b st k):=by
 rw [Asv];generalize opv st.T c=v;cases v with
 | prim u =>
  cases u with
  | bool t=>cases t <;> rfl
  | _=>rfl
 | _=>rfl
def fin1 (x:Option (AV × St)):Option AV:=match x with|some (r,s)=>some (w3 (fz3 0 s.S r))|none=>none
theorem fin1_some {r:AV} {s:St} : fin1 (some (r,s))=some (w3 (fz3 0 s.S r)):=rfl
def finS (b:Nat) (x:Option (AV × St)):Option (AV × List Ent × List Nat × Nat):=match x with|some (r,s)=>some (fz3 b s.S r,s.S.take b,s.tk,s.n)|none=>none
theorem finS_some {b:Nat} {r:AV} {s:St} : finS b (some (r,s))=some (fz3 b s.S r,s.S.take b,s.tk,s.n):=rfl
theorem Atw {t:Bool} {a b:Option (AV × St)} {r:AV} : fin1 (br (some t) a b)=some r↔(t=true->fin1 a=some r)/\(t=false->fin1 b=some r):=Za5f
theorem Aty {n:Nat} {t:Bool} {a b:Option (AV × St)} {r:AV × List Ent × List Nat × Nat} : finS n (br (some t) a b)=some r↔(t=true->finS n a=some r)/\(t=false->finS n b=some r):=Za5f
theorem Av8 {α:Type} {t:Bool} {a b:Option α} : br (some (!t)) a b=br (some t) b a:=by cases t <;> rfl
theorem Amq [Globs] [Ext P] {ι:Type} {c:Code} (I:ι->St->Prop) (μ:ι->Nat) (G:ι->AV) (h:∀ x st,I x st->(∀ y st',μ y<μ x->I y st'->fin1 (RK P fn (.loop c) st' k)=some (G y))->fin1 (RK P fn c st (.loop c st.S.length :: k))=some (G x)) {x:ι} {st:St} (h0:I x st):fin1 (RK P fn (.loop c) st k)=some (G x):=by
 have key:∀ n x st,μ x=n->I x st->fin1 (RK P fn (.loop c) st k)=some (G x):=by
  intro n;exact Ya4k
 exact key _ x st rfl h0
theorem Aim [Globs] [Ext P] {ι:Type} {c:Code} {m:Nat} (I:ι->St->Prop) (μ:ι->Nat) (G:ι->AV × List Ent × List Nat × Nat) (h:∀ x st,I x st->(∀ y st',μ y<μ x->I y st'->finS m (RK P fn (.loop c) st' k)=some (G y))->finS m (RK P fn c st (.loop c st.S.length :: k))=some (G x)) {x:ι} {st:St} (h0:I x st):finS m (RK P fn (.loop c) st k)=some (G x):=by
 have key:∀ n x st,μ x=n->I x st->finS m (RK P fn (.loop c) st k)=some (G x):=by
  intro n;exact Ya4k
 exact key _ x st rfl h0
theorem Ua [Globs] [Ext P] {c:Code} {as:List AV} {r:AV} (hp3:pure3 r=true) (h:fin1 (RK P fn c ⟨as++bots (fn.ntmps - as.length),[],[],0⟩ [])=some r):∃ m,runP P B0 (evF P B0 m) m fn c as=some r:=by
 rw [Yk] at h;cases hr:RK P fn c ⟨as++Cg (fn.ntmps - as.length) .bot,[],[],0⟩ [] with
 | none=>rw [hr] at h; simp [fin1] at h
 | some x =>
  obtain ⟨r',s⟩:=x;rw [hr,fin1_some] at h;simp only [Bg] at h;obtain ⟨m,hm⟩:=Zb hr;refine ⟨m,?_⟩;unfold runP;rw [hm];simp only [h,hp3,if_true]
theorem Acp [Globs] [Ext P] {k m:Nat} (h:k<=m) {c:Code} {as:List AV} {r:AV} (hr:runP P B0 (evF P B0 k) k fn c as=some r):runP P B0 (evF P B0 m) m fn c as=some r:=by
 unfold runP at hr ⊢;split at hr
 ·rename_i r' s1 ho;rw [Mf (fun z hz=>Dt (Er h) h c _ z hz) ho];exact hr
 ·simp at hr
theorem Ak2 [Globs] [Ext P] {f : FuncId} {c : Code} (hf : P.funcs[f]? = some fn) (hx : (Ext.on P f || Ext.mv P f) = false) (hb : fn.body = some c) (ee : Ju c = false) (a7 : (fn.name == "runtime.NumGoroutine") = false) {args args' : List AV} {nt : Nat} (lx : fn.ntmps = nt) (aa : args.map w2 = args') (hp : args'.all pure2 = true) {r : AV}
  (S:List Ent) (tk:List Nat) (n:Nat) (hp3:pure3 r=true) (h:fin1 (RK P fn c ⟨args'++bots (nt - args.length),[],[],0⟩ [])=some r):cL P f args S tk n=some (r,S,tk,n):=by
 subst aa lx;obtain ⟨m,hm⟩:=Ua (as:=args.map w2) hp3 (by rw [Fg]; exact h);refine Kt.2 ⟨m+1,?_⟩;have hn : ¬ fn.name = "runtime.NumGoroutine" := dF
 simp only [F0] at hx;simp only [evF,hf,hb];rw [if_neg eM,if_neg hn,if_neg fR,if_pos hp,if_neg (by rw [ee]; simp),hm]
theorem Ym [Globs] [Ext P] {f : FuncId} {c : Code} (hf : P.funcs[f]? = some fn) (hx : (Ext.on P f || Ext.mv P f) = false) (hb : fn.body = some c) (ee : Ju c = true) (a7 : (fn.name == "runtime.NumGoroutine") = false) {e : List AV} {es : List (List AV)} {args args' : List AV} {nt : Nat} (lx : fn.ntmps = nt) (aa : args.map w2 = .frz (e :: es) .unk :: args') (hp : (AV.frz (e :: es) .unk :: args').all pure2 = true) {r : AV}
  (S:List Ent) (tk:List Nat) (n:Nat) (hp3:pure3 r=true) (h:fin1 (RK P fn c ⟨(.frz (e :: es) .unk :: args')++bots (nt - (args'.length+1)),[],[],0⟩ [])=some r):cL P f args S tk n=some (r,S,tk,n):=by
 subst lx;obtain ⟨m,hm⟩:=Ua (as:=.frz (e :: es) .unk :: args') hp3 h;refine Kt.2 ⟨m+1,?_⟩;have hn : ¬ fn.name = "runtime.NumGoroutine" := dF
 simp only [F0] at hx;simp only [evF,hf,hb];rw [if_neg eM,if_neg hn,if_neg fR,if_pos (by rw [aa]; exact hp),if_pos ee,aa];simp only [runN,hm]
theorem Aaw [Globs] [Ext P] {f : FuncId} {c : Code} (hf : P.funcs[f]? = some fn) (hx : (Ext.on P f || Ext.mv P f) = false) (hb : fn.body = some c) (ee : Ju c = true) (a7 : (fn.name == "runtime.NumGoroutine") = false) {args args' : List AV} {nt : Nat} (lx : fn.ntmps = nt) (aa : args.map w2 = .frz [] .unk :: args') (hp : args'.all pure2 = true)
  (S:List Ent) (tk:List Nat) (n:Nat) (h1:fin1 (RK P fn c ⟨(.frz [] .nl :: args')++bots (nt - (args'.length+1)),[],[],0⟩ [])=some (.frz [] .unk)) (h2:fin1 (RK P fn c ⟨(.frz [] .nn :: args')++bots (nt - (args'.length+1)),[],[],0⟩ [])=some (.frz [] .unk)):cL P f args S tk n=some (.frz [] .unk,S,tk,n):=by
 subst lx;obtain ⟨m1,dm⟩:=Ua (as:=.frz [] .nl :: args') rfl h1;obtain ⟨m2,fw⟩:=Ua (as:=.frz [] .nn :: args') rfl h2;refine Kt.2 ⟨max m1 m2+1,?_⟩;have hn : ¬ fn.name = "runtime.NumGoroutine" := dF
 simp only [F0] at hx;simp only [evF,hf,hb];rw [if_neg eM,if_neg hn,if_neg fR,if_pos (by rw [aa]; simpa [pure2,pure1] using hp),if_pos ee,aa];simp only [runN,Acp (jI m1 m2) dm,Acp (iZ m1 m2) fw]
theorem Uq [Globs] [Ext P] {f : FuncId} {c : Code} (hf : P.funcs[f]? = some fn) (hx : (Ext.on P f || Ext.mv P f) = false) (hb : fn.body = some c) (a7 : (fn.name == "runtime.NumGoroutine") = false) {args : List AV} {nt : Nat} (lx : fn.ntmps = nt) (hp : (args.map w2).all pure2 = false) {S : List Ent} {tk : List Nat} {n : Nat} {r : AV × List Ent × List Nat × Nat}
  (h:finS S.length (RK P fn c ⟨args++bots (nt - args.length),S,tk,n⟩ [])=some r):cL P f args S tk n=some r:=by
 subst lx;rw [Yk] at h;cases hr:RK P fn c ⟨args++Cg (fn.ntmps - args.length) .bot,S,tk,n⟩ [] with
 | none=>rw [hr] at h; simp [finS] at h
 | some x =>
  obtain ⟨r',s⟩:=x;rw [hr,finS_some] at h;obtain ⟨m,hm⟩:=Zb hr;refine Kt.2 ⟨m+1,?_⟩;have hn : ¬ fn.name = "runtime.NumGoroutine" := dF
  simp only [F0] at hx;simp only [evF,hf,hb];rw [if_neg eM,if_neg hn,if_neg fR,if_neg (by rw [hp]; simp),hm];exact h
def finM (x:Option (AV × St)):Option (AV × List Ent × List Nat × Nat):=match x with|some (r,s)=>some (r,s.S,s.tk,s.n)|none=>none
theorem finM_some {r:AV} {s:St} : finM (some (r,s))=some (r,s.S,s.tk,s.n):=rfl
theorem Atx {t:Bool} {a b:Option (AV × St)} {r:AV × List Ent × List Nat × Nat} : finM (br (some t) a b)=some r↔(t=true->finM a=some r)/\(t=false->finM b=some r):=Za5f
theorem Atf [Globs] [Ext P] {f : FuncId} {c : Code} (hf : P.funcs[f]? = some fn) (hx : (!Ext.on P f && Ext.mv P f) = true) (hb : fn.body = some c) (a7 : (fn.name == "runtime.NumGoroutine") = false) {args : List AV} {nt : Nat} (lx : fn.ntmps = nt) {S : List Ent} {tk : List Nat} {n : Nat} {r : AV × List Ent × List Nat × Nat}
  (h:finM (RK P fn c ⟨args++bots (nt - args.length),S,tk,n⟩ [])=some r):cL P f args S tk n=some r:=by
 subst lx;rw [Yk] at h;cases hr:RK P fn c ⟨args++Cg (fn.ntmps - args.length) .bot,S,tk,n⟩ [] with
 | none=>rw [hr] at h; simp [finM] at h
 | some x =>
  obtain ⟨r',s⟩:=x;rw [hr,finM_some] at h;obtain ⟨m,hm⟩:=Zb hr;refine Kt.2 ⟨m+1,?_⟩;have hn : ¬ fn.name = "runtime.NumGoroutine" := dF
  simp only [Ch,Ig] at hx;simp only [evF,hf,hb];rw [if_neg eM,if_neg hn,if_pos hx.2,hm];exact h
theorem Afk [Globs] [Ext P] {f:FuncId} (hf:Ext.on P f=true) {args:List AV} {S:List Ent} {tk:List Nat} {n:Nat} {r:AV × List Ent × List Nat × Nat} (h:Ext.call P f args S tk n=some r):cL P f args S tk n=some r:=by
 refine Kt.2 ⟨1,?_⟩;rw [Adu hf];unfold extC;rw [if_pos hf]; exact h
theorem Afl [Ext P] [Globs] [Ahm P] {f:FuncId} {args:List AV} {S:List Ent} {tk:List Nat} {n:Nat} {r:AV} {S':List Ent} {tk':List Nat} {n':Nat} (hm:P.follows .mixedOrders=true) (h:cL P f args S tk n=some (r,S',tk',n')) {C:Cx} {vs:Array Value} (h1:C.S=S) (h2:C.tk=tk) (h3:C.n=n) (hs:SR C) (hv:VRs C args vs.toList) :
  Calls P f vs C.w fun e w'=>∃ v C',e=.returned v/\C'.w=w'/\Le C C'/\SR C'/\C'.S=S'/\C'.tk=tk'/\C'.n=n'/\VR C' r v:=by
 obtain ⟨k,hk⟩:=Kt.1 h;exact (Abd (Aba hm) k _ _ _ _ _ _ _ _ _ hk).2 C vs h1 h2 h3 hs hv
end
end
end Go.Proofs.YthelkgdmgihhiaaGreat
