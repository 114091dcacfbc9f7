/- Part 8. -/
import Derived.Test.YtcjffhadclngmaaGreatZC7
open Array renaming getElem?_eq_some_iff->Ck,getElem?_eq_getElem->Fi,getD_eq_getD_getElem?->Fv,length_toList->I4,toList_setIfInBounds->Qn,getD->Se,replicate->Sl
open Bool renaming and_eq_true->Ci,false_eq_true->Ef,or_eq_false_iff->Ff,or_false->Fk,false_and->Fq,or_eq_true->Kn,not_eq_true'->Ob,false_or->Oi,not_true->Oj
open Go.Obj renaming cells->jT
open Go.Region renaming wanted->O8
open Go.Result renaming andThen_ok->Fh
open Go.RowKit.Below renaming refl->Fp,cell->lD
open Go.Sem renaming run_bind->Fw,run_pure->I9
open List renaming replicate->Cf,length_cons->Ch,length_append->Cm,length_nil->Co,mem_cons->Cv,range->Cz,getElem?_append_left->C3,mem_append->C5,all_eq_true->Fb,drop_zero->Fg,length_map->Fj,mem_map->Ft,getElem?_cons_zero->Oc,foldl_cons->Sj,mem_range->Zk,map_congr_left->iL,contains_iff_mem->jO,countP_cons->jX
open Nat renaming le_refl->Ce,zero_add->El,le_trans->Fs,lt_of_lt_of_le->F1,lt_or_ge->Im,lt_succ_self->L3,le_of_not_lt->O9,strongRecOn->Sk,lt_trichotomy->So,add_assoc->Sr,le_max_right->iJ,le_max_left->iT,le_succ->kC
open Option renaming map_eq_some_iff->Cd,map_some->C8,isNone_iff_eq_none->Ig,bind_eq_some_iff->Io,getD_some->Nl,bind_some->Ou,isSome_iff_exists->Ss
open Option.some renaming injEq->A8
open Prod.mk renaming injEq->Cg
namespace Go.Proofs.YtcjffhadclngmaaGreat
section
open Go.RowKit
set_option maxHeartbeats 1000000
section
def rdS (o:Oper):Bool:=match o.op with|.load _ _=>true|_=>false
def wrS [Globs] (o:Oper):Bool:=match o.op with|.store _ _ _|.alloc _|.box _ _=>true|.makeSlice _ l _=>!W7 o l|.call c=>(match c.callee with|.builtin .copy=>true|.builtin .append=>Globs.own o.dst o.type|.value (.func f)=>shF f || xF f|.value _=>Globs.shAny || Globs.xAny|.invoke _ _=>true|_=>false)|_=>false
def wrT [Globs] (o:Oper):Bool:=match o.op with|.makeSlice _ l _=>W7 o l|.call c=>(match c.callee with|.builtin .append=>true|.value (.func f)=>xF f|.value _=>Globs.xAny|.invoke _ _=>true|_=>false)|_=>false
def rdA [Globs] (o:Oper):Bool:=match o.op with|.call c=>(match c.callee with|.value (.func f)=>shF f || xF f|.value _=>Globs.shAny || Globs.xAny|.invoke _ _=>true|.builtin .append=>Globs.shAny|_=>false)|_=>false
def conf [Globs] (p o:Oper):Bool:=(wrS p && wrS o) || (wrT p && wrT o) || (rdA p && (wrS o || wrT o)) || ((wrS p || wrT p) && rdA o)
def unwr (ops:Array Oper) (t:Tmp):Bool:=(Cz ops.size).all fun j=>Dc ops j != some t
def Ag6 (st:St) (ops:Array Oper) (i:Nat) (o:Oper):Option (Option Nat) :=
 match o.op with
 | .load _ (.tmp q) =>
  if unwr ops q=true then (match getT st.T q with|.ref id _ _=>if id<st.S.length then some (some id) else none|.fptr _=>some none|_=>none)
  else ((Cz i).findSome? fun (m:Nat)=>match (ops[m]? : Option Oper) with
   | some o'=>(match o'.dst,o'.op with
    | some d,.fieldAddr _ (.tmp x) _=>if d=q/\unwr ops x=true then (match getT st.T x with|.ref id _ _=>if id<st.S.length then some (some id) else none|.fptr _=>some none|_=>none) else none
    | _,_=>none)
   | none=>none)
 | _=>none
def Tf [Globs] (st:St) (ops:Array Oper) (i:Nat) (o p:Oper):Bool :=
 match Ag6 st ops i o with
 | none=>false
 | some none=>true
 | some (some id)=>match p.op with
  | .store _ (.tmp q) _=>unwr ops q && (match getT st.T q with|.ref id' _ _=>decide (id≠id')|_=>false)
  | .alloc _=>true
  | .box _ _=>true
  | .makeSlice _ _ _=>true
  | .call c=>(match c.callee with|.value (.func f)=>!xF f|.value _=>!Globs.xAny|_=>false)
  | _=>false
def Al7 (o:Oper):Bool:=match o.op with|.alloc _|.box _ _|.makeSlice _ _ _=>true|_=>false
def opOk (ops:Array Oper) (i:Nat) (o:Oper):Bool :=
 (match o.op with|.select ..=>false|_=>true) && (depsOf ops i).all (fun j=>decide (j<i)) &&
 (match o.guard with|none=>true|some (g,_)=>(depsOf ops i).contains g) &&
 (o.dst.all fun d=>(Cz i).all fun j=>Dc ops j != some d) &&
 (o.op.operands.all fun x=>match x with
  | .tmp t=>(Cz ops.size).all fun j=>Dc ops j != some t || j == i || (reachAt ops i).contains j || (reachAt ops j).contains i
  | _=>true)
def isAl (o:Oper):Bool:=(match o.op with|.alloc _=>true|_=>false) && o.guard.isNone
def E5 (ops:Array Oper) (j i:Nat):Bool :=
 decide (i=j+1) && (match ops[j]?,ops[i]? with|some p,some o=>isAl p && isAl o|_,_=>false) &&
 (Cz ops.size).all fun k=>k == j || k == i || (reachAt ops k).contains j == (reachAt ops k).contains i
def Aem [Globs] (st:St) (L:List Oper):Bool :=
 (Cz L.length).all fun i=>match L.toArray[i]? with
  | none=>false
  | some o=>opOk L.toArray i o && (Cz i).all fun j=>match L.toArray[j]? with
   | none=>false
   | some p=>(!conf p o && !(wrS p && !lkOp p && rdS o) && !(rdS p && wrS o && !lkOp o)) || (reachAt L.toArray i).contains j || (!conf p o && (if rdS o=true then Tf st L.toArray i o p else (Al7 o || (anOp o && o.dst.isSome) || Tf st L.toArray j p o))) || E5 L.toArray j i
def B8 [Globs] (st:St) (L:List Oper):Bool:=@Aem (gM (mdOf L)) st L
theorem SR_M [Globs] {C:Cx} : ∀ {M:Md},@SR (gM M) C↔SR C
 | .no=>Iff.rfl
 | .quiet=>⟨fun h=>⟨@SR.ent (gM .quiet) _ h,@SR.ne (gM .quiet) _ h,@SR.tok (gM .quiet) _ h,@SR.apart (gM .quiet) _ h,@SR.own (gM .quiet) _ h,@SR.avlt (gM .quiet) _ h,@SR.tlt (gM .quiet) _ h,@SR.glob (gM .quiet) _ h⟩,fun h=>@SR.mk (gM .quiet) _ h.ent h.ne h.tok h.apart h.own h.avlt h.tlt h.glob⟩
 | .look=>⟨fun h=>⟨@SR.ent (gM .look) _ h,@SR.ne (gM .look) _ h,@SR.tok (gM .look) _ h,@SR.apart (gM .look) _ h,@SR.own (gM .look) _ h,@SR.avlt (gM .look) _ h,@SR.tlt (gM .look) _ h,@SR.glob (gM .look) _ h⟩,fun h=>@SR.mk (gM .look) _ h.ent h.ne h.tok h.apart h.own h.avlt h.tlt h.glob⟩
 | .vals=>⟨fun h=>⟨@SR.ent (gM .vals) _ h,@SR.ne (gM .vals) _ h,@SR.tok (gM .vals) _ h,@SR.apart (gM .vals) _ h,@SR.own (gM .vals) _ h,@SR.avlt (gM .vals) _ h,@SR.tlt (gM .vals) _ h,@SR.glob (gM .vals) _ h⟩,fun h=>@SR.mk (gM .vals) _ h.ent h.ne h.tok h.apart h.own h.avlt h.tlt h.glob⟩
theorem Auw [Globs] {C:Cx} {st:St} {a:Act} {M:Md} : @Rel (gM M) C st a↔Rel C st a :=
 ⟨fun h=>⟨@Rel.S (gM M) _ _ _ h,@Rel.tk (gM M) _ _ _ h,@Rel.n (gM M) _ _ _ h,@Rel.tmps (gM M) _ _ _ h,@Rel.defers (gM M) _ _ _ h,SR_M.1 (@Rel.sr (gM M) _ _ _ h)⟩,fun h=>@Rel.mk (gM M) _ _ _ h.S h.tk h.n h.tmps h.defers (SR_M.2 h.sr)⟩
theorem Aou [Globs] {P:Program} {call:Dv} {M:Md} (h:Lw P call):@Lw (gM M) P call:=by
 intro f args S tk n r S' tk' n' e;refine ⟨(h _ _ _ _ _ _ _ _ _ e).1,fun C vs h1 h2 h3 hs hv=>((h _ _ _ _ _ _ _ _ _ e).2 C vs h1 h2 h3 (SR_M.1 hs) hv).mono ?_⟩;rintro e w' ⟨v,C',g1,g2,g3,g4,g5⟩;exact ⟨v,C',g1,g2,g3,SR_M.2 g4,g5⟩
theorem D3 {l:Array Bool} {i j:Nat} {b d:Bool} (h:i≠j):(l.setIfInBounds i b).getD j d=l.getD j d:=by
 simp [Fv,Array.getElem?_setIfInBounds_ne h]
theorem Kr {l:Array Bool} {i:Nat} {b d:Bool} (h:i<l.size):(l.setIfInBounds i b).getD i d=b:=by
 simp [Se,h]
theorem As4 {P:Program} {t:TypeId} {d s:AV} {S S':List Ent} {n:Nat} (h:cpA P t d s S=some (n,S')):S'.length=S.length:=by
 unfold cpA at h;split at h
 ·split at h
  ·split at h
   ·split at h
    ·split at h
     ·simp only [A8,Cg] at h;obtain ⟨-,rfl⟩:=h;exact Ai
     ·simp at h
    ·simp at h
   ·simp at h
  ·simp at h
 ·simp at h
theorem Asx {P:Program} {t:TypeId} {x y v:AV} {S S':List Ent} {n n':Nat} (h:apO P t x y S n=some (v,S',n')):S.length<=S'.length:=by
 unfold apO at h;split at h
 ·split at h
  ·split at h
   ·unfold apO2 at h;split at h
    ·simp only [A8,Cg] at h;obtain ⟨-,rfl,-⟩:=h;simp
    ·split at h
     ·split at h
      ·split at h
       ·simp only [A8,Cg] at h;obtain ⟨-,rfl,-⟩:=h;rw [Ai];exact Ya3b
       ·simp at h
      ·simp at h
     ·simp at h
    ·simp at h
   ·simp at h
  ·simp at h
 ·simp at h
theorem An5 {P:Program} {t:TypeId} {v:AV} {S S':List Ent} {i e o id:Nat} (h:stA P t (.ref i e o) v S=some S') (hne:i≠id):nth S' id=nth S id:=by
 unfold stA at h;cases h1:szOf P t with
 | none=>rw [h1] at h; simp at h
 | some sz =>
  cases h2:cellsOf v with
  | none=>rw [h1,h2] at h; simp at h
  | some vs =>
   rw [h1,h2] at h;simp only at h;split at h
   ·cases h3:entAt S i e with
    | none=>rw [h3] at h; simp at h
    | some cs =>
     rw [h3] at h;simp only at h;cases h4:over cs o vs with
     | none=>rw [h4] at h; simp at h
     | some cs'=>rw [h4] at h; simp only [A8] at h; subst h; exact Ab hne
   ·simp at h
variable {P:Program} {ops:Array Oper}
theorem G2 {listed:Array Bool} {i:Nat} (h:listed.getD i true=false):listed.getD i false=false/\i<listed.size:=by
 by_cases hi:i<listed.size
 ·exact ⟨by simpa [Se,hi] using h,hi⟩
 ·simp [Se,hi] at h
def Ez (listed:Array Bool) (n:Nat):Nat:=(Cz n).countP fun j=>listed.getD j false=false
theorem Adt {listed:Array Bool} {n i:Nat} (hi:i<n) (hl:listed.size=n) (hu:listed.getD i false=false):Ez (listed.setIfInBounds i true) n+1<=Ez listed n:=by
 have key:∀ (l:List Nat),l.Nodup->(l.countP fun j=>(listed.setIfInBounds i true).getD j false=false)+(if i ∈ l then 1 else 0)=l.countP fun j=>listed.getD j false=false:=by
  intro l;induction l with
  | nil=>intro _; simp
  | cons x l ih =>
   intro hn;rw [List.nodup_cons] at hn;have ih:=ih hn.2;by_cases e:x=i
   ·subst e;have h1:(listed.setIfInBounds x true).getD x false=true:=Kr aA;rw [jX,jX,h1,hu,if_neg hn.1] at *;simp at ih ⊢;omega
   ·have h1:(listed.setIfInBounds i true).getD x false=listed.getD x false:=D3 (fun y=>e y.symm);rw [jX,jX,h1];have:(i ∈ x :: l)↔i ∈ l:=by rw [Cv]; exact ⟨fun h=>h.resolve_left fun y=>e y.symm,.inr⟩
    simp only [this];omega
 have:=key (Cz n) List.nodup_range;rw [if_pos (by simpa using hi)] at this;unfold Ez;omega
theorem Alq {o:Oper} {ρ ρ':Operand->AV} (h:∀ x ∈ o.op.operands,ρ x=ρ' x):evQ P o ρ=evQ P o ρ':=by
 obtain ⟨dst,op,type,pos,after,guard⟩:=o;have pairs:∀ ps:Array (Nat × Operand),(∀ x ∈ ps.map (·.2),ρ x=ρ' x)->(ps.toList.map fun (i,x)=>(i,ρ x))=(ps.toList.map fun (i,x)=>(i,ρ' x)):=fun ps hp =>
  iL fun p hm=>by
   obtain ⟨i,x⟩:=p;simp only [hp x (Array.mem_map.2 ⟨(i,x),bV,rfl⟩)]
 have lists:∀ xs:Array Operand,(∀ x ∈ xs,ρ x=ρ' x)->xs.toList.map ρ=xs.toList.map ρ':=fun xs hx=>iL fun x hm=>hx x bV;cases op <;> simp only [Op.operands] at h <;> simp only [evQ];case build t ps=>rw [pairs ps fun x hx=>h x eD]
 case buildSlice t n ps=>rw [pairs ps fun x hx=>h x eD]
 case slice t x lo hi mx=>cases lo <;> cases hi <;> cases mx <;> simp_all
 case makeFunc fn first caps =>
  have h1:=lists caps fun x hx=>h x bM
  have h2:(caps.toList.all fun x=>P1 (ρ x))=(caps.toList.all fun x=>P1 (ρ' x)):=by
   have:∀ f:Operand->AV,(caps.toList.all fun x=>P1 (f x))=(caps.toList.map f).all P1:=fun f=>by rw [List.all_map]; rfl
   rw [this,this,h1]
  have h3:=lists first fun x hx=>h x bM
  cases fn with
  | func f=>simp only [h1,h2,h3]
  | method m =>
   simp only
   split
   ·rename_i x hf _
    rw [h x (by
      have:x ∈ first:=by rw [<- Array.mem_toList_iff,hf]; simp
      simp [this])]
   ·rfl
  | _=>rfl
 case call c =>
  have h1:=lists c.args fun x hx=>h x (by simp [Call.operands,hx])
  rw [h1]
 all_goals first|rfl|(simp_all; done)|skip
def Arb [Globs] (P:Program) (call:Dv) (o:Oper) (s s':St) (v:AV):Prop :=
  s'.T=s.T/\(wrS o=false->s'.S=s.S/\s'.n=s.n)/\(wrT o=false->s'.tk=s.tk) /\
  ∀ s2:St,(∀ x ∈ o.op.operands,opv s2.T x=opv s.T x)->(∀ t x,o.op=.load t x->ldA P t (opv s.T x) s2.S=ldA P t (opv s.T x) s.S)->(wrS o=true->s2.S=s.S/\s2.n=s.n)->(wrT o=true->s2.tk=s.tk)->(rdA o=true->s2.S=s.S/\s2.n=s.n/\s2.tk=s.tk) ->
   ∃ s2',evO P call o s2=some (v,s2')/\s2'.T=s2.T/\(wrS o=true->s2'.S=s'.S/\s2'.n=s'.n)/\(wrS o=false->s2'.S=s2.S/\s2'.n=s2.n)/\(wrT o=true->s2'.tk=s'.tk)/\(wrT o=false->s2'.tk=s2.tk)
theorem Vp [Globs] {call:Dv} {o:Oper} {s s':St} {v v':AV} (hq:evQ P o (opv s.T)=some v') (e:(v',s)=(v,s')) (hw:wrS o=false) (ht:wrT o=false) (cr:∀ s2:St,evO P call o s2=(evQ P o (opv s2.T)).map fun v=>(v,s2)):Arb P call o s s' v:=by
 simp only [Cg] at e;obtain ⟨rfl,rfl⟩:=e;exact ⟨rfl,fun _=>⟨rfl,rfl⟩,fun _=>rfl,fun s2 h2 _ _ _ _=>⟨s2,by rw [cr,Alq h2,hq]; rfl,rfl,fun h=>by rw [hw] at h; simp at h,fun _=>⟨rfl,rfl⟩,fun h=>by rw [ht] at h; simp at h,fun _=>rfl⟩⟩
theorem Vf [Globs] {call:Dv} (hi:Ul call) {o:Oper} {s s':St} {v:AV} (a2o:(match o.op with|.select ..=>false|_=>true)=true) (h:evO P call o s=some (v,s')):Arb P call o s s' v:=by
 obtain ⟨dst,op,type,pos,after,guard⟩:=o;cases op;case load t x =>
  simp only [evO,Cd,Cg] at h
  obtain ⟨u,h,rfl,rfl⟩:=h
  refine ⟨rfl,fun _=>⟨rfl,rfl⟩,fun _=>rfl,fun s2 h2 hR _ _ _=>⟨s2,?_,rfl,bT,fun _=>⟨rfl,rfl⟩,by simp [wrT],fun _=>rfl⟩⟩
  have e:ldA P t (opv s.T x) s2.S=ldA P t (opv s.T x) s.S:=hR t x rfl
  simp only [evO,h2 x cE,e,h,C8]
 case store t x y =>
  simp only [evO,Cd,Cg] at h
  obtain ⟨u,h,rfl,rfl⟩:=h
  refine ⟨rfl,bT,fun _=>rfl,fun s2 h2 _ hS _ _=>⟨{ s2 with S:=u },?_,rfl,fun _=>⟨rfl,(hS bT).2⟩,bT,by simp [wrT],fun _=>rfl⟩⟩
  simp only [evO,h2 x cE,h2 y cE,(hS bT).1,h,C8]
 case alloc t =>
  simp only [evO,Cd,Cg] at h
  obtain ⟨u,h,rfl,rfl⟩:=h
  refine ⟨rfl,bT,fun _=>rfl,fun s2 h2 _ hS _ _=>?_⟩
  obtain ⟨e1,e2⟩:=hS bT
  exact ⟨{ s2 with S:=s2.S++[⟨s2.n,u⟩],n:=s2.n+1 },by simp only [evO,h,C8,e1,e2],rfl,fun _=>by simp [e1,e2],bT,by simp [wrT],fun _=>rfl⟩
 case box t x =>
  simp only [evO,Cd,Cg] at h
  obtain ⟨u,h,rfl,rfl⟩:=h
  refine ⟨rfl,bT,fun _=>rfl,fun s2 h2 _ hS _ _=>?_⟩
  obtain ⟨e1,e2⟩:=hS bT
  exact ⟨{ s2 with S:=s2.S++[⟨s2.n,u⟩],n:=s2.n+1 },by simp only [evO,h2 x cE,h,C8,e1,e2],rfl,fun _=>by simp [e1,e2],bT,by simp [wrT],fun _=>rfl⟩
 case makeSlice t l c =>
  simp only [evO,Cd,Prod.exists] at h
  obtain ⟨l',sz,cs,h,hh⟩:=h
  split at hh
  ·rename_i hl
   simp only [Cg] at hh
   obtain ⟨rfl,rfl⟩:=hh
   refine ⟨rfl,fun _=>⟨rfl,rfl⟩,by simp [wrT,hl],fun s2 h2 _ _ hT _=>?_⟩
   have e:=hT (by simp [wrT,hl])
   exact ⟨{ s2 with tk:=s2.tk++[0] },by simp only [evO,h2 l cE,h2 c cE,h,C8,hl,if_true,e],rfl,by simp [wrS,hl],fun _=>⟨rfl,rfl⟩,fun _=>by simp [e],by simp [wrT,hl]⟩
  ·rename_i hl
   simp only [Cg] at hh
   obtain ⟨rfl,rfl⟩:=hh
   have tp:W7 ⟨dst,.makeSlice t l c,type,pos,after,guard⟩ l=false:=cI
   refine ⟨rfl,by simp [wrS,tp],fun _=>rfl,fun s2 h2 _ hS _ _=>?_⟩
   obtain ⟨e1,e2⟩:=hS (by simp [wrS,tp])
   exact ⟨{ s2 with S:=s2.S++[⟨s2.n,cs⟩],n:=s2.n+1 },by simp only [evO,h2 l cE,h2 c cE,h,C8,tp,e1,e2]; rfl,rfl,fun _=>by simp [e1,e2],by simp [wrS,tp],by simp [wrT,tp],fun _=>rfl⟩
 case call c =>
  have ab:∀ s2:St,(∀ x ∈ (Op.call c).operands,opv s2.T x=opv s.T x)->c.args.toList.map (opv s2.T)=c.args.toList.map (opv s.T):=fun s2 h2=>iL fun x hx=>h2 x (by simp [Op.operands,Call.operands]; right; simpa using hx)
  cases ao:c.callee with
  | builtin b =>
   by_cases hb:b=.append
   ·subst hb
    simp only [evO,ao] at h
    split at h
    ·rename_i x y t t' j8 ht
     split at h
     ·rename_i how
      split at h
      ·rename_i yd
       simp only [Cd,Cg,Prod.exists] at h
       obtain ⟨u,S',n',h,rfl,rfl⟩:=h
       have hw:wrS ⟨dst,.call c,type,pos,after,guard⟩=true:=by simpa [wrS,ao] using how
       refine ⟨rfl,fun hf=>by rw [hw] at hf; simp at hf,fun _=>rfl,fun s2 h2 _ hS hT _=>?_⟩
       obtain ⟨e1,e2⟩:=hS hw
       have e3:=hT cR
       refine ⟨{ s2 with S:=S',n:=n' },?_,rfl,fun _=>⟨rfl,rfl⟩,fun hf=>by rw [hw] at hf; simp at hf,fun _=>e3,fun _=>rfl⟩
       simp only [evO,ao,ab s2 h2,j8,ht,how,yd,if_true,e1,e2]
       subst yd
       simp only [h,C8]
      ·simp at h
     rename_i how
     have hnw:wrS ⟨dst,.call c,type,pos,after,guard⟩=false:=by simpa [wrS,ao] using how
     split at h
     ·rename_i yd
      simp only [Cd,Cg,Prod.exists] at h
      obtain ⟨u,tk',h,rfl,rfl⟩:=h
      refine ⟨rfl,fun _=>⟨rfl,rfl⟩,cR,fun s2 h2 _ _ hT hA=>⟨{ s2 with tk:=tk' },?_,rfl,fun hf=>by rw [hnw] at hf; simp at hf,fun _=>⟨rfl,rfl⟩,fun _=>rfl,cR⟩⟩
      have e:=hT cR
      have bp:apB1 P t x y s.tk s2.S=apB1 P t x y s.tk s.S:=by
       cases sd:(Globs.shAny:Bool) with
       | true=>rw [(hA (by simp [rdA,ao,sd])).1]
       | false=>unfold apB1; simp [sd]
      simp only [evO,ao,ab s2 h2,j8,ht,yd,if_true,e,if_neg how]
      subst yd
      rw [bp]
      simp only [h,C8]
     ·rename_i yd
      simp only [Cd,Cg,Prod.exists] at h
      obtain ⟨u,tk',h,rfl,rfl⟩:=h
      refine ⟨rfl,fun _=>⟨rfl,rfl⟩,cR,fun s2 h2 _ _ hT _=>⟨{ s2 with tk:=tk' },?_,rfl,fun hf=>by rw [hnw] at hf; simp at hf,fun _=>⟨rfl,rfl⟩,fun _=>rfl,cR⟩⟩
      have e:=hT cR
      simp only [evO,ao,ab s2 h2,j8,ht,e,if_neg yd,h,C8,if_neg how]
    ·simp at h
   ·by_cases hb2:b=.copy
    ·subst hb2
     simp only [evO,ao] at h
     split at h
     ·rename_i x y t t' j8 ht
      simp only [Cd,Cg,Prod.exists] at h
      obtain ⟨m,S',h,rfl,rfl⟩:=h
      refine ⟨rfl,gF,fun _=>rfl,fun s2 h2 _ hS _ _=>⟨{ s2 with S:=S' },?_,rfl,fun _=>⟨rfl,(hS gF).2⟩,gF,cR,fun _=>rfl⟩⟩
      simp only [evO,ao,ab s2 h2,j8,ht,(hS gF).1,h,C8]
     ·simp at h
    ·have cr:∀ s2:St,evO P call ⟨dst,.call c,type,pos,after,guard⟩ s2=(evQ P ⟨dst,.call c,type,pos,after,guard⟩ (opv s2.T)).map fun v=>(v,s2):=by
      intro s2;simp only [evO,ao]
     rw [cr] at h
     simp only [Cd] at h
     obtain ⟨v',h1,h2⟩:=h
     exact Vp h1 h2 (by cases b <;> simp [wrS,ao] at hb hb2 ⊢) (by cases b <;> simp [wrT,ao] at hb ⊢) cr
  | value fx =>
   simp only [evO,ao] at h
   split at h
   ·rename_i f args je
    simp only [Cd,Cg,Prod.exists] at h
    obtain ⟨r,S',tk',n',h,rfl,rfl⟩:=h
    have a0m:∀ s2:St,(∀ x ∈ (Op.call c).operands,opv s2.T x=opv s.T x)->Gv P s2.T c=some (f,args):=by
     intro s2 h2;rw [<- je];unfold Gv;rw [ao];simp only [ab s2 h2,h2 fx Za4u]
    have hfx:∀ g,fx=.func g->g=f:=by
     rintro g rfl;unfold Gv at je;rw [ao] at je;simp only [opv,A8,Cg] at je;exact je.1
    rcases hi _ _ _ _ _ _ _ _ _ h with hxd|⟨rfl,rfl,gd⟩
    ·have hxf:xF f=true:=by simp only [Ci] at hxd; exact hxd.1
     have uf:(Globs.xAny:Bool)=true:=by unfold xF at hxf; simp only [Ci] at hxf; exact hxf.1
     have yr:rdA ⟨dst,.call c,type,pos,after,guard⟩=true:=by
      simp only [rdA,ao];exact Ya2i
     have hwr:wrS ⟨dst,.call c,type,pos,after,guard⟩=true:=by
      simp only [wrS,ao];exact Ya2i
     have hwt:wrT ⟨dst,.call c,type,pos,after,guard⟩=true:=by
      simp only [wrT,ao];cases fx with
      | func g=>simp only [hfx g rfl,hxf]
      | _=>exact uf
     refine ⟨rfl,fun hw=>eY,fun hw=>by rw [hwt] at hw; simp at hw,fun s2 h2 _ _ _ hA=>?_⟩
     obtain ⟨a1,a2,a3⟩:=hA yr
     refine ⟨{ s2 with S:=S',tk:=tk',n:=n' },?_,rfl,fun _=>⟨rfl,rfl⟩,fun hw=>eY,fun _=>rfl,fun hw=>by rw [hwt] at hw; simp at hw⟩
     simp only [evO,ao,a0m s2 h2]
     rw [a1,a2,a3,h]
     rfl
    by_cases sd:shF f=true
    ·have uf:(Globs.shAny:Bool)=true:=by unfold shF at sd; simp only [Ci] at sd; exact sd.1
     have yr:rdA ⟨dst,.call c,type,pos,after,guard⟩=true:=by
      simp only [rdA,ao];exact Ya2k
     have hwr:wrS ⟨dst,.call c,type,pos,after,guard⟩=true:=by
      simp only [wrS,ao];exact Ya2k
     refine ⟨rfl,fun hw=>eY,fun _=>rfl,fun s2 h2 _ _ _ hA=>?_⟩
     obtain ⟨a1,a2,a3⟩:=hA yr
     refine ⟨{ s2 with n:=n' },?_,rfl,fun _=>⟨a1,rfl⟩,fun hw=>eY,fun _=>a3,fun _=>rfl⟩
     simp only [evO,ao,a0m s2 h2]
     rw [a1,a2,a3,h]
     simp only [C8,<- a1,<- a3]
    ·obtain ⟨hnn,a5c⟩:=gd.resolve_left sd
     subst hnn
     refine ⟨rfl,fun _=>⟨rfl,rfl⟩,fun _=>rfl,fun s2 h2 _ hS hT _=>⟨s2,?_,rfl,fun hw=>?_,fun _=>⟨rfl,rfl⟩,fun hw=>?_,fun _=>rfl⟩⟩
     ·simp only [evO,ao,a0m s2 h2,a5c s2.S s2.tk s2.n,C8]
     ·exact hS hw
     ·exact hT hw
   ·simp at h
  | invoke rx m =>
   simp only [evO,ao] at h
   split at h
   ·rename_i f args je
    simp only [Cd,Cg,Prod.exists] at h
    obtain ⟨r,S',tk',n',h,rfl,rfl⟩:=h
    have a0m:∀ s2:St,(∀ x ∈ (Op.call c).operands,opv s2.T x=opv s.T x)->Gv P s2.T c=some (f,args):=by
     intro s2 h2;rw [<- je];unfold Gv;rw [ao];simp only [ab s2 h2,h2 rx Za4u]
    refine ⟨rfl,fun hw=>by simp [wrS,ao] at hw,fun hw=>by simp [wrT,ao] at hw,fun s2 h2 _ _ _ hA=>?_⟩
    obtain ⟨a1,a2,a3⟩:=hA (by simp [rdA,ao])
    refine ⟨{ s2 with S:=S',tk:=tk',n:=n' },?_,rfl,fun _=>⟨rfl,rfl⟩,fun hw=>by simp [wrS,ao] at hw,fun _=>rfl,fun hw=>by simp [wrT,ao] at hw⟩
    simp only [evO,ao,a0m s2 h2]
    rw [a1,a2,a3,h]
    rfl
   ·simp at h
 all_goals first
  | (simp at a2o; done)
  | (simp only [evO,Cd] at h
     obtain ⟨v', h1, h2⟩ := h
     exact Vp h1 h2 rfl rfl (fun s2 => by simp only [evO]))
def Akg [Globs] (P:Program) (call:Dv) (all:List Oper) (o:Oper) (s s':St) (v:AV):Prop :=
 (Ka all s.T o=some false/\v=.prim undef/\s'={ s with T:=putT s.T o.dst v })\/(Ka all s.T o=some true/\∃ s1,evO P call o s=some (v,s1)/\chkO P all o s v s1=true/\s'={ s1 with T:=putT s1.T o.dst v })
theorem Ar7 [Globs] {call:Dv} {all:List Oper} : ∀ {l:List Oper} {st st':St},evOs P call all l st=some st'->∃ (sts:Nat->St) (val:Nat->AV),sts 0=st/\sts l.length=st'/\∀ (i:Nat) o,l[i]?=some o->Akg P call all o (sts i) (sts (i+1)) (val i)
 | [],st,st',h=>by
  simp only [evOs,A8] at h; subst h;exact ⟨fun _=>st,fun _=>.bot,rfl,rfl,by simp⟩
 | o :: l,st,st',h=>by
  have key:∀ {s1:St} {v:AV},Akg P call all o st s1 v->evOs P call all l s1=some st'->∃ (sts:Nat->St) (val:Nat->AV),sts 0=st/\sts (o :: l).length=st'/\∀ (i:Nat) o',(o :: l)[i]?=some o'->Akg P call all o' (sts i) (sts (i+1)) (val i):=by
   intro s1 v hs h;obtain ⟨sts,val,h1,h2,h3⟩:=Ar7 h;refine ⟨fun|0=>st|i+1=>sts i,fun|0=>v|i+1=>val i,rfl,h2,fun i o' ho=>?_⟩;cases i with
   | zero =>
    simp only [Oc,A8] at ho; subst ho;show Akg P call all o st (sts 0) v;rw [h1]; exact hs
   | succ i=>exact h3 i o' fW
  simp only [evOs] at h;split at h
  ·simp at h
  ·rename_i hw;exact key (.inl ⟨hw,rfl,rfl⟩) h
  ·rename_i hw;split at h
   ·rename_i v s1 ho;split at h
    ·rename_i oh;exact key (.inr ⟨hw,s1,ho,oh,rfl⟩) h
    ·simp at h
   ·simp at h
theorem J2 (T:List AV) (d:Option Tmp) (v:AV):(putT T d v).length=T.length:=by
 cases d <;> simp [putT,Ai]
theorem Jj:∀ {T:List AV} {d:Nat} {v:AV},d<T.length->getT (put T d v) d=v
 | _ :: _,0,_,_=>rfl
 | _ :: T,d+1,v,h=>Jj (T:=T) aM
 | [],_,_,h=>aN
theorem Df:∀ {T:List AV} {d t:Nat} {v:AV},d≠t->getT (put T d v) t=getT T t
 | _ :: _,0,0,_,h=>absurd rfl h
 | _ :: _,0,_+1,_,_=>rfl
 | _ :: _,_+1,0,_,_=>rfl
 | _ :: T,d+1,t+1,v,h=>Df (T:=T) aA
 | [],_,_,_,_=>rfl
theorem Agz:∀ {T T':List AV},T.length=T'.length->(∀ t,getT T t=getT T' t)->T=T'
 | [],[],_,_=>rfl
 | x :: T,y :: T',h,hg=>by
  have h0:=hg 0;simp only [getT] at h0;rw [h0,Agz (T:=T) (T':=T') aM fun t=>hg (t+1)]
 | [],_ :: _,h,_=>aN
 | _ :: _,[],h,_=>aN
def Ajv (w:Nat->Bool) (listed:Array Bool) (n c:Nat):Prop:=c<=n/\(∀ j,j<c->w j=true->listed.getD j false=true)/\(c<n->w c=true/\listed.getD c false=false)
theorem Nd (w:Nat->Bool) (listed:Array Bool) (n:Nat):∀ k c,n - c<=k->c<=n->(∀ j,j<c->w j=true->listed.getD j false=true)->∃ c',c<=c'/\Ajv w listed n c'/\∀ j,c<=j->j<c'->w j=true->listed.getD j false=true
 | 0,c,hk,hc,h=>⟨c,Ce _,⟨hc,h,fun h=>aA⟩,fun j h1 h2=>aA⟩
 | k+1,c,hk,hc,h=>by
  by_cases hn:c<n/\w c=true/\listed.getD c false=false
  ·exact ⟨c,Ce _,⟨hc,h,fun _=>hn.2⟩,fun j h1 h2=>aA⟩
  ·by_cases ye:c<n
   ·obtain ⟨c',h1,h2,h3⟩:=Nd w listed n k (c+1) aA aA (fun j hj hw=>by
     by_cases e:j=c
     ·subst e;cases hl:listed.getD j false with
      | true=>rfl
      | false=>exact absurd ⟨ye,hw,hl⟩ hn
     ·exact h j aA hw)
    exact ⟨c',aA,h2,fun j h4 h5 hw=>h2.2.1 j h5 hw⟩
   ·exact ⟨c,Ce _,⟨hc,h,fun h=>absurd h ye⟩,fun j h1 h2=>aA⟩
def wS [Globs] (ops:Array Oper) (j:Nat):Bool:=match ops[j]? with|some o=>wrS o|none=>false
def wT [Globs] (ops:Array Oper) (j:Nat):Bool:=match ops[j]? with|some o=>wrT o|none=>false
structure DInv [Globs] (ops:Array Oper) (st:St) (sts:Nat->St) (val:Nat->AV) (listed:Array Bool) (s:St):Prop where
 len:listed.size=ops.size
 closed:∀ j,listed.getD j false=true->∀ e ∈ depsOf ops j,listed.getD e false=true
 lenT:s.T.length=st.T.length
 t1:∀ j t,listed.getD j false=true->Dc ops j=some t->(∀ e,E5 ops e j=true->listed.getD e false=true)->getT s.T t=if t<st.T.length then val j else .bot
 t2:∀ t,(∀ j,listed.getD j false=true->Dc ops j≠some t)->getT s.T t=getT st.T t
 cS:∃ c,Ajv (wS ops) listed ops.size c/\s.S=(sts c).S/\s.n=(sts c).n
 cT:∃ c,Ajv (wT ops) listed ops.size c/\s.tk=(sts c).tk
theorem Rt {o:Oper} (h:isAl o=true):∃ t,o.op=.alloc t/\o.guard=none:=by
 unfold isAl at h;simp only [Ci,Ig] at h;obtain ⟨h1,h2⟩:=h;split at h1
 ·rename_i t e; exact ⟨t,e,h2⟩
 ·simp at h1
theorem Jv [Globs] {o:Oper} (h:isAl o=true):wrS o=true/\rdS o=false/\wrT o=false:=by
 obtain ⟨t,e,-⟩:=Rt h;exact ⟨by simp [wrS,e],by simp [rdS,e],by simp [wrT,e]⟩
theorem J0 {i j:Nat} (h:E5 ops j i=true):∃ p o,ops[j]?=some p/\ops[i]?=some o/\(isAl p=true/\rdS p=false)/\isAl o=true/\rdS o=false:=by
 unfold E5 at h;simp only [Ci] at h;obtain ⟨⟨-,h⟩,-⟩:=h;split at h
 ·rename_i p o h1 h2;simp only [Ci] at h;have key:∀ {o:Oper},isAl o=true->rdS o=false:=fun h=>by
   obtain ⟨t,e,-⟩:=Rt h;simp [rdS,e]
  exact ⟨p,o,h1,h2,⟨h.1,key h.1⟩,h.2,key h.2⟩
 ·simp at h
theorem G3 {i j:Nat} (h:E5 ops j i=true):i=j+1:=by
 unfold E5 at h;simp only [Ci,decide_eq_true_eq] at h;exact h.1.1
theorem We {i j:Nat} (h:E5 ops j i=true):j<ops.size/\i<ops.size:=by
 obtain ⟨p,o,h1,h2,-⟩:=J0 h;exact ⟨(Ck.1 h1).1,(Ck.1 h2).1⟩
theorem Rz {i j k:Nat} (h:E5 ops j i=true) (hk:k<ops.size) (h1:k≠j) (h2:k≠i):j ∈ reachAt ops k↔i ∈ reachAt ops k:=by
 unfold E5 at h;simp only [Ci] at h;have h3:=Fb.1 h.2 k (by simpa using hk);simp only [Kn,beq_iff_eq] at h3;rcases h3 with (h3|h3)|h3
 ·exact absurd h3 h1
 ·exact absurd h3 h2
 ·rw [<- jO,<- jO,h3]
structure Le0 (C C':Cx):Prop where
 n:C.n<=C'.n
 stays:Stays C.w C'.w C.Avoid C'.Avoid
 shape:∀ (b:Nat) (cs:Array Value) (t:TypeId) (fz:Nat × Nat),C.w.heap[b]?=some (jT cs t fz)->∃ cs':Array Value,C'.w.heap[b]?=some (jT cs' t fz)/\cs'.size=cs.size
 ent:∀ id e',nth C'.S id=some e'->e'.ep<C.n->∃ e,nth C.S id=some e/\e.ep=e'.ep/\C'.φ id=C.φ id
 tok:∀ id k,nth C.tk id=some k->∃ k',nth C'.tk id=some k'/\k<=k'/\(k'=k->C'.ψ id=C.ψ id)
theorem CapR.mono0 {C C':Cx} (h:Le0 C C') {c a len cap} (hc:CapR C c a len cap):CapR C' c a len cap:=by
 exact Yaw
mutual
theorem VR.mono0 {C C':Cx} (h:Le0 C C'):∀ (c:AV) (x:Value),VR C c x->VR C' c x
 | .bot,_,_=>bR
 | .prim _,_,hx=>by simpa only [VR] using hx
 | .frz es c,x,hx=>by
  simp only [VR] at hx ⊢;obtain ⟨a,len,cap,e,h1,h2,h3,h4⟩:=hx;refine ⟨a,len,cap,e,h1,h2,h3.mono0 h,h4.imp id ?_⟩;exact Ya38
 | .fptr cs,x,hx=>by
  exact Ya1i
 | .agg cs,x,hx=>by
  exact Ya2e
 | .tup cs,x,hx=>by
  exact Ya2e
 | .ref id ep off,x,hx=>by
  exact Ya0n
 | .sref id ep off len sz,x,hx=>by
  exact Yay
 | .fn f caps,x,hx=>by
  exact Ya28
 | .bfn f caps,x,hx=>by
  exact Ya28
 | .ifc t v,x,hx=>by
  exact Ya30
 | .mfn t m v,x,hx=>by
  exact Ya30
 | .lit len cs,x,hx=>by
  simp only [VR] at hx ⊢;obtain ⟨b,vs,e,hl,hr⟩:=hx;exact ⟨b,vs,e,hl.stays h.stays,VRs.mono0 h cs vs hr⟩
theorem VRs.mono0 {C C':Cx} (h:Le0 C C'):∀ (cs:List AV) (vs:List Value),VRs C cs vs->VRs C' cs vs
 | [],[],_=>bZ
 | c :: cs,v :: vs,hx=>by simp only [VRs] at hx ⊢; exact ⟨VR.mono0 h c v hx.1,VRs.mono0 h cs vs hx.2⟩
 | [],_ :: _,hx=>fD
 | _ :: _,[],hx=>fD
end
def Cx.hid (C:Cx) (arr:Array Value) (t:TypeId):Cx:={ C with w:=C.w.alloc (.cells arr t),av:=fun x o=>C.av x o\/x=C.w.heap.size }
theorem Amw [Globs] {C:Cx} (hs:SR C) {b o:Nat} (h:C.Mut b o):b<C.w.heap.size:=by
 rcases h with ⟨i,hi,e⟩|⟨i,hi,e,h1,h2⟩
 ·rw [<- e]; exact Q1 hs hi
 ·rw [<- e]; exact hs.tlt i o hi h1 h2
theorem Le0.hid [Globs] {C:Cx} (arr:Array Value) (t:TypeId):Le0 C (C.hid arr t):=by
 have hb:Below C.w.heap.size C.w (C.w.alloc (.cells arr t)):=(Fp _ _).alloc (Ce _) _;refine ⟨Ce _,fun b o v hv ha=>⟨by rw [show (C.hid arr t).w=C.w.alloc (.cells arr t) from rfl,lD hb (G5 hv)]; exact hv,?_⟩,fun b d t' fz hd=>⟨d,Dw hb hd,rfl⟩,fun _ e he _=>⟨e,he,rfl,rfl⟩,fun _ k hk=>⟨k,hk,Ce _,fun _=>rfl⟩⟩;rintro ((h|h)|h)
 ·exact ha (.inl h)
 ·have:=G5 hv; omega
 ·exact ha (.inr h)
theorem SR.hid [Globs] {C:Cx} (hs:SR C) (arr:Array Value) (t:TypeId):SR (C.hid arr t):=by
 have hb:Below C.w.heap.size C.w (C.w.alloc (.cells arr t)):=(Fp _ _).alloc (Ce _) _;refine ⟨fun i x hx=>?_,hs.ne,hs.tok,hs.apart,fun b o hm=>?_,fun b o ha=>?_,fun i o hi h1 h2=>F1 (hs.tlt i o hi h1 h2) hb.size,fun g a hg=>?_⟩
 ·obtain ⟨g1,d,t',g2,vs',r',yn,g3⟩:=hs.ent i x hx;exact ⟨g1,d,t',Dw hb g2,vs',r',yn,VRs.mono0 (Le0.hid arr t) _ _ g3⟩
 ·have gf:C.Mut b o:=hm;have:=Amw hs gf;rintro (h|h)
  ·exact hs.own b o gf h
  ·omega
 ·rcases ha with h|h
  ·exact F1 (hs.avlt b o h) hb.size
  ·subst h;exact (Ck.1 (A0 C.w (.cells arr t))).1
 ·obtain ⟨⟨t',fz,h1⟩,h2⟩:=hs.glob g a hg;exact ⟨⟨t',fz,Dw hb h1⟩,fun i=>.inl (h2 i)⟩
def Cx.rev (C:Cx) (av0:Nat->Nat->Prop) (b:Nat) (cs:List AV):Cx :=
 { C with av:=av0,φ:=fun i=>if i=C.S.length then b else C.φ i,S:=C.S++[⟨C.n,cs⟩],n:=C.n+1 }
section
variable {C:Cx} {av0:Nat->Nat->Prop} {b:Nat}
theorem Z9 {cs:List AV} {x o:Nat} (h:(C.rev av0 b cs).Mut x o):C.Mut x o\/x=b:=by
 rcases h with ⟨i,hi,e⟩|h
 ·simp only [Cx.rev,Cm,Ch,Co] at hi e;split at e
  ·exact .inr e.symm
  ·exact .inl (.inl ⟨i,aA,e⟩)
 ·exact .inl (.inr h)
theorem Le0.rev (fy:∀ o,C.av b o) (li:∀ x o,x≠b->(C.av x o↔av0 x o)) (h0:∀ o,¬ av0 b o) (cs:List AV):Le0 C (C.rev av0 b cs):=by
 refine ⟨kC _,fun x o v hv ha=>⟨hv,?_⟩,fun _ d _ _ hd=>⟨d,hd,rfl⟩,fun i x hx hn=>?_,fun _ k hk=>⟨k,hk,Ce _,fun _=>rfl⟩⟩
 ·rintro (h|h)
  ·by_cases e:x=b
   ·subst e; exact h0 o h
   ·exact ha (.inl ((li x o e).2 h))
  ·rcases Z9 h with h|h
   ·exact ha (.inr h)
   ·subst h; exact ha (.inl (fy o))
 ·rcases Ls hx with ⟨h1,h2⟩|⟨h1,h2⟩
  ·subst h2; simp at hn
  ·refine ⟨x,h2,rfl,?_⟩;simp only [Cx.rev];rw [if_neg aA]
theorem SR.rev [Globs] (hs:SR C) {arr:Array Value} {t:TypeId} (hb:C.w.heap[b]?=some (.cells arr t (0,0))) (fy:∀ o,C.av b o) (li:∀ x o,x≠b->(C.av x o↔av0 x o)) (h0:∀ o,¬ av0 b o) (hg:∀ g a,(g,a) ∈ Globs.gl->∀ i,av0 g i) :
  SR (C.rev av0 b (arr.toList.map cst1)):=by
 have hle:=Le0.rev (C:=C) fy li h0 (arr.toList.map cst1);have nb:∀ i,i<C.S.length->C.φ i≠b:=fun i hi e=>hs.own b 0 (.inl ⟨i,hi,e⟩) (fy 0);refine ⟨fun i x hx=>?_,fun i j hi hj h=>?_,hs.tok,fun i j o hi hj h h1 h2=>?_,?_,fun x o ha=>?_,hs.tlt,fun g a hm=>⟨(hs.glob g a hm).1,hg g a hm⟩⟩
 ·rcases Ls hx with ⟨h1,rfl⟩|⟨h1,h2⟩
  ·refine ⟨L3 _,arr,t,?_,arr.toList,[],by simp,Kc _⟩;simp only [Cx.rev,h1,if_true];exact hb
  ·obtain ⟨g1,d,t',g2,vs',r',yn,g3⟩:=hs.ent i x h2;refine ⟨Nat.lt_succ_of_lt g1,d,t',?_,vs',r',yn,VRs.mono0 hle _ _ g3⟩;simp only [Cx.rev];rw [if_neg aA];exact g2
 ·simp only [Cx.rev,Cm,Ch,Co] at hi hj h;by_cases bc:i=C.S.length <;> by_cases i7:j=C.S.length
  ·omega
  ·rw [if_pos bc,if_neg i7] at h;exact absurd h.symm (nb j aA)
  ·rw [if_neg bc,if_pos i7] at h;exact absurd h (nb i aA)
  ·rw [if_neg bc,if_neg i7] at h;exact hs.ne i j aA aA h
 ·simp only [Cx.rev,Cm,Ch,Co] at hi h hj h1 h2;by_cases bc:i=C.S.length
  ·rw [if_pos bc] at h;exact hs.own b o (.inr ⟨j,hj,h.symm,h1,h2⟩) (fy o)
  ·rw [if_neg bc] at h;exact hs.apart i j o aA hj h h1 h2
 ·intro x o hm ha;by_cases e:x=b
  ·subst e; exact h0 o ha
  ·rcases Z9 hm with h|h
   ·exact hs.own x o h ((li x o e).2 ha)
   ·exact e h
 ·by_cases e:x=b
  ·subst e; exact absurd ha (h0 o)
  ·exact hs.avlt x o ((li x o e).2 ha)
end
theorem Af5 {o:Oper} {t:TypeId} {cs:List AV} (ho:o.op=.alloc t) (hz:A3 P t=some cs):∃ arr:Array Value,arr.toList.map cst1=cs/\∀ (C:Cx) (a:Act) (next:Act->World->Prop) (Q:Exit->Act->World->Prop),next (a.put o.dst (.pointer (some ⟨C.w.heap.size,0,none⟩))) (C.w.alloc (.cells arr t))->o.wp P a C.w next Q:=by
 simp only [A3,Cd,Io] at hz;obtain ⟨zv,⟨i,h1,h2⟩,rfl⟩:=hz;refine ⟨zv.cells,rfl,fun C a next Q hn=>Hp (v:=.pointer (some ⟨C.w.heap.size,0,none⟩)) (w':=C.w.alloc (.cells zv.cells t)) ?_ hn⟩;have hz:(zeroValue t).run P C.w=.ok zv C.w:=by simp [zeroValue,typeInfo,h1,h2]
 simp only [execOp,ho,Instr.alloc,Fw,hz,Fh,newVar,Jt,I9]
theorem L9 {C:Cx} : ∀ {T vs} {d:Nat} {c},VRs C T vs->(∀ x,vs[d]?=some x->VR C c x)->VRs C (put T d c) vs
 | [],[],_,_,_,_=>by simp only [put,VRs]
 | _ :: _,v :: _,0,_,h,hv=>by simp only [VRs,put] at h ⊢; exact ⟨hv v rfl,h.2⟩
 | _ :: _,_ :: _,d+1,_,h,hv=>by simp only [VRs,put] at h ⊢; exact ⟨h.1,L9 h.2 fun x hx=>hv x eD⟩
 | [],_ :: _,_,_,h,_=>aT
 | _ :: _,[],_,_,h,_=>aT
theorem Ak4 [Globs] {T:List AV} {c:Call} {f:FuncId} {args:List AV} (h:Gv P T c=some (f,args)) (hx:xF f=true):Afp c=true:=by
 have uf:(Globs.xAny:Bool)=true:=by unfold xF at hx; simp only [Ci] at hx; exact hx.1
 unfold Gv at h;unfold Afp;split at h
 ·rename_i hc; rw [hc]
 ·rename_i x hc;rw [hc];cases x with
  | func g =>
   simp only [opv,A8,Cg] at h;simp only [h.1,hx]
  | _=>exact uf
 ·simp at h
theorem Ap1 [Globs] {call:Dv} {o:Oper} {c:Call} {s s':St} {v:AV} (ho:o.op=.call c) (hb:∀ b,c.callee≠.builtin b) (h:evO P call o s=some (v,s')):∃ f args S' tk' n',Gv P s.T c=some (f,args)/\call f args s.S s.tk s.n=some (v,S',tk',n')/\s'.S=S':=by
 simp only [evO,ho] at h;split at h
 ·exact Ya2t
 ·exact Ya2t
 ·rename_i b _ _ h'; exact absurd h' (hb _)
 ·split at h
  ·rename_i f args je;simp only [Cd,Cg,Prod.exists] at h;obtain ⟨r,S',tk',n',h,rfl,rfl⟩:=h;exact ⟨f,args,S',tk',n',je,h,rfl⟩
  ·simp at h
theorem Ak5 [Globs] {all:List Oper} {o:Oper} {s s':St} {v:AV} (h:chkO P all o s v s'=true) (hd:(Globs.dr:Bool)=true) (hx:xOp o=true):chkX P all o s s':=by
 unfold chkO at h;rw [hd,hx] at h;simpa using h
theorem Art [Globs] {all:List Oper} {o:Oper} {s s':St} {v:AV} (h:chkO P all o s v s'=true) (hd:(Globs.dr:Bool)=true) (hl:isLd o=true):isB v=false:=by
 have hx:xOp o=false:=by
  unfold isLd at hl;unfold xOp;split at hl
  ·rename_i h'; rw [h']
  ·simp at hl
 unfold chkO at h;rw [hd,hx,hl] at h;simpa using h
theorem lk_x [Globs] {o:Oper} (h:lkOp o=true):(Globs.dr:Bool)=true/\xOp o=true:=by
 unfold lkOp at h;simp only [Ci] at h;refine ⟨h.1,?_⟩;unfold xOp Afp;split at h
 ·rename_i c ho;split at h
  ·rename_i hc; rw [hc]
  ·rename_i hc;rw [hc];simp only [Ci] at h; exact h.2.1
  ·simp at h
 ·simp at h
theorem an_x [Globs] {o:Oper} (h:anOp o=true):(Globs.dr:Bool)=true/\xOp o=true:=by
 unfold anOp at h;simp only [Ci] at h;exact h.1
theorem Xp [Globs] {call:Dv} (hi:Ul call) {all:List Oper} {o:Oper} {c:Call} {s s':St} {v:AV} (ho:o.op=.call c) (hb:∀ b,c.callee≠.builtin b) (h:evO P call o s=some (v,s')) (oh:chkO P all o s v s'=true):s'.S=s.S\/(xOp o=true/\s.S.length<=s'.S.length):=by
 obtain ⟨f,args,S',tk',n',h1,h2,rfl⟩:=Ap1 ho hb h;rcases hi _ _ _ _ _ _ _ _ _ h2 with hx|⟨hS,-⟩
 ·right;simp only [Ci] at hx;have hxo:xOp o=true:=by unfold xOp; rw [ho]; exact Ak4 h1 hx.1
  have hX:=Ak5 oh hx.2 hxo;refine ⟨hxo,?_⟩;by_cases hl:lkOp o=true
  ·rw [(hX.1 hl).1];exact Ya3b
  ·exact (hX.2 (by simp [anOp,hx.2,hxo,hl])).1
 ·exact .inl hS
theorem Aiy {t:TypeId} {a:AV} {S S':List Ent} (h:∀ id ep off,a≠.ref id ep off):ldA P t a S=ldA P t a S':=by
 unfold ldA;split
 ·split
  ·rfl
  ·exact absurd rfl (h _ _ _)
  ·rfl
 ·rfl
theorem T8 {t:TypeId} {id ep off:Nat} {S S':List Ent} (h:nth S' id=nth S id):ldA P t (.ref id ep off) S'=ldA P t (.ref id ep off) S:=by
 have:entAt S' id ep=entAt S id ep:=by unfold entAt; rw [h]
 unfold ldA;simp only [this]
theorem Aiv {S S':List Ent} (h:Aci S S'):Aci S' S:=by
 refine ⟨h.1.symm,fun i=>?_⟩;rcases h.2 i with h|⟨ep,b,b',h1,h2⟩
 ·exact .inl h.symm
 ·exact .inr ⟨ep,b',b,h2,h1⟩
theorem Agy {t:TypeId} {id ep off:Nat} {S S':List Ent} {V:AV} (h:Aci S S') (hl:ldA P t (.ref id ep off) S=some V) (hV:isB V=false):ldA P t (.ref id ep off) S'=some V:=by
 rcases h.2 id with h|⟨ep',b,b',h1,h2⟩
 ·rw [T8 h]; exact hl
 ·have hE:entAt S id ep=if ep'=ep then some [.prim (.bool b)] else none:=by unfold entAt; rw [h1]
  have hE':entAt S' id ep=if ep'=ep then some [.prim (.bool b')] else none:=by unfold entAt; rw [h2]
  unfold ldA at hl ⊢;simp only [hE'];simp only [hE] at hl;split at hl
  ·rename_i sz bb _ _;split at hl
   ·rename_i cs j1;split at j1
    ·rename_i he;simp only [A8] at j1;subst j1;rw [if_pos he];simp only;unfold partA at hl ⊢;cases bb with
     | false =>
      simp only [Ef,if_false] at hl;cases off with
      | zero =>
       simp only [Fg,nth,A8] at hl;subst hl; simp [isB] at hV
      | succ off=>simp [nth] at hl
     | true =>
      simp only [if_true,Cd] at hl ⊢;obtain ⟨ds,h3,rfl⟩:=hl;cases sz with
      | zero=>exact ⟨ds,by simpa [takeN] using h3,rfl⟩
      | succ sz =>
       cases off with
       | zero =>
        simp only [Fg,takeN,Cd] at h3;obtain ⟨ds',h4,rfl⟩:=h3;cases sz with
        | zero =>
         simp only [takeN,A8] at h4;subst h4;simp [isB] at hV
        | succ sz=>simp [takeN] at h4
       | succ off=>simp [takeN] at h3
    ·simp at j1
   ·simp at hl
  ·simp at hl
theorem Ai4 {ops:Array Oper} {k i:Nat} {d:Option Tmp} {o:Oper} {t:TypeId} {a:Operand} (hk:k<ops.size) (hd:Dc ops k=d) (ni:∀ j,j<ops.size->Dc ops j=d->j=k) (hi:i<k) (ho:ops[i]?=some o) (hl:o.op=.load t a) (hr:i ∉ reachAt ops k) :
  (t,a,o.dst,Amc ops.toList k i a) ∈ loadsB ops.toList d:=by
 unfold loadsB;have hf:((Cz ops.toList.length).find? fun k=>Dc ops.toList.toArray k == d)=some k:=by
  rw [List.find?_eq_some_iff_append];refine ⟨by simpa using hd,Cz k,(Cz (ops.toList.length - k - 1)).map (fun j=>k+1+j),?_,fun j hj=>?_⟩
  ·have:ops.toList.length=k+(1+(ops.toList.length - k - 1)):=aD
   conv=>lhs; rw [this]
   rw [List.range_add,List.range_add];simp [Sr]
  ·simp only [Zk] at hj;cases hh:Dc ops.toList.toArray j == d with
   | false=>rfl
   | true =>
    have:=ni j aA (by simpa using hh);omega
 rw [hf];simp only [List.mem_filterMap,Zk];refine ⟨i,hi,?_⟩;have:ops.toList[i]?=some o:=fW
 rw [this];simp only [hl];rw [if_neg (by simpa using hr)]
theorem Zn [Globs] (hm:P.follows .mixedOrders=true):∀ (call:Dv),Lw P call->Ul call->∀ (real ops:Array Oper) (lt:Option (Nat × Oper)),Asc P real ops lt->∀ (C:Cx) (st st':St) (a:Act) (Q:Exit->Act->World->Prop),Aem st ops.toList=true->Rel C st a->evOs P call ops.toList ops.toList st=some st' ->
  (∀ a' C',Le C C'->Rel C' (Wp P lt st') a'->Q .normal a' C'.w)->wpAny P .any real Q real.size (Sl real.size false) a { C.w with drawn:=C.w.drawn+1 }:=by
 intro call hc hi real ops lt j5 C st st' a Q ah hr h hQ;have hsz:real.size=ops.size:=by
  cases lt with
  | none=>rw [show real=ops from j5]
  | some q=>obtain ⟨p,al⟩:=q; exact j5.1
 have a4c:∀ i,(∀ p al,lt=some (p,al)->i≠p)->real[i]?=ops[i]?:=by
  intro i bc;cases lt with
  | none=>rw [show real=ops from j5]
  | some q=>obtain ⟨p,al⟩:=q; exact j5.2.1 i (bc p al rfl)
 have a2b:∀ i:Nat,(real[i]?).map (fun o=>(o.after,o.dst))=(ops[i]?).map fun o=>(o.after,o.dst):=by
  intro i;cases lt with
  | none=>rw [show real=ops from j5]
  | some q =>
   obtain ⟨p,al⟩:=q;obtain ⟨-,h1,-,h2,-,-,-,h3⟩:=j5;by_cases e:i=p
   ·subst e; rw [h2,h3]; rfl
   ·rw [h1 i e]
 have kh:∀ listed i,i ∈ Region.ready .any real listed↔i ∈ Region.ready .any ops listed:=by
  intro listed i;have gf:=a2b i;rw [mem_ready,mem_ready];constructor
  ·rintro ⟨h0,o,ho,hd⟩;rw [ho] at gf;obtain ⟨o',il,e⟩:=Cd.1 gf.symm;exact Ya3g
  ·rintro ⟨h0,o,ho,hd⟩;rw [ho] at gf;obtain ⟨o',il,e⟩:=Cd.1 gf;exact Ya3g
 have v7:∀ tmps,yielded real tmps=yielded ops tmps:=by
  intro tmps;funext j;have gf:=a2b j;unfold yielded;cases h1:real[j]? with
  | none=>rw [h1] at gf; rw [Option.map_eq_none_iff.1 gf.symm]
  | some o =>
   rw [h1] at gf;obtain ⟨o',il,e⟩:=Cd.1 gf.symm;simp only [Cg] at e;simp only [il,Ou,e.2]
 have lj:∀ p al,lt=some (p,al)->∀ i j,E5 ops i j=true->False:=by
  intro p al e i j hp;subst e;obtain ⟨p1,p2,q1,-,⟨q3,-⟩,-,-⟩:=J0 hp;have:=j5.2.2.1 i p1 q1;obtain ⟨t,e1,-⟩:=Rt q3;unfold isMk at this;rw [e1] at this; cases this
 obtain ⟨sts,val,mg,q7,ll⟩:=Ar7 h;simp only [I4] at q7;have iu:∀ (i:Nat) o,ops[i]?=some o->Akg P call ops.toList o (sts i) (sts (i+1)) (val i):=fun i o ho=>ll i o fW;have a0n:∀ i o,ops[i]?=some o->opOk ops i o=true/\∀ j p,j<i->ops[j]?=some p->((!conf p o && !(wrS p && !lkOp p && rdS o) && !(rdS p && wrS o && !lkOp o)) || (reachAt ops i).contains j || (!conf p o && (if rdS o=true then Tf st ops i o p else (Al7 o || (anOp o && o.dst.isSome) || Tf st ops j p o))) || E5 ops j i)=true:=by
  intro i o ho;have hlt:=(Ck.1 ho).1;unfold Aem at ah;rw [Fb] at ah;have h1:=ah i aQ;simp only [Array.toArray_toList,ho,Ci] at h1;refine ⟨h1.1,fun j p hj hp=>?_⟩;have h2:=Fb.1 h1.2 j bH;simp only [hp] at h2;exact h2
 have d8:∀ i o,ops[i]?=some o->opOk ops i o=true/\∀ j p,j<i->ops[j]?=some p->conf p o=true->j ∈ reachAt ops i\/E5 ops j i=true:=by
  intro i o ho;refine ⟨(a0n i o ho).1,fun j p hj hp hcf=>?_⟩;have h2:=(a0n i o ho).2 j p hj hp;simp only [hcf,Oj,Fq,Oi,Fk,Kn] at h2;exact h2.imp (fun h=>aM) id
 have dh:∀ i o,ops[i]?=some o->∀ j p,j<i->ops[j]?=some p->((wrS p && !lkOp p && rdS o) || (rdS p && wrS o && !lkOp o))=true->j ∈ reachAt ops i\/(if rdS o=true then Tf st ops i o p else (Al7 o || (anOp o && o.dst.isSome) || Tf st ops j p o))=true:=by
  intro i o ho j p hj hp hcf;have h2:=(a0n i o ho).2 j p hj hp;have h3:(!conf p o && !(wrS p && !lkOp p && rdS o) && !(rdS p && wrS o && !lkOp o))=false:=by
   simp only [Kn] at hcf;rcases hcf with h|h <;> simp [h]
  rw [h3] at h2;simp only [Oi,Kn,Ci] at h2;rcases h2 with (h2|h2)|h2
  ·exact .inl cA
  ·exact .inr h2.2
  ·obtain ⟨p',o',q1,q2,⟨-,q3⟩,-,q4⟩:=J0 h2;rw [hp] at q1; rw [ho] at q2;simp only [A8] at q1 q2;subst q1; subst q2;simp [q3,q4] at hcf
 have hop:∀ i o,ops[i]?=some o->(match o.op with|.select ..=>false|_=>true)=true/\(∀ j ∈ depsOf ops i,j<i)/\(∀ g w,o.guard=some (g,w)->g ∈ depsOf ops i)/\(∀ d,o.dst=some d->∀ j,j<i->Dc ops j≠some d) /\
   (∀ t,Operand.tmp t ∈ o.op.operands->∀ j,Dc ops j=some t->j=i\/j ∈ reachAt ops i\/i ∈ reachAt ops j):=by
  intro i o ho;have h1:=(d8 i o ho).1;unfold opOk at h1;simp only [Ci] at h1;obtain ⟨⟨⟨⟨a1,a2⟩,a3⟩,a4⟩,a5⟩:=h1;refine ⟨a1,fun j hj=>by simpa using Fb.1 a2 j hj,fun g w hg=>by rw [hg] at a3; simpa using a3,fun d hd j hj=>?_,fun t ht j hj=>?_⟩
  ·rw [hd] at a4;simp only [Option.all_some] at a4;have:=Fb.1 a4 j bH;exact Ya1d
  ·have h2:=Array.all_eq_true_iff_forall_mem.1 a5 (.tmp t) ht;have a4d:j<ops.size:=by
    unfold Dc at hj;cases hx:ops[j]? with
    | none=>rw [hx] at hj; simp at hj
    | some _=>exact (Ck.1 hx).1
   have h3:=Fb.1 h2 j (by simpa using a4d);simp only [hj,bne_self_eq_false,Oi,Kn,beq_iff_eq,jO] at h3;rcases h3 with (h3|h3)|h3
   ·exact .inl h3
   ·exact .inr (.inl h3)
   ·exact .inr (.inr h3)
 have a1u:∀ {j:Nat} {d:Tmp},Dc ops j=some d->∃ o,ops[j]?=some o/\o.dst=some d:=by
  intro j d hj;unfold Dc at hj;cases hx:ops[j]? with
  | none=>rw [hx] at hj; simp at hj
  | some o=>rw [hx] at hj; exact ⟨o,rfl,bH⟩
 have ni:∀ {i j:Nat} {d:Tmp},Dc ops i=some d->Dc ops j=some d->i=j:=by
  intro i j d h1 h2;obtain ⟨o,ho,rp⟩:=a1u h1;obtain ⟨p,hp,hpd⟩:=a1u h2;rcases So i j with hh|hh|hh
  ·exact absurd h1 ((hop j p hp).2.2.2.1 d hpd i hh)
  ·exact hh
  ·exact absurd h2 ((hop i o ho).2.2.2.1 d rp j hh)
 have stepT:∀ i o,ops[i]?=some o->(sts (i+1)).T=putT (sts i).T o.dst (val i)/\(wrS o=false->(sts (i+1)).S=(sts i).S/\(sts (i+1)).n=(sts i).n)/\(wrT o=false->(sts (i+1)).tk=(sts i).tk):=by
  intro i o ho;rcases iu i o ho with ⟨-,-,e⟩|⟨-,s1,h1,-,e⟩
  ·rw [e]; exact ⟨rfl,fun _=>⟨rfl,rfl⟩,fun _=>rfl⟩
  ·obtain ⟨g1,g2,g3,-⟩:=Vf hi (hop i o ho).1 h1;rw [e]; exact ⟨by simp only [g1],g2,g3⟩
 have textLen:∀ i,i<=ops.size->(sts i).T.length=st.T.length:=by
  intro i;induction i with
  | zero=>intro _; rw [mg]
  | succ i ih =>
   intro hlt;rw [(stepT i _ (Fi (show i<ops.size by omega))).1,J2,ih aA]
 have text2:∀ i,i<=ops.size->∀ t,(∀ j,j<i->Dc ops j≠some t)->getT (sts i).T t=getT st.T t:=by
  intro i;induction i with
  | zero=>intro _ t _; rw [mg]
  | succ i ih =>
   intro hlt t ht;have ho:=Fi (show i<ops.size by omega);rw [(stepT i _ ho).1];have hne:(ops[i]' aA).dst≠some t:=fun e=>ht i aA Za58;cases hd:(ops[i]' aA).dst with
   | none=>simp only [putT]; exact ih aA t fun j hj=>ht j aA
   | some d =>
    simp only [putT];rw [Df (fun e=>hne (by rw [hd,e]))];exact ih aA t fun j hj=>ht j aA
 have text1:∀ i,i<=ops.size->∀ j t,j<i->Dc ops j=some t->getT (sts i).T t=if t<st.T.length then val j else .bot:=by
  intro i;induction i with
  | zero=>intro _ j t hj; omega
  | succ i ih =>
   intro hlt j t hj hd;have ho:=Fi (show i<ops.size by omega);rw [(stepT i _ ho).1];by_cases e:j=i
   ·subst e;have ip:(ops[j]' aA).dst=some t:=Za35
    rw [ip];simp only [putT];by_cases lm:t<st.T.length
    ·rw [if_pos lm];exact Jj (by rw [textLen j aA]; exact lm)
    ·rw [if_neg lm];refine Qc ?_;rw [Ai,textLen j aA]; exact O9 lm
   ·have hne:Dc ops i≠some t:=fun x=>e (ni hd x);have a5d:(ops[i]' aA).dst≠some t:=fun x=>hne dT;cases ip:(ops[i]' aA).dst with
    | none=>simp only [putT]; exact ih aA j t aA hd
    | some d =>
     simp only [putT];rw [Df (fun x=>a5d dA)];exact ih aA j t aA hd
 have constS:∀ k i,i+k<=ops.size->(∀ j,i<=j->j<i+k->wS ops j=false)->(sts (i+k)).S=(sts i).S/\(sts (i+k)).n=(sts i).n:=by
  intro k;induction k with
  | zero=>intro i _ _; exact ⟨rfl,rfl⟩
  | succ k ih =>
   intro i hle hw;have ho:=Fi (show i+k<ops.size by omega);have h1:=hw (i+k) aA aA;unfold wS at h1; rw [ho] at h1;have h2:=(stepT (i+k) _ ho).2.1 h1;have h3:=ih i aA fun j a b=>hw j a aA;exact ⟨by rw [<- h3.1,<- h2.1]; rfl,by rw [<- h3.2,<- h2.2]; rfl⟩
 have constT:∀ k i,i+k<=ops.size->(∀ j,i<=j->j<i+k->wT ops j=false)->(sts (i+k)).tk=(sts i).tk:=by
  intro k;induction k with
  | zero=>intro i _ _; rfl
  | succ k ih =>
   intro i hle hw;have ho:=Fi (show i+k<ops.size by omega);have h1:=hw (i+k) aA aA;unfold wT at h1; rw [ho] at h1;have h2:=(stepT (i+k) _ ho).2.2 h1;have h3:=ih i aA fun j a b=>hw j a aA;rw [<- h3,<- h2]; rfl
 have ldB:∀ i o t q id ep off b,ops[i]?=some o->o.op=.load t (.tmp q)->Ag6 st ops i o=some b->getT (sts i).T q=.ref id ep off->b=some id/\id<st.S.length:=by
  intro i o t q id ep off b ho a5e hb hv;have b7:=(Ck.1 ho).1;have base:∀ x,unwr ops x=true->∀ m,m<=ops.size->getT (sts m).T x=getT st.T x:=by
   intro x hx m gf;refine text2 m gf x fun j hj hd=>?_;have:=Fb.1 hx j aD;rw [hd] at this; simp at this
  unfold Ag6 at hb;rw [a5e] at hb;simp only at hb;split at hb
  ·rename_i hu;rw [<- base q hu i aA,hv] at hb;simp only at hb;split at hb
   ·rename_i hl; simp only [A8] at hb; exact ⟨hb.symm,hl⟩
   ·simp at hb
  ·obtain ⟨m,gf,nh⟩:=List.exists_of_findSome?_eq_some hb;have hmi:m<i:=by simpa using gf
   split at nh
   ·rename_i o1 hom;split at nh
    ·rename_i d t' x k' hd1 a5f;split at nh
     ·rename_i hdx;obtain ⟨rfl,hux⟩:=hdx;have q8:=text1 i aA m d hmi (by unfold Dc; rw [hom]; exact hd1);rw [hv] at q8;have hvm:val m=.ref id ep off:=by
       split at q8
       ·exact q8.symm
       ·simp at q8
      rcases iu m _ hom with ⟨-,hsk,-⟩|⟨-,s1,cr,-,-⟩
      ·rw [hsk] at hvm; simp at hvm
      ·simp only [evO,evQ,a5f,Cd,Cg] at cr;obtain ⟨v,cr,rfl,-⟩:=cr;simp only [opv] at cr;rw [base x hux m aA] at cr;unfold fldA at cr;split at cr
       ·rename_i hx;simp only [A8] at cr;rw [hvm] at cr; simp at cr
       ·rename_i id0 e0 o0 hf hx;rw [hx] at nh;simp only at nh;simp only [A8] at cr;rw [hvm] at cr;simp only [AV.ref.injEq] at cr;obtain ⟨rfl,-⟩:=cr;split at nh
        ·rename_i hl; simp only [A8] at nh; exact ⟨nh.symm,hl⟩
        ·simp at nh
       ·simp at cr
     ·simp at nh
    ·simp at nh
   ·simp at nh
 have growStep:∀ m,m<ops.size->(sts m).S.length<=(sts (m+1)).S.length:=by
   intro m hlt;have ho:=Fi hlt;rcases iu m _ ho with ⟨-,-,e⟩|⟨-,s1,cr,oh,e⟩
   ·rw [e];exact Ya3b
   ·rw [e];by_cases hw:wrS (ops[m]'hlt)=true
    ·have grC:∀ c,(ops[m]'hlt).op=.call c->(∀ b,c.callee≠.builtin b)->(sts m).S.length<=s1.S.length:=fun c h1 h2=>by
      rcases Xp hi h1 h2 cr oh with h|⟨-,h⟩
      ·rw [h];exact Ya3b
      ·exact h
     unfold wrS at hw;unfold evO at cr;split at cr
     ·rename_i h'; rw [h'] at hw; simp at hw
     ·simp only [Cd,Cg] at cr;obtain ⟨S',aj,-,rfl⟩:=cr;unfold stA at aj;split at aj
      ·split at aj
       ·split at aj
        ·split at aj
         ·simp only [A8] at aj; subst aj; simp [Ai]
         ·simp at aj
        ·simp at aj
       ·simp at aj
      ·simp at aj
     ·exact Ya2u
     ·exact Ya2u
     ·rename_i t l c h';rw [h'] at hw;have hl:W7 (ops[m]'hlt) l=false:=by simpa using hw
      simp only [Cd,Prod.exists,hl] at cr;obtain ⟨l',sz,cs,-,hh⟩:=cr;rw [if_neg (by simp)] at hh;simp only [Cg] at hh;obtain ⟨-,rfl⟩:=hh;simp
     ·rename_i c h';rw [h'] at hw;simp only at hw;cases ao:c.callee with
      | builtin b =>
       rw [ao] at hw;cases b <;> simp at hw
       ·simp only [ao] at cr;split at cr
        ·rename_i x y t t' j8 ht;rw [if_pos hw] at cr;split at cr
         ·simp only [Cd,Cg,Prod.exists] at cr;obtain ⟨u,S',n',cd,-,rfl⟩:=cr;exact Asx cd
         ·simp at cr
        ·simp at cr
       simp only [ao] at cr;split at cr
       ·simp only [Cd,Cg,Prod.exists] at cr;obtain ⟨mm,S',hcp,-,rfl⟩:=cr;rw [As4 hcp];exact Ya3b
       ·simp at cr
      | value x=>exact grC c h' (fun b hb=>fB)
      | invoke _ _=>exact grC c h' (fun b hb=>fB)
     ·rename_i h1 h2 h3 h4 h5 h6;split at hw
      ·exact absurd cY (h2 _ _ _)
      ·exact absurd cY (h3 _)
      ·exact absurd cY (h4 _ _)
      ·exact absurd cY (h5 _ _ _)
      ·exact absurd cY (h6 _)
      ·simp at hw
    ·have:=(Vf hi (hop m _ ho).1 cr).2.1 (by simpa using hw);rw [this.1];exact Ya3b
 have growS2:∀ k i,i+k<=ops.size->(sts i).S.length<=(sts (i+k)).S.length:=by
  intro k;induction k with
  | zero=>intro i _; exact Ce _
  | succ k ih=>intro i hle; exact Fs (ih i aA) (growStep (i+k) aA)
 have growS:∀ m,m<=ops.size->st.S.length<=(sts m).S.length:=fun m hm=>by
  have:=growS2 m 0 aA;rw [mg,El] at this; exact this
 have mkStep:∀ k pk id,ops[k]?=some pk->Al7 pk=true->id<(sts k).S.length->nth (sts (k+1)).S id=nth (sts k).S id:=by
  intro k pk id hk mh hid;rcases iu k pk hk with ⟨-,-,e⟩|⟨-,s1,cr,-,e⟩
  ·rw [e]
  ·rw [e];unfold evO at cr;unfold Al7 at mh;split at mh
   ·rename_i t' tv;exact Yat
   ·rename_i t' x' tv;exact Yat
   ·exact Ya02
   ·simp at mh
 have apartStep:∀ i o k pk t q id ep off,ops[i]?=some o->ops[k]?=some pk->o.op=.load t (.tmp q)->getT (sts i).T q=.ref id ep off->Tf st ops i o pk=true->wrS pk=true->nth (sts (k+1)).S id=nth (sts k).S id:=by
  intro i o k pk t q id ep off ho hk se hv cd ug;have hkl:=(Ck.1 hk).1;unfold Tf at cd;cases hb:Ag6 st ops i o with
  | none=>rw [hb] at cd; simp at cd
  | some b =>
   obtain ⟨rfl,eg⟩:=ldB i o t q id ep off b ho se hb hv;rw [hb] at cd;simp only at cd;have j2:=growS k aA;rcases iu k pk hk with ⟨-,-,e⟩|⟨-,s1,cr,oh,e⟩
   ·rw [e]
   ·rw [e];have apC:∀ c,pk.op=.call c->(∀ b,c.callee≠.builtin b)->xOp pk=false->nth s1.S id=nth (sts k).S id:=fun c h1 h2 h3=>by
     rcases Xp hi h1 h2 cr oh with h|⟨h,-⟩
     ·rw [h]
     ·rw [h3] at h; simp at h
    unfold evO at cr;split at cd
    ·rename_i t' q' x' tv;simp only [Ci] at cd;obtain ⟨hu,hne⟩:=cd;simp only [tv,Cd,Cg] at cr;obtain ⟨S',aj,-,rfl⟩:=cr;have hq:getT (sts k).T q'=getT st.T q':=text2 k aA q' fun j hj hd=>by
      have:=Fb.1 hu j aD;rw [hd] at this; simp at this
     simp only [opv] at aj;rw [hq] at aj;split at hne
     ·rename_i id' e' o' hx;rw [hx] at aj;simp only [decide_eq_true_eq] at hne;exact An5 aj (fun h=>hne h.symm)
     ·simp at hne
    ·rename_i t' tv;exact Yat
    ·rename_i t' x' tv;exact Yat
    ·exact Ya02
    ·rename_i c tv;split at cd
     ·rename_i g ao;exact apC c tv (fun b hb=>fB) (by simpa [xOp,tv,Afp,ao] using cd)
     ·rename_i x hx ao;refine apC c tv (fun b hb=>fB) ?_;unfold xOp Afp;rw [tv];simp only [ao];simpa using cd
     ·simp at cd
    ·simp at cd
 have constU:∀ (p:List Ent->Prop) k i,i+k<=ops.size->(∀ j pj,i<=j->j<i+k->ops[j]?=some pj->wrS pj=true->p (sts j).S->p (sts (j+1)).S)->p (sts i).S->p (sts (i+k)).S:=by
  intro p k;induction k with
  | zero=>intro i _ _ h; exact h
  | succ k ih =>
   intro i hle hw h;have ho:=Fi (show i+k<ops.size by omega);have h3:=ih i aA (fun j pj a b=>hw j pj a aA) h;show p (sts (i+k+1)).S;by_cases ug:wrS (ops[i+k]' aA)=true
   ·exact hw (i+k) _ aA aA ho ug h3
   ·rw [((stepT (i+k) _ ho).2.1 (by simpa using ug)).1]; exact h3
 have constD:∀ (p:List Ent->Prop) k i,i+k<=ops.size->(∀ j pj,i<=j->j<i+k->ops[j]?=some pj->wrS pj=true->p (sts (j+1)).S->p (sts j).S)->p (sts (i+k)).S->p (sts i).S:=by
  intro p k;induction k with
  | zero=>intro i _ _ h; exact h
  | succ k ih =>
   intro i hle hw h;have ho:=Fi (show i+k<ops.size by omega);refine ih i aA (fun j pj a b=>hw j pj a aA) ?_;have h':p (sts (i+k+1)).S:=h;by_cases ug:wrS (ops[i+k]' aA)=true
   ·exact hw (i+k) _ aA aA ho ug h'
   ·rw [((stepT (i+k) _ ho).2.1 (by simpa using ug)).1] at h'; exact h'
 have textKeep:∀ k i q,i+k<=ops.size->(∀ j,i<=j->j<i+k->Dc ops j≠some q)->getT (sts (i+k)).T q=getT (sts i).T q:=by
  intro k;induction k with
  | zero=>intro i q _ _; rfl
  | succ k ih =>
   intro i q hle hw;have ho:=Fi (show i+k<ops.size by omega);rw [<- ih i q aA fun j a b=>hw j a aA];show getT (sts (i+k+1)).T q=_;rw [(stepT (i+k) _ ho).1];have hne:(ops[i+k]' aA).dst≠some q:=fun e=>hw (i+k) aA aA Za58;cases hd:(ops[i+k]' aA).dst with
   | none=>rfl
   | some d =>
    simp only [putT];exact Df (fun e=>hne (by rw [hd,e]))
 have lkStep:∀ k pk,ops[k]?=some pk->lkOp pk=true->Aci (sts k).S (sts (k+1)).S:=by
  intro k pk hk hl;rcases iu k pk hk with ⟨-,-,e⟩|⟨-,s1,cr,oh,e⟩
  ·rw [e]; exact ⟨rfl,fun _=>.inl rfl⟩
  ·rw [e];obtain ⟨hd,hx⟩:=lk_x hl;exact (Ak5 oh hd hx).1 hl
 have fin:∀ {listed:Array Bool} {s:St},DInv ops st sts val listed s->(∀ j,j<ops.size->listed.getD j false=true)->s=st':=by
  intro listed s hD hl;have eT:s.T=st'.T:=by
   refine Agz (by rw [hD.lenT,<- q7,textLen _ (Ce _)]) fun t=>?_;rw [<- q7];by_cases hx:∃ j,Dc ops j=some t
   ·obtain ⟨j,hj⟩:=hx;obtain ⟨o,ho,-⟩:=a1u hj;have hlt:=(Ck.1 ho).1;rw [hD.t1 j t (hl j hlt) hj (fun e he=>hl e (We he).1),text1 _ (Ce _) j t hlt hj]
   ·rw [hD.t2 t fun j _ hj=>hx ⟨j,hj⟩,text2 _ (Ce _) t fun j _ hj=>hx ⟨j,hj⟩]
  obtain ⟨c,dc,hc2,hc3⟩:=hD.cS;obtain ⟨c',hc4,hc5⟩:=hD.cT;have e1:c=ops.size:=by
   rcases Im c ops.size with h|h
   ·have:=(dc.2.2 h).2; rw [hl c h] at this; simp at this
   ·have:=dc.1; omega
  have e2:c'=ops.size:=by
   rcases Im c' ops.size with h|h
   ·have:=(hc4.2.2 h).2; rw [hl c' h] at this; simp at this
   ·have:=hc4.1; omega
  subst e1;rw [e2] at hc5;rw [q7] at hc2 hc3 hc5;cases s; cases st';simp_all
 have none_ready:∀ {listed:Array Bool} {s:St},DInv ops st sts val listed s->Region.ready .any ops listed=[]->∀ j,j<ops.size->listed.getD j false=true:=by
  intro listed s hD ei j;induction j using Sk with
  | _ j ihj =>
   intro hj;cases hl:listed.getD j false with
   | true=>rfl
   | false =>
    exfalso;have ho:ops[j]?=some (ops[j]'hj):=Fi hj;have:j ∈ Region.ready .any ops listed:=by
     apply mem_ready.2;refine ⟨?_,_,ho,fun e he hb=>?_⟩
     ·have gj:j<listed.size:=by rw [hD.len]; exact hj
      simpa [Se,gj] using hl
     ·have gf:e.on ∈ depsOf ops j:=by
       exact Ya2w
      have:=(hop j _ ho).2.1 _ gf;exact ihj _ this aA
    rw [ei] at this; simp at this
 have step:∀ {listed:Array Bool} {s:St},DInv ops st sts val listed s->∀ i ∈ Region.ready .any ops listed,(∀ e,E5 ops e i=true->listed.getD e false=true)->(∀ e,E5 ops i e=true->listed.getD e false=false)->∃ o,ops[i]?=some o/\listed.getD i false=false /\
   ∃ b s2,Ka ops.toList s.T o=some b/\(b=true->evO P call o s=some (val i,s2))/\(b=false->val i=.prim undef/\s2=s)/\s2.T=s.T/\DInv ops st sts val (listed.setIfInBounds i true) { s2 with T:=putT s2.T o.dst (val i) }:=by
  intro listed s hD i bl bo bm;obtain ⟨h0,o,ho,o4⟩:=Gc bl;obtain ⟨rt,b7⟩:=G2 h0;rw [hD.len] at b7;refine ⟨o,ho,rt,?_⟩;have jl:=Dt hD.closed o4;have m8:∀ j,listed.getD j false=true->i ∈ reachAt ops j->False:=fun j hj j3=>by
   have:=Dt hD.closed (hD.closed j hj) i j3;exact Ya3r
  obtain ⟨a2o,a5g,hgd,f9,a0l⟩:=hop i o ho;have agree:∀ t,(∀ j,Dc ops j=some t->j=i\/j ∈ reachAt ops i\/i ∈ reachAt ops j)->getT s.T t=getT (sts i).T t:=by
   intro t ht;by_cases hx:∃ j,listed.getD j false=true/\Dc ops j=some t
   ·obtain ⟨j,hj,yf⟩:=hx;have hji:j<i:=by
     rcases ht j yf with e|e|e
     ·subst e; rw [rt] at hj; simp at hj
     ·have:∀ e ∈ reachAt ops i,e<i:=by
       unfold reachAt;have key:∀ (l:List Nat) (s:List Nat),(∀ e ∈ s,e<i)->∀ e ∈ l.foldl (fun s j=>if s.contains j then depsOf ops j++s else s) s,e<i:=by
        intro l;induction l with
        | nil=>intro s hs; exact hs
        | cons j l ih =>
         intro s hs;simp only [Sj];apply ih;split
         ·rename_i hj;intro e he;rcases C5.1 he with h|h
          ·have a4d:=hs j bH;cases hx:ops[j]? with
           | none=>unfold depsOf at h; rw [hx] at h; simp at h
           | some p=>have:=(hop j p hx).2.1 e h; omega
          ·exact hs e h
         ·exact hs
       exact key _ _ a5g
      exact this j e
     ·exact (m8 j hj e).elim
    rw [hD.t1 j t hj yf (fun e he=>?_),text1 i aA j t hji yf];by_cases m6:i=e
    ·subst m6;have:=bm j he; rw [hj] at this; simp at this
    ·rcases ht j yf with q|q|q
     ·omega
     ·exact jl e ((Rz (k:=i) he b7 m6 aA).2 q)
     ·exact (m8 j hj q).elim
   ·rw [hD.t2 t fun j hj yf=>hx ⟨j,hj,yf⟩,text2 i aA t fun j hj yf=>?_];rcases ht j yf with e|e|e
    ·omega
    ·exact hx ⟨j,jl j e,yf⟩
    ·have:i<j:=by
      have key:∀ (l:List Nat) (s:List Nat),(∀ e ∈ s,e<j)->∀ e ∈ l.foldl (fun s j=>if s.contains j then depsOf ops j++s else s) s,e<j:=by
       intro l;induction l with
       | nil=>intro s hs; exact hs
       | cons k l ih =>
        intro s hs;simp only [Sj];apply ih;split
        ·rename_i hk;intro e he;rcases C5.1 he with h|h
         ·have hklt:=hs k (by simpa using hk);cases hx:ops[k]? with
          | none=>unfold depsOf at h; rw [hx] at h; simp at h
          | some p=>have:=(hop k p hx).2.1 e h; omega
         ·exact hs e h
        ·exact hs
      obtain ⟨p,hp,-⟩:=a1u yf;exact key _ _ (hop j p hp).2.1 i e
     omega
  have agreeO:∀ x ∈ o.op.operands,opv s.T x=opv (sts i).T x:=by
   intro x hx;cases x with
   | tmp t=>exact agree t (a0l t hx)
   | _=>rfl
  have agreeG:Ka ops.toList s.T o=Ka ops.toList (sts i).T o:=by
   unfold Ka;cases hg:o.guard with
   | none=>rfl
   | some gw =>
    obtain ⟨g,w⟩:=gw;have hgm:=hgd g w hg;simp only;cases hgb:(nth ops.toList g).bind (·.dst) with
    | none=>rfl
    | some d =>
     have ip:Dc ops g=some d:=by unfold Dc; rw [Ag] at hgb; simpa using hgb
     have:getT s.T d=getT (sts i).T d:=agree d fun j hj=>by
      have:=ni hj ip;subst this;right; left;have key:∀ (l:List Nat) (s:List Nat) (x:Nat),x ∈ s->x ∈ l.foldl (fun s j=>if s.contains j then depsOf ops j++s else s) s:=by
       intro l;induction l with
       | nil=>intro s x hs; exact hs
       | cons k l ih =>
        intro s x hs;simp only [Sj];apply ih;split
        ·exact List.mem_append_right _ hs
        ·exact hs
      exact key _ _ _ hgm
     simp only [this]
  have confl:∀ j p,ops[j]?=some p->conf p o=true->conf o p=true->j≠i->(listed.getD j false=true↔j<i):=by
   intro j p hp h1 h2 hne;rcases Nat.lt_or_gt_of_ne hne with hlt|hgt
   ·exact ⟨fun _=>hlt,fun _=>((d8 i o ho).2 j p hlt hp h1).elim (jl j) (bo j)⟩
   ·exact ⟨fun hl=>((d8 j p hp).2 i o hgt ho h2).elim (fun q=>(m8 j hl q).elim) (fun q=>by have:=bm j q; rw [hl] at this; simp at this),fun h=>aA⟩
  have curS:(wrS o=true\/rdA o=true)->s.S=(sts i).S/\s.n=(sts i).n/\(wrS o=true->Ajv (wS ops) listed ops.size i):=by
   intro dh;obtain ⟨c,dc,hc2,hc3⟩:=hD.cS;have hw:∀ j,j≠i->wS ops j=true->(listed.getD j false=true↔j<i):=by
    intro j hne ey;unfold wS at ey;exact Ya0i
   rcases So c i with hlt|heq|hgt
   ·exact Ya39
   ·subst heq; exact ⟨hc2,hc3,fun _=>dc⟩
   ·have hnw:wrS o=false:=by
     cases ek:wrS o with
     | false=>rfl
     | true =>
      have:=dc.2.1 i hgt (by unfold wS; rw [ho]; exact ek);exact Ya3r
    have uh:∀ j,i<=j->j<i+(c - i)->wS ops j=false:=by
     intro j h1 h2;by_cases e:j=i
     ·subst e; unfold wS; rw [ho]; exact hnw
     ·cases ey:wS ops j with
      | false=>rfl
      | true =>
       have h3:=dc.2.1 j aA ey;have:=(hw j e ey).1 h3;omega
    have:=constS (c - i) i Za61 uh;rw [show i+(c - i)=c from by omega] at this;exact ⟨by rw [hc2,this.1],by rw [hc3,this.2],fun h=>by rw [hnw] at h; simp at h⟩
  have curL:∀ t x V s1,o.op=.load t x->ldA P t (opv (sts i).T x) (sts i).S=some V->val i=V->chkO P ops.toList o (sts i) V s1=true->ldA P t (opv (sts i).T x) s.S=ldA P t (opv (sts i).T x) (sts i).S:=by
   intro t x V s1 se hV q8 oh;by_cases hrf:∃ id ep off,opv (sts i).T x=.ref id ep off;case neg=>exact Aiy fun id ep off h=>hrf ⟨id,ep,off,h⟩
   obtain ⟨id,ep,off,hv⟩:=hrf;rw [hv] at hV ⊢;rw [hV];have eg:id<(sts i).S.length:=by
    unfold ldA at hV;split at hV
    ·simp only at hV;split at hV
     ·rename_i cs he;obtain ⟨e,h1,-⟩:=D4 he;exact Br h1
     ·simp at hV
    ·simp at hV
   cases x with
   | tmp q =>
    simp only [opv] at hv;have yr:rdS o=true:=by unfold rdS; rw [se]
    have hnw:wrS o=false:=by unfold wrS; rw [se]
    have hnl:lkOp o=false:=by unfold lkOp; rw [se]; simp
    have a4e:isLd o=true:=by unfold isLd; rw [se]
    obtain ⟨c,dc,hc2,-⟩:=hD.cS;have nord:∀ pk,wrS pk=true->rdS pk=false:=by
     intro pk hw;unfold wrS at hw;unfold rdS;split at hw <;> rename_i h' <;> first|(rw [h'])|simp at hw
    rw [hc2];rcases Im c i with hlt|mf
    ·refine constD (fun S=>ldA P t (.ref id ep off) S=some V) (i - c) c aA (fun k pk h1 h2 hk ug hg=>?_) (by rw [show c+(i - c)=i from by omega]; exact hV);have qq:k<i:=aA
     cases wa:lkOp pk with
     | true =>
      have hgo:=lkStep k pk hk wa;exact Agy (Aiv hgo) hg (Art oh (lk_x wa).1 a4e)
     | false =>
      rcases dh i o ho k pk qq hk (by simp [ug,yr,wa]) with h3|h3
      ·exfalso;have yg:=jl k h3;have q9:=(dc.2.2 aA).2;by_cases oh:k=c
       ·subst oh; rw [yg] at q9; simp at q9
       ·have hwc:=(dc.2.2 aA).1;unfold wS at hwc;cases hpc:ops[c]? with
        | none=>rw [hpc] at hwc; simp at hwc
        | some pc =>
         rw [hpc] at hwc;rcases (d8 k pk hk).2 c pc aA hpc (by simp [conf,hwc,ug]) with hh|hh
         ·have:=Dt hD.closed (hD.closed k yg) c hh;rw [q9] at this; simp at this
         ·have:=jl c ((Rz (k:=i) hh b7 aA aA).2 h3);rw [q9] at this; simp at this
      ·rw [if_pos yr] at h3;rw [<- T8 (apartStep i o k pk t q id ep off ho hk se hv h3 ug)]; exact hg
    ·have:=constU (fun S=>ldA P t (.ref id ep off) S=some V) (c - i) i Za61 (fun k pk h1 h2 hk ug hg=>?_) hV
     ·rwa [show i+(c - i)=c from by omega] at this
     have a5h:=(Ck.1 hk).1;have qq:k≠i:=fun e=>by
      subst e;rw [ho] at hk;simp only [A8] at hk;subst hk;rw [hnw] at ug; simp at ug
     have yg:=dc.2.1 k aA (by unfold wS; rw [hk]; exact ug);cases wa:lkOp pk with
     | true=>exact Agy (lkStep k pk hk wa) hg (Art oh (lk_x wa).1 a4e)
     | false =>
      have hnr:i ∉ reachAt ops k:=fun h3=>m8 k yg h3;rcases dh k pk hk i o aA ho (by simp [ug,yr,wa]) with h3|h3
      ·exact (hnr h3).elim
      ·rw [if_neg (by rw [nord pk ug]; simp)] at h3;simp only [Kn] at h3;rcases h3 with (h3|h3)|h3
       ·rw [T8 (mkStep k pk id hk h3 (F1 eg ?_))]
        ·exact hg
        ·have:=growS2 (k - i) i aA;rwa [show i+(k - i)=k from by omega] at this
       ·rcases iu k pk hk with ⟨-,-,e⟩|⟨-,s1',cr,a5i,e⟩
        ·rw [e]; exact hg
        ·rw [e];simp only [Ci] at h3;obtain ⟨h3,g1⟩:=h3;obtain ⟨hd1,ru⟩:=an_x h3;have g3:=((Ak5 a5i hd1 ru).2 h3).2 g1;obtain ⟨d0,di⟩:=Ss.1 g1;have hdk:Dc ops k=pk.dst:=by unfold Dc; rw [hk]; rfl
         have a5j:=Ai4 a5h hdk (fun j hj yf=>ni (by rw [yf,di]) (by rw [hdk,di])) aA ho se hnr;obtain ⟨f1,d,f2,f3,f4⟩:=g3 _ a5j;simp only [Amc] at f1 f2 f4;have hdi:Dc ops i=some d:=by unfold Dc; rw [ho]; exact f2
         rw [text1 k aA i d aA hdi,if_pos (by rw [textLen k aA] at f3; exact f3),q8] at f4;simp only [opv] at f4;have hq:getT (sts k).T q=getT (sts i).T q:=by
          have:=textKeep (k - i) i q aA fun j a b yf=>by
           have:=Fb.1 f1 j aD;rw [yf] at this;simp at this; omega
          rwa [show i+(k - i)=k from by omega] at this
         rw [hq,hv] at f4;exact f4
       ·rw [T8 (apartStep i o k pk t q id ep off ho hk se hv h3 ug)]; exact hg
   | const v=>simp only [opv] at hv; unfold cst at hv; split at hv; (· simp at hv); (· unfold cst1 at hv; split at hv <;> simp at hv)
   | global g=>simp [opv] at hv
   | func f=>simp [opv] at hv
  have curT:(wrT o=true\/rdA o=true)->s.tk=(sts i).tk/\(wrT o=true->Ajv (wT ops) listed ops.size i):=by
   intro dh;obtain ⟨c,dc,hc2⟩:=hD.cT;have hw:∀ j,j≠i->wT ops j=true->(listed.getD j false=true↔j<i):=by
    intro j hne ey;unfold wT at ey;exact Ya0i
   rcases So c i with hlt|heq|hgt
   ·exact Ya39
   ·subst heq; exact ⟨hc2,fun _=>dc⟩
   ·have hnw:wrT o=false:=by
     cases ek:wrT o with
     | false=>rfl
     | true =>
      have:=dc.2.1 i hgt (by unfold wT; rw [ho]; exact ek);exact Ya3r
    have uh:∀ j,i<=j->j<i+(c - i)->wT ops j=false:=by
     intro j h1 h2;by_cases e:j=i
     ·subst e; unfold wT; rw [ho]; exact hnw
     ·cases ey:wT ops j with
      | false=>rfl
      | true =>
       have h3:=dc.2.1 j aA ey;have:=(hw j e ey).1 h3;omega
    have:=constT (c - i) i Za61 uh;rw [show i+(c - i)=c from by omega] at this;exact ⟨by rw [hc2,this],fun h=>by rw [hnw] at h; simp at h⟩
  obtain ⟨st1,st2,st3⟩:=stepT i o ho;have fromS:∀ {s2:St},s2.T=s.T->(wrS o=true->s2.S=(sts (i+1)).S/\s2.n=(sts (i+1)).n)->(wrS o=false->s2.S=s.S/\s2.n=s.n)->(wrT o=true->s2.tk=(sts (i+1)).tk)->(wrT o=false->s2.tk=s.tk) ->
    DInv ops st sts val (listed.setIfInBounds i true) { s2 with T:=putT s2.T o.dst (val i) }:=by
   intro s2 eT k1 k2 k3 k4;have aw:∀ j,(listed.setIfInBounds i true).getD j false=true↔j=i\/listed.getD j false=true:=by
    intro j;by_cases e:i=j
    ·subst e;simp [Kr (l:=listed) (b:=true) (d:=false) (show i<listed.size by rw [hD.len]; exact b7)]
    ·exact Ya44
   refine ⟨by simp [hD.len],fun j hj e he=>(aw e).2 (.inr ?_),by simp only [J2,eT,hD.lenT],fun j t hj hd hnp=>?_,fun t ht=>?_,?_,?_⟩
   ·exact Ya18
   ·simp only [eT];rcases (aw j).1 hj with rfl|i7
    ·have ip:o.dst=some t:=Za35
     rw [ip];simp only [putT];by_cases lm:t<st.T.length
     ·rw [if_pos lm];exact Jj (by rw [hD.lenT]; exact lm)
     ·rw [if_neg lm];refine Qc ?_;rw [Ai,hD.lenT]; exact O9 lm
    ·have hne:o.dst≠some t:=fun x=>by
      have:Dc ops i=some t:=dT
      have:=ni this hd;subst this;rw [rt] at i7; simp at i7
     have a4f:∀ e,E5 ops e j=true->listed.getD e false=true:=fun e he=>((aw e).1 (hnp e he)).resolve_left fun x=>by
      subst x;have:=bm j he; rw [i7] at this; simp at this
     cases ip:o.dst with
     | none=>simp only [putT]; exact hD.t1 j t i7 hd a4f
     | some d =>
      simp only [putT];rw [Df (fun x=>hne dA)];exact hD.t1 j t i7 hd a4f
   ·simp only [eT];have hne:o.dst≠some t:=fun x=>ht i ((aw i).2 (.inl rfl)) dT;exact Ya0t
   ·cases ek:wrS o with
    | false =>
     obtain ⟨c,dc,hc2,hc3⟩:=hD.cS;have yt:c≠i:=fun e=>by
      subst e;have:=(dc.2.2 b7).1;unfold wS at this;exact Ya45
     refine ⟨c,⟨dc.1,fun j hj hw=>(aw j).2 (.inr (dc.2.1 j hj hw)),fun hlt=>⟨(dc.2.2 hlt).1,?_⟩⟩,by simp only [(k2 ek).1,hc2],by simp only [(k2 ek).2,hc3]⟩;rw [D3 (fun e=>yt e.symm)]; exact (dc.2.2 hlt).2
    | true =>
     have a2p:=(curS (.inl ek)).2.2 ek;obtain ⟨c,g1,g2,g3⟩:=Nd (wS ops) (listed.setIfInBounds i true) ops.size ops.size (i+1) aA aA (fun j hj hw=>(aw j).2 (by
      by_cases e:j=i
      ·exact .inl e
      ·exact .inr (a2p.2.1 j aA hw)))
     have uh:∀ j,i+1<=j->j<(i+1)+(c - (i+1))->wS ops j=false:=by
      intro j h1 h2;cases ey:wS ops j with
      | false=>rfl
      | true =>
       have h3:=g3 j h1 aA ey;rcases (aw j).1 h3 with h4|h4
       ·omega
       ·exfalso;unfold wS at ey;exact Ya1j
     have:=constS (c - (i+1)) (i+1) Za62 uh;rw [show i+1+(c - (i+1))=c from by omega] at this;exact ⟨c,g2,by simp only [(k1 ek).1,this.1],by simp only [(k1 ek).2,this.2]⟩
   ·cases ek:wrT o with
    | false =>
     obtain ⟨c,dc,hc2⟩:=hD.cT;have yt:c≠i:=fun e=>by
      subst e;have:=(dc.2.2 b7).1;unfold wT at this;exact Ya45
     refine ⟨c,⟨dc.1,fun j hj hw=>(aw j).2 (.inr (dc.2.1 j hj hw)),fun hlt=>⟨(dc.2.2 hlt).1,?_⟩⟩,by simp only [k4 ek,hc2]⟩;rw [D3 (fun e=>yt e.symm)]; exact (dc.2.2 hlt).2
    | true =>
     have a2p:=(curT (.inl ek)).2 ek;obtain ⟨c,g1,g2,g3⟩:=Nd (wT ops) (listed.setIfInBounds i true) ops.size ops.size (i+1) aA aA (fun j hj hw=>(aw j).2 (by
      by_cases e:j=i
      ·exact .inl e
      ·exact .inr (a2p.2.1 j aA hw)))
     have uh:∀ j,i+1<=j->j<(i+1)+(c - (i+1))->wT ops j=false:=by
      intro j h1 h2;cases ey:wT ops j with
      | false=>rfl
      | true =>
       have h3:=g3 j h1 aA ey;rcases (aw j).1 h3 with h4|h4
       ·omega
       ·exfalso;unfold wT at ey;exact Ya1j
     have:=constT (c - (i+1)) (i+1) Za62 uh;rw [show i+1+(c - (i+1))=c from by omega] at this;exact ⟨c,g2,by simp only [k3 ek,this]⟩
  rcases iu i o ho with ⟨hw,hv,he⟩|⟨hw,s1,h1,oh,he⟩
  ·refine ⟨false,s,by rw [agreeG]; exact hw,by simp,fun _=>⟨hv,rfl⟩,rfl,fromS rfl (fun ek=>?_) (fun _=>⟨rfl,rfl⟩) (fun ek=>?_) (fun _=>rfl)⟩
   ·rw [he]; exact ⟨(curS (.inl ek)).1,(curS (.inl ek)).2.1⟩
   ·rw [he]; exact (curT (.inl ek)).1
  ·obtain ⟨g1,g2,g3,g4⟩:=Vf hi a2o h1;obtain ⟨s2,e1,e2,e3,e4,e5,e6⟩:=g4 s agreeO (fun t x se=>by
    have ve:=h1;simp only [evO,se,Cd,Cg] at ve;obtain ⟨V,hV,hVv,-⟩:=ve;exact curL t x V s1 se hV hVv.symm (by rw [hVv]; exact oh)) (fun ek=>⟨(curS (.inl ek)).1,(curS (.inl ek)).2.1⟩) (fun ek=>(curT (.inl ek)).1) (fun hA=>⟨(curS (.inr hA)).1,(curS (.inr hA)).2.1,(curT (.inr hA)).1⟩)
   refine ⟨true,s2,by rw [agreeG]; exact hw,fun _=>e1,by simp,e2,fromS e2 (fun ek=>?_) e4 (fun ek=>?_) e6⟩
   ·rw [he]; exact e3 ek
   ·rw [he]; exact e5 ek
 have allocStep:∀ {i:Nat} {o:Oper} {t:TypeId},ops[i]?=some o->o.op=.alloc t->o.guard=none->∃ cs,A3 P t=some cs/\val i=.ref (sts i).S.length (sts i).n 0/\(sts (i+1)).S=(sts i).S++[⟨(sts i).n,cs⟩]/\(sts (i+1)).n=(sts i).n+1/\(sts (i+1)).tk=(sts i).tk:=by
  intro i o t ho e hg;rcases iu i o ho with ⟨hw,-,-⟩|⟨-,s1,h1,-,he⟩
  ·unfold Ka at hw; rw [hg] at hw; simp at hw
  ·simp only [evO,e,Cd,Cg] at h1;obtain ⟨cs,h1,h2,rfl⟩:=h1;exact ⟨cs,h1,h2.symm,by rw [he],by rw [he],by rw [he]⟩
 have setq:∀ {listed:Array Bool} {i:Nat},i<listed.size->∀ j,(listed.setIfInBounds i true).getD j false=true↔j=i\/listed.getD j false=true:=by
  intro listed i b7 j;by_cases e:i=j
  ·subst e;simp [Kr (l:=listed) (b:=true) (d:=false) b7]
  ·exact Ya44
 have stepB:∀ {listed:Array Bool} {s:St} {A:Nat} {o:Oper},DInv ops st sts val listed s->A+1 ∈ Region.ready .any ops listed->E5 ops A (A+1)=true->listed.getD A false=false->ops[A+1]?=some o ->
   DInv ops st sts val (listed.setIfInBounds (A+1) true) { s with T:=putT s.T o.dst .bot }:=by
  intro listed s A o hD bl hp hA ho;obtain ⟨h0,o',il,o4⟩:=Gc bl;rw [ho] at il;simp only [A8] at il;subst il;obtain ⟨rt,b7⟩:=G2 h0;have aw:=setq b7;obtain ⟨pA,pB,q1,q2,⟨q3,-⟩,q4,-⟩:=J0 hp;rw [ho] at q2;simp only [A8] at q2;subst q2;have wA:wS ops A=true:=by unfold wS; rw [q1]; exact (Jv q3).1
  refine ⟨by simp [hD.len],fun j hj e he=>(aw e).2 (.inr ?_),by simp only [J2]; exact hD.lenT,fun j t hj hd hnp=>?_,fun t ht=>?_,?_,?_⟩
  ·exact Ya18
  ·rcases (aw j).1 hj with rfl|i7
   ·have:=(aw A).1 (hnp A hp);rcases this with h|h
    ·omega
    ·rw [hA] at h; simp at h
   ·have hne:o.dst≠some t:=fun x=>by
     have:Dc ops (A+1)=some t:=dT
     have:=ni this hd;subst this;rw [rt] at i7; simp at i7
    have ji:getT s.T t=if t<st.T.length then val j else .bot:=hD.t1 j t i7 hd fun e he=>by
     rcases (aw e).1 (hnp e he) with h|h
     ·subst h;exfalso;have tw:=G3 he;have hlt:=We he;obtain ⟨p1,p2,r1,r2,⟨r3,-⟩,r4,-⟩:=J0 he;rcases (d8 j p2 r2).2 A pA aA q1 (by simp [conf,(Jv r4).1,(Jv q3).1]) with h|h
      ·have:=Dt hD.closed (hD.closed j i7) A h;rw [hA] at this; simp at this
      ·have:=G3 h; omega
     ·exact h
    cases ip:o.dst with
    | none=>simp only [putT]; exact ji
    | some d =>
     simp only [putT];rw [Df (fun x=>hne dA)];exact ji
  ·have hne:o.dst≠some t:=fun x=>ht (A+1) ((aw _).2 (.inl rfl)) dT;exact Ya0t
  ·obtain ⟨c,dc,hc2,hc3⟩:=hD.cS;have hcA:c<=A:=by
    rcases Im A c with h|h
    ·have:=dc.2.1 A h wA; rw [hA] at this; simp at this
    ·exact h
   refine ⟨c,⟨dc.1,fun j hj hw=>(aw j).2 (.inr (dc.2.1 j hj hw)),fun hlt=>⟨(dc.2.2 hlt).1,?_⟩⟩,hc2,hc3⟩;rw [D3 aA]; exact (dc.2.2 hlt).2
  ·obtain ⟨c,dc,hc2⟩:=hD.cT;have hcB:c≠A+1:=fun e=>by
    subst e;have:=(dc.2.2 (by rw [<- hD.len]; exact b7)).1;unfold wT at this; rw [ho] at this;simp only [(Jv q4).2.2] at this;simp at this
   refine ⟨c,⟨dc.1,fun j hj hw=>(aw j).2 (.inr (dc.2.1 j hj hw)),fun hlt=>⟨(dc.2.2 hlt).1,?_⟩⟩,hc2⟩;rw [D3 (fun e=>hcB e.symm)]; exact (dc.2.2 hlt).2
 have stepA:∀ {listed:Array Bool} {s:St} {A:Nat} {oA oB:Oper},DInv ops st sts val listed s->A ∈ Region.ready .any ops listed->E5 ops A (A+1)=true->listed.getD (A+1) false=true->ops[A]?=some oA->ops[A+1]?=some oB ->
   s.S=(sts A).S/\s.n=(sts A).n/\DInv ops st sts val (listed.setIfInBounds A true) { s with T:=putT (putT s.T oA.dst (val A)) oB.dst (val (A+1)),S:=(sts (A+2)).S,n:=(sts (A+2)).n }:=by
  intro listed s A oA oB hD bl hp hB hoA hoB;obtain ⟨h0,o',il,o4⟩:=Gc bl;rw [hoA] at il;simp only [A8] at il;subst il;obtain ⟨rt,b7⟩:=G2 h0;have aw:=setq b7;have jl:=Dt hD.closed o4;have hlB:=(We hp).2;obtain ⟨pA,pB,q1,q2,⟨q3,-⟩,q4,-⟩:=J0 hp;rw [hoA] at q1; rw [hoB] at q2;simp only [A8] at q1 q2;subst q1; subst q2;have wA:wS ops A=true:=by unfold wS; rw [hoA]; exact (Jv q3).1
  have wB:wS ops (A+1)=true:=by unfold wS; rw [hoB]; exact (Jv q4).1
  have others:∀ j,j≠A->j≠A+1->wS ops j=true->(listed.getD j false=true↔j<A):=by
   intro j hj1 tw ey;unfold wS at ey;cases hpj:ops[j]? with
   | none=>rw [hpj] at ey; simp at ey
   | some p =>
    rw [hpj] at ey;simp only at ey;rcases Nat.lt_or_gt_of_ne hj1 with hlt|hgt
    ·refine ⟨fun _=>hlt,fun _=>?_⟩;rcases (d8 (A+1) _ hoB).2 j p aA hpj (by simp [conf,ey,(Jv q4).1]) with h|h
     ·exact Dt hD.closed (hD.closed _ hB) j h
     ·have:=G3 h; omega
    ·refine ⟨fun hl=>?_,fun h=>aA⟩;exfalso;rcases (d8 j p hpj).2 A _ aA hoA (by simp [conf,ey,(Jv q3).1]) with h|h
     ·have:=Dt hD.closed (hD.closed _ hl) A h;exact Ya3r
     ·have:=G3 h; omega
  obtain ⟨c,dc,hc2,hc3⟩:=hD.cS;have hcA:c=A:=by
   rcases So c A with h|h|h
   ·have h1:=dc.2.2 aA;have:=(others c aA aA h1.1).2 h;rw [h1.2] at this; simp at this
   ·exact h
   ·have:=dc.2.1 A h wA; rw [rt] at this; simp at this
  subst hcA;refine ⟨hc2,hc3,⟨by simp [hD.len],fun j hj e he=>(aw e).2 (.inr ?_),by simp only [J2]; exact hD.lenT,fun j t hj hd hnp=>?_,fun t ht=>?_,?_,?_⟩⟩
  ·exact Ya18
  ·simp only;have putV:∀ {T:List AV} {o:Oper} {k:Nat} {v:AV},T.length=st.T.length->ops[k]?=some o->(Dc ops k=some t->getT (putT T o.dst v) t=if t<st.T.length then v else .bot)/\(Dc ops k≠some t->getT (putT T o.dst v) t=getT T t):=by
    intro T o k v hl hk;refine ⟨fun e=>?_,fun e=>?_⟩
    ·have ip:o.dst=some t:=by unfold Dc at e; rw [hk] at e; simpa using e
     rw [ip];simp only [putT];by_cases lm:t<st.T.length
     ·rw [if_pos lm]; exact Jj (by rw [hl]; exact lm)
     ·rw [if_neg lm]; exact Qc (by rw [Ai,hl]; exact O9 lm)
    ·have hne:o.dst≠some t:=fun x=>e (by unfold Dc; rw [hk]; simpa using x);exact Ya2c
   have hl1:(putT s.T oA.dst (val c)).length=st.T.length:=by rw [J2]; exact hD.lenT
   by_cases ejB:j=c+1
   ·subst ejB; exact (putV hl1 hoB).1 hd
   ·rw [(putV hl1 hoB).2 fun x=>ejB (ni hd x)];by_cases ejA:j=c
    ·subst ejA; exact (putV hD.lenT hoA).1 hd
    ·rw [(putV hD.lenT hoA).2 fun x=>ejA (ni hd x)];have i7:=((aw j).1 hj).resolve_left ejA;refine hD.t1 j t i7 hd fun e he=>((aw e).1 (hnp e he)).resolve_left fun x=>?_;subst x;have:=G3 he; omega
  ·simp only;have a5k:oA.dst≠some t:=fun x=>ht c ((aw _).2 (.inl rfl)) (by unfold Dc; rw [hoA]; simpa using x);have a5l:oB.dst≠some t:=fun x=>ht (c+1) ((aw _).2 (.inr hB)) (by unfold Dc; rw [hoB]; simpa using x);have h3:=hD.t2 t fun j hj=>ht j ((aw j).2 (.inr hj));have one:∀ {T:List AV} {o:Oper} {v:AV},o.dst≠some t->getT (putT T o.dst v) t=getT T t:=by
    intro T o v hne;exact Ya2c
   rw [one a5l,one a5k]; exact h3
  ·obtain ⟨c',g1,g2,g3⟩:=Nd (wS ops) (listed.setIfInBounds c true) ops.size ops.size (c+2) aA aA (fun j hj hw=>(aw j).2 (by
    by_cases e:j=c
    ·exact .inl e
    ·by_cases e':j=c+1
     ·subst e'; exact .inr hB
     ·exact .inr ((others j e e' hw).2 aA)))
   have uh:∀ j,c+2<=j->j<(c+2)+(c' - (c+2))->wS ops j=false:=by
    intro j h1 h2;cases ey:wS ops j with
    | false=>rfl
    | true =>
     have h3:=g3 j h1 aA ey;rcases (aw j).1 h3 with h4|h4
     ·omega
     ·have:=(others j aA aA ey).1 h4; omega
   have:=constS (c' - (c+2)) (c+2) Za62 uh;rw [show c+2+(c' - (c+2))=c' from by omega] at this;exact ⟨c',g2,this.1.symm,this.2.symm⟩
  ·obtain ⟨c',a0o,a5m⟩:=hD.cT;have hcc:c'≠c:=fun e=>by
    subst e;have:=(a0o.2.2 aA).1;unfold wT at this; rw [hoA] at this;simp only [(Jv q3).2.2] at this;simp at this
   refine ⟨c',⟨a0o.1,fun j hj hw=>(aw j).2 (.inr (a0o.2.1 j hj hw)),fun hlt=>⟨(a0o.2.2 hlt).1,?_⟩⟩,a5m⟩;rw [D3 (fun e=>hcc e.symm)]; exact (a0o.2.2 hlt).2
 let Norm:Array Bool->Prop:=fun listed=>∀ e j,E5 ops e j=true->listed.getD j false=true->listed.getD e false=true;let Wait:Nat->Array Bool->Cx->Act->Prop:=fun A listed C1 a1=>E5 ops A (A+1)=true/\listed.getD A false=false/\listed.getD (A+1) false=true/\∃ oB tB arr b,ops[A+1]?=some oB/\oB.op=.alloc tB/\A3 P tB=some (arr.toList.map cst1) /\
  (∀ d x,oB.dst=some d->a1.tmps.toList[d]?=some x->x=.pointer (some ⟨b,0,none⟩))/\C1.w.heap[b]?=some (.cells arr tB (0,0))/\C.w.heap.size<=b/\(∀ o,C1.av b o)/\(∀ x o,x≠b->(C1.av x o↔C.av x o))/\Le C { C1 with av:=C.av }
 have clash:∀ {listed:Array Bool} {s:St} {A A':Nat},DInv ops st sts val listed s->E5 ops A (A+1)=true->listed.getD A false=false->listed.getD (A+1) false=true->E5 ops A' (A'+1)=true->listed.getD A' false=false->((∀ e ∈ depsOf ops (A'+1),listed.getD e false=true))->A'=A:=by
  intro listed s A A' hD hp hA hB fv hA' a2q;obtain ⟨p1,p2,r1,r2,⟨r3,-⟩,r4,-⟩:=J0 hp;obtain ⟨p1',p2',r1',r2',⟨r3',-⟩,r4',-⟩:=J0 fv;rcases So A' A with h|h|h
  ·exfalso;rcases (d8 (A+1) p2 r2).2 A' p1' aA r1' (by simp [conf,(Jv r3').1,(Jv r4).1]) with h1|h1
   ·have:=Dt hD.closed (hD.closed _ hB) A' h1;rw [hA'] at this; simp at this
   ·have:=G3 h1; omega
  ·exact h
  ·exfalso;rcases (d8 (A'+1) p2' r2').2 A p1 aA r1 (by simp [conf,(Jv r3).1,(Jv r4').1]) with h1|h1
   ·have:=Dt hD.closed a2q A h1;rw [hA] at this; simp at this
   ·have:=G3 h1; omega
 let Held:Array Bool->Cx->Act->Prop:=fun listed C1 a1=>∃ p al t d arr b,lt=some (p,al)/\al.op=.alloc t/\al.dst=some d/\listed.getD p false=true/\A3 P t=some (arr.toList.map cst1) /\
  (∀ x,a1.tmps.toList[d]?=some x->x=.pointer (some ⟨b,0,none⟩))/\C1.w.heap[b]?=some (.cells arr t (0,0))/\C.w.heap.size<=b/\(∀ o,C1.av b o)/\(∀ x o,x≠b->(C1.av x o↔C.av x o))/\Le C { C1 with av:=C.av }
 let Un:Array Bool->Prop:=fun listed=>∀ p al,lt=some (p,al)->listed.getD p false=false;let Hle:Array Bool->Cx->Act->Prop:=fun listed C1 a1=>(Un listed/\((Norm listed/\Le C C1)\/∃ A,Wait A listed C1 a1))\/Held listed C1 a1;have lateLt:∀ p al,lt=some (p,al)->p<ops.size:=by
  intro p al e;subst e;exact (Ck.1 j5.2.2.2.2.2.2.2).1
 have done:∀ {listed:Array Bool} {s:St} {C1:Cx} {a1:Act},Hle listed C1 a1->Rel C1 s a1->DInv ops st sts val listed s->(∀ j,j<ops.size->listed.getD j false=true)->Q .normal a1 C1.w:=by
  intro listed s C1 a1 hle bz hD hl;have e:=fin hD hl;subst e;rcases hle with ⟨rt,hle⟩|⟨p,al,t,d,arr,b,e1,e2,e3,hp,hz,hx,hb1,hb2,fy,li,hle⟩
  ·have c8:lt=none:=by
    cases hlt:lt with
    | none=>rfl
    | some q =>
     obtain ⟨p,al⟩:=q;have h1:=rt p al hlt;rw [hl p (lateLt p al hlt)] at h1; cases h1
   rcases hle with ⟨-,hle⟩|⟨A,hp,hA,-⟩
   ·refine hQ a1 C1 hle ?_;rw [c8]; exact bz
   ·rw [hl A (We hp).1] at hA; simp at hA
  ·have h00:∀ o,¬ C.av b o:=fun o ha=>by have:=hr.sr.avlt b o ha; omega
   have hL0:=Le0.rev (C:=C1) fy li h00 (arr.toList.map cst1);have dn:=SR.rev bz.sr hb1 fy li h00 (fun g a hg=>(hr.sr.glob g a hg).2);have hrv:Wp P lt s={ s with T:=put s.T d (.ref s.S.length s.n 0),S:=s.S++[⟨s.n,arr.toList.map cst1⟩],n:=s.n+1 }:=by
    rw [e1]; simp only [Wp,e2,e3,hz,Nl,putT]
   refine hQ a1 (C1.rev C.av b (arr.toList.map cst1)) ?_ ?_
   ·have hl2:=hle;exact Yan
   ·rw [hrv];refine ⟨?_,bz.tk,?_,?_,bz.defers,dn⟩
    ·simp only [Cx.rev,bz.S,bz.n]
    ·simp only [Cx.rev,bz.n]
    ·have ai:VRs (C1.rev C.av b (arr.toList.map cst1)) s.T a1.tmps.toList:=VRs.mono0 hL0 _ _ bz.tmps;refine L9 ai fun x hx'=>?_;rw [hx x hx'];simp only [VR];refine ⟨b,rfl,?_,fun e'' he'' _=>?_⟩
     ·simp only [Cx.rev,bz.n]; omega
     ·simp only [Cx.rev,bz.S,Cm,Ch,Co,if_true]
 have main:∀ (fuel:Nat) (listed:Array Bool) (s:St) (C1:Cx) (a1:Act),Ez listed ops.size<=fuel->Hle listed C1 a1->Rel C1 s a1->DInv ops st sts val listed s->wpAny P .any real Q fuel listed a1 C1.w:=by
  intro fuel;induction fuel with
  | zero =>
   intro listed s C1 a1 a5n hle bz hD;have hl:∀ j,j<ops.size->listed.getD j false=true:=by
    intro j hj;have h0:Ez listed ops.size=0:=aA
    unfold Ez at h0;rw [List.countP_eq_zero] at h0;have:=h0 j bH;exact Ya1d
   refine ⟨?_,done hle bz hD hl⟩;cases yr:Region.ready .any real listed with
   | nil=>rfl
   | cons x l =>
    have hx:x ∈ Region.ready .any ops listed:=(kh listed x).1 (by rw [yr]; simp);obtain ⟨h0,o,ho,-⟩:=Gc hx;have rt:=(G2 h0).1;rw [hl x (Ck.1 ho).1] at rt; simp at rt
  | succ fuel ih =>
   intro listed s C1 a1 a5n hle bz hD;refine ⟨fun ei=>done hle bz hD (none_ready hD ?_),fun i a5o=>?_⟩
   ·cases yr:Region.ready .any ops listed with
    | nil=>rfl
    | cons x l =>
     have hx:x ∈ Region.ready .any real listed:=(kh listed x).2 (by rw [yr]; simp);rw [ei] at hx; cases hx
   have bl:=(kh listed i).1 a5o;obtain ⟨h0,o0,yu,a2r⟩:=Gc bl;obtain ⟨wb,a5p⟩:=G2 h0;have aw:=setq a5p;have a6x:=Adt (Ck.1 yu).1 hD.len wb;by_cases hL8:∃ al,lt=some (i,al)
   ·obtain ⟨al,el⟩:=hL8;have a0p:=j5;rw [el] at a0p;obtain ⟨-,-,-,r1,r2,r3,⟨t,cs,r4,hz⟩,r5⟩:=a0p;rw [yu] at r5;simp only [A8] at r5;obtain ⟨d,r3⟩:=Ss.1 r3;have hle:Le C C1:=by
     rcases hle with ⟨-,⟨-,h⟩|⟨A,hp,-⟩⟩|⟨p,al',-,-,-,-,e1,-,-,hp,-⟩
     ·exact h
     ·exact (lj _ _ el _ _ hp).elim
     ·rw [el] at e1;simp only [A8,Cg] at e1;obtain ⟨rfl,-⟩:=e1;rw [wb] at hp; cases hp
    obtain ⟨o,ho,rt,bb,s2,hw,hb1,hb2,hT,hD2⟩:=step hD i bl (fun e he=>(lj _ _ el _ _ he).elim) (fun e he=>(lj _ _ el _ _ he).elim);rw [yu] at ho;simp only [A8] at ho;subst ho;have nj:o0.guard=none:=by rw [r5]; exact r2
    have di:o0.dst=some d:=by rw [r5]; exact r3
    have hw1:Ka ops.toList s.T o0=some true:=by unfold Ka; rw [nj]
    rw [hw] at hw1;simp only [A8] at hw1;have cr:=hb1 hw1;simp only [evO,r5,evQ,opv,C8,A8,Cg] at cr;obtain ⟨hv,fh⟩:=cr;subst fh;rw [<- hv,di] at hD2;obtain ⟨arr,jb,hwp⟩:=Af5 (P:=P) r4 hz;unfold wpOp;rw [r1];simp only;have hwn:O8 al (yielded real a1.tmps)=true:=by unfold O8; rw [r2]
    rw [if_pos hwn];refine .inl (hwp C1 a1 _ _ ?_);have hbel:Below C1.w.heap.size C1.w (C1.w.alloc (.cells arr t)):=(Fp _ _).alloc (Ce _) _;have ae:Rel (C1.hid arr t) { s with T:=putT s.T (some d) .bot } (a1.put al.dst (.pointer (some ⟨C1.w.heap.size,0,none⟩))):=by
     rw [r3];exact ⟨bz.S,bz.tk,bz.n,Y5 (d:=some d) (VRs.mono0 (Le0.hid arr t) _ _ bz.tmps) bR,bz.defers,bz.sr.hid arr t⟩
    refine ih _ _ (C1.hid arr t) _ aA (.inr ⟨i,al,t,d,arr,C1.w.heap.size,el,r4,r3,(aw _).2 (.inl rfl),by rw [jb]; exact hz,?_,A0 _ _,hle.size,fun o=>.inr rfl,fun x o hx=>?_,?_⟩) ae hD2
    ·intro x hx;rw [r3] at hx;exact Ya12
    ·exact Ya3h
    ·exact Ya0q
   have dd:real[i]?=ops[i]?:=a4c i fun p al e hip=>hL8 ⟨al,by rw [hip]; exact e⟩;have hUn:∀ {L:Array Bool},Un listed->(∀ j,L.getD j false=true->j=i\/listed.getD j false=true)->Un L:=by
    intro L hu hs p al e;cases hx:L.getD p false with
    | false=>rfl
    | true =>
     rcases hs p hx with h|h
     ·exact absurd ⟨al,by rw [<- h]; exact e⟩ hL8
     ·rw [hu p al e] at h; cases h
   have ih':∀ (s:St) (C1:Cx) (a1:Act),Un listed->((Norm (listed.setIfInBounds i true)/\Le C C1)\/∃ A,Wait A (listed.setIfInBounds i true) C1 a1)->Rel C1 s a1->DInv ops st sts val (listed.setIfInBounds i true) s->wpAny P .any real Q fuel (listed.setIfInBounds i true) a1 C1.w :=
    fun s C1 a1 hu h=>ih _ s C1 a1 aA (.inl ⟨hUn hu fun j=>(aw j).1,h⟩)
   by_cases hB:∃ A,E5 ops A i=true/\listed.getD A false=false
   ·obtain ⟨A,hp,hA⟩:=hB;have hi1:=G3 hp;subst hi1;obtain ⟨a2s,hle⟩:Un listed/\((Norm listed/\Le C C1)\/∃ A,Wait A listed C1 a1):=hle.resolve_right fun ⟨p,al,_,_,_,_,e1,_⟩=>lj p al e1 _ _ hp;have hN:Norm listed/\Le C C1:=by
     rcases hle with h|⟨A',fv,hA',hB',-⟩
     ·exact h
     ·exfalso;have:=clash hD fv hA' hB' hp hA a2r;subst this;rw [wb] at hB'; simp at hB'
    obtain ⟨hN,hle⟩:=hN;obtain ⟨pA,pB,q1,q2,⟨q3,-⟩,q4,-⟩:=J0 hp;rw [yu] at q2;simp only [A8] at q2;subst q2;obtain ⟨t,e,hg⟩:=Rt q4;obtain ⟨cs,hz,-⟩:=allocStep yu e hg;obtain ⟨arr,jb,hwp⟩:=Af5 (P:=P) e hz;unfold wpOp;rw [dd,v7];simp only [yu];have hw:Ka ops.toList s.T o0=some true:=by unfold Ka; rw [hg]
    rw [if_pos (J6 bz.tmps hw)];refine .inl (hwp C1 a1 _ _ ?_);have hbel:Below C1.w.heap.size C1.w (C1.w.alloc (.cells arr t)):=(Fp _ _).alloc (Ce _) _;have ae:Rel (C1.hid arr t) { s with T:=putT s.T o0.dst .bot } (a1.put o0.dst (.pointer (some ⟨C1.w.heap.size,0,none⟩))) :=
     ⟨bz.S,bz.tk,bz.n,Y5 (VRs.mono0 (Le0.hid arr t) _ _ bz.tmps) bR,by cases o0.dst <;> exact bz.defers,bz.sr.hid arr t⟩
    refine ih' _ (C1.hid arr t) _ a2s (.inr ⟨A,hp,?_,?_,o0,t,arr,C1.w.heap.size,yu,e,by rw [jb]; exact hz,?_,A0 _ _,hle.size,fun o=>.inr rfl,fun x o hx=>?_,?_⟩) ae (stepB hD bl hp hA yu)
    ·rw [D3 aA]; exact hA
    ·exact (aw _).2 (.inl rfl)
    ·intro d x hd hx;rw [hd] at hx;exact Ya12
    ·exact Ya3h
    ·exact Ya0q
   ·by_cases hA2:∃ b,E5 ops i b=true/\listed.getD b false=true
    ·obtain ⟨b',hp,hB'⟩:=hA2;have hi1:=G3 hp;subst hi1;obtain ⟨a2s,hle⟩:Un listed/\((Norm listed/\Le C C1)\/∃ A,Wait A listed C1 a1):=hle.resolve_right fun ⟨p,al,_,_,_,_,e1,_⟩=>lj p al e1 _ _ hp;rcases hle with ⟨hN,-⟩|⟨A,fv,hA',hB'',oB,tB,arr,b,fc,e1,hz1,ru,hb1,hb2,fy,li,hle⟩
     ·have:=hN _ _ hp hB';rw [wb] at this; simp at this
     ·have hAi:i=A:=clash hD fv hA' hB'' hp wb (hD.closed _ hB');subst hAi;obtain ⟨pA,pB,q1,q2,⟨q3,-⟩,q4,-⟩:=J0 hp;rw [yu] at q1; rw [fc] at q2;simp only [A8] at q1 q2;subst q1; subst q2;obtain ⟨t,e,hg⟩:=Rt q3;obtain ⟨t',e',hg'⟩:=Rt q4;rw [e1] at e';simp only [Op.alloc.injEq] at e';subst e';obtain ⟨g1,g2,g3⟩:=stepA hD bl hp hB' yu fc;obtain ⟨cs,hz,v1,v2,v3,v4⟩:=allocStep yu e hg;obtain ⟨cs',iv,v1',v2',v3',v4'⟩:=allocStep fc e1 hg';rw [hz1] at iv;simp only [A8] at iv;subst iv;have ek:Ka ops.toList s.T o0=some true:=by unfold Ka; rw [hg]
      have cr:evO P call o0 s=some (val i,{ s with S:=s.S++[⟨s.n,cs⟩],n:=s.n+1 }):=by
       simp only [evO,e,hz,C8,v1,g1,g2]
      unfold wpOp;rw [dd,v7];simp only [yu];rw [if_pos (J6 bz.tmps ek)];refine .inl (H4 hc bz cr fun u C2 k1 k2 k3 k4 k5 k6=>?_).1;have ae:=bz.put (d:=o0.dst) k1 k2 k3 k4 k5 k6 rfl;have nm:∀ o,¬ C1.Mut b o:=fun o hm=>bz.sr.own b o hm (fy o);have hb3:C2.w.heap[b]?=some (.cells arr tB (0,0)):=by
       rw [k1.keep b (Ck.1 hb1).1 nm]; exact hb1
      have a4g:∀ o,C2.av b o:=fun o=>Za5e
      have a2c:∀ x o,x≠b->(C2.av x o↔C.av x o):=fun x o hx=>Za3y
      have h00:∀ o,¬ C.av b o:=fun o ha=>by have:=hr.sr.avlt b o ha; omega
      have hL0:=Le0.rev (C:=C2) a4g a2c h00 (arr.toList.map cst1);have dn:=SR.rev k2 hb3 a4g a2c h00 (fun g a hg=>(hr.sr.glob g a hg).2);have gp:(sts (i+2)).S=s.S++[⟨s.n,cs⟩]++[⟨s.n+1,arr.toList.map cst1⟩]/\(sts (i+2)).n=s.n+1+1:=by
       rw [show i+2=i+1+1 from rfl,v2',v3',v2,v3,g1,g2]; exact ⟨rfl,rfl⟩
      refine ih' _ (C2.rev C.av b (arr.toList.map cst1)) _ a2s (.inl ⟨?_,?_⟩) ⟨?_,?_,?_,?_,ae.defers,dn⟩ g3
      ·intro e' j' hp2 i7;rcases (aw j').1 i7 with h|h
       ·subst h;have:=G3 hp2;exfalso;subst this;obtain ⟨p1,p2,r1,r2,⟨r3,-⟩,r4,-⟩:=J0 hp2;rcases (d8 (e'+1+1) _ fc).2 e' p1 aA r1 (by simp [conf,(Jv r3).1,(Jv q4).1]) with h1|h1
        ·have h2:=(Rz hp2 (We hp).2 aA aA).1 h1;have:=Dt hD.closed (hD.closed _ hB') _ h2;rw [wb] at this; simp at this
        ·have:=G3 h1; omega
       ·by_cases he:listed.getD e' false=true
        ·exact (aw _).2 (.inr he)
        ·have fh:=G3 hp2;subst fh;have:=clash hD hp wb hB' hp2 gE (hD.closed _ h);exact (aw _).2 (.inl this)
      ·have hl2:Le C { C2 with av:=C.av }:=hle.trans ⟨k1.os,k1.tape,k1.output,k1.size,rfl,k1.n,k1.mt,k1.cell,k1.keep,k1.shape,k1.ent,k1.tok⟩;exact Yan
      ·simp only [Cx.rev,gp.1,k3,k5]
      ·exact k4
      ·simp only [Cx.rev,gp.2,k5]
      ·have ai:VRs (C2.rev C.av b (arr.toList.map cst1)) (putT s.T o0.dst (val i)) (a1.put o0.dst u).tmps.toList:=VRs.mono0 hL0 _ _ ae.tmps;simp only;cases hd:oB.dst with
       | none=>exact ai
       | some d =>
        refine L9 ai fun x hx=>?_;have f9:o0.dst≠some d:=fun h=>by
         have h1:Dc ops i=some d:=by unfold Dc; rw [yu]; simpa using h
         have h2:Dc ops (i+1)=some d:=by unfold Dc; rw [fc]; simpa using hd
         have:=ni h1 h2; omega
        have hx':a1.tmps.toList[d]?=some x:=by
         cases di:o0.dst with
         | none=>rw [di] at hx; exact hx
         | some d0 =>
          exact Ya07
        rw [ru d x hd hx',v1',v2,v3,g1.symm,g2.symm];simp only [VR];refine ⟨b,rfl,?_,fun e'' he'' _=>?_⟩
        ·simp only [Cx.rev,k5]; omega
        ·simp only [Cx.rev,k3,Cm,Ch,Co,if_true]
    ·have bo:∀ e,E5 ops e i=true->listed.getD e false=true:=fun e he=>by
      cases h:listed.getD e false with
      | true=>rfl
      | false=>exact absurd ⟨e,he,h⟩ hB
     have bm:∀ e,E5 ops i e=true->listed.getD e false=false:=fun e he=>by
      cases h:listed.getD e false with
      | false=>rfl
      | true=>exact absurd ⟨e,he,h⟩ hA2
     obtain ⟨o,ho,rt,b,s2,hw,hb1,hb2,hT,hD2⟩:=step hD i bl bo bm;have yh:=J6 bz.tmps hw;have keepW:∀ {C2:Cx} {u:Value},Le C1 C2->((Norm listed/\Le C C1)\/∃ A,Wait A listed C1 a1)->((Norm (listed.setIfInBounds i true)/\Le C C2)\/∃ A,Wait A (listed.setIfInBounds i true) C2 (a1.put o.dst u)):=by
      intro C2 u k1 hle;rcases hle with ⟨hN,hle⟩|⟨A,fv,hA',hB'',oB,tB,arr,b,fc,e1,hz1,ru,hb1,hb2,fy,li,hle⟩
      ·refine .inl ⟨fun e j hp hj=>(aw e).2 ?_,hle.trans k1⟩;rcases (aw j).1 hj with h|h
       ·subst h; exact .inr (bo e hp)
       ·exact .inr (hN e j hp h)
      ·have hiA:i≠A:=fun h=>by
        subst h;have:=bm _ fv; rw [hB''] at this; simp at this
       refine .inr ⟨A,fv,?_,(aw _).2 (.inr hB''),oB,tB,arr,b,fc,e1,hz1,fun d x hd hx=>?_,?_,hb2,fun o=>Za5e,fun x o hx=>Za3y,hle.trans ⟨k1.os,k1.tape,k1.output,k1.size,rfl,k1.n,k1.mt,k1.cell,k1.keep,k1.shape,k1.ent,k1.tok⟩⟩
       ·rw [D3 hiA]; exact hA'
       ·refine ru d x hd ?_;have f9:o.dst≠some d:=fun h=>by
         have h1:Dc ops i=some d:=by unfold Dc; rw [ho]; simpa using h
         have h2:Dc ops (A+1)=some d:=by unfold Dc; rw [fc]; simpa using hd
         have:=ni h1 h2;subst this;rw [rt] at hB''; simp at hB''
        exact Ya4f
       ·exact Ya29
     have keepH:∀ {C2:Cx} {u:Value},Le C1 C2->Hle listed C1 a1->Hle (listed.setIfInBounds i true) C2 (a1.put o.dst u):=by
      intro C2 u k1 hle;rcases hle with ⟨hu,hle⟩|⟨p,al,t,d,arr,b,e1,e2,e3,hp,hz,ru,hb1,hb2,fy,li,hle⟩
      ·exact .inl ⟨hUn hu fun j=>(aw j).1,keepW k1 hle⟩
      ·refine .inr ⟨p,al,t,d,arr,b,e1,e2,e3,(aw _).2 (.inr hp),hz,fun x hx=>?_,?_,hb2,fun o=>Za5e,fun x o hx=>Za3y,hle.trans ⟨k1.os,k1.tape,k1.output,k1.size,rfl,k1.n,k1.mt,k1.cell,k1.keep,k1.shape,k1.ent,k1.tok⟩⟩
       ·refine ru x ?_;have f9:o.dst≠some d:=fun h=>by
         have tp:=j5;rw [e1] at tp;have h1:Dc ops i=some d:=by unfold Dc; rw [ho]; simpa using h
         have h2:Dc ops p=some d:=by unfold Dc; rw [tp.2.2.2.2.2.2.2]; simpa using e3
         have:=ni h1 h2;subst this;rw [rt] at hp; cases hp
        exact Ya4f
       ·exact Ya29
     unfold wpOp;rw [dd,v7];simp only [ho];cases b with
     | false =>
      rw [if_neg (by rw [yh]; simp)];obtain ⟨hv,rfl⟩:=hb2 rfl;refine ih _ _ C1 _ aA (keepH (Le.refl C1) hle) ?_ hD2;rw [hv];exact bz.put (Le.refl C1) bz.sr bz.S bz.tk bz.n bR rfl
     | true =>
      rw [if_pos yh];refine .inl (H4 hc bz (hb1 rfl) fun u C2 k1 k2 k3 k4 k5 k6=>?_).1;exact ih _ _ C2 _ aA (keepH k1 hle) (bz.put k1 k2 k3 k4 k5 k6 hT) hD2
 have hbel:Below C.w.heap.size C.w C.w.drew:=(Fp _ _).drew;rw [hsz];refine main ops.size _ st (C.at C.w.drew) a ?_ (.inl ⟨fun p al _=>by simp [Se],.inl ⟨fun e j _ hj=>by simp [Se] at hj,Le.of_below hbel⟩⟩) ⟨hr.S,hr.tk,hr.n,VRs.mono (Le.of_below hbel) _ _ hr.tmps,hr.defers,SR.of_below hr.sr hbel⟩ ⟨by simp,?_,rfl,?_,fun t _=>rfl,?_,?_⟩
 ·unfold Ez;exact Fs List.countP_le_length (by simp)
 ·intro j hj; simp [Se] at hj
 ·intro j t hj; simp [Se] at hj
 ·obtain ⟨c,h1,h2,h3⟩:=Nd (wS ops) (Sl ops.size false) ops.size ops.size 0 aA aA (by intro j hj; omega);have uh:∀ j,0<=j->j<0+c->wS ops j=false:=by
   intro j _ hj;cases ey:wS ops j with
   | false=>rfl
   | true =>
    have:=h2.2.1 j aA ey;simp [Se] at this
  have:=constS c 0 (by have:=h2.1; omega) uh;rw [El,mg] at this;exact ⟨c,h2,this.1.symm,this.2.symm⟩
 ·obtain ⟨c,h1,h2,h3⟩:=Nd (wT ops) (Sl ops.size false) ops.size ops.size 0 aA aA (by intro j hj; omega);have uh:∀ j,0<=j->j<0+c->wT ops j=false:=by
   intro j _ hj;cases ey:wT ops j with
   | false=>rfl
   | true =>
    have:=h2.2.1 j aA ey;simp [Se] at this
  have:=constT c 0 (by have:=h2.1; omega) uh;rw [El,mg] at this;exact ⟨c,h2,this.symm⟩
theorem Ab2 [Globs] (hm:P.follows .mixedOrders=true):Afs P B8:=by
 refine ⟨hm,?_⟩;intro call hc real ops lt hlt hi C st st' a Q ah hr h hQ;exact @Zn P (gM (mdOf ops.toList)) hm call (Aou hc) hi real ops lt hlt C st st' a Q ah (Auw.2 hr) h (fun a' C' hle j3=>hQ a' C' hle (Auw.1 j3))
end
end
section
open Go.RowKit
section
variable {P:Program}
def CLe (a b:Dv):Prop:=∀ f args S tk n r,a f args S tk n=some r->b f args S tk n=some r
theorem Agt [Globs] {a b:Dv} (h:CLe a b) {o:Oper} {st:St} {r:AV × St} (he:evO P a o st=some r):evO P b o st=some r:=by
 unfold evO at he ⊢;split <;> simp_all only
 ·rename_i c _;split <;> simp_all only;split <;> simp_all only
  ·rename_i f args je;simp only [Cd] at he ⊢;obtain ⟨x,h1,h2⟩:=he;exact ⟨x,h _ _ _ _ _ _ h1,h2⟩
theorem Dh [G:Globs] {a b:Dv} (h:CLe a b) {all:List Oper} : ∀ {l:List Oper} {st st':St},evOs P a all l st=some st'->evOs P b all l st=some st'
 | [],_,_,he=>he
 | o :: l,st,st',he=>by
  simp only [evOs] at he ⊢;split at he
  ·simp at he
  ·exact Dh h he
  ·split at he
   ·rename_i v s1 ho;rw [Agt h ho];simp only;split at he
    ·rename_i oh;rw [if_pos oh]; exact Dh h he
    ·simp at he
   ·simp at he
theorem CLe.pure [Globs] [Ext P] {M:Md} {a b:Dv} (h:CLe a b):CLe (@Gn (gM M) P _ a) (@Gn (gM M) P _ b):=by
 intro f args S tk n r he;unfold Gn at he ⊢;split at he
 ·rename_i hp; rw [if_pos hp]; exact h _ _ _ _ _ _ he
 ·simp at he
theorem No {kp:Bool} {f g:St->Option (Ex × St)} (h:∀ s r,f s=some r->g s=some r):∀ {k m:Nat} {s:St} {r:Ex × St},k<=m->Ml kp f k s=some r->Ml kp g m s=some r
 | 0,_,_,_,_,he=>by simp [Ml] at he
 | k+1,0,_,_,c9,_=>aA
 | k+1,m+1,s,r,c9,he=>by
  simp only [Ml] at he ⊢;split at he
  ·rename_i s1 h1;rw [h _ _ h1];exact No h aA he
  ·rename_i hne;rw [h _ _ he];exact Ya2j
theorem Du [Globs] [Ext P] {a b:Dv} (h:CLe a b) {ok:St->List Oper->Bool} {n m:Nat} (eh:n<=m):∀ (c:Code) (st:St) (r:Ex × St),evC P a ok n c st=some r->evC P b ok m c st=some r
 | .skip,_,_,he=>eZ
 | .region _ ops draw,st,r,he=>by
  simp only [evC] at he ⊢;split at he
  ·rename_i hd;rw [if_pos hd];split at he
   ·rename_i ini o yp;exact Ya0c
   ·split at he
    ·exact Ya0c
    ·split at he
     ·rename_i ah;simp only [ah,if_true];simp only [Cd] at he ⊢;obtain ⟨x,h1,h2⟩:=he;exact ⟨x,Dh (G:=gM _) h.pure h1,h2⟩
     ·simp at he
  ·rename_i hd;rw [if_neg hd];simp only [Cd] at he ⊢;obtain ⟨x,h1,h2⟩:=he;exact ⟨x,Dh h h1,h2⟩
 | .seq x y,st,r,he=>by
  simp only [evC] at he ⊢;split at he
  ·rename_i s1 h1;rw [Du h eh x st _ h1];exact Du h eh y s1 r he
  ·rename_i hne;rw [Du h eh x st _ he];exact Ya2j
 | .cond x y z,st,r,he=>by
  simp only [evC] at he ⊢;split at he
  ·rename_i t ht;split at he
   ·rename_i h1; rw [if_pos h1]; exact Du h eh y st r he
   ·rename_i h1; rw [if_neg h1]; exact Du h eh z st r he
  ·simp at he
 | .block id x,st,r,he=>by
  simp only [evC] at he ⊢;split at he
  ·rename_i id' s1 h1;rw [Du h eh x st _ h1]; exact he
  ·rename_i hne;rw [Du h eh x st _ he];obtain ⟨ex,s2⟩:=r;cases ex with
   | normal=>rfl
   | exit id=>exact absurd he (hne id s2)
   | ret=>rfl
 | .loop x,st,r,he=>by
  simp only [evC] at he ⊢;exact No (fun s r=>Du h eh x s r) eh he
 | .exit id,_,_,he=>eZ
 | .ret,_,_,he=>eZ
 | .rangeFunc _ _ _ _,_,_,he=>by simp [evC] at he
 | .scope c,st,r,he=>by
  simp only [evC] at he ⊢;exact Du h eh c st r he
 | .label _,_,_,he=>eZ
 | .goto _,_,_,he=>by simp [evC] at he
 | .refuse _,_,_,he=>by simp [evC] at he
theorem Mp {fn:Func} {x y:Option (Ex × St)} {r:AV × St} (h:∀ z,x=some z->y=some z) (he:outA P fn x=some r):outA P fn y=some r:=by
 match x with
 | none=>simp [outA] at he
 | some z=>rw [h z rfl]; exact he
theorem Eu [Globs] [Ext P] {ok:St->List Oper->Bool} : ∀ {k m:Nat},k<=m->CLe (evF P ok k) (evF P ok m)
 | 0,_,_=>Za3l
 | k+1,0,h=>aA
 | k+1,m+1,h=>by
  have ih:CLe (evF P ok k) (evF P ok m):=Eu aA;intro f args S tk n r he;simp only [evF] at he ⊢;split at he
  ·rename_i yq; rw [if_pos yq]; exact he
  rename_i yq;rw [if_neg yq];split at he
  ·rename_i fn hf;split at he
   ·rename_i c hb;split at he
    ·simp at he
    ·rename_i bg;rw [if_neg bg];split at he
     ·rename_i vz;rw [if_pos vz];exact Ya2l
     rename_i vz;rw [if_neg vz];split at he
     ·rename_i hp;rw [if_pos hp];have one:∀ {as:List AV} {r0:AV},runP P ok (evF P ok k) k fn c as=some r0->runP P ok (evF P ok m) m fn c as=some r0:=by
       intro as r0 hrun;unfold runP at hrun ⊢;split at hrun
       ·rename_i r' s1 ho;rw [Mp (fun z hz=>Du ih aA c _ z hz) ho];exact hrun
       ·simp at hrun
      split at he
      ·rename_i r' ho;have:(if Jy c=true then runN (runP P ok (evF P ok m) m fn c) (args.map w2) else runP P ok (evF P ok m) m fn c (args.map w2))=some r':=by
        exact Ya0g
       rw [this]; exact he
      ·simp at he
     ·rename_i hp;rw [if_neg hp];exact Ya2l
   ·simp at he
  ·simp at he
noncomputable def lim {α:Type} (F:Nat->Option α):Option α:=by
 classical
 exact if h:∃ x,∃ k,F k=some x then some h.choose else none
theorem Aml {α:Type} {F:Nat->Option α} (hm:∀ k m x,k<=m->F k=some x->F m=some x) {x:α} : lim F=some x↔∃ k,F k=some x:=by
 unfold lim;constructor
 ·intro h;split at h
  ·rename_i hx;simp only [A8] at h; subst h;exact hx.choose_spec
  ·simp at h
 ·rintro ⟨k,hk⟩;have hx:∃ x,∃ k,F k=some x:=⟨x,k,hk⟩;rw [dif_pos hx];obtain ⟨m,gf⟩:=hx.choose_spec;have h1:=hm _ _ _ (iT k m) hk;have h2:=hm _ _ _ (iJ k m) gf;rw [h1] at h2;simp only [A8] at h2;rw [<- h2]
theorem Lt {α:Type} {a b:Option α} (h:∀ x,a=some x↔b=some x):a=b:=by
 cases a with
 | none =>
  cases b with
  | none=>rfl
  | some y=>have:=(h y).2 rfl; simp at this
 | some x=>exact ((h x).1 rfl).symm
noncomputable def cL [Globs] (P:Program) [Ext P]:Dv:=fun f args S tk n=>lim fun k=>evF P B8 k f args S tk n
noncomputable def eL [Globs] (P:Program) [Ext P] (c:Code) (st:St):Option (Ex × St):=lim fun k=>evC P (evF P B8 k) B8 k c st
theorem K4 [Globs] [Ext P] {f args S tk n x} : cL P f args S tk n=some x↔∃ k,evF P B8 k f args S tk n=some x:=Aml fun _ _ _ h he=>Eu h _ _ _ _ _ _ he
theorem Dl [Globs] [Ext P] {c:Code} {st:St} {x:Ex × St} : eL P c st=some x↔∃ k,evC P (evF P B8 k) B8 k c st=some x:=Aml fun _ _ _ h he=>Du (Eu h) h _ _ _ he
theorem Aiq [Globs] [Ext P] (k:Nat):CLe (evF P B8 k) (cL P):=fun _ _ _ _ _ _ h=>K4.2 ⟨k,h⟩
section
variable {F:Nat->Dv} {L:Dv} (hF:∀ k m,k<=m->CLe (F k) (F m)) (hL:∀ f args S tk n x,L f args S tk n=some x->∃ k,F k f args S tk n=some x)
include hL
theorem Atd [Globs] {o:Oper} {st:St} {r:AV × St} (h:evO P L o st=some r):∃ k,evO P (F k) o st=some r:=by
 by_cases hc:∃ c f args,o.op=.call c/\Gv P st.T c=some (f,args)/\(∀ b,c.callee≠.builtin b)
 ·obtain ⟨c,f,args,ho,je,hb⟩:=hc;have e:∀ call:Dv,evO P call o st=(call f args st.S st.tk st.n).map fun (v,S,tk,n)=>(v,{ st with S:=S,tk:=tk,n:=n }):=by
   intro call;unfold evO;rw [ho];simp only;split
   ·exact Ya2t
   ·exact Ya2t
   ·rename_i b _ _ h'; exact absurd h' (hb _)
   ·rw [je]
  rw [e] at h;simp only [Cd] at h;obtain ⟨x,h1,h2⟩:=h;obtain ⟨k,hk⟩:=hL _ _ _ _ _ _ h1;exact ⟨k,by rw [e,hk]; simp [h2]⟩
 ·refine ⟨0,?_⟩;have e:∀ call call':Dv,evO P call o st=evO P call' o st:=by
   intro call call';unfold evO;split <;> try rfl
   rename_i c ho;split <;> try rfl
   rename_i h1 h2 h3;split
   ·rename_i f args je;exact absurd ⟨c,f,args,ho,je,fun b hb=>by cases b <;> first|exact h1 hb|exact h2 hb|exact h3 _ hb⟩ hc
   ·rfl
  rw [e _ L]; exact h
include hF
theorem T6 [G:Globs] {all:List Oper} : ∀ {l:List Oper} {st st':St},evOs P L all l st=some st'->∃ k,evOs P (F k) all l st=some st'
 | [],_,_,h=>⟨0,h⟩
 | o :: l,st,st',h=>by
  simp only [evOs] at h;split at h
  ·simp at h
  ·rename_i hw;obtain ⟨k,hk⟩:=T6 h;exact ⟨k,by simp only [evOs,hw]; exact hk⟩
  ·rename_i hw;split at h
   ·rename_i v s1 ho;split at h;case isFalse=>simp at h
    rename_i oh;obtain ⟨k,hk⟩:=Atd hL ho;obtain ⟨m,hm⟩:=T6 h;refine ⟨max k m,?_⟩;simp only [evOs,hw];rw [Agt (hF _ _ (iT k m)) hk];simp only;rw [if_pos oh];exact Dh (hF _ _ (iJ k m)) hm
   ·simp at h
end
theorem Aeo [Globs] [Ext P] {all l:List Oper} {st st':St} (h:evOs P (cL P) all l st=some st'):∃ k,evOs P (evF P B8 k) all l st=some st' :=
 T6 (fun _ _ h=>Eu h) (fun _ _ _ _ _ _ h=>K4.1 h) h
theorem Aep [Globs] [Ext P] {M:Md} {all l:List Oper} {st st':St} (h:@evOs (gM M) P (@Gn (gM M) P _ (cL P)) all l st=some st'):∃ k,@evOs (gM M) P (@Gn (gM M) P _ (evF P B8 k)) all l st=some st':=by
 refine T6 (F:=fun k=>@Gn (gM M) P _ (evF P B8 k)) (G:=gM M) (fun _ _ h=>(Eu h).pure) (fun f args S tk n x h=>?_) h;unfold Gn at h;split at h
 ·rename_i hp;obtain ⟨k,hk⟩:=K4.1 h;exact ⟨k,by unfold Gn; rw [if_pos hp]; exact hk⟩
 ·simp at h
inductive Kont where
 | seq (c:Code)|block (id:Nat)|loop (c:Code) (k:Nat)
noncomputable def cont [Globs] (P:Program) [Ext P] (fn:Func):Ex->St->List Kont->Option (AV × St)
 | e,st,[]=>outA P fn (some (e,st))
 | .normal,st,.seq c :: k=>match eL P c st with|some (e,st')=>cont P fn e st' k|none=>none
 | .normal,st,.block _ :: k=>cont P fn .normal st k
 | .normal,st,.loop c n :: k=>match eL P (.loop c) { st with S:=cutS (Aeu c) n st.S } with|some (e,st')=>cont P fn e st' k|none=>none
 | .exit id,st,.seq _ :: k=>cont P fn (.exit id) st k
 | .exit id,st,.block id' :: k=>if id=id' then cont P fn .normal st k else cont P fn (.exit id) st k
 | .exit id,st,.loop _ _ :: k=>cont P fn (.exit id) st k
 | .ret,st,_ :: k=>cont P fn .ret st k
noncomputable def RK [Globs] (P:Program) [Ext P] (fn:Func) (c:Code) (st:St) (k:List Kont):Option (AV × St):=match eL P c st with|some (e,st')=>cont P fn e st' k|none=>none
noncomputable def K5 [Globs] (M:Md) (P:Program) [Ext P] (call:Dv):Dv:=@Gn (gM M) P _ call
noncomputable def RO [Globs] (P:Program) [Ext P] (fn:Func) (M:Md) (call:Dv) (all l:List Oper) (st:St) (k:List Kont):Option (AV × St):=match @evOs (gM M) P call all l st with|some st'=>cont P fn .normal st' k|none=>none
def br {α:Type} (w:Option Bool) (a b:Option α):Option α:=match w with|some true=>a|some false=>b|none=>none
variable {fn:Func} {st:St} {k:List Kont}
theorem Aso [Globs] [Ext P]:RK P fn .skip st k=cont P fn .normal st k:=by
 have:eL P .skip st=some (.normal,st):=Dl.2 ⟨0,rfl⟩;simp only [RK,this]
theorem Asm [Globs] [Ext P] {id:Nat} : RK P fn (.exit id) st k=cont P fn (.exit id) st k:=by
 have:eL P (.exit id) st=some (.exit id,st):=Dl.2 ⟨0,rfl⟩;simp only [RK,this]
theorem Aup [Globs] [Ext P]:RK P fn .ret st k=cont P fn .ret st k:=by
 have:eL P .ret st=some (.ret,st):=Dl.2 ⟨0,rfl⟩;simp only [RK,this]
theorem Avg [Globs] [Ext P] {a b:Code} : eL P (.seq a b) st=match eL P a st with|some (.normal,st')=>eL P b st'|r=>r:=by
 apply Lt;intro x;constructor
 ·intro h;obtain ⟨n,h⟩:=Dl.1 h;simp only [evC] at h;split at h
  ·rename_i s1 h1;rw [Dl.2 ⟨n,h1⟩];exact Dl.2 ⟨n,h⟩
  ·rename_i hne;rw [Dl.2 ⟨n,h⟩];exact Ya05
 ·intro h;split at h
  ·rename_i s1 h1;obtain ⟨n,h1⟩:=Dl.1 h1;obtain ⟨m,h⟩:=Dl.1 h;refine Dl.2 ⟨max n m,?_⟩;simp only [evC];rw [Du (Eu (iT n m)) (iT n m) _ _ _ h1];exact Du (Eu (iJ n m)) (iJ n m) _ _ _ h
  ·rename_i hne;obtain ⟨n,h1⟩:=Dl.1 h;refine Dl.2 ⟨n,?_⟩;simp only [evC];rw [h1];exact Ya05
theorem Auq [Globs] [Ext P] {a b:Code} : RK P fn (.seq a b) st k=RK P fn a st (.seq b :: k):=by
 simp only [RK,Avg];cases h:eL P a st with
 | none=>rfl
 | some x =>
  obtain ⟨e,s⟩:=x;cases e <;> simp only [cont]
theorem As8 [Globs] [Ext P] {c:Operand} {a b:Code} : eL P (.cond c a b) st=match opv st.T c with|.prim (.bool t)=>if t=true then eL P a st else eL P b st|_=>none:=by
 apply Lt;intro x;rw [Dl];simp only [evC];generalize opv st.T c=v;cases v with
 | prim u =>
  cases u with
  | bool t=>cases t <;> simp [Dl]
  | _=>simp
 | _=>simp
theorem Asl [Globs] [Ext P] {c:Operand} {a b:Code} : RK P fn (.cond c a b) st k=match opv st.T c with|.prim (.bool t)=>if t=true then RK P fn a st k else RK P fn b st k|_=>none:=by
 simp only [RK,As8];generalize opv st.T c=v;cases v with
 | prim u =>
  cases u with
  | bool t=>cases t <;> simp
  | _=>rfl
 | _=>rfl
theorem Ap0 [Globs] [Ext P] {id:Nat} {c:Code} : eL P (.block id c) st=match eL P c st with|some (.exit id',st')=>if id'=id then some (.normal,st') else some (.exit id',st')|r=>r:=by
 apply Lt;intro x;constructor
 ·intro h;obtain ⟨n,h⟩:=Dl.1 h;simp only [evC] at h;split at h
  ·rename_i s1 h1;rw [Dl.2 ⟨n,h1⟩]; exact h
  ·rename_i hne;rw [Dl.2 ⟨n,h⟩];exact Ya2d
 ·intro h;split at h
  ·rename_i id' s1 h1;obtain ⟨n,h1⟩:=Dl.1 h1;exact Dl.2 ⟨n,by simp only [evC]; rw [h1]; exact h⟩
  ·rename_i hne;obtain ⟨n,h1⟩:=Dl.1 h;refine Dl.2 ⟨n,?_⟩;simp only [evC];rw [h1];exact Ya2d
theorem Ao4 [Globs] [Ext P] {id:Nat} {c:Code} : RK P fn (.block id c) st k=RK P fn c st (.block id :: k):=by
 simp only [RK,Ap0];cases h:eL P c st with
 | none=>rfl
 | some x =>
  obtain ⟨e,s⟩:=x;cases e with
  | exit id'=>by_cases hid:id'=id <;> simp [cont,hid]
  | normal=>simp only [cont]
  | ret=>simp only [cont]
theorem Atb [Globs] [Ext P] {c:Code} : eL P (.loop c) st=match eL P c st with|some (.normal,st')=>eL P (.loop c) { st' with S:=cutS (Aeu c) st.S.length st'.S } | r=>r:=by
 apply Lt;intro x;constructor
 ·intro h;obtain ⟨n,h⟩:=Dl.1 h;simp only [evC] at h;cases n with
  | zero=>simp [Ml] at h
  | succ n =>
   simp only [Ml] at h;split at h
   ·rename_i s1 h1;rw [Dl.2 ⟨n+1,h1⟩];exact Dl.2 ⟨n+1,by simp only [evC]; exact No (fun _ _ h=>h) (kC n) h⟩
   ·rename_i hne;rw [Dl.2 ⟨n+1,h⟩];exact Ya05
 ·intro h;split at h
  ·rename_i s1 h1;obtain ⟨n,h1⟩:=Dl.1 h1;obtain ⟨m,h⟩:=Dl.1 h;simp only [evC] at h;refine Dl.2 ⟨max n m+1,?_⟩;simp only [evC,Ml];rw [Du (Eu (show n<=max n m+1 by omega)) (show n<=max n m+1 by omega) _ _ _ h1];exact No (fun s r=>Du (Eu (show m<=max n m+1 by omega)) (show m<=max n m+1 by omega) c s r) (show m<=max n m by omega) h
  ·rename_i hne;obtain ⟨n,h1⟩:=Dl.1 h;refine Dl.2 ⟨n+1,?_⟩;simp only [evC,Ml];rw [Du (Eu (kC n)) (kC n) _ _ _ h1];exact Ya05
theorem Yz [Globs] [Ext P] {c:Code} : RK P fn (.loop c) st k=RK P fn c st (.loop c st.S.length :: k):=by
 rw [RK,Atb,RK];cases h:eL P c st with
 | none=>rfl
 | some x =>
  obtain ⟨e,s⟩:=x;cases e <;> simp only [cont]
theorem Vd [Globs] [Ext P] {id:Nat} {ops:Array Oper} : eL P (.region id ops false) st=(evOs P (cL P) ops.toList ops.toList st).map fun st=>(.normal,st):=by
 apply Lt;intro x;rw [Dl];simp only [evC,Cd,Ef,if_false];constructor
 ·rintro ⟨n,s,h1,h2⟩; exact ⟨s,Dh (Aiq n) h1,h2⟩
 ·rintro ⟨s,h1,h2⟩;obtain ⟨n,hn⟩:=Aeo h1;exact ⟨n,s,hn,h2⟩
theorem As9 [Globs] [Ext P] {id:Nat} {ops:Array Oper} (hs:Ho ops.toList=none) (hl:Mj ops.toList=none):eL P (.region id ops true) st=if B8 st ops.toList=true then (@evOs (gM (mdOf ops.toList)) P (K5 (mdOf ops.toList) P (cL P)) ops.toList ops.toList st).map fun st=>(.normal,st) else none:=by
 apply Lt;intro x;rw [Dl];simp only [evC,if_true,hs,hl];by_cases ah:B8 st ops.toList=true
 ·simp only [ah,if_true,Cd];constructor
  ·rintro ⟨n,s,h1,h2⟩; exact ⟨s,Dh (G:=gM _) (Aiq n).pure h1,h2⟩
  ·rintro ⟨s,h1,h2⟩;obtain ⟨n,hn⟩:=Aep h1;exact ⟨n,s,hn,h2⟩
 ·simp [ah]
theorem Atc [Globs] [Ext P] {id:Nat} {ops:Array Oper} {a:List Oper} {o:Oper} (hs:Ho ops.toList=some (a,o)):eL P (.region id ops true) st=if B8 st a=true then (match @evOs (gM (mdOf a)) P (K5 (mdOf a) P (cL P)) a a st with|some st1=>(evOs P (cL P) [o] [o] st1).map fun st=>(.normal,st)|none=>none) else none:=by
 apply Lt;intro x;rw [Dl];simp only [evC,if_true,hs];exact Yae
theorem Ata [Globs] [Ext P] {id:Nat} {ops:Array Oper} {p:Nat} {al o:Oper} (hs:Ho ops.toList=none) (hl:Mj ops.toList=some (p,al,o)):eL P (.region id ops true) st=if B8 st (openL ops.toList)=true then (match @evOs (gM (mdOf (openL ops.toList))) P (K5 (mdOf (openL ops.toList)) P (cL P)) (openL ops.toList) (openL ops.toList) st with|some st1=>(evOs P (cL P) [al,o] [al,o] st1).map fun st=>(.normal,st)|none=>none) else none:=by
 apply Lt;intro x;rw [Dl];simp only [evC,if_true,hs,hl];generalize openL ops.toList=a;exact Yae
theorem Ao6 [Globs] [Ext P] {c:Code} : RK P fn (.scope c) st k=RK P fn c st k:=by
 have:eL P (.scope c) st=eL P c st:=by
  apply Lt;intro x;rw [Dl,Dl];simp only [evC]
 simp only [RK,this]
theorem Ao5 [Globs] [Ext P] {l:Nat} : RK P fn (.label l) st k=cont P fn .normal st k:=by
 have:eL P (.label l) st=some (.normal,st):=Dl.2 ⟨0,cJ⟩;simp only [RK,this]
theorem Akb [Globs] [Ext P] {id:Nat} {ops:Array Oper} : RK P fn (.region id ops false) st k=RO P fn .no (cL P) ops.toList ops.toList st k:=by
 simp only [RK,Vd];show _=match evOs P (cL P) ops.toList ops.toList st with|some st'=>cont P fn .normal st' k|none=>none
 cases evOs P (cL P) ops.toList ops.toList st <;> rfl
theorem Us [Globs] [Ext P] {id:Nat} {ops:Array Oper} (hs:Ho ops.toList=none) (hl:Mj ops.toList=none) (h:B8 st ops.toList=true):RK P fn (.region id ops true) st k=RO P fn (mdOf ops.toList) (K5 (mdOf ops.toList) P (cL P)) ops.toList ops.toList st k:=by
 simp only [RK,RO,As9 hs hl,if_true,h];cases @evOs (gM (mdOf ops.toList)) P (K5 (mdOf ops.toList) P (cL P)) ops.toList ops.toList st <;> rfl
theorem Asp [Globs] [Ext P] {id:Nat} {ops:Array Oper} {a:List Oper} {o:Oper} (hs:Ho ops.toList=some (a,o)) (fh:Ho a=none) (hl2:Mj a=none) (h:B8 st a=true):RK P fn (.region id ops true) st k=RK P fn (.region id a.toArray true) st (.seq (.region id #[o] false) :: k):=by
 rw [Us (ops:=a.toArray) (by simpa using fh) (by simpa using hl2) aM];simp only [RK,RO,Atc hs,if_true,h];cases @evOs (gM (mdOf a)) P (K5 (mdOf a) P (cL P)) a a st with
 | none=>rfl
 | some s1 =>
  simp only [cont,RK,Vd]
theorem Asn [Globs] [Ext P] {id:Nat} {ops:Array Oper} {p:Nat} {al o:Oper} (hs:Ho ops.toList=none) (hl:Mj ops.toList=some (p,al,o)) (h:B8 st (openL ops.toList)=true):RK P fn (.region id ops true) st k=RO P fn (mdOf (openL ops.toList)) (K5 (mdOf (openL ops.toList)) P (cL P)) (openL ops.toList) (openL ops.toList) st (.seq (.region id #[al,o] false) :: k):=by
 simp only [RK,RO,Ata hs hl,if_true,h];cases @evOs (gM (mdOf (openL ops.toList))) P (K5 (mdOf (openL ops.toList)) P (cL P)) (openL ops.toList) (openL ops.toList) st with
 | none=>rfl
 | some s1 =>
  simp only [cont,RK,Vd]
theorem Ad3 [Globs] [Ext P] {M:Md} {call:Dv} {all l:List Oper} {o:Oper} : RO P fn M call all (o :: l) st k=br (Ka all st.T o) (match @evO (gM M) P call o st with|some (v,st')=>if @chkO (gM M) P all o st v st'=true then RO P fn M call all l { st' with T:=putT st'.T o.dst v } k else none|none=>none) (RO P fn M call all l { st with T:=putT st.T o.dst (.prim undef) } k):=by
 simp only [RO,evOs];cases Ka all st.T o with
 | none=>rfl
 | some b =>
  cases b with
  | false=>rfl
  | true =>
   simp only [br];cases @evO (gM M) P call o st with
   | none=>rfl
   | some x =>
    obtain ⟨v,s1⟩:=x;simp only;cases @chkO (gM M) P all o st v s1 <;> rfl
theorem Apx [Globs] [Ext P] {x:Kont} : cont P fn .ret st (x :: k)=cont P fn .ret st k:=by cases x <;> rfl
theorem Zz [Globs] [Ext P] {x:Code} {r:AV × St} (h:RK P fn x st []=some r):∃ n,outA P fn (evC P (evF P B8 n) B8 n x st)=some r:=by
 unfold RK at h;cases he:eL P x st with
 | none=>rw [he] at h; simp at h
 | some z =>
  rw [he] at h;obtain ⟨n,hn⟩:=Dl.1 he;obtain ⟨e,s⟩:=z;refine ⟨n,?_⟩;rw [hn];cases e <;> exact h
def asB:AV->Option Bool|.prim (.bool t)=>some t|_=>none
theorem asB_bool {t:Bool} : asB (.prim (.bool t))=some t:=rfl
theorem RK_if [Globs] [Ext P] {c:Operand} {a b:Code} : RK P fn (.cond c a b) st k=br (asB (opv st.T c)) (RK P fn a st k) (RK P fn b st k):=by
 rw [Asl];generalize opv st.T c=v;cases v with
 | prim u =>
  cases u with
  | bool t=>cases t <;> rfl
  | _=>rfl
 | _=>rfl
def fin1 (x:Option (AV × St)):Option AV:=match x with|some (r,s)=>some (w3 (fz3 0 s.S r))|none=>none
theorem fin1_some {r:AV} {s:St} : fin1 (some (r,s))=some (w3 (fz3 0 s.S r)):=rfl
def finS (b:Nat) (x:Option (AV × St)):Option (AV × List Ent × List Nat × Nat):=match x with|some (r,s)=>some (fz3 b s.S r,s.S.take b,s.tk,s.n)|none=>none
theorem finS_some {b:Nat} {r:AV} {s:St} : finS b (some (r,s))=some (fz3 b s.S r,s.S.take b,s.tk,s.n):=rfl
theorem Atf {t:Bool} {a b:Option (AV × St)} {r:AV} : fin1 (br (some t) a b)=some r↔(t=true->fin1 a=some r)/\(t=false->fin1 b=some r):=Za5n
theorem Ath {n:Nat} {t:Bool} {a b:Option (AV × St)} {r:AV × List Ent × List Nat × Nat} : finS n (br (some t) a b)=some r↔(t=true->finS n a=some r)/\(t=false->finS n b=some r):=Za5n
theorem Au7 {α:Type} {t:Bool} {a b:Option α} : br (some (!t)) a b=br (some t) b a:=by cases t <;> rfl
theorem Amn [Globs] [Ext P] {ι:Type} {c:Code} (I:ι->St->Prop) (μ:ι->Nat) (G:ι->AV) (h:∀ x st,I x st->(∀ y st',μ y<μ x->I y st'->fin1 (RK P fn (.loop c) st' k)=some (G y))->fin1 (RK P fn c st (.loop c st.S.length :: k))=some (G x)) {x:ι} {st:St} (h0:I x st):fin1 (RK P fn (.loop c) st k)=some (G x):=by
 have key:∀ n x st,μ x=n->I x st->fin1 (RK P fn (.loop c) st k)=some (G x):=by
  exact Ya13
 exact key _ x st rfl h0
theorem Ai6 [Globs] [Ext P] {ι:Type} {c:Code} {m:Nat} (I:ι->St->Prop) (μ:ι->Nat) (G:ι->AV × List Ent × List Nat × Nat) (h:∀ x st,I x st->(∀ y st',μ y<μ x->I y st'->finS m (RK P fn (.loop c) st' k)=some (G y))->finS m (RK P fn c st (.loop c st.S.length :: k))=some (G x)) {x:ι} {st:St} (h0:I x st):finS m (RK P fn (.loop c) st k)=some (G x):=by
 have key:∀ n x st,μ x=n->I x st->finS m (RK P fn (.loop c) st k)=some (G x):=by
  exact Ya13
 exact key _ x st rfl h0
theorem Ue [Globs] [Ext P] {c:Code} {as:List AV} {r:AV} (hp3:pure3 r=true) (h:fin1 (RK P fn c ⟨as++bots (fn.ntmps - as.length),[],[],0⟩ [])=some r):∃ m,runP P B8 (evF P B8 m) m fn c as=some r:=by
 rw [Y9] at h;cases hr:RK P fn c ⟨as++Cf (fn.ntmps - as.length) .bot,[],[],0⟩ [] with
 | none=>rw [hr] at h; simp [fin1] at h
 | some x =>
  obtain ⟨r',s⟩:=x;rw [hr,fin1_some] at h;simp only [A8] at h;obtain ⟨m,hm⟩:=Zz hr;refine ⟨m,?_⟩;unfold runP;rw [hm];simp only [h,hp3,if_true]
theorem Adg [Globs] [Ext P] {k m:Nat} (h:k<=m) {c:Code} {as:List AV} {r:AV} (hr:runP P B8 (evF P B8 k) k fn c as=some r):runP P B8 (evF P B8 m) m fn c as=some r:=by
 unfold runP at hr ⊢;split at hr
 ·rename_i r' s1 ho;rw [Mp (fun z hz=>Du (Eu h) h c _ z hz) ho];exact hr
 ·simp at hr
theorem Ak3 [Globs] [Ext P] {f : FuncId} {c : Code} (hf : P.funcs[f]? = some fn) (hx : (Ext.on P f || Ext.mv P f) = false) (hb : fn.body = some c) (ei : Jy c = false) (bg : (fn.name == "runtime.NumGoroutine") = false) {args args' : List AV} {nt : Nat} (nk : fn.ntmps = nt) (ab : args.map w2 = args') (hp : args'.all pure2 = true) {r : AV}
  (S:List Ent) (tk:List Nat) (n:Nat) (hp3:pure3 r=true) (h:fin1 (RK P fn c ⟨args'++bots (nt - args.length),[],[],0⟩ [])=some r):cL P f args S tk n=some (r,S,tk,n):=by
 subst ab nk;obtain ⟨m,hm⟩:=Ue (as:=args.map w2) hp3 (by rw [Fj]; exact h);refine K4.2 ⟨m+1,?_⟩;have hn : ¬ fn.name = "runtime.NumGoroutine" := cX
 simp only [Ff] at hx;simp only [evF,hf,hb];rw [if_neg dZ,if_neg hn,if_neg fP,if_pos hp,if_neg (by rw [ei]; simp),hm]
theorem Zc [Globs] [Ext P] {f : FuncId} {c : Code} (hf : P.funcs[f]? = some fn) (hx : (Ext.on P f || Ext.mv P f) = false) (hb : fn.body = some c) (ei : Jy c = true) (bg : (fn.name == "runtime.NumGoroutine") = false) {e : List AV} {es : List (List AV)} {args args' : List AV} {nt : Nat} (nk : fn.ntmps = nt) (ab : args.map w2 = .frz (e :: es) .unk :: args') (hp : (AV.frz (e :: es) .unk :: args').all pure2 = true) {r : AV}
  (S:List Ent) (tk:List Nat) (n:Nat) (hp3:pure3 r=true) (h:fin1 (RK P fn c ⟨(.frz (e :: es) .unk :: args')++bots (nt - (args'.length+1)),[],[],0⟩ [])=some r):cL P f args S tk n=some (r,S,tk,n):=by
 subst nk;obtain ⟨m,hm⟩:=Ue (as:=.frz (e :: es) .unk :: args') hp3 h;refine K4.2 ⟨m+1,?_⟩;have hn : ¬ fn.name = "runtime.NumGoroutine" := cX
 simp only [Ff] at hx;simp only [evF,hf,hb];rw [if_neg dZ,if_neg hn,if_neg fP,if_pos (by rw [ab]; exact hp),if_pos ei,ab];simp only [runN,hm]
theorem Abn [Globs] [Ext P] {f : FuncId} {c : Code} (hf : P.funcs[f]? = some fn) (hx : (Ext.on P f || Ext.mv P f) = false) (hb : fn.body = some c) (ei : Jy c = true) (bg : (fn.name == "runtime.NumGoroutine") = false) {args args' : List AV} {nt : Nat} (nk : fn.ntmps = nt) (ab : args.map w2 = .frz [] .unk :: args') (hp : args'.all pure2 = true)
  (S:List Ent) (tk:List Nat) (n:Nat) (h1:fin1 (RK P fn c ⟨(.frz [] .nl :: args')++bots (nt - (args'.length+1)),[],[],0⟩ [])=some (.frz [] .unk)) (h2:fin1 (RK P fn c ⟨(.frz [] .nn :: args')++bots (nt - (args'.length+1)),[],[],0⟩ [])=some (.frz [] .unk)):cL P f args S tk n=some (.frz [] .unk,S,tk,n):=by
 subst nk;obtain ⟨m1,ee⟩:=Ue (as:=.frz [] .nl :: args') rfl h1;obtain ⟨m2,ie⟩:=Ue (as:=.frz [] .nn :: args') rfl h2;refine K4.2 ⟨max m1 m2+1,?_⟩;have hn : ¬ fn.name = "runtime.NumGoroutine" := cX
 simp only [Ff] at hx;simp only [evF,hf,hb];rw [if_neg dZ,if_neg hn,if_neg fP,if_pos (by rw [ab]; simpa [pure2,pure1] using hp),if_pos ei,ab];simp only [runN,Adg (iT m1 m2) ee,Adg (iJ m1 m2) ie]
theorem U5 [Globs] [Ext P] {f : FuncId} {c : Code} (hf : P.funcs[f]? = some fn) (hx : (Ext.on P f || Ext.mv P f) = false) (hb : fn.body = some c) (bg : (fn.name == "runtime.NumGoroutine") = false) {args : List AV} {nt : Nat} (nk : fn.ntmps = nt) (hp : (args.map w2).all pure2 = false) {S : List Ent} {tk : List Nat} {n : Nat} {r : AV × List Ent × List Nat × Nat}
  (h:finS S.length (RK P fn c ⟨args++bots (nt - args.length),S,tk,n⟩ [])=some r):cL P f args S tk n=some r:=by
 subst nk;rw [Y9] at h;cases hr:RK P fn c ⟨args++Cf (fn.ntmps - args.length) .bot,S,tk,n⟩ [] with
 | none=>rw [hr] at h; simp [finS] at h
 | some x =>
  obtain ⟨r',s⟩:=x;rw [hr,finS_some] at h;obtain ⟨m,hm⟩:=Zz hr;refine K4.2 ⟨m+1,?_⟩;have hn : ¬ fn.name = "runtime.NumGoroutine" := cX
  simp only [Ff] at hx;simp only [evF,hf,hb];rw [if_neg dZ,if_neg hn,if_neg fP,if_neg (by rw [hp]; simp),hm];exact h
def finM (x:Option (AV × St)):Option (AV × List Ent × List Nat × Nat):=match x with|some (r,s)=>some (r,s.S,s.tk,s.n)|none=>none
theorem finM_some {r:AV} {s:St} : finM (some (r,s))=some (r,s.S,s.tk,s.n):=rfl
theorem Atg {t:Bool} {a b:Option (AV × St)} {r:AV × List Ent × List Nat × Nat} : finM (br (some t) a b)=some r↔(t=true->finM a=some r)/\(t=false->finM b=some r):=Za5n
theorem As1 [Globs] [Ext P] {f : FuncId} {c : Code} (hf : P.funcs[f]? = some fn) (hx : (!Ext.on P f && Ext.mv P f) = true) (hb : fn.body = some c) (bg : (fn.name == "runtime.NumGoroutine") = false) {args : List AV} {nt : Nat} (nk : fn.ntmps = nt) {S : List Ent} {tk : List Nat} {n : Nat} {r : AV × List Ent × List Nat × Nat}
  (h:finM (RK P fn c ⟨args++bots (nt - args.length),S,tk,n⟩ [])=some r):cL P f args S tk n=some r:=by
 subst nk;rw [Y9] at h;cases hr:RK P fn c ⟨args++Cf (fn.ntmps - args.length) .bot,S,tk,n⟩ [] with
 | none=>rw [hr] at h; simp [finM] at h
 | some x =>
  obtain ⟨r',s⟩:=x;rw [hr,finM_some] at h;obtain ⟨m,hm⟩:=Zz hr;refine K4.2 ⟨m+1,?_⟩;have hn : ¬ fn.name = "runtime.NumGoroutine" := cX
  simp only [Ci,Ob] at hx;simp only [evF,hf,hb];rw [if_neg dZ,if_neg hn,if_pos hx.2,hm];exact h
theorem Agd [Globs] [Ext P] {f:FuncId} (hf:Ext.on P f=true) {args:List AV} {S:List Ent} {tk:List Nat} {n:Nat} {r:AV × List Ent × List Nat × Nat} (h:Ext.call P f args S tk n=some r):cL P f args S tk n=some r:=by
 refine K4.2 ⟨1,?_⟩;rw [Aen hf];unfold extC;rw [if_pos hf]; exact h
theorem Age [Ext P] [Globs] [Aid P] {f:FuncId} {args:List AV} {S:List Ent} {tk:List Nat} {n:Nat} {r:AV} {S':List Ent} {tk':List Nat} {n':Nat} (hm:P.follows .mixedOrders=true) (h:cL P f args S tk n=some (r,S',tk',n')) {C:Cx} {vs:Array Value} (h1:C.S=S) (h2:C.tk=tk) (h3:C.n=n) (hs:SR C) (hv:VRs C args vs.toList) :
  Calls P f vs C.w fun e w'=>∃ v C',e=.returned v/\C'.w=w'/\Le C C'/\SR C'/\C'.S=S'/\C'.tk=tk'/\C'.n=n'/\VR C' r v:=by
 obtain ⟨k,hk⟩:=K4.1 h;exact (Ab4 (Ab2 hm) k _ _ _ _ _ _ _ _ _ hk).2 C vs h1 h2 h3 hs hv
end
end
end Go.Proofs.YtcjffhadclngmaaGreat
