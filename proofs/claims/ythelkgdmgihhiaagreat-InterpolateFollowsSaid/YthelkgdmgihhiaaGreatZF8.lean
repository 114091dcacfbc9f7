/- Part 8. -/
import Derived.Test.YthelkgdmgihhiaaGreatZF7
open Array renaming getElem?_eq_some_iff->Cj,getElem?_eq_getElem->Ft,getD_eq_getD_getElem?->Fz,length_toList->It,toList_setIfInBounds->Sg,getD->Sk,replicate->Sp
open Bool renaming and_eq_true->Ch,false_eq_true->C6,false_and->Ff,or_eq_false_iff->Fv,or_false->Fy,not_true->Gf,or_eq_true->Ib,not_eq_true'->Ih,false_or->N2,true_or->jI
open Go.Obj renaming cells->jR
open Go.Region renaming wanted->Sc
open Go.Result renaming andThen_ok->Fs
open Go.RowKit.Below renaming refl->Fw,cell->lF
open Go.Sem renaming run_bind->F0,run_pure->Iu
open List renaming replicate->Cg,length_cons->Ci,length_append->Cm,length_nil->Cu,getElem?_append_left->Cv,mem_append->C3,mem_cons->C4,range->C8,all_eq_true->C9,length_map->Fg,drop_zero->Fx,mem_map->F9,getElem?_cons_zero->Mf,foldl_cons->Sn,map_congr_left->Sv,mem_range->iG,contains_iff_mem->jN,countP_cons->jV
open Nat renaming le_refl->Ce,zero_add->Fm,le_trans->Fp,lt_of_lt_of_le->F3,lt_or_ge->Ig,lt_succ_self->I4,add_assoc->Oy,strongRecOn->So,lt_trichotomy->Sr,le_of_not_lt->iL,le_max_right->iP,le_max_left->iW,le_succ->kC
open Option renaming map_eq_some_iff->Cc,map_some->C7,isNone_iff_eq_none->Ie,bind_eq_some_iff->Ij,bind_some->Oj,getD_some->Ol,isSome_iff_exists->Su
open Option.some renaming injEq->Ba
open Prod.mk renaming injEq->Cf
namespace Go.Proofs.YthelkgdmgihhiaaGreat
section
open Go.RowKit
set_option maxHeartbeats 1000000
section
def rdS (o:Oper):Bool:=match o.op with|.load _ _=>true|_=>false
def wrS [Globs] (o:Oper):Bool:=match o.op with|.store _ _ _|.alloc _|.box _ _=>true|.makeSlice _ l _=>!R4 o l|.call c=>(match c.callee with|.builtin .copy=>true|.builtin .append=>Globs.own o.dst o.type|.value (.func f)=>shF f || xF f|.value _=>Globs.shAny || Globs.xAny|.invoke _ _=>true|_=>false)|_=>false
def wrT [Globs] (o:Oper):Bool:=match o.op with|.makeSlice _ l _=>R4 o l|.call c=>(match c.callee with|.builtin .append=>true|.value (.func f)=>xF f|.value _=>Globs.xAny|.invoke _ _=>true|_=>false)|_=>false
def rdA [Globs] (o:Oper):Bool:=match o.op with|.call c=>(match c.callee with|.value (.func f)=>shF f || xF f|.value _=>Globs.shAny || Globs.xAny|.invoke _ _=>true|.builtin .append=>Globs.shAny|_=>false)|_=>false
def conf [Globs] (p o:Oper):Bool:=(wrS p && wrS o) || (wrT p && wrT o) || (rdA p && (wrS o || wrT o)) || ((wrS p || wrT p) && rdA o)
def unwr (ops:Array Oper) (t:Tmp):Bool:=(C8 ops.size).all fun j=>B5 ops j != some t
def Wx (st:St) (ops:Array Oper) (i:Nat) (o:Oper):Option (Option Nat) :=
 match o.op with
 | .load _ (.tmp q) =>
  if unwr ops q=true then (match getT st.T q with|.ref id _ _=>if id<st.S.length then some (some id) else none|.fptr _=>some none|_=>none)
  else ((C8 i).findSome? fun (m:Nat)=>match (ops[m]? : Option Oper) with
   | some o'=>(match o'.dst,o'.op with
    | some d,.fieldAddr _ (.tmp x) _=>if d=q/\unwr ops x=true then (match getT st.T x with|.ref id _ _=>if id<st.S.length then some (some id) else none|.fptr _=>some none|_=>none) else none
    | _,_=>none)
   | none=>none)
 | _=>none
def M7 [Globs] (st:St) (ops:Array Oper) (i:Nat) (o p:Oper):Bool :=
 match Wx st ops i o with
 | none=>false
 | some none=>true
 | some (some id)=>match p.op with
  | .store _ (.tmp q) _=>unwr ops q && (match getT st.T q with|.ref id' _ _=>decide (id≠id')|_=>false)
  | .alloc _=>true
  | .box _ _=>true
  | .makeSlice _ _ _=>true
  | .call c=>(match c.callee with|.value (.func f)=>!xF f|.value _=>!Globs.xAny|_=>false)
  | _=>false
def Alj (o:Oper):Bool:=match o.op with|.alloc _|.box _ _|.makeSlice _ _ _=>true|_=>false
def opOk (ops:Array Oper) (i:Nat) (o:Oper):Bool :=
 (match o.op with|.select ..=>false|_=>true) && (depsOf ops i).all (fun j=>decide (j<i)) &&
 (match o.guard with|none=>true|some (g,_)=>(depsOf ops i).contains g) &&
 (o.dst.all fun d=>(C8 i).all fun j=>B5 ops j != some d) &&
 (o.op.operands.all fun x=>match x with
  | .tmp t=>(C8 ops.size).all fun j=>B5 ops j != some t || j == i || (reachAt ops i).contains j || (reachAt ops j).contains i
  | _=>true)
def isAl (o:Oper):Bool:=(match o.op with|.alloc _=>true|_=>false) && o.guard.isNone
def Eo (ops:Array Oper) (j i:Nat):Bool :=
 decide (i=j+1) && (match ops[j]?,ops[i]? with|some p,some o=>isAl p && isAl o|_,_=>false) &&
 (C8 ops.size).all fun k=>k == j || k == i || (reachAt ops k).contains j == (reachAt ops k).contains i
def X2 [Globs] (st:St) (L:List Oper):Bool :=
 (C8 L.length).all fun i=>match L.toArray[i]? with
  | none=>false
  | some o=>opOk L.toArray i o && (C8 i).all fun j=>match L.toArray[j]? with
   | none=>false
   | some p=>(!conf p o && !(wrS p && !lkOp p && rdS o) && !(rdS p && wrS o && !lkOp o)) || (reachAt L.toArray i).contains j || (!conf p o && (if rdS o=true then M7 st L.toArray i o p else (Alj o || (anOp o && o.dst.isSome) || M7 st L.toArray j p o))) || Eo L.toArray j i
def Bx [Globs] (st:St) (L:List Oper):Bool:=@X2 (gM (mdOf L)) st L
theorem SR_M [Globs] {C:Cx} : ∀ {M:Md},@SR (gM M) C↔SR C
 | .no=>Iff.rfl
 | .quiet=>⟨fun h=>⟨@SR.ent (gM .quiet) _ h,@SR.ne (gM .quiet) _ h,@SR.tok (gM .quiet) _ h,@SR.apart (gM .quiet) _ h,@SR.own (gM .quiet) _ h,@SR.avlt (gM .quiet) _ h,@SR.tlt (gM .quiet) _ h,@SR.glob (gM .quiet) _ h⟩,fun h=>@SR.mk (gM .quiet) _ h.ent h.ne h.tok h.apart h.own h.avlt h.tlt h.glob⟩
 | .look=>⟨fun h=>⟨@SR.ent (gM .look) _ h,@SR.ne (gM .look) _ h,@SR.tok (gM .look) _ h,@SR.apart (gM .look) _ h,@SR.own (gM .look) _ h,@SR.avlt (gM .look) _ h,@SR.tlt (gM .look) _ h,@SR.glob (gM .look) _ h⟩,fun h=>@SR.mk (gM .look) _ h.ent h.ne h.tok h.apart h.own h.avlt h.tlt h.glob⟩
 | .vals=>⟨fun h=>⟨@SR.ent (gM .vals) _ h,@SR.ne (gM .vals) _ h,@SR.tok (gM .vals) _ h,@SR.apart (gM .vals) _ h,@SR.own (gM .vals) _ h,@SR.avlt (gM .vals) _ h,@SR.tlt (gM .vals) _ h,@SR.glob (gM .vals) _ h⟩,fun h=>@SR.mk (gM .vals) _ h.ent h.ne h.tok h.apart h.own h.avlt h.tlt h.glob⟩
theorem At3 [Globs] {C:Cx} {st:St} {a:Act} {M:Md} : @Rel (gM M) C st a↔Rel C st a :=
 ⟨fun h=>⟨@Rel.S (gM M) _ _ _ h,@Rel.tk (gM M) _ _ _ h,@Rel.n (gM M) _ _ _ h,@Rel.tmps (gM M) _ _ _ h,@Rel.defers (gM M) _ _ _ h,SR_M.1 (@Rel.sr (gM M) _ _ _ h)⟩,fun h=>@Rel.mk (gM M) _ _ _ h.S h.tk h.n h.tmps h.defers (SR_M.2 h.sr)⟩
theorem Anw [Globs] {P:Program} {call:Bo} {M:Md} (h:K2 P call):@K2 (gM M) P call:=by
 intro f args S tk n r S' tk' n' e;refine ⟨(h _ _ _ _ _ _ _ _ _ e).1,fun C vs h1 h2 h3 hs hv=>((h _ _ _ _ _ _ _ _ _ e).2 C vs h1 h2 h3 (SR_M.1 hs) hv).mono ?_⟩;rintro e w' ⟨v,C',g1,g2,g3,g4,g5⟩;exact ⟨v,C',g1,g2,g3,SR_M.2 g4,g5⟩
theorem Dt {l:Array Bool} {i j:Nat} {b d:Bool} (h:i≠j):(l.setIfInBounds i b).getD j d=l.getD j d:=by
 simp [Fz,Array.getElem?_setIfInBounds_ne h]
theorem J7 {l:Array Bool} {i:Nat} {b d:Bool} (h:i<l.size):(l.setIfInBounds i b).getD i d=b:=by
 simp [Sk,h]
theorem Asa {P:Program} {t:TypeId} {d s:AV} {S S':List Ent} {n:Nat} (h:cpA P t d s S=some (n,S')):S'.length=S.length:=by
 unfold cpA at h;split at h
 ·split at h
  ·split at h
   ·split at h
    ·split at h
     ·simp only [Ba,Cf] at h;obtain ⟨-,rfl⟩:=h;exact Am
     ·simp at h
    ·simp at h
   ·simp at h
  ·simp at h
 ·simp at h
theorem Ar4 {P:Program} {t:TypeId} {x y v:AV} {S S':List Ent} {n n':Nat} (h:apO P t x y S n=some (v,S',n')):S.length<=S'.length:=by
 unfold apO at h;split at h
 ·split at h
  ·split at h
   ·unfold apO2 at h;split at h
    ·simp only [Ba,Cf] at h;obtain ⟨-,rfl,-⟩:=h;simp
    ·split at h
     ·split at h
      ·split at h
       ·simp only [Ba,Cf] at h;obtain ⟨-,rfl,-⟩:=h;rw [Am];exact Ya39
       ·simp at h
      ·simp at h
     ·simp at h
    ·simp at h
   ·simp at h
  ·simp at h
 ·simp at h
theorem Am4 {P:Program} {t:TypeId} {v:AV} {S S':List Ent} {i e o id:Nat} (h:stA P t (.ref i e o) v S=some S') (hne:i≠id):nth S' id=nth S id:=by
 unfold stA at h;cases h1:szOf P t with
 | none=>rw [h1] at h; simp at h
 | some sz =>
  cases h2:cellsOf v with
  | none=>rw [h1,h2] at h; simp at h
  | some vs =>
   rw [h1,h2] at h;simp only at h;split at h
   ·cases h3:entAt S i e with
    | none=>rw [h3] at h; simp at h
    | some cs =>
     rw [h3] at h;simp only at h;cases h4:over cs o vs with
     | none=>rw [h4] at h; simp at h
     | some cs'=>rw [h4] at h; simp only [Ba] at h; subst h; exact Ae hne
   ·simp at h
variable {P:Program} {ops:Array Oper}
theorem Gt {listed:Array Bool} {i:Nat} (h:listed.getD i true=false):listed.getD i false=false/\i<listed.size:=by
 by_cases hi:i<listed.size
 ·exact ⟨by simpa [Sk,hi] using h,hi⟩
 ·simp [Sk,hi] at h
def El (listed:Array Bool) (n:Nat):Nat:=(C8 n).countP fun j=>listed.getD j false=false
theorem Ab6 {listed:Array Bool} {n i:Nat} (hi:i<n) (hl:listed.size=n) (hu:listed.getD i false=false):El (listed.setIfInBounds i true) n+1<=El listed n:=by
 have key:∀ (l:List Nat),l.Nodup->(l.countP fun j=>(listed.setIfInBounds i true).getD j false=false)+(if i ∈ l then 1 else 0)=l.countP fun j=>listed.getD j false=false:=by
  intro l;induction l with
  | nil=>intro _; simp
  | cons x l ih =>
   intro hn;rw [List.nodup_cons] at hn;have ih:=ih hn.2;by_cases e:x=i
   ·subst e;have h1:(listed.setIfInBounds x true).getD x false=true:=J7 aA;rw [jV,jV,h1,hu,if_neg hn.1] at *;simp at ih ⊢;omega
   ·have h1:(listed.setIfInBounds i true).getD x false=listed.getD x false:=Dt (fun y=>e y.symm);rw [jV,jV,h1];have:(i ∈ x :: l)↔i ∈ l:=by rw [C4]; exact ⟨fun h=>h.resolve_left fun y=>e y.symm,.inr⟩
    simp only [this];omega
 have:=key (C8 n) List.nodup_range;rw [if_pos fU] at this;unfold El;omega
theorem Akx {o:Oper} {ρ ρ':Operand->AV} (h:∀ x ∈ o.op.operands,ρ x=ρ' x):evQ P o ρ=evQ P o ρ':=by
 obtain ⟨dst,op,type,pos,after,guard⟩:=o;have pairs:∀ ps:Array (Nat × Operand),(∀ x ∈ ps.map (·.2),ρ x=ρ' x)->(ps.toList.map fun (i,x)=>(i,ρ x))=(ps.toList.map fun (i,x)=>(i,ρ' x)):=fun ps hp =>
  Sv fun p hm=>by
   obtain ⟨i,x⟩:=p;simp only [hp x (Array.mem_map.2 ⟨(i,x),bX,rfl⟩)]
 have lists:∀ xs:Array Operand,(∀ x ∈ xs,ρ x=ρ' x)->xs.toList.map ρ=xs.toList.map ρ':=fun xs hx=>Sv fun x hm=>hx x bX;cases op <;> simp only [Op.operands] at h <;> simp only [evQ];case build t ps=>rw [pairs ps fun x hx=>h x dA]
 case buildSlice t n ps=>rw [pairs ps fun x hx=>h x dA]
 case slice t x lo hi mx=>cases lo <;> cases hi <;> cases mx <;> simp_all
 case makeFunc fn first caps =>
  have h1:=lists caps fun x hx=>h x bN
  have h2:(caps.toList.all fun x=>Lk (ρ x))=(caps.toList.all fun x=>Lk (ρ' x)):=by
   have:∀ f:Operand->AV,(caps.toList.all fun x=>Lk (f x))=(caps.toList.map f).all Lk:=fun f=>by rw [List.all_map]; rfl
   rw [this,this,h1]
  have h3:=lists first fun x hx=>h x bN
  cases fn with
  | func f=>simp only [h1,h2,h3]
  | method m =>
   simp only
   split
   ·rename_i x hf _
    rw [h x (by
      have:x ∈ first:=by rw [<- Array.mem_toList_iff,hf]; simp
      simp [this])]
   ·rfl
  | _=>rfl
 case call c =>
  have h1:=lists c.args fun x hx=>h x (by simp [Call.operands,hx])
  rw [h1]
 all_goals first|rfl|(simp_all; done)|skip
def Aqe [Globs] (P:Program) (call:Bo) (o:Oper) (s s':St) (v:AV):Prop :=
  s'.T=s.T/\(wrS o=false->s'.S=s.S/\s'.n=s.n)/\(wrT o=false->s'.tk=s.tk) /\
  ∀ s2:St,(∀ x ∈ o.op.operands,opv s2.T x=opv s.T x)->(∀ t x,o.op=.load t x->ldA P t (opv s.T x) s2.S=ldA P t (opv s.T x) s.S)->(wrS o=true->s2.S=s.S/\s2.n=s.n)->(wrT o=true->s2.tk=s.tk)->(rdA o=true->s2.S=s.S/\s2.n=s.n/\s2.tk=s.tk) ->
   ∃ s2',evO P call o s2=some (v,s2')/\s2'.T=s2.T/\(wrS o=true->s2'.S=s'.S/\s2'.n=s'.n)/\(wrS o=false->s2'.S=s2.S/\s2'.n=s2.n)/\(wrT o=true->s2'.tk=s'.tk)/\(wrT o=false->s2'.tk=s2.tk)
theorem Um [Globs] {call:Bo} {o:Oper} {s s':St} {v v':AV} (hq:evQ P o (opv s.T)=some v') (e:(v',s)=(v,s')) (hw:wrS o=false) (ht:wrT o=false) (bw:∀ s2:St,evO P call o s2=(evQ P o (opv s2.T)).map fun v=>(v,s2)):Aqe P call o s s' v:=by
 simp only [Cf] at e;obtain ⟨rfl,rfl⟩:=e;exact ⟨rfl,fun _=>⟨rfl,rfl⟩,fun _=>rfl,fun s2 h2 _ _ _ _=>⟨s2,by rw [bw,Akx h2,hq]; rfl,rfl,fun h=>by rw [hw] at h; simp at h,fun _=>⟨rfl,rfl⟩,fun h=>by rw [ht] at h; simp at h,fun _=>rfl⟩⟩
theorem Uc [Globs] {call:Bo} (hi:Tr call) {o:Oper} {s s':St} {v:AV} (a00:(match o.op with|.select ..=>false|_=>true)=true) (h:evO P call o s=some (v,s')):Aqe P call o s s' v:=by
 obtain ⟨dst,op,type,pos,after,guard⟩:=o;cases op;case load t x =>
  simp only [evO,Cc,Cf] at h
  obtain ⟨u,h,rfl,rfl⟩:=h
  refine ⟨rfl,fun _=>⟨rfl,rfl⟩,fun _=>rfl,fun s2 h2 hR _ _ _=>⟨s2,?_,rfl,bV,fun _=>⟨rfl,rfl⟩,by simp [wrT],fun _=>rfl⟩⟩
  have e:ldA P t (opv s.T x) s2.S=ldA P t (opv s.T x) s.S:=hR t x rfl
  simp only [evO,h2 x cK,e,h,C7]
 case store t x y =>
  simp only [evO,Cc,Cf] at h
  obtain ⟨u,h,rfl,rfl⟩:=h
  refine ⟨rfl,bV,fun _=>rfl,fun s2 h2 _ hS _ _=>⟨{ s2 with S:=u },?_,rfl,fun _=>⟨rfl,(hS bV).2⟩,bV,by simp [wrT],fun _=>rfl⟩⟩
  simp only [evO,h2 x cK,h2 y cK,(hS bV).1,h,C7]
 case alloc t =>
  simp only [evO,Cc,Cf] at h
  obtain ⟨u,h,rfl,rfl⟩:=h
  refine ⟨rfl,bV,fun _=>rfl,fun s2 h2 _ hS _ _=>?_⟩
  obtain ⟨e1,e2⟩:=hS bV
  exact ⟨{ s2 with S:=s2.S++[⟨s2.n,u⟩],n:=s2.n+1 },by simp only [evO,h,C7,e1,e2],rfl,fun _=>by simp [e1,e2],bV,by simp [wrT],fun _=>rfl⟩
 case box t x =>
  simp only [evO,Cc,Cf] at h
  obtain ⟨u,h,rfl,rfl⟩:=h
  refine ⟨rfl,bV,fun _=>rfl,fun s2 h2 _ hS _ _=>?_⟩
  obtain ⟨e1,e2⟩:=hS bV
  exact ⟨{ s2 with S:=s2.S++[⟨s2.n,u⟩],n:=s2.n+1 },by simp only [evO,h2 x cK,h,C7,e1,e2],rfl,fun _=>by simp [e1,e2],bV,by simp [wrT],fun _=>rfl⟩
 case makeSlice t l c =>
  simp only [evO,Cc,Prod.exists] at h
  obtain ⟨l',sz,cs,h,hh⟩:=h
  split at hh
  ·rename_i hl
   simp only [Cf] at hh
   obtain ⟨rfl,rfl⟩:=hh
   refine ⟨rfl,fun _=>⟨rfl,rfl⟩,by simp [wrT,hl],fun s2 h2 _ _ hT _=>?_⟩
   have e:=hT (by simp [wrT,hl])
   exact ⟨{ s2 with tk:=s2.tk++[0] },by simp only [evO,h2 l cK,h2 c cK,h,C7,hl,if_true,e],rfl,by simp [wrS,hl],fun _=>⟨rfl,rfl⟩,fun _=>by simp [e],by simp [wrT,hl]⟩
  ·rename_i hl
   simp only [Cf] at hh
   obtain ⟨rfl,rfl⟩:=hh
   have p9:R4 ⟨dst,.makeSlice t l c,type,pos,after,guard⟩ l=false:=cD
   refine ⟨rfl,by simp [wrS,p9],fun _=>rfl,fun s2 h2 _ hS _ _=>?_⟩
   obtain ⟨e1,e2⟩:=hS (by simp [wrS,p9])
   exact ⟨{ s2 with S:=s2.S++[⟨s2.n,cs⟩],n:=s2.n+1 },by simp only [evO,h2 l cK,h2 c cK,h,C7,p9,e1,e2]; rfl,rfl,fun _=>by simp [e1,e2],by simp [wrS,p9],by simp [wrT,p9],fun _=>rfl⟩
 case call c =>
  have aa:∀ s2:St,(∀ x ∈ (Op.call c).operands,opv s2.T x=opv s.T x)->c.args.toList.map (opv s2.T)=c.args.toList.map (opv s.T):=fun s2 h2=>Sv fun x hx=>h2 x (by simp [Op.operands,Call.operands]; right; simpa using hx)
  cases ao:c.callee with
  | builtin b =>
   by_cases hb:b=.append
   ·subst hb
    simp only [evO,ao] at h
    split at h
    ·rename_i x y t t' ja ht
     split at h
     ·rename_i how
      split at h
      ·rename_i u0
       simp only [Cc,Cf,Prod.exists] at h
       obtain ⟨u,S',n',h,rfl,rfl⟩:=h
       have hw:wrS ⟨dst,.call c,type,pos,after,guard⟩=true:=by simpa [wrS,ao] using how
       refine ⟨rfl,fun hf=>by rw [hw] at hf; simp at hf,fun _=>rfl,fun s2 h2 _ hS hT _=>?_⟩
       obtain ⟨e1,e2⟩:=hS hw
       have e3:=hT cV
       refine ⟨{ s2 with S:=S',n:=n' },?_,rfl,fun _=>⟨rfl,rfl⟩,fun hf=>by rw [hw] at hf; simp at hf,fun _=>e3,fun _=>rfl⟩
       simp only [evO,ao,aa s2 h2,ja,ht,how,u0,if_true,e1,e2]
       subst u0
       simp only [h,C7]
      ·simp at h
     rename_i how
     have zx:wrS ⟨dst,.call c,type,pos,after,guard⟩=false:=by simpa [wrS,ao] using how
     split at h
     ·rename_i u0
      simp only [Cc,Cf,Prod.exists] at h
      obtain ⟨u,tk',h,rfl,rfl⟩:=h
      refine ⟨rfl,fun _=>⟨rfl,rfl⟩,cV,fun s2 h2 _ _ hT hA=>⟨{ s2 with tk:=tk' },?_,rfl,fun hf=>by rw [zx] at hf; simp at hf,fun _=>⟨rfl,rfl⟩,fun _=>rfl,cV⟩⟩
      have e:=hT cV
      have bm:apB1 P t x y s.tk s2.S=apB1 P t x y s.tk s.S:=by
       cases vv:(Globs.shAny:Bool) with
       | true=>rw [(hA (by simp [rdA,ao,vv])).1]
       | false=>unfold apB1; simp [vv]
      simp only [evO,ao,aa s2 h2,ja,ht,u0,if_true,e,if_neg how]
      subst u0
      rw [bm]
      simp only [h,C7]
     ·rename_i u0
      simp only [Cc,Cf,Prod.exists] at h
      obtain ⟨u,tk',h,rfl,rfl⟩:=h
      refine ⟨rfl,fun _=>⟨rfl,rfl⟩,cV,fun s2 h2 _ _ hT _=>⟨{ s2 with tk:=tk' },?_,rfl,fun hf=>by rw [zx] at hf; simp at hf,fun _=>⟨rfl,rfl⟩,fun _=>rfl,cV⟩⟩
      have e:=hT cV
      simp only [evO,ao,aa s2 h2,ja,ht,e,if_neg u0,h,C7,if_neg how]
    ·simp at h
   ·by_cases hb2:b=.copy
    ·subst hb2
     simp only [evO,ao] at h
     split at h
     ·rename_i x y t t' ja ht
      simp only [Cc,Cf,Prod.exists] at h
      obtain ⟨m,S',h,rfl,rfl⟩:=h
      refine ⟨rfl,gI,fun _=>rfl,fun s2 h2 _ hS _ _=>⟨{ s2 with S:=S' },?_,rfl,fun _=>⟨rfl,(hS gI).2⟩,gI,cV,fun _=>rfl⟩⟩
      simp only [evO,ao,aa s2 h2,ja,ht,(hS gI).1,h,C7]
     ·simp at h
    ·have bw:∀ s2:St,evO P call ⟨dst,.call c,type,pos,after,guard⟩ s2=(evQ P ⟨dst,.call c,type,pos,after,guard⟩ (opv s2.T)).map fun v=>(v,s2):=by
      intro s2;simp only [evO,ao]
     rw [bw] at h
     simp only [Cc] at h
     obtain ⟨v',h1,h2⟩:=h
     exact Um h1 h2 (by cases b <;> simp [wrS,ao] at hb hb2 ⊢) (by cases b <;> simp [wrT,ao] at hb ⊢) bw
  | value fx =>
   simp only [evO,ao] at h
   split at h
   ·rename_i f args gc
    simp only [Cc,Cf,Prod.exists] at h
    obtain ⟨r,S',tk',n',h,rfl,rfl⟩:=h
    have xw:∀ s2:St,(∀ x ∈ (Op.call c).operands,opv s2.T x=opv s.T x)->Ew P s2.T c=some (f,args):=by
     intro s2 h2;rw [<- gc];unfold Ew;rw [ao];simp only [aa s2 h2,h2 fx Za4s]
    have xt:∀ g,fx=.func g->g=f:=by
     rintro g rfl;unfold Ew at gc;rw [ao] at gc;simp only [opv,Ba,Cf] at gc;exact gc.1
    rcases hi _ _ _ _ _ _ _ _ _ h with hxd|⟨rfl,rfl,g8⟩
    ·have hxf:xF f=true:=by simp only [Ch] at hxd; exact hxd.1
     have qw:(Globs.xAny:Bool)=true:=by unfold xF at hxf; simp only [Ch] at hxf; exact hxf.1
     have xx:rdA ⟨dst,.call c,type,pos,after,guard⟩=true:=by
      simp only [rdA,ao];exact Ya2g
     have xy:wrS ⟨dst,.call c,type,pos,after,guard⟩=true:=by
      simp only [wrS,ao];exact Ya2g
     have hwt:wrT ⟨dst,.call c,type,pos,after,guard⟩=true:=by
      simp only [wrT,ao];cases fx with
      | func g=>simp only [xt g rfl,hxf]
      | _=>exact qw
     refine ⟨rfl,fun hw=>fB,fun hw=>by rw [hwt] at hw; simp at hw,fun s2 h2 _ _ _ hA=>?_⟩
     obtain ⟨a1,a2,a3⟩:=hA xx
     refine ⟨{ s2 with S:=S',tk:=tk',n:=n' },?_,rfl,fun _=>⟨rfl,rfl⟩,fun hw=>fB,fun _=>rfl,fun hw=>by rw [hwt] at hw; simp at hw⟩
     simp only [evO,ao,xw s2 h2]
     rw [a1,a2,a3,h]
     rfl
    by_cases vv:shF f=true
    ·have qw:(Globs.shAny:Bool)=true:=by unfold shF at vv; simp only [Ch] at vv; exact vv.1
     have xx:rdA ⟨dst,.call c,type,pos,after,guard⟩=true:=by
      simp only [rdA,ao];exact Ya2k
     have xy:wrS ⟨dst,.call c,type,pos,after,guard⟩=true:=by
      simp only [wrS,ao];exact Ya2k
     refine ⟨rfl,fun hw=>fB,fun _=>rfl,fun s2 h2 _ _ _ hA=>?_⟩
     obtain ⟨a1,a2,a3⟩:=hA xx
     refine ⟨{ s2 with n:=n' },?_,rfl,fun _=>⟨a1,rfl⟩,fun hw=>fB,fun _=>a3,fun _=>rfl⟩
     simp only [evO,ao,xw s2 h2]
     rw [a1,a2,a3,h]
     simp only [C7,<- a1,<- a3]
    ·obtain ⟨hnn,a25⟩:=g8.resolve_left vv
     subst hnn
     refine ⟨rfl,fun _=>⟨rfl,rfl⟩,fun _=>rfl,fun s2 h2 _ hS hT _=>⟨s2,?_,rfl,fun hw=>?_,fun _=>⟨rfl,rfl⟩,fun hw=>?_,fun _=>rfl⟩⟩
     ·simp only [evO,ao,xw s2 h2,a25 s2.S s2.tk s2.n,C7]
     ·exact hS hw
     ·exact hT hw
   ·simp at h
  | invoke rx m =>
   simp only [evO,ao] at h
   split at h
   ·rename_i f args gc
    simp only [Cc,Cf,Prod.exists] at h
    obtain ⟨r,S',tk',n',h,rfl,rfl⟩:=h
    have xw:∀ s2:St,(∀ x ∈ (Op.call c).operands,opv s2.T x=opv s.T x)->Ew P s2.T c=some (f,args):=by
     intro s2 h2;rw [<- gc];unfold Ew;rw [ao];simp only [aa s2 h2,h2 rx Za4s]
    refine ⟨rfl,fun hw=>by simp [wrS,ao] at hw,fun hw=>by simp [wrT,ao] at hw,fun s2 h2 _ _ _ hA=>?_⟩
    obtain ⟨a1,a2,a3⟩:=hA (by simp [rdA,ao])
    refine ⟨{ s2 with S:=S',tk:=tk',n:=n' },?_,rfl,fun _=>⟨rfl,rfl⟩,fun hw=>by simp [wrS,ao] at hw,fun _=>rfl,fun hw=>by simp [wrT,ao] at hw⟩
    simp only [evO,ao,xw s2 h2]
    rw [a1,a2,a3,h]
    rfl
   ·simp at h
 all_goals first
  | (simp at a00; done)
  | (simp only [evO,Cc] at h
     obtain ⟨v', h1, h2⟩ := h
     exact Um h1 h2 rfl rfl (fun s2 => by simp only [evO]))
def Ajf [Globs] (P:Program) (call:Bo) (all:List Oper) (o:Oper) (s s':St) (v:AV):Prop :=
 (H9 all s.T o=some false/\v=.prim undef/\s'={ s with T:=putT s.T o.dst v })\/(H9 all s.T o=some true/\∃ s1,evO P call o s=some (v,s1)/\chkO P all o s v s1=true/\s'={ s1 with T:=putT s1.T o.dst v })
theorem Ard [Globs] {call:Bo} {all:List Oper} : ∀ {l:List Oper} {st st':St},evOs P call all l st=some st'->∃ (sts:Nat->St) (val:Nat->AV),sts 0=st/\sts l.length=st'/\∀ (i:Nat) o,l[i]?=some o->Ajf P call all o (sts i) (sts (i+1)) (val i)
 | [],st,st',h=>by
  simp only [evOs,Ba] at h; subst h;exact ⟨fun _=>st,fun _=>.bot,rfl,rfl,by simp⟩
 | o :: l,st,st',h=>by
  have key:∀ {s1:St} {v:AV},Ajf P call all o st s1 v->evOs P call all l s1=some st'->∃ (sts:Nat->St) (val:Nat->AV),sts 0=st/\sts (o :: l).length=st'/\∀ (i:Nat) o',(o :: l)[i]?=some o'->Ajf P call all o' (sts i) (sts (i+1)) (val i):=by
   intro s1 v hs h;obtain ⟨sts,val,h1,h2,h3⟩:=Ard h;refine ⟨fun|0=>st|i+1=>sts i,fun|0=>v|i+1=>val i,rfl,h2,fun i o' ho=>?_⟩;cases i with
   | zero =>
    simp only [Mf,Ba] at ho; subst ho;show Ajf P call all o st (sts 0) v;rw [h1]; exact hs
   | succ i=>exact h3 i o' fY
  simp only [evOs] at h;split at h
  ·simp at h
  ·rename_i hw;exact key (.inl ⟨hw,rfl,rfl⟩) h
  ·rename_i hw;split at h
   ·rename_i v s1 ho;split at h
    ·rename_i om;exact key (.inr ⟨hw,s1,ho,om,rfl⟩) h
    ·simp at h
   ·simp at h
theorem Jg (T:List AV) (d:Option Tmp) (v:AV):(putT T d v).length=T.length:=by
 cases d <;> simp [putT,Am]
theorem H0:∀ {T:List AV} {d:Nat} {v:AV},d<T.length->getT (put T d v) d=v
 | _ :: _,0,_,_=>rfl
 | _ :: T,d+1,v,h=>H0 (T:=T) aL
 | [],_,_,h=>aO
theorem B8:∀ {T:List AV} {d t:Nat} {v:AV},d≠t->getT (put T d v) t=getT T t
 | _ :: _,0,0,_,h=>absurd rfl h
 | _ :: _,0,_+1,_,_=>rfl
 | _ :: _,_+1,0,_,_=>rfl
 | _ :: T,d+1,t+1,v,h=>B8 (T:=T) aA
 | [],_,_,_,_=>rfl
theorem Afk:∀ {T T':List AV},T.length=T'.length->(∀ t,getT T t=getT T' t)->T=T'
 | [],[],_,_=>rfl
 | x :: T,y :: T',h,hg=>by
  have h0:=hg 0;simp only [getT] at h0;rw [h0,Afk (T:=T) (T':=T') aL fun t=>hg (t+1)]
 | [],_ :: _,h,_=>aO
 | _ :: _,[],h,_=>aO
def Aio (w:Nat->Bool) (listed:Array Bool) (n c:Nat):Prop:=c<=n/\(∀ j,j<c->w j=true->listed.getD j false=true)/\(c<n->w c=true/\listed.getD c false=false)
theorem Mm (w:Nat->Bool) (listed:Array Bool) (n:Nat):∀ k c,n - c<=k->c<=n->(∀ j,j<c->w j=true->listed.getD j false=true)->∃ c',c<=c'/\Aio w listed n c'/\∀ j,c<=j->j<c'->w j=true->listed.getD j false=true
 | 0,c,hk,hc,h=>⟨c,Ce _,⟨hc,h,fun h=>aA⟩,fun j h1 h2=>aA⟩
 | k+1,c,hk,hc,h=>by
  by_cases hn:c<n/\w c=true/\listed.getD c false=false
  ·exact ⟨c,Ce _,⟨hc,h,fun _=>hn.2⟩,fun j h1 h2=>aA⟩
  ·by_cases ww:c<n
   ·obtain ⟨c',h1,h2,h3⟩:=Mm w listed n k (c+1) aA aA (fun j hj hw=>by
     by_cases e:j=c
     ·subst e;cases hl:listed.getD j false with
      | true=>rfl
      | false=>exact absurd ⟨ww,hw,hl⟩ hn
     ·exact h j aA hw)
    exact ⟨c',aA,h2,fun j h4 h5 hw=>h2.2.1 j h5 hw⟩
   ·exact ⟨c,Ce _,⟨hc,h,fun h=>absurd h ww⟩,fun j h1 h2=>aA⟩
def wS [Globs] (ops:Array Oper) (j:Nat):Bool:=match ops[j]? with|some o=>wrS o|none=>false
def wT [Globs] (ops:Array Oper) (j:Nat):Bool:=match ops[j]? with|some o=>wrT o|none=>false
structure DInv [Globs] (ops:Array Oper) (st:St) (sts:Nat->St) (val:Nat->AV) (listed:Array Bool) (s:St):Prop where
 len:listed.size=ops.size
 closed:∀ j,listed.getD j false=true->∀ e ∈ depsOf ops j,listed.getD e false=true
 lenT:s.T.length=st.T.length
 t1:∀ j t,listed.getD j false=true->B5 ops j=some t->(∀ e,Eo ops e j=true->listed.getD e false=true)->getT s.T t=if t<st.T.length then val j else .bot
 t2:∀ t,(∀ j,listed.getD j false=true->B5 ops j≠some t)->getT s.T t=getT st.T t
 cS:∃ c,Aio (wS ops) listed ops.size c/\s.S=(sts c).S/\s.n=(sts c).n
 cT:∃ c,Aio (wT ops) listed ops.size c/\s.tk=(sts c).tk
theorem Qz {o:Oper} (h:isAl o=true):∃ t,o.op=.alloc t/\o.guard=none:=by
 unfold isAl at h;simp only [Ch,Ie] at h;obtain ⟨h1,h2⟩:=h;split at h1
 ·rename_i t e; exact ⟨t,e,h2⟩
 ·simp at h1
theorem Jd [Globs] {o:Oper} (h:isAl o=true):wrS o=true/\rdS o=false/\wrT o=false:=by
 obtain ⟨t,e,-⟩:=Qz h;exact ⟨by simp [wrS,e],by simp [rdS,e],by simp [wrT,e]⟩
theorem Jf {i j:Nat} (h:Eo ops j i=true):∃ p o,ops[j]?=some p/\ops[i]?=some o/\(isAl p=true/\rdS p=false)/\isAl o=true/\rdS o=false:=by
 unfold Eo at h;simp only [Ch] at h;obtain ⟨⟨-,h⟩,-⟩:=h;split at h
 ·rename_i p o h1 h2;simp only [Ch] at h;have key:∀ {o:Oper},isAl o=true->rdS o=false:=fun h=>by
   obtain ⟨t,e,-⟩:=Qz h;simp [rdS,e]
  exact ⟨p,o,h1,h2,⟨h.1,key h.1⟩,h.2,key h.2⟩
 ·simp at h
theorem Gv {i j:Nat} (h:Eo ops j i=true):i=j+1:=by
 unfold Eo at h;simp only [Ch,decide_eq_true_eq] at h;exact h.1.1
theorem Vc {i j:Nat} (h:Eo ops j i=true):j<ops.size/\i<ops.size:=by
 obtain ⟨p,o,h1,h2,-⟩:=Jf h;exact ⟨(Cj.1 h1).1,(Cj.1 h2).1⟩
theorem Q9 {i j k:Nat} (h:Eo ops j i=true) (hk:k<ops.size) (h1:k≠j) (h2:k≠i):j ∈ reachAt ops k↔i ∈ reachAt ops k:=by
 unfold Eo at h;simp only [Ch] at h;have h3:=C9.1 h.2 k (by simpa using hk);simp only [Ib,beq_iff_eq] at h3;rcases h3 with (h3|h3)|h3
 ·exact absurd h3 h1
 ·exact absurd h3 h2
 ·rw [<- jN,<- jN,h3]
structure Le0 (C C':Cx):Prop where
 n:C.n<=C'.n
 stays:Stays C.w C'.w C.Avoid C'.Avoid
 shape:∀ (b:Nat) (cs:Array Value) (t:TypeId) (fz:Nat × Nat),C.w.heap[b]?=some (jR cs t fz)->∃ cs':Array Value,C'.w.heap[b]?=some (jR cs' t fz)/\cs'.size=cs.size
 ent:∀ id e',nth C'.S id=some e'->e'.ep<C.n->∃ e,nth C.S id=some e/\e.ep=e'.ep/\C'.φ id=C.φ id
 tok:∀ id k,nth C.tk id=some k->∃ k',nth C'.tk id=some k'/\k<=k'/\(k'=k->C'.ψ id=C.ψ id)
theorem CapR.mono0 {C C':Cx} (h:Le0 C C') {c a len cap} (hc:CapR C c a len cap):CapR C' c a len cap:=by
 exact Yau
mutual
theorem VR.mono0 {C C':Cx} (h:Le0 C C'):∀ (c:AV) (x:Value),VR C c x->VR C' c x
 | .bot,_,_=>bU
 | .prim _,_,hx=>by simpa only [VR] using hx
 | .frz es c,x,hx=>by
  simp only [VR] at hx ⊢;obtain ⟨a,len,cap,e,h1,h2,h3,h4⟩:=hx;refine ⟨a,len,cap,e,h1,h2,h3.mono0 h,h4.imp id ?_⟩;rintro ⟨b,o,sz,ea,hr⟩;exact ⟨b,o,sz,ea,B4.stays h.stays b sz o es hr⟩
 | .fptr cs,x,hx=>by
  exact Ya1h
 | .agg cs,x,hx=>by
  exact Ya2b
 | .tup cs,x,hx=>by
  exact Ya2b
 | .ref id ep off,x,hx=>by
  exact Ya0m
 | .sref id ep off len sz,x,hx=>by
  exact Yaw
 | .fn f caps,x,hx=>by
  exact Ya25
 | .bfn f caps,x,hx=>by
  exact Ya25
 | .ifc t v,x,hx=>by
  exact Ya31
 | .mfn t m v,x,hx=>by
  exact Ya31
 | .lit len cs,x,hx=>by
  simp only [VR] at hx ⊢;obtain ⟨b,vs,e,hl,hr⟩:=hx;exact ⟨b,vs,e,hl.stays h.stays,VRs.mono0 h cs vs hr⟩
theorem VRs.mono0 {C C':Cx} (h:Le0 C C'):∀ (cs:List AV) (vs:List Value),VRs C cs vs->VRs C' cs vs
 | [],[],_=>cE
 | c :: cs,v :: vs,hx=>by simp only [VRs] at hx ⊢; exact ⟨VR.mono0 h c v hx.1,VRs.mono0 h cs vs hx.2⟩
 | [],_ :: _,hx=>fG
 | _ :: _,[],hx=>fG
end
def Cx.hid (C:Cx) (arr:Array Value) (t:TypeId):Cx:={ C with w:=C.w.alloc (.cells arr t),av:=fun x o=>C.av x o\/x=C.w.heap.size }
theorem Al4 [Globs] {C:Cx} (hs:SR C) {b o:Nat} (h:C.Mut b o):b<C.w.heap.size:=by
 rcases h with ⟨i,hi,e⟩|⟨i,hi,e,h1,h2⟩
 ·rw [<- e]; exact P8 hs hi
 ·rw [<- e]; exact hs.tlt i o hi h1 h2
theorem Le0.hid [Globs] {C:Cx} (arr:Array Value) (t:TypeId):Le0 C (C.hid arr t):=by
 have hb:Below C.w.heap.size C.w (C.w.alloc (.cells arr t)):=(Fw _ _).alloc (Ce _) _;refine ⟨Ce _,fun b o v hv ha=>⟨by rw [show (C.hid arr t).w=C.w.alloc (.cells arr t) from rfl,lF hb (Gx hv)]; exact hv,?_⟩,fun b d t' fz hd=>⟨d,Dr hb hd,rfl⟩,fun _ e he _=>⟨e,he,rfl,rfl⟩,fun _ k hk=>⟨k,hk,Ce _,fun _=>rfl⟩⟩;rintro ((h|h)|h)
 ·exact ha (.inl h)
 ·have:=Gx hv; omega
 ·exact ha (.inr h)
theorem SR.hid [Globs] {C:Cx} (hs:SR C) (arr:Array Value) (t:TypeId):SR (C.hid arr t):=by
 have hb:Below C.w.heap.size C.w (C.w.alloc (.cells arr t)):=(Fw _ _).alloc (Ce _) _;refine ⟨fun i x hx=>?_,hs.ne,hs.tok,hs.apart,fun b o hm=>?_,fun b o ha=>?_,fun i o hi h1 h2=>F3 (hs.tlt i o hi h1 h2) hb.size,fun g a hg=>?_⟩
 ·obtain ⟨g1,d,t',g2,vs',r',vr,g3⟩:=hs.ent i x hx;exact ⟨g1,d,t',Dr hb g2,vs',r',vr,VRs.mono0 (Le0.hid arr t) _ _ g3⟩
 ·have fg:C.Mut b o:=hm;have:=Al4 hs fg;rintro (h|h)
  ·exact hs.own b o fg h
  ·omega
 ·rcases ha with h|h
  ·exact F3 (hs.avlt b o h) hb.size
  ·subst h;exact (Cj.1 (Ax C.w (.cells arr t))).1
 ·obtain ⟨⟨t',fz,h1⟩,h2⟩:=hs.glob g a hg;exact ⟨⟨t',fz,Dr hb h1⟩,fun i=>.inl (h2 i)⟩
def Cx.rev (C:Cx) (av0:Nat->Nat->Prop) (b:Nat) (cs:List AV):Cx :=
 { C with av:=av0,φ:=fun i=>if i=C.S.length then b else C.φ i,S:=C.S++[⟨C.n,cs⟩],n:=C.n+1 }
section
variable {C:Cx} {av0:Nat->Nat->Prop} {b:Nat}
theorem Yw {cs:List AV} {x o:Nat} (h:(C.rev av0 b cs).Mut x o):C.Mut x o\/x=b:=by
 rcases h with ⟨i,hi,e⟩|h
 ·simp only [Cx.rev,Cm,Ci,Cu] at hi e;split at e
  ·exact .inr e.symm
  ·exact .inl (.inl ⟨i,aA,e⟩)
 ·exact .inl (.inr h)
theorem Le0.rev (eg:∀ o,C.av b o) (ju:∀ x o,x≠b->(C.av x o↔av0 x o)) (h0:∀ o,¬ av0 b o) (cs:List AV):Le0 C (C.rev av0 b cs):=by
 refine ⟨kC _,fun x o v hv ha=>⟨hv,?_⟩,fun _ d _ _ hd=>⟨d,hd,rfl⟩,fun i x hx hn=>?_,fun _ k hk=>⟨k,hk,Ce _,fun _=>rfl⟩⟩
 ·rintro (h|h)
  ·by_cases e:x=b
   ·subst e; exact h0 o h
   ·exact ha (.inl ((ju x o e).2 h))
  ·rcases Yw h with h|h
   ·exact ha (.inr h)
   ·subst h; exact ha (.inl (eg o))
 ·rcases Ky hx with ⟨h1,h2⟩|⟨h1,h2⟩
  ·subst h2; simp at hn
  ·refine ⟨x,h2,rfl,?_⟩;simp only [Cx.rev];rw [if_neg aA]
theorem SR.rev [Globs] (hs:SR C) {arr:Array Value} {t:TypeId} (hb:C.w.heap[b]?=some (.cells arr t (0,0))) (eg:∀ o,C.av b o) (ju:∀ x o,x≠b->(C.av x o↔av0 x o)) (h0:∀ o,¬ av0 b o) (hg:∀ g a,(g,a) ∈ Globs.gl->∀ i,av0 g i) :
  SR (C.rev av0 b (arr.toList.map cst1)):=by
 have hle:=Le0.rev (C:=C) eg ju h0 (arr.toList.map cst1);have nb:∀ i,i<C.S.length->C.φ i≠b:=fun i hi e=>hs.own b 0 (.inl ⟨i,hi,e⟩) (eg 0);refine ⟨fun i x hx=>?_,fun i j hi hj h=>?_,hs.tok,fun i j o hi hj h h1 h2=>?_,?_,fun x o ha=>?_,hs.tlt,fun g a hm=>⟨(hs.glob g a hm).1,hg g a hm⟩⟩
 ·rcases Ky hx with ⟨h1,rfl⟩|⟨h1,h2⟩
  ·refine ⟨I4 _,arr,t,?_,arr.toList,[],by simp,Js _⟩;simp only [Cx.rev,h1,if_true];exact hb
  ·obtain ⟨g1,d,t',g2,vs',r',vr,g3⟩:=hs.ent i x h2;refine ⟨Nat.lt_succ_of_lt g1,d,t',?_,vs',r',vr,VRs.mono0 hle _ _ g3⟩;simp only [Cx.rev];rw [if_neg aA];exact g2
 ·simp only [Cx.rev,Cm,Ci,Cu] at hi hj h;by_cases ar:i=C.S.length <;> by_cases fh:j=C.S.length
  ·omega
  ·rw [if_pos ar,if_neg fh] at h;exact absurd h.symm (nb j aA)
  ·rw [if_neg ar,if_pos fh] at h;exact absurd h (nb i aA)
  ·rw [if_neg ar,if_neg fh] at h;exact hs.ne i j aA aA h
 ·simp only [Cx.rev,Cm,Ci,Cu] at hi h hj h1 h2;by_cases ar:i=C.S.length
  ·rw [if_pos ar] at h;exact hs.own b o (.inr ⟨j,hj,h.symm,h1,h2⟩) (eg o)
  ·rw [if_neg ar] at h;exact hs.apart i j o aA hj h h1 h2
 ·intro x o hm ha;by_cases e:x=b
  ·subst e; exact h0 o ha
  ·rcases Yw hm with h|h
   ·exact hs.own x o h ((ju x o e).2 ha)
   ·exact e h
 ·by_cases e:x=b
  ·subst e; exact absurd ha (h0 o)
  ·exact hs.avlt x o ((ju x o e).2 ha)
end
theorem Aem {o:Oper} {t:TypeId} {cs:List AV} (ho:o.op=.alloc t) (hz:A2 P t=some cs):∃ arr:Array Value,arr.toList.map cst1=cs/\∀ (C:Cx) (a:Act) (next:Act->World->Prop) (Q:Exit->Act->World->Prop),next (a.put o.dst (.pointer (some ⟨C.w.heap.size,0,none⟩))) (C.w.alloc (.cells arr t))->o.wp P a C.w next Q:=by
 simp only [A2,Cc,Ij] at hz;obtain ⟨zv,⟨i,h1,h2⟩,rfl⟩:=hz;refine ⟨zv.cells,rfl,fun C a next Q hn=>Hb (v:=.pointer (some ⟨C.w.heap.size,0,none⟩)) (w':=C.w.alloc (.cells zv.cells t)) ?_ hn⟩;have hz:(zeroValue t).run P C.w=.ok zv C.w:=by simp [zeroValue,typeInfo,h1,h2]
 simp only [execOp,ho,Instr.alloc,F0,hz,Fs,newVar,Jb,Iu]
theorem Lh {C:Cx} : ∀ {T vs} {d:Nat} {c},VRs C T vs->(∀ x,vs[d]?=some x->VR C c x)->VRs C (put T d c) vs
 | [],[],_,_,_,_=>by simp only [put,VRs]
 | _ :: _,v :: _,0,_,h,hv=>by simp only [VRs,put] at h ⊢; exact ⟨hv v rfl,h.2⟩
 | _ :: _,_ :: _,d+1,_,h,hv=>by simp only [VRs,put] at h ⊢; exact ⟨h.1,Lh h.2 fun x hx=>hv x dA⟩
 | [],_ :: _,_,_,h,_=>aU
 | _ :: _,[],_,_,h,_=>aU
theorem Aj4 [Globs] {T:List AV} {c:Call} {f:FuncId} {args:List AV} (h:Ew P T c=some (f,args)) (hx:xF f=true):Ad7 c=true:=by
 have qw:(Globs.xAny:Bool)=true:=by unfold xF at hx; simp only [Ch] at hx; exact hx.1
 unfold Ew at h;unfold Ad7;split at h
 ·rename_i hc; rw [hc]
 ·rename_i x hc;rw [hc];cases x with
  | func g =>
   simp only [opv,Ba,Cf] at h;simp only [h.1,hx]
  | _=>exact qw
 ·simp at h
theorem Ao5 [Globs] {call:Bo} {o:Oper} {c:Call} {s s':St} {v:AV} (ho:o.op=.call c) (hb:∀ b,c.callee≠.builtin b) (h:evO P call o s=some (v,s')):∃ f args S' tk' n',Ew P s.T c=some (f,args)/\call f args s.S s.tk s.n=some (v,S',tk',n')/\s'.S=S':=by
 simp only [evO,ho] at h;split at h
 ·exact Ya2q
 ·exact Ya2q
 ·rename_i b _ _ h'; exact absurd h' (hb _)
 ·split at h
  ·rename_i f args gc;simp only [Cc,Cf,Prod.exists] at h;obtain ⟨r,S',tk',n',h,rfl,rfl⟩:=h;exact ⟨f,args,S',tk',n',gc,h,rfl⟩
  ·simp at h
theorem Aj7 [Globs] {all:List Oper} {o:Oper} {s s':St} {v:AV} (h:chkO P all o s v s'=true) (hd:(Globs.dr:Bool)=true) (hx:xOp o=true):chkX P all o s s':=by
 unfold chkO at h;rw [hd,hx] at h;simpa using h
theorem Aqv [Globs] {all:List Oper} {o:Oper} {s s':St} {v:AV} (h:chkO P all o s v s'=true) (hd:(Globs.dr:Bool)=true) (hl:isLd o=true):isB v=false:=by
 have hx:xOp o=false:=by
  unfold isLd at hl;unfold xOp;split at hl
  ·rename_i h'; rw [h']
  ·simp at hl
 unfold chkO at h;rw [hd,hx,hl] at h;simpa using h
theorem lk_x [Globs] {o:Oper} (h:lkOp o=true):(Globs.dr:Bool)=true/\xOp o=true:=by
 unfold lkOp at h;simp only [Ch] at h;refine ⟨h.1,?_⟩;unfold xOp Ad7;split at h
 ·rename_i c ho;split at h
  ·rename_i hc; rw [hc]
  ·rename_i hc;rw [hc];simp only [Ch] at h; exact h.2.1
  ·simp at h
 ·simp at h
theorem an_x [Globs] {o:Oper} (h:anOp o=true):(Globs.dr:Bool)=true/\xOp o=true:=by
 unfold anOp at h;simp only [Ch] at h;exact h.1
theorem Wm [Globs] {call:Bo} (hi:Tr call) {all:List Oper} {o:Oper} {c:Call} {s s':St} {v:AV} (ho:o.op=.call c) (hb:∀ b,c.callee≠.builtin b) (h:evO P call o s=some (v,s')) (om:chkO P all o s v s'=true):s'.S=s.S\/(xOp o=true/\s.S.length<=s'.S.length):=by
 obtain ⟨f,args,S',tk',n',h1,h2,rfl⟩:=Ao5 ho hb h;rcases hi _ _ _ _ _ _ _ _ _ h2 with hx|⟨hS,-⟩
 ·right;simp only [Ch] at hx;have hxo:xOp o=true:=by unfold xOp; rw [ho]; exact Aj4 h1 hx.1
  have hX:=Aj7 om hx.2 hxo;refine ⟨hxo,?_⟩;by_cases hl:lkOp o=true
  ·rw [(hX.1 hl).1];exact Ya39
  ·exact (hX.2 (by simp [anOp,hx.2,hxo,hl])).1
 ·exact .inl hS
theorem Ahn {t:TypeId} {a:AV} {S S':List Ent} (h:∀ id ep off,a≠.ref id ep off):ldA P t a S=ldA P t a S':=by
 unfold ldA;split
 ·split
  ·rfl
  ·exact absurd rfl (h _ _ _)
  ·rfl
 ·rfl
theorem Tg {t:TypeId} {id ep off:Nat} {S S':List Ent} (h:nth S' id=nth S id):ldA P t (.ref id ep off) S'=ldA P t (.ref id ep off) S:=by
 have:entAt S' id ep=entAt S id ep:=by unfold entAt; rw [h]
 unfold ldA;simp only [this]
theorem Ahi {S S':List Ent} (h:X9 S S'):X9 S' S:=by
 refine ⟨h.1.symm,fun i=>?_⟩;rcases h.2 i with h|⟨ep,b,b',h1,h2⟩
 ·exact .inl h.symm
 ·exact .inr ⟨ep,b',b,h2,h1⟩
theorem Afi {t:TypeId} {id ep off:Nat} {S S':List Ent} {V:AV} (h:X9 S S') (hl:ldA P t (.ref id ep off) S=some V) (hV:isB V=false):ldA P t (.ref id ep off) S'=some V:=by
 rcases h.2 id with h|⟨ep',b,b',h1,h2⟩
 ·rw [Tg h]; exact hl
 ·have hE:entAt S id ep=if ep'=ep then some [.prim (.bool b)] else none:=by unfold entAt; rw [h1]
  have hE':entAt S' id ep=if ep'=ep then some [.prim (.bool b')] else none:=by unfold entAt; rw [h2]
  unfold ldA at hl ⊢;simp only [hE'];simp only [hE] at hl;split at hl
  ·rename_i sz bb _ _;split at hl
   ·rename_i cs ig;split at ig
    ·rename_i he;simp only [Ba] at ig;subst ig;rw [if_pos he];simp only;unfold partA at hl ⊢;cases bb with
     | false =>
      simp only [C6,if_false] at hl;cases off with
      | zero =>
       simp only [Fx,nth,Ba] at hl;subst hl; simp [isB] at hV
      | succ off=>simp [nth] at hl
     | true =>
      simp only [if_true,Cc] at hl ⊢;obtain ⟨ds,h3,rfl⟩:=hl;cases sz with
      | zero=>exact ⟨ds,by simpa [takeN] using h3,rfl⟩
      | succ sz =>
       cases off with
       | zero =>
        simp only [Fx,takeN,Cc] at h3;obtain ⟨ds',h4,rfl⟩:=h3;cases sz with
        | zero =>
         simp only [takeN,Ba] at h4;subst h4;simp [isB] at hV
        | succ sz=>simp [takeN] at h4
       | succ off=>simp [takeN] at h3
    ·simp at ig
   ·simp at hl
  ·simp at hl
theorem Aht {ops:Array Oper} {k i:Nat} {d:Option Tmp} {o:Oper} {t:TypeId} {a:Operand} (hk:k<ops.size) (hd:B5 ops k=d) (k9:∀ j,j<ops.size->B5 ops j=d->j=k) (hi:i<k) (ho:ops[i]?=some o) (hl:o.op=.load t a) (hr:i ∉ reachAt ops k) :
  (t,a,o.dst,Alo ops.toList k i a) ∈ loadsB ops.toList d:=by
 unfold loadsB;have hf:((C8 ops.toList.length).find? fun k=>B5 ops.toList.toArray k == d)=some k:=by
  rw [List.find?_eq_some_iff_append];refine ⟨by simpa using hd,C8 k,(C8 (ops.toList.length - k - 1)).map (fun j=>k+1+j),?_,fun j hj=>?_⟩
  ·have:ops.toList.length=k+(1+(ops.toList.length - k - 1)):=aC
   conv=>lhs; rw [this]
   rw [List.range_add,List.range_add];simp [Oy]
  ·simp only [iG] at hj;cases hh:B5 ops.toList.toArray j == d with
   | false=>rfl
   | true =>
    have:=k9 j aA (by simpa using hh);omega
 rw [hf];simp only [List.mem_filterMap,iG];refine ⟨i,hi,?_⟩;have:ops.toList[i]?=some o:=fY
 rw [this];simp only [hl];rw [if_neg (by simpa using hr)]
theorem X3 [Globs] (hm:P.follows .mixedOrders=true):∀ (call:Bo),K2 P call->Tr call->∀ (real ops:Array Oper) (lt:Option (Nat × Oper)),Arj P real ops lt->∀ (C:Cx) (st st':St) (a:Act) (Q:Exit->Act->World->Prop),X2 st ops.toList=true->Rel C st a->evOs P call ops.toList ops.toList st=some st' ->
  (∀ a' C',Le C C'->Rel C' (Vp P lt st') a'->Q .normal a' C'.w)->wpAny P .any real Q real.size (Sp real.size false) a { C.w with drawn:=C.w.drawn+1 }:=by
 intro call hc hi real ops lt iv C st st' a Q ab hr h hQ;have hsz:real.size=ops.size:=by
  cases lt with
  | none=>rw [show real=ops from iv]
  | some q=>obtain ⟨p,al⟩:=q; exact iv.1
 have a2g:∀ i,(∀ p al,lt=some (p,al)->i≠p)->real[i]?=ops[i]?:=by
  intro i ar;cases lt with
  | none=>rw [show real=ops from iv]
  | some q=>obtain ⟨p,al⟩:=q; exact iv.2.1 i (ar p al rfl)
 have a0p:∀ i:Nat,(real[i]?).map (fun o=>(o.after,o.dst))=(ops[i]?).map fun o=>(o.after,o.dst):=by
  intro i;cases lt with
  | none=>rw [show real=ops from iv]
  | some q =>
   obtain ⟨p,al⟩:=q;obtain ⟨-,h1,-,h2,-,-,-,h3⟩:=iv;by_cases e:i=p
   ·subst e; rw [h2,h3]; rfl
   ·rw [h1 i e]
 have jf:∀ listed i,i ∈ Region.ready .any real listed↔i ∈ Region.ready .any ops listed:=by
  intro listed i;have fg:=a0p i;rw [mem_ready,mem_ready];constructor
  ·rintro ⟨h0,o,ho,hd⟩;rw [ho] at fg;obtain ⟨o',fk,e⟩:=Cc.1 fg.symm;exact Ya3g
  ·rintro ⟨h0,o,ho,hd⟩;rw [ho] at fg;obtain ⟨o',fk,e⟩:=Cc.1 fg;exact Ya3g
 have sd:∀ tmps,yielded real tmps=yielded ops tmps:=by
  intro tmps;funext j;have fg:=a0p j;unfold yielded;cases h1:real[j]? with
  | none=>rw [h1] at fg; rw [Option.map_eq_none_iff.1 fg.symm]
  | some o =>
   rw [h1] at fg;obtain ⟨o',fk,e⟩:=Cc.1 fg.symm;simp only [Cf] at e;simp only [fk,Oj,e.2]
 have jv:∀ p al,lt=some (p,al)->∀ i j,Eo ops i j=true->False:=by
  intro p al e i j hp;subst e;obtain ⟨p1,p2,q1,-,⟨q3,-⟩,-,-⟩:=Jf hp;have:=iv.2.2.1 i p1 q1;obtain ⟨t,e1,-⟩:=Qz q3;unfold isMk at this;rw [e1] at this; cases this
 obtain ⟨sts,val,j6,nv,jw⟩:=Ard h;simp only [It] at nv;have fo:∀ (i:Nat) o,ops[i]?=some o->Ajf P call ops.toList o (sts i) (sts (i+1)) (val i):=fun i o ho=>jw i o fY;have xz:∀ i o,ops[i]?=some o->opOk ops i o=true/\∀ j p,j<i->ops[j]?=some p->((!conf p o && !(wrS p && !lkOp p && rdS o) && !(rdS p && wrS o && !lkOp o)) || (reachAt ops i).contains j || (!conf p o && (if rdS o=true then M7 st ops i o p else (Alj o || (anOp o && o.dst.isSome) || M7 st ops j p o))) || Eo ops j i)=true:=by
  intro i o ho;have hlt:=(Cj.1 ho).1;unfold X2 at ab;rw [C9] at ab;have h1:=ab i aN;simp only [Array.toArray_toList,ho,Ch] at h1;refine ⟨h1.1,fun j p hj hp=>?_⟩;have h2:=C9.1 h1.2 j bL;simp only [hp] at h2;exact h2
 have bj:∀ i o,ops[i]?=some o->opOk ops i o=true/\∀ j p,j<i->ops[j]?=some p->conf p o=true->j ∈ reachAt ops i\/Eo ops j i=true:=by
  intro i o ho;refine ⟨(xz i o ho).1,fun j p hj hp hcf=>?_⟩;have h2:=(xz i o ho).2 j p hj hp;simp only [hcf,Gf,Ff,N2,Fy,Ib] at h2;exact h2.imp (fun h=>aL) id
 have dj:∀ i o,ops[i]?=some o->∀ j p,j<i->ops[j]?=some p->((wrS p && !lkOp p && rdS o) || (rdS p && wrS o && !lkOp o))=true->j ∈ reachAt ops i\/(if rdS o=true then M7 st ops i o p else (Alj o || (anOp o && o.dst.isSome) || M7 st ops j p o))=true:=by
  intro i o ho j p hj hp hcf;have h2:=(xz i o ho).2 j p hj hp;have h3:(!conf p o && !(wrS p && !lkOp p && rdS o) && !(rdS p && wrS o && !lkOp o))=false:=by
   simp only [Ib] at hcf;rcases hcf with h|h <;> simp [h]
  rw [h3] at h2;simp only [N2,Ib,Ch] at h2;rcases h2 with (h2|h2)|h2
  ·exact .inl cF
  ·exact .inr h2.2
  ·obtain ⟨p',o',q1,q2,⟨-,q3⟩,-,q4⟩:=Jf h2;rw [hp] at q1; rw [ho] at q2;simp only [Ba] at q1 q2;subst q1; subst q2;simp [q3,q4] at hcf
 have hop:∀ i o,ops[i]?=some o->(match o.op with|.select ..=>false|_=>true)=true/\(∀ j ∈ depsOf ops i,j<i)/\(∀ g w,o.guard=some (g,w)->g ∈ depsOf ops i)/\(∀ d,o.dst=some d->∀ j,j<i->B5 ops j≠some d) /\
   (∀ t,Operand.tmp t ∈ o.op.operands->∀ j,B5 ops j=some t->j=i\/j ∈ reachAt ops i\/i ∈ reachAt ops j):=by
  intro i o ho;have h1:=(bj i o ho).1;unfold opOk at h1;simp only [Ch] at h1;obtain ⟨⟨⟨⟨a1,a2⟩,a3⟩,a4⟩,a5⟩:=h1;refine ⟨a1,fun j hj=>by simpa using C9.1 a2 j hj,fun g w hg=>by rw [hg] at a3; simpa using a3,fun d hd j hj=>?_,fun t ht j hj=>?_⟩
  ·rw [hd] at a4;simp only [Option.all_some] at a4;have:=C9.1 a4 j bL;exact Ya1y
  ·have h2:=Array.all_eq_true_iff_forall_mem.1 a5 (.tmp t) ht;have a2h:j<ops.size:=by
    unfold B5 at hj;cases hx:ops[j]? with
    | none=>rw [hx] at hj; simp at hj
    | some _=>exact (Cj.1 hx).1
   have h3:=C9.1 h2 j (by simpa using a2h);simp only [hj,bne_self_eq_false,N2,Ib,beq_iff_eq,jN] at h3;rcases h3 with (h3|h3)|h3
   ·exact .inl h3
   ·exact .inr (.inl h3)
   ·exact .inr (.inr h3)
 have a0e:∀ {j:Nat} {d:Tmp},B5 ops j=some d->∃ o,ops[j]?=some o/\o.dst=some d:=by
  intro j d hj;unfold B5 at hj;cases hx:ops[j]? with
  | none=>rw [hx] at hj; simp at hj
  | some o=>rw [hx] at hj; exact ⟨o,rfl,bL⟩
 have k9:∀ {i j:Nat} {d:Tmp},B5 ops i=some d->B5 ops j=some d->i=j:=by
  intro i j d h1 h2;obtain ⟨o,ho,oi⟩:=a0e h1;obtain ⟨p,hp,hpd⟩:=a0e h2;rcases Sr i j with hh|hh|hh
  ·exact absurd h1 ((hop j p hp).2.2.2.1 d hpd i hh)
  ·exact hh
  ·exact absurd h2 ((hop i o ho).2.2.2.1 d oi j hh)
 have stepT:∀ i o,ops[i]?=some o->(sts (i+1)).T=putT (sts i).T o.dst (val i)/\(wrS o=false->(sts (i+1)).S=(sts i).S/\(sts (i+1)).n=(sts i).n)/\(wrT o=false->(sts (i+1)).tk=(sts i).tk):=by
  intro i o ho;rcases fo i o ho with ⟨-,-,e⟩|⟨-,s1,h1,-,e⟩
  ·rw [e]; exact ⟨rfl,fun _=>⟨rfl,rfl⟩,fun _=>rfl⟩
  ·obtain ⟨g1,g2,g3,-⟩:=Uc hi (hop i o ho).1 h1;rw [e]; exact ⟨by simp only [g1],g2,g3⟩
 have textLen:∀ i,i<=ops.size->(sts i).T.length=st.T.length:=by
  intro i;induction i with
  | zero=>intro _; rw [j6]
  | succ i ih =>
   intro hlt;rw [(stepT i _ (Ft (show i<ops.size by omega))).1,Jg,ih aA]
 have text2:∀ i,i<=ops.size->∀ t,(∀ j,j<i->B5 ops j≠some t)->getT (sts i).T t=getT st.T t:=by
  intro i;induction i with
  | zero=>intro _ t _; rw [j6]
  | succ i ih =>
   intro hlt t ht;have ho:=Ft (show i<ops.size by omega);rw [(stepT i _ ho).1];have hne:(ops[i]' aA).dst≠some t:=fun e=>ht i aA Za54;cases hd:(ops[i]' aA).dst with
   | none=>simp only [putT]; exact ih aA t fun j hj=>ht j aA
   | some d =>
    simp only [putT];rw [B8 (fun e=>hne (by rw [hd,e]))];exact ih aA t fun j hj=>ht j aA
 have text1:∀ i,i<=ops.size->∀ j t,j<i->B5 ops j=some t->getT (sts i).T t=if t<st.T.length then val j else .bot:=by
  intro i;induction i with
  | zero=>intro _ j t hj; omega
  | succ i ih =>
   intro hlt j t hj hd;have ho:=Ft (show i<ops.size by omega);rw [(stepT i _ ho).1];by_cases e:j=i
   ·subst e;have fm:(ops[j]' aA).dst=some t:=Za38
    rw [fm];simp only [putT];by_cases jx:t<st.T.length
    ·rw [if_pos jx];exact H0 (by rw [textLen j aA]; exact jx)
    ·rw [if_neg jx];refine Po ?_;rw [Am,textLen j aA]; exact iL jx
   ·have hne:B5 ops i≠some t:=fun x=>e (k9 hd x);have a26:(ops[i]' aA).dst≠some t:=fun x=>hne dZ;cases fm:(ops[i]' aA).dst with
    | none=>simp only [putT]; exact ih aA j t aA hd
    | some d =>
     simp only [putT];rw [B8 (fun x=>a26 dE)];exact ih aA j t aA hd
 have constS:∀ k i,i+k<=ops.size->(∀ j,i<=j->j<i+k->wS ops j=false)->(sts (i+k)).S=(sts i).S/\(sts (i+k)).n=(sts i).n:=by
  intro k;induction k with
  | zero=>intro i _ _; exact ⟨rfl,rfl⟩
  | succ k ih =>
   intro i hle hw;have ho:=Ft (show i+k<ops.size by omega);have h1:=hw (i+k) aA aA;unfold wS at h1; rw [ho] at h1;have h2:=(stepT (i+k) _ ho).2.1 h1;have h3:=ih i aA fun j a b=>hw j a aA;exact ⟨by rw [<- h3.1,<- h2.1]; rfl,by rw [<- h3.2,<- h2.2]; rfl⟩
 have constT:∀ k i,i+k<=ops.size->(∀ j,i<=j->j<i+k->wT ops j=false)->(sts (i+k)).tk=(sts i).tk:=by
  intro k;induction k with
  | zero=>intro i _ _; rfl
  | succ k ih =>
   intro i hle hw;have ho:=Ft (show i+k<ops.size by omega);have h1:=hw (i+k) aA aA;unfold wT at h1; rw [ho] at h1;have h2:=(stepT (i+k) _ ho).2.2 h1;have h3:=ih i aA fun j a b=>hw j a aA;rw [<- h3,<- h2]; rfl
 have ldB:∀ i o t q id ep off b,ops[i]?=some o->o.op=.load t (.tmp q)->Wx st ops i o=some b->getT (sts i).T q=.ref id ep off->b=some id/\id<st.S.length:=by
  intro i o t q id ep off b ho a27 hb hv;have b6:=(Cj.1 ho).1;have base:∀ x,unwr ops x=true->∀ m,m<=ops.size->getT (sts m).T x=getT st.T x:=by
   intro x hx m fg;refine text2 m fg x fun j hj hd=>?_;have:=C9.1 hx j aC;rw [hd] at this; simp at this
  unfold Wx at hb;rw [a27] at hb;simp only at hb;split at hb
  ·rename_i hu;rw [<- base q hu i aA,hv] at hb;simp only at hb;split at hb
   ·rename_i hl; simp only [Ba] at hb; exact ⟨hb.symm,hl⟩
   ·simp at hb
  ·obtain ⟨m,fg,kz⟩:=List.exists_of_findSome?_eq_some hb;have hmi:m<i:=by simpa using fg
   split at kz
   ·rename_i o1 hom;split at kz
    ·rename_i d t' x k' hd1 a28;split at kz
     ·rename_i hdx;obtain ⟨rfl,hux⟩:=hdx;have j8:=text1 i aA m d hmi (by unfold B5; rw [hom]; exact hd1);rw [hv] at j8;have hvm:val m=.ref id ep off:=by
       split at j8
       ·exact j8.symm
       ·simp at j8
      rcases fo m _ hom with ⟨-,hsk,-⟩|⟨-,s1,bw,-,-⟩
      ·rw [hsk] at hvm; simp at hvm
      ·simp only [evO,evQ,a28,Cc,Cf] at bw;obtain ⟨v,bw,rfl,-⟩:=bw;simp only [opv] at bw;rw [base x hux m aA] at bw;unfold fldA at bw;split at bw
       ·rename_i hx;simp only [Ba] at bw;rw [hvm] at bw; simp at bw
       ·rename_i id0 e0 o0 hf hx;rw [hx] at kz;simp only at kz;simp only [Ba] at bw;rw [hvm] at bw;simp only [AV.ref.injEq] at bw;obtain ⟨rfl,-⟩:=bw;split at kz
        ·rename_i hl; simp only [Ba] at kz; exact ⟨kz.symm,hl⟩
        ·simp at kz
       ·simp at bw
     ·simp at kz
    ·simp at kz
   ·simp at kz
 have growStep:∀ m,m<ops.size->(sts m).S.length<=(sts (m+1)).S.length:=by
   intro m hlt;have ho:=Ft hlt;rcases fo m _ ho with ⟨-,-,e⟩|⟨-,s1,bw,om,e⟩
   ·rw [e];exact Ya39
   ·rw [e];by_cases hw:wrS (ops[m]'hlt)=true
    ·have grC:∀ c,(ops[m]'hlt).op=.call c->(∀ b,c.callee≠.builtin b)->(sts m).S.length<=s1.S.length:=fun c h1 h2=>by
      rcases Wm hi h1 h2 bw om with h|⟨-,h⟩
      ·rw [h];exact Ya39
      ·exact h
     unfold wrS at hw;unfold evO at bw;split at bw
     ·rename_i h'; rw [h'] at hw; simp at hw
     ·simp only [Cc,Cf] at bw;obtain ⟨S',aj,-,rfl⟩:=bw;unfold stA at aj;split at aj
      ·split at aj
       ·split at aj
        ·split at aj
         ·simp only [Ba] at aj; subst aj; simp [Am]
         ·simp at aj
        ·simp at aj
       ·simp at aj
      ·simp at aj
     ·exact Ya2r
     ·exact Ya2r
     ·rename_i t l c h';rw [h'] at hw;have hl:R4 (ops[m]'hlt) l=false:=by simpa using hw
      simp only [Cc,Prod.exists,hl] at bw;obtain ⟨l',sz,cs,-,hh⟩:=bw;rw [if_neg (by simp)] at hh;simp only [Cf] at hh;obtain ⟨-,rfl⟩:=hh;simp
     ·rename_i c h';rw [h'] at hw;simp only at hw;cases ao:c.callee with
      | builtin b =>
       rw [ao] at hw;cases b <;> simp at hw
       ·simp only [ao] at bw;split at bw
        ·rename_i x y t t' ja ht;rw [if_pos hw] at bw;split at bw
         ·simp only [Cc,Cf,Prod.exists] at bw;obtain ⟨u,S',n',bp,-,rfl⟩:=bw;exact Ar4 bp
         ·simp at bw
        ·simp at bw
       simp only [ao] at bw;split at bw
       ·simp only [Cc,Cf,Prod.exists] at bw;obtain ⟨mm,S',hcp,-,rfl⟩:=bw;rw [Asa hcp];exact Ya39
       ·simp at bw
      | value x=>exact grC c h' (fun b hb=>fE)
      | invoke _ _=>exact grC c h' (fun b hb=>fE)
     ·rename_i h1 h2 h3 h4 h5 h6;split at hw
      ·exact absurd dC (h2 _ _ _)
      ·exact absurd dC (h3 _)
      ·exact absurd dC (h4 _ _)
      ·exact absurd dC (h5 _ _ _)
      ·exact absurd dC (h6 _)
      ·simp at hw
    ·have:=(Uc hi (hop m _ ho).1 bw).2.1 (by simpa using hw);rw [this.1];exact Ya39
 have growS2:∀ k i,i+k<=ops.size->(sts i).S.length<=(sts (i+k)).S.length:=by
  intro k;induction k with
  | zero=>intro i _; exact Ce _
  | succ k ih=>intro i hle; exact Fp (ih i aA) (growStep (i+k) aA)
 have growS:∀ m,m<=ops.size->st.S.length<=(sts m).S.length:=fun m hm=>by
  have:=growS2 m 0 aA;rw [j6,Fm] at this; exact this
 have mkStep:∀ k pk id,ops[k]?=some pk->Alj pk=true->id<(sts k).S.length->nth (sts (k+1)).S id=nth (sts k).S id:=by
  intro k pk id hk j7 hid;rcases fo k pk hk with ⟨-,-,e⟩|⟨-,s1,bw,-,e⟩
  ·rw [e]
  ·rw [e];unfold evO at bw;unfold Alj at j7;split at j7
   ·rename_i t' qf;exact Yaq
   ·rename_i t' x' qf;exact Yaq
   ·exact Ya00
   ·simp at j7
 have apartStep:∀ i o k pk t q id ep off,ops[i]?=some o->ops[k]?=some pk->o.op=.load t (.tmp q)->getT (sts i).T q=.ref id ep off->M7 st ops i o pk=true->wrS pk=true->nth (sts (k+1)).S id=nth (sts k).S id:=by
  intro i o k pk t q id ep off ho hk qx hv bp qy;have hkl:=(Cj.1 hk).1;unfold M7 at bp;cases hb:Wx st ops i o with
  | none=>rw [hb] at bp; simp at bp
  | some b =>
   obtain ⟨rfl,dt⟩:=ldB i o t q id ep off b ho qx hb hv;rw [hb] at bp;simp only at bp;have iu:=growS k aA;rcases fo k pk hk with ⟨-,-,e⟩|⟨-,s1,bw,om,e⟩
   ·rw [e]
   ·rw [e];have apC:∀ c,pk.op=.call c->(∀ b,c.callee≠.builtin b)->xOp pk=false->nth s1.S id=nth (sts k).S id:=fun c h1 h2 h3=>by
     rcases Wm hi h1 h2 bw om with h|⟨h,-⟩
     ·rw [h]
     ·rw [h3] at h; simp at h
    unfold evO at bw;split at bp
    ·rename_i t' q' x' qf;simp only [Ch] at bp;obtain ⟨hu,hne⟩:=bp;simp only [qf,Cc,Cf] at bw;obtain ⟨S',aj,-,rfl⟩:=bw;have hq:getT (sts k).T q'=getT st.T q':=text2 k aA q' fun j hj hd=>by
      have:=C9.1 hu j aC;rw [hd] at this; simp at this
     simp only [opv] at aj;rw [hq] at aj;split at hne
     ·rename_i id' e' o' hx;rw [hx] at aj;simp only [decide_eq_true_eq] at hne;exact Am4 aj (fun h=>hne h.symm)
     ·simp at hne
    ·rename_i t' qf;exact Yaq
    ·rename_i t' x' qf;exact Yaq
    ·exact Ya00
    ·rename_i c qf;split at bp
     ·rename_i g ao;exact apC c qf (fun b hb=>fE) (by simpa [xOp,qf,Ad7,ao] using bp)
     ·rename_i x hx ao;refine apC c qf (fun b hb=>fE) ?_;unfold xOp Ad7;rw [qf];simp only [ao];simpa using bp
     ·simp at bp
    ·simp at bp
 have constU:∀ (p:List Ent->Prop) k i,i+k<=ops.size->(∀ j pj,i<=j->j<i+k->ops[j]?=some pj->wrS pj=true->p (sts j).S->p (sts (j+1)).S)->p (sts i).S->p (sts (i+k)).S:=by
  intro p k;induction k with
  | zero=>intro i _ _ h; exact h
  | succ k ih =>
   intro i hle hw h;have ho:=Ft (show i+k<ops.size by omega);have h3:=ih i aA (fun j pj a b=>hw j pj a aA) h;show p (sts (i+k+1)).S;by_cases qy:wrS (ops[i+k]' aA)=true
   ·exact hw (i+k) _ aA aA ho qy h3
   ·rw [((stepT (i+k) _ ho).2.1 (by simpa using qy)).1]; exact h3
 have constD:∀ (p:List Ent->Prop) k i,i+k<=ops.size->(∀ j pj,i<=j->j<i+k->ops[j]?=some pj->wrS pj=true->p (sts (j+1)).S->p (sts j).S)->p (sts (i+k)).S->p (sts i).S:=by
  intro p k;induction k with
  | zero=>intro i _ _ h; exact h
  | succ k ih =>
   intro i hle hw h;have ho:=Ft (show i+k<ops.size by omega);refine ih i aA (fun j pj a b=>hw j pj a aA) ?_;have h':p (sts (i+k+1)).S:=h;by_cases qy:wrS (ops[i+k]' aA)=true
   ·exact hw (i+k) _ aA aA ho qy h'
   ·rw [((stepT (i+k) _ ho).2.1 (by simpa using qy)).1] at h'; exact h'
 have textKeep:∀ k i q,i+k<=ops.size->(∀ j,i<=j->j<i+k->B5 ops j≠some q)->getT (sts (i+k)).T q=getT (sts i).T q:=by
  intro k;induction k with
  | zero=>intro i q _ _; rfl
  | succ k ih =>
   intro i q hle hw;have ho:=Ft (show i+k<ops.size by omega);rw [<- ih i q aA fun j a b=>hw j a aA];show getT (sts (i+k+1)).T q=_;rw [(stepT (i+k) _ ho).1];have hne:(ops[i+k]' aA).dst≠some q:=fun e=>hw (i+k) aA aA Za54;cases hd:(ops[i+k]' aA).dst with
   | none=>rfl
   | some d =>
    simp only [putT];exact B8 (fun e=>hne (by rw [hd,e]))
 have lkStep:∀ k pk,ops[k]?=some pk->lkOp pk=true->X9 (sts k).S (sts (k+1)).S:=by
  intro k pk hk hl;rcases fo k pk hk with ⟨-,-,e⟩|⟨-,s1,bw,om,e⟩
  ·rw [e]; exact ⟨rfl,fun _=>.inl rfl⟩
  ·rw [e];obtain ⟨hd,hx⟩:=lk_x hl;exact (Aj7 om hd hx).1 hl
 have fin:∀ {listed:Array Bool} {s:St},DInv ops st sts val listed s->(∀ j,j<ops.size->listed.getD j false=true)->s=st':=by
  intro listed s hD hl;have eT:s.T=st'.T:=by
   refine Afk (by rw [hD.lenT,<- nv,textLen _ (Ce _)]) fun t=>?_;rw [<- nv];by_cases hx:∃ j,B5 ops j=some t
   ·obtain ⟨j,hj⟩:=hx;obtain ⟨o,ho,-⟩:=a0e hj;have hlt:=(Cj.1 ho).1;rw [hD.t1 j t (hl j hlt) hj (fun e he=>hl e (Vc he).1),text1 _ (Ce _) j t hlt hj]
   ·rw [hD.t2 t fun j _ hj=>hx ⟨j,hj⟩,text2 _ (Ce _) t fun j _ hj=>hx ⟨j,hj⟩]
  obtain ⟨c,du,hc2,hc3⟩:=hD.cS;obtain ⟨c',hc4,hc5⟩:=hD.cT;have e1:c=ops.size:=by
   rcases Ig c ops.size with h|h
   ·have:=(du.2.2 h).2; rw [hl c h] at this; simp at this
   ·have:=du.1; omega
  have e2:c'=ops.size:=by
   rcases Ig c' ops.size with h|h
   ·have:=(hc4.2.2 h).2; rw [hl c' h] at this; simp at this
   ·have:=hc4.1; omega
  subst e1;rw [e2] at hc5;rw [nv] at hc2 hc3 hc5;cases s; cases st';simp_all
 have none_ready:∀ {listed:Array Bool} {s:St},DInv ops st sts val listed s->Region.ready .any ops listed=[]->∀ j,j<ops.size->listed.getD j false=true:=by
  intro listed s hD d7 j;induction j using So with
  | _ j ihj =>
   intro hj;cases hl:listed.getD j false with
   | true=>rfl
   | false =>
    exfalso;have ho:ops[j]?=some (ops[j]'hj):=Ft hj;have:j ∈ Region.ready .any ops listed:=by
     apply mem_ready.2;refine ⟨?_,_,ho,fun e he hb=>?_⟩
     ·have jd:j<listed.size:=by rw [hD.len]; exact hj
      simpa [Sk,jd] using hl
     ·have fg:e.on ∈ depsOf ops j:=by
       exact Ya2w
      have:=(hop j _ ho).2.1 _ fg;exact ihj _ this aA
    rw [d7] at this; simp at this
 have step:∀ {listed:Array Bool} {s:St},DInv ops st sts val listed s->∀ i ∈ Region.ready .any ops listed,(∀ e,Eo ops e i=true->listed.getD e false=true)->(∀ e,Eo ops i e=true->listed.getD e false=false)->∃ o,ops[i]?=some o/\listed.getD i false=false /\
   ∃ b s2,H9 ops.toList s.T o=some b/\(b=true->evO P call o s=some (val i,s2))/\(b=false->val i=.prim undef/\s2=s)/\s2.T=s.T/\DInv ops st sts val (listed.setIfInBounds i true) { s2 with T:=putT s2.T o.dst (val i) }:=by
  intro listed s hD i b9 ci bo;obtain ⟨h0,o,ho,ly⟩:=Eu b9;obtain ⟨oq,b6⟩:=Gt h0;rw [hD.len] at b6;refine ⟨o,ho,oq,?_⟩;have gj:=Dl hD.closed ly;have u3:∀ j,listed.getD j false=true->i ∈ reachAt ops j->False:=fun j hj dz=>by
   have:=Dl hD.closed (hD.closed j hj) i dz;exact Ya3p
  obtain ⟨a00,a29,hgd,jn,xv⟩:=hop i o ho;have agree:∀ t,(∀ j,B5 ops j=some t->j=i\/j ∈ reachAt ops i\/i ∈ reachAt ops j)->getT s.T t=getT (sts i).T t:=by
   intro t ht;by_cases hx:∃ j,listed.getD j false=true/\B5 ops j=some t
   ·obtain ⟨j,hj,u4⟩:=hx;have hji:j<i:=by
     rcases ht j u4 with e|e|e
     ·subst e; rw [oq] at hj; simp at hj
     ·have:∀ e ∈ reachAt ops i,e<i:=by
       unfold reachAt;have key:∀ (l:List Nat) (s:List Nat),(∀ e ∈ s,e<i)->∀ e ∈ l.foldl (fun s j=>if s.contains j then depsOf ops j++s else s) s,e<i:=by
        intro l;induction l with
        | nil=>intro s hs; exact hs
        | cons j l ih =>
         intro s hs;simp only [Sn];apply ih;split
         ·rename_i hj;intro e he;rcases C3.1 he with h|h
          ·have a2h:=hs j bL;cases hx:ops[j]? with
           | none=>unfold depsOf at h; rw [hx] at h; simp at h
           | some p=>have:=(hop j p hx).2.1 e h; omega
          ·exact hs e h
         ·exact hs
       exact key _ _ a29
      exact this j e
     ·exact (u3 j hj e).elim
    rw [hD.t1 j t hj u4 (fun e he=>?_),text1 i aA j t hji u4];by_cases g9:i=e
    ·subst g9;have:=bo j he; rw [hj] at this; simp at this
    ·rcases ht j u4 with q|q|q
     ·omega
     ·exact gj e ((Q9 (k:=i) he b6 g9 aA).2 q)
     ·exact (u3 j hj q).elim
   ·rw [hD.t2 t fun j hj u4=>hx ⟨j,hj,u4⟩,text2 i aA t fun j hj u4=>?_];rcases ht j u4 with e|e|e
    ·omega
    ·exact hx ⟨j,gj j e,u4⟩
    ·have:i<j:=by
      have key:∀ (l:List Nat) (s:List Nat),(∀ e ∈ s,e<j)->∀ e ∈ l.foldl (fun s j=>if s.contains j then depsOf ops j++s else s) s,e<j:=by
       intro l;induction l with
       | nil=>intro s hs; exact hs
       | cons k l ih =>
        intro s hs;simp only [Sn];apply ih;split
        ·rename_i hk;intro e he;rcases C3.1 he with h|h
         ·have hklt:=hs k (by simpa using hk);cases hx:ops[k]? with
          | none=>unfold depsOf at h; rw [hx] at h; simp at h
          | some p=>have:=(hop k p hx).2.1 e h; omega
         ·exact hs e h
        ·exact hs
      obtain ⟨p,hp,-⟩:=a0e u4;exact key _ _ (hop j p hp).2.1 i e
     omega
  have agreeO:∀ x ∈ o.op.operands,opv s.T x=opv (sts i).T x:=by
   intro x hx;cases x with
   | tmp t=>exact agree t (xv t hx)
   | _=>rfl
  have agreeG:H9 ops.toList s.T o=H9 ops.toList (sts i).T o:=by
   unfold H9;cases hg:o.guard with
   | none=>rfl
   | some gw =>
    obtain ⟨g,w⟩:=gw;have hgm:=hgd g w hg;simp only;cases hgb:(nth ops.toList g).bind (·.dst) with
    | none=>rfl
    | some d =>
     have fm:B5 ops g=some d:=by unfold B5; rw [Af] at hgb; simpa using hgb
     have:getT s.T d=getT (sts i).T d:=agree d fun j hj=>by
      have:=k9 hj fm;subst this;right; left;have key:∀ (l:List Nat) (s:List Nat) (x:Nat),x ∈ s->x ∈ l.foldl (fun s j=>if s.contains j then depsOf ops j++s else s) s:=by
       intro l;induction l with
       | nil=>intro s x hs; exact hs
       | cons k l ih =>
        intro s x hs;simp only [Sn];apply ih;split
        ·exact List.mem_append_right _ hs
        ·exact hs
      exact key _ _ _ hgm
     simp only [this]
  have confl:∀ j p,ops[j]?=some p->conf p o=true->conf o p=true->j≠i->(listed.getD j false=true↔j<i):=by
   intro j p hp h1 h2 hne;rcases Nat.lt_or_gt_of_ne hne with hlt|wx
   ·exact ⟨fun _=>hlt,fun _=>((bj i o ho).2 j p hlt hp h1).elim (gj j) (ci j)⟩
   ·exact ⟨fun hl=>((bj j p hp).2 i o wx ho h2).elim (fun q=>(u3 j hl q).elim) (fun q=>by have:=bo j q; rw [hl] at this; simp at this),fun h=>aA⟩
  have curS:(wrS o=true\/rdA o=true)->s.S=(sts i).S/\s.n=(sts i).n/\(wrS o=true->Aio (wS ops) listed ops.size i):=by
   intro dj;obtain ⟨c,du,hc2,hc3⟩:=hD.cS;have hw:∀ j,j≠i->wS ops j=true->(listed.getD j false=true↔j<i):=by
    intro j hne di;unfold wS at di;exact Ya0f
   rcases Sr c i with hlt|heq|wx
   ·exact Ya38
   ·subst heq; exact ⟨hc2,hc3,fun _=>du⟩
   ·have zx:wrS o=false:=by
     cases dv:wrS o with
     | false=>rfl
     | true =>
      have:=du.2.1 i wx (by unfold wS; rw [ho]; exact dv);exact Ya3p
    have se:∀ j,i<=j->j<i+(c - i)->wS ops j=false:=by
     intro j h1 h2;by_cases e:j=i
     ·subst e; unfold wS; rw [ho]; exact zx
     ·cases di:wS ops j with
      | false=>rfl
      | true =>
       have h3:=du.2.1 j aA di;have:=(hw j e di).1 h3;omega
    have:=constS (c - i) i Za5y se;rw [show i+(c - i)=c from by omega] at this;exact ⟨by rw [hc2,this.1],by rw [hc3,this.2],fun h=>by rw [zx] at h; simp at h⟩
  have curL:∀ t x V s1,o.op=.load t x->ldA P t (opv (sts i).T x) (sts i).S=some V->val i=V->chkO P ops.toList o (sts i) V s1=true->ldA P t (opv (sts i).T x) s.S=ldA P t (opv (sts i).T x) (sts i).S:=by
   intro t x V s1 qx hV j8 om;by_cases hrf:∃ id ep off,opv (sts i).T x=.ref id ep off;case neg=>exact Ahn fun id ep off h=>hrf ⟨id,ep,off,h⟩
   obtain ⟨id,ep,off,hv⟩:=hrf;rw [hv] at hV ⊢;rw [hV];have dt:id<(sts i).S.length:=by
    unfold ldA at hV;split at hV
    ·simp only at hV;split at hV
     ·rename_i cs he;obtain ⟨e,h1,-⟩:=Du he;exact Bn h1
     ·simp at hV
    ·simp at hV
   cases x with
   | tmp q =>
    simp only [opv] at hv;have xx:rdS o=true:=by unfold rdS; rw [qx]
    have zx:wrS o=false:=by unfold wrS; rw [qx]
    have sf:lkOp o=false:=by unfold lkOp; rw [qx]; simp
    have a2i:isLd o=true:=by unfold isLd; rw [qx]
    obtain ⟨c,du,hc2,-⟩:=hD.cS;have nord:∀ pk,wrS pk=true->rdS pk=false:=by
     intro pk hw;unfold wrS at hw;unfold rdS;split at hw <;> rename_i h' <;> first|(rw [h'])|simp at hw
    rw [hc2];rcases Ig c i with hlt|kv
    ·refine constD (fun S=>ldA P t (.ref id ep off) S=some V) (i - c) c aA (fun k pk h1 h2 hk qy hg=>?_) (by rw [show c+(i - c)=i from by omega]; exact hV);have ni:k<i:=aA
     cases si:lkOp pk with
     | true =>
      have hgo:=lkStep k pk hk si;exact Afi (Ahi hgo) hg (Aqv om (lk_x si).1 a2i)
     | false =>
      rcases dj i o ho k pk ni hk (by simp [qy,xx,si]) with h3|h3
      ·exfalso;have u5:=gj k h3;have sj:=(du.2.2 aA).2;by_cases om:k=c
       ·subst om; rw [u5] at sj; simp at sj
       ·have hwc:=(du.2.2 aA).1;unfold wS at hwc;cases hpc:ops[c]? with
        | none=>rw [hpc] at hwc; simp at hwc
        | some pc =>
         rw [hpc] at hwc;rcases (bj k pk hk).2 c pc aA hpc (by simp [conf,hwc,qy]) with hh|hh
         ·have:=Dl hD.closed (hD.closed k u5) c hh;rw [sj] at this; simp at this
         ·have:=gj c ((Q9 (k:=i) hh b6 aA aA).2 h3);rw [sj] at this; simp at this
      ·rw [if_pos xx] at h3;rw [<- Tg (apartStep i o k pk t q id ep off ho hk qx hv h3 qy)]; exact hg
    ·have:=constU (fun S=>ldA P t (.ref id ep off) S=some V) (c - i) i Za5y (fun k pk h1 h2 hk qy hg=>?_) hV
     ·rwa [show i+(c - i)=c from by omega] at this
     have a3a:=(Cj.1 hk).1;have ni:k≠i:=fun e=>by
      subst e;rw [ho] at hk;simp only [Ba] at hk;subst hk;rw [zx] at qy; simp at qy
     have u5:=du.2.1 k aA (by unfold wS; rw [hk]; exact qy);cases si:lkOp pk with
     | true=>exact Afi (lkStep k pk hk si) hg (Aqv om (lk_x si).1 a2i)
     | false =>
      have zy:i ∉ reachAt ops k:=fun h3=>u3 k u5 h3;rcases dj k pk hk i o aA ho (by simp [qy,xx,si]) with h3|h3
      ·exact (zy h3).elim
      ·rw [if_neg (by rw [nord pk qy]; simp)] at h3;simp only [Ib] at h3;rcases h3 with (h3|h3)|h3
       ·rw [Tg (mkStep k pk id hk h3 (F3 dt ?_))]
        ·exact hg
        ·have:=growS2 (k - i) i aA;rwa [show i+(k - i)=k from by omega] at this
       ·rcases fo k pk hk with ⟨-,-,e⟩|⟨-,s1',bw,a3b,e⟩
        ·rw [e]; exact hg
        ·rw [e];simp only [Ch] at h3;obtain ⟨h3,g1⟩:=h3;obtain ⟨hd1,hx1⟩:=an_x h3;have g3:=((Aj7 a3b hd1 hx1).2 h3).2 g1;obtain ⟨d0,dd⟩:=Su.1 g1;have sk:B5 ops k=pk.dst:=by unfold B5; rw [hk]; rfl
         have a3c:=Aht a3a sk (fun j hj u4=>k9 (by rw [u4,dd]) (by rw [sk,dd])) aA ho qx zy;obtain ⟨f1,d,f2,f3,f4⟩:=g3 _ a3c;simp only [Alo] at f1 f2 f4;have hdi:B5 ops i=some d:=by unfold B5; rw [ho]; exact f2
         rw [text1 k aA i d aA hdi,if_pos (by rw [textLen k aA] at f3; exact f3),j8] at f4;simp only [opv] at f4;have hq:getT (sts k).T q=getT (sts i).T q:=by
          have:=textKeep (k - i) i q aA fun j a b u4=>by
           have:=C9.1 f1 j aC;rw [u4] at this;simp at this; omega
          rwa [show i+(k - i)=k from by omega] at this
         rw [hq,hv] at f4;exact f4
       ·rw [Tg (apartStep i o k pk t q id ep off ho hk qx hv h3 qy)]; exact hg
   | const v=>simp only [opv] at hv; unfold cst at hv; split at hv; (· simp at hv); (· unfold cst1 at hv; split at hv <;> simp at hv)
   | global g=>simp [opv] at hv
   | func f=>simp [opv] at hv
  have curT:(wrT o=true\/rdA o=true)->s.tk=(sts i).tk/\(wrT o=true->Aio (wT ops) listed ops.size i):=by
   intro dj;obtain ⟨c,du,hc2⟩:=hD.cT;have hw:∀ j,j≠i->wT ops j=true->(listed.getD j false=true↔j<i):=by
    intro j hne di;unfold wT at di;exact Ya0f
   rcases Sr c i with hlt|heq|wx
   ·exact Ya38
   ·subst heq; exact ⟨hc2,fun _=>du⟩
   ·have zx:wrT o=false:=by
     cases dv:wrT o with
     | false=>rfl
     | true =>
      have:=du.2.1 i wx (by unfold wT; rw [ho]; exact dv);exact Ya3p
    have se:∀ j,i<=j->j<i+(c - i)->wT ops j=false:=by
     intro j h1 h2;by_cases e:j=i
     ·subst e; unfold wT; rw [ho]; exact zx
     ·cases di:wT ops j with
      | false=>rfl
      | true =>
       have h3:=du.2.1 j aA di;have:=(hw j e di).1 h3;omega
    have:=constT (c - i) i Za5y se;rw [show i+(c - i)=c from by omega] at this;exact ⟨by rw [hc2,this],fun h=>by rw [zx] at h; simp at h⟩
  obtain ⟨st1,st2,st3⟩:=stepT i o ho;have fromS:∀ {s2:St},s2.T=s.T->(wrS o=true->s2.S=(sts (i+1)).S/\s2.n=(sts (i+1)).n)->(wrS o=false->s2.S=s.S/\s2.n=s.n)->(wrT o=true->s2.tk=(sts (i+1)).tk)->(wrT o=false->s2.tk=s.tk) ->
    DInv ops st sts val (listed.setIfInBounds i true) { s2 with T:=putT s2.T o.dst (val i) }:=by
   intro s2 eT k1 k2 k3 k4;have aw:∀ j,(listed.setIfInBounds i true).getD j false=true↔j=i\/listed.getD j false=true:=by
    intro j;by_cases e:i=j
    ·subst e;simp [J7 (l:=listed) (b:=true) (d:=false) (show i<listed.size by rw [hD.len]; exact b6)]
    ·exact Ya43
   refine ⟨by simp [hD.len],fun j hj e he=>(aw e).2 (.inr ?_),by simp only [Jg,eT,hD.lenT],fun j t hj hd hnp=>?_,fun t ht=>?_,?_,?_⟩
   ·exact Ya16
   ·simp only [eT];rcases (aw j).1 hj with rfl|fh
    ·have fm:o.dst=some t:=Za38
     rw [fm];simp only [putT];by_cases jx:t<st.T.length
     ·rw [if_pos jx];exact H0 (by rw [hD.lenT]; exact jx)
     ·rw [if_neg jx];refine Po ?_;rw [Am,hD.lenT]; exact iL jx
    ·have hne:o.dst≠some t:=fun x=>by
      have:B5 ops i=some t:=dZ
      have:=k9 this hd;subst this;rw [oq] at fh; simp at fh
     have a2j:∀ e,Eo ops e j=true->listed.getD e false=true:=fun e he=>((aw e).1 (hnp e he)).resolve_left fun x=>by
      subst x;have:=bo j he; rw [fh] at this; simp at this
     cases fm:o.dst with
     | none=>simp only [putT]; exact hD.t1 j t fh hd a2j
     | some d =>
      simp only [putT];rw [B8 (fun x=>hne dE)];exact hD.t1 j t fh hd a2j
   ·simp only [eT];have hne:o.dst≠some t:=fun x=>ht i ((aw i).2 (.inl rfl)) dZ;exact Ya0q
   ·cases dv:wrS o with
    | false =>
     obtain ⟨c,du,hc2,hc3⟩:=hD.cS;have vw:c≠i:=fun e=>by
      subst e;have:=(du.2.2 b6).1;unfold wS at this;exact Ya44
     refine ⟨c,⟨du.1,fun j hj hw=>(aw j).2 (.inr (du.2.1 j hj hw)),fun hlt=>⟨(du.2.2 hlt).1,?_⟩⟩,by simp only [(k2 dv).1,hc2],by simp only [(k2 dv).2,hc3]⟩;rw [Dt (fun e=>vw e.symm)]; exact (du.2.2 hlt).2
    | true =>
     have a01:=(curS (.inl dv)).2.2 dv;obtain ⟨c,g1,g2,g3⟩:=Mm (wS ops) (listed.setIfInBounds i true) ops.size ops.size (i+1) aA aA (fun j hj hw=>(aw j).2 (by
      by_cases e:j=i
      ·exact .inl e
      ·exact .inr (a01.2.1 j aA hw)))
     have se:∀ j,i+1<=j->j<(i+1)+(c - (i+1))->wS ops j=false:=by
      intro j h1 h2;cases di:wS ops j with
      | false=>rfl
      | true =>
       have h3:=g3 j h1 aA di;rcases (aw j).1 h3 with h4|h4
       ·omega
       ·exfalso;unfold wS at di;exact Ya1i
     have:=constS (c - (i+1)) (i+1) Za5z se;rw [show i+1+(c - (i+1))=c from by omega] at this;exact ⟨c,g2,by simp only [(k1 dv).1,this.1],by simp only [(k1 dv).2,this.2]⟩
   ·cases dv:wrT o with
    | false =>
     obtain ⟨c,du,hc2⟩:=hD.cT;have vw:c≠i:=fun e=>by
      subst e;have:=(du.2.2 b6).1;unfold wT at this;exact Ya44
     refine ⟨c,⟨du.1,fun j hj hw=>(aw j).2 (.inr (du.2.1 j hj hw)),fun hlt=>⟨(du.2.2 hlt).1,?_⟩⟩,by simp only [k4 dv,hc2]⟩;rw [Dt (fun e=>vw e.symm)]; exact (du.2.2 hlt).2
    | true =>
     have a01:=(curT (.inl dv)).2 dv;obtain ⟨c,g1,g2,g3⟩:=Mm (wT ops) (listed.setIfInBounds i true) ops.size ops.size (i+1) aA aA (fun j hj hw=>(aw j).2 (by
      by_cases e:j=i
      ·exact .inl e
      ·exact .inr (a01.2.1 j aA hw)))
     have se:∀ j,i+1<=j->j<(i+1)+(c - (i+1))->wT ops j=false:=by
      intro j h1 h2;cases di:wT ops j with
      | false=>rfl
      | true =>
       have h3:=g3 j h1 aA di;rcases (aw j).1 h3 with h4|h4
       ·omega
       ·exfalso;unfold wT at di;exact Ya1i
     have:=constT (c - (i+1)) (i+1) Za5z se;rw [show i+1+(c - (i+1))=c from by omega] at this;exact ⟨c,g2,by simp only [k3 dv,this]⟩
  rcases fo i o ho with ⟨hw,hv,he⟩|⟨hw,s1,h1,om,he⟩
  ·refine ⟨false,s,by rw [agreeG]; exact hw,by simp,fun _=>⟨hv,rfl⟩,rfl,fromS rfl (fun dv=>?_) (fun _=>⟨rfl,rfl⟩) (fun dv=>?_) (fun _=>rfl)⟩
   ·rw [he]; exact ⟨(curS (.inl dv)).1,(curS (.inl dv)).2.1⟩
   ·rw [he]; exact (curT (.inl dv)).1
  ·obtain ⟨g1,g2,g3,g4⟩:=Uc hi a00 h1;obtain ⟨s2,e1,e2,e3,e4,e5,e6⟩:=g4 s agreeO (fun t x qx=>by
    have qe:=h1;simp only [evO,qx,Cc,Cf] at qe;obtain ⟨V,hV,hVv,-⟩:=qe;exact curL t x V s1 qx hV hVv.symm (by rw [hVv]; exact om)) (fun dv=>⟨(curS (.inl dv)).1,(curS (.inl dv)).2.1⟩) (fun dv=>(curT (.inl dv)).1) (fun hA=>⟨(curS (.inr hA)).1,(curS (.inr hA)).2.1,(curT (.inr hA)).1⟩)
   refine ⟨true,s2,by rw [agreeG]; exact hw,fun _=>e1,by simp,e2,fromS e2 (fun dv=>?_) e4 (fun dv=>?_) e6⟩
   ·rw [he]; exact e3 dv
   ·rw [he]; exact e5 dv
 have allocStep:∀ {i:Nat} {o:Oper} {t:TypeId},ops[i]?=some o->o.op=.alloc t->o.guard=none->∃ cs,A2 P t=some cs/\val i=.ref (sts i).S.length (sts i).n 0/\(sts (i+1)).S=(sts i).S++[⟨(sts i).n,cs⟩]/\(sts (i+1)).n=(sts i).n+1/\(sts (i+1)).tk=(sts i).tk:=by
  intro i o t ho e hg;rcases fo i o ho with ⟨hw,-,-⟩|⟨-,s1,h1,-,he⟩
  ·unfold H9 at hw; rw [hg] at hw; simp at hw
  ·simp only [evO,e,Cc,Cf] at h1;obtain ⟨cs,h1,h2,rfl⟩:=h1;exact ⟨cs,h1,h2.symm,by rw [he],by rw [he],by rw [he]⟩
 have setq:∀ {listed:Array Bool} {i:Nat},i<listed.size->∀ j,(listed.setIfInBounds i true).getD j false=true↔j=i\/listed.getD j false=true:=by
  intro listed i b6 j;by_cases e:i=j
  ·subst e;simp [J7 (l:=listed) (b:=true) (d:=false) b6]
  ·exact Ya43
 have stepB:∀ {listed:Array Bool} {s:St} {A:Nat} {o:Oper},DInv ops st sts val listed s->A+1 ∈ Region.ready .any ops listed->Eo ops A (A+1)=true->listed.getD A false=false->ops[A+1]?=some o ->
   DInv ops st sts val (listed.setIfInBounds (A+1) true) { s with T:=putT s.T o.dst .bot }:=by
  intro listed s A o hD b9 hp hA ho;obtain ⟨h0,o',fk,ly⟩:=Eu b9;rw [ho] at fk;simp only [Ba] at fk;subst fk;obtain ⟨oq,b6⟩:=Gt h0;have aw:=setq b6;obtain ⟨pA,pB,q1,q2,⟨q3,-⟩,q4,-⟩:=Jf hp;rw [ho] at q2;simp only [Ba] at q2;subst q2;have wA:wS ops A=true:=by unfold wS; rw [q1]; exact (Jd q3).1
  refine ⟨by simp [hD.len],fun j hj e he=>(aw e).2 (.inr ?_),by simp only [Jg]; exact hD.lenT,fun j t hj hd hnp=>?_,fun t ht=>?_,?_,?_⟩
  ·exact Ya16
  ·rcases (aw j).1 hj with rfl|fh
   ·have:=(aw A).1 (hnp A hp);rcases this with h|h
    ·omega
    ·rw [hA] at h; simp at h
   ·have hne:o.dst≠some t:=fun x=>by
     have:B5 ops (A+1)=some t:=dZ
     have:=k9 this hd;subst this;rw [oq] at fh; simp at fh
    have gg:getT s.T t=if t<st.T.length then val j else .bot:=hD.t1 j t fh hd fun e he=>by
     rcases (aw e).1 (hnp e he) with h|h
     ·subst h;exfalso;have lz:=Gv he;have hlt:=Vc he;obtain ⟨p1,p2,r1,r2,⟨r3,-⟩,r4,-⟩:=Jf he;rcases (bj j p2 r2).2 A pA aA q1 (by simp [conf,(Jd r4).1,(Jd q3).1]) with h|h
      ·have:=Dl hD.closed (hD.closed j fh) A h;rw [hA] at this; simp at this
      ·have:=Gv h; omega
     ·exact h
    cases fm:o.dst with
    | none=>simp only [putT]; exact gg
    | some d =>
     simp only [putT];rw [B8 (fun x=>hne dE)];exact gg
  ·have hne:o.dst≠some t:=fun x=>ht (A+1) ((aw _).2 (.inl rfl)) dZ;exact Ya0q
  ·obtain ⟨c,du,hc2,hc3⟩:=hD.cS;have hcA:c<=A:=by
    rcases Ig A c with h|h
    ·have:=du.2.1 A h wA; rw [hA] at this; simp at this
    ·exact h
   refine ⟨c,⟨du.1,fun j hj hw=>(aw j).2 (.inr (du.2.1 j hj hw)),fun hlt=>⟨(du.2.2 hlt).1,?_⟩⟩,hc2,hc3⟩;rw [Dt aA]; exact (du.2.2 hlt).2
  ·obtain ⟨c,du,hc2⟩:=hD.cT;have hcB:c≠A+1:=fun e=>by
    subst e;have:=(du.2.2 (by rw [<- hD.len]; exact b6)).1;unfold wT at this; rw [ho] at this;simp only [(Jd q4).2.2] at this;simp at this
   refine ⟨c,⟨du.1,fun j hj hw=>(aw j).2 (.inr (du.2.1 j hj hw)),fun hlt=>⟨(du.2.2 hlt).1,?_⟩⟩,hc2⟩;rw [Dt (fun e=>hcB e.symm)]; exact (du.2.2 hlt).2
 have stepA:∀ {listed:Array Bool} {s:St} {A:Nat} {oA oB:Oper},DInv ops st sts val listed s->A ∈ Region.ready .any ops listed->Eo ops A (A+1)=true->listed.getD (A+1) false=true->ops[A]?=some oA->ops[A+1]?=some oB ->
   s.S=(sts A).S/\s.n=(sts A).n/\DInv ops st sts val (listed.setIfInBounds A true) { s with T:=putT (putT s.T oA.dst (val A)) oB.dst (val (A+1)),S:=(sts (A+2)).S,n:=(sts (A+2)).n }:=by
  intro listed s A oA oB hD b9 hp hB hoA hoB;obtain ⟨h0,o',fk,ly⟩:=Eu b9;rw [hoA] at fk;simp only [Ba] at fk;subst fk;obtain ⟨oq,b6⟩:=Gt h0;have aw:=setq b6;have gj:=Dl hD.closed ly;have zz:=(Vc hp).2;obtain ⟨pA,pB,q1,q2,⟨q3,-⟩,q4,-⟩:=Jf hp;rw [hoA] at q1; rw [hoB] at q2;simp only [Ba] at q1 q2;subst q1; subst q2;have wA:wS ops A=true:=by unfold wS; rw [hoA]; exact (Jd q3).1
  have wB:wS ops (A+1)=true:=by unfold wS; rw [hoB]; exact (Jd q4).1
  have others:∀ j,j≠A->j≠A+1->wS ops j=true->(listed.getD j false=true↔j<A):=by
   intro j hj1 lz di;unfold wS at di;cases hpj:ops[j]? with
   | none=>rw [hpj] at di; simp at di
   | some p =>
    rw [hpj] at di;simp only at di;rcases Nat.lt_or_gt_of_ne hj1 with hlt|wx
    ·refine ⟨fun _=>hlt,fun _=>?_⟩;rcases (bj (A+1) _ hoB).2 j p aA hpj (by simp [conf,di,(Jd q4).1]) with h|h
     ·exact Dl hD.closed (hD.closed _ hB) j h
     ·have:=Gv h; omega
    ·refine ⟨fun hl=>?_,fun h=>aA⟩;exfalso;rcases (bj j p hpj).2 A _ aA hoA (by simp [conf,di,(Jd q3).1]) with h|h
     ·have:=Dl hD.closed (hD.closed _ hl) A h;exact Ya3p
     ·have:=Gv h; omega
  obtain ⟨c,du,hc2,hc3⟩:=hD.cS;have hcA:c=A:=by
   rcases Sr c A with h|h|h
   ·have h1:=du.2.2 aA;have:=(others c aA aA h1.1).2 h;rw [h1.2] at this; simp at this
   ·exact h
   ·have:=du.2.1 A h wA; rw [oq] at this; simp at this
  subst hcA;refine ⟨hc2,hc3,⟨by simp [hD.len],fun j hj e he=>(aw e).2 (.inr ?_),by simp only [Jg]; exact hD.lenT,fun j t hj hd hnp=>?_,fun t ht=>?_,?_,?_⟩⟩
  ·exact Ya16
  ·simp only;have putV:∀ {T:List AV} {o:Oper} {k:Nat} {v:AV},T.length=st.T.length->ops[k]?=some o->(B5 ops k=some t->getT (putT T o.dst v) t=if t<st.T.length then v else .bot)/\(B5 ops k≠some t->getT (putT T o.dst v) t=getT T t):=by
    intro T o k v hl hk;refine ⟨fun e=>?_,fun e=>?_⟩
    ·have fm:o.dst=some t:=by unfold B5 at e; rw [hk] at e; simpa using e
     rw [fm];simp only [putT];by_cases jx:t<st.T.length
     ·rw [if_pos jx]; exact H0 (by rw [hl]; exact jx)
     ·rw [if_neg jx]; exact Po (by rw [Am,hl]; exact iL jx)
    ·have hne:o.dst≠some t:=fun x=>e (by unfold B5; rw [hk]; simpa using x);exact Ya29
   have hl1:(putT s.T oA.dst (val c)).length=st.T.length:=by rw [Jg]; exact hD.lenT
   by_cases ejB:j=c+1
   ·subst ejB; exact (putV hl1 hoB).1 hd
   ·rw [(putV hl1 hoB).2 fun x=>ejB (k9 hd x)];by_cases ejA:j=c
    ·subst ejA; exact (putV hD.lenT hoA).1 hd
    ·rw [(putV hD.lenT hoA).2 fun x=>ejA (k9 hd x)];have fh:=((aw j).1 hj).resolve_left ejA;refine hD.t1 j t fh hd fun e he=>((aw e).1 (hnp e he)).resolve_left fun x=>?_;subst x;have:=Gv he; omega
  ·simp only;have a3d:oA.dst≠some t:=fun x=>ht c ((aw _).2 (.inl rfl)) (by unfold B5; rw [hoA]; simpa using x);have a3e:oB.dst≠some t:=fun x=>ht (c+1) ((aw _).2 (.inr hB)) (by unfold B5; rw [hoB]; simpa using x);have h3:=hD.t2 t fun j hj=>ht j ((aw j).2 (.inr hj));have one:∀ {T:List AV} {o:Oper} {v:AV},o.dst≠some t->getT (putT T o.dst v) t=getT T t:=by
    intro T o v hne;exact Ya29
   rw [one a3e,one a3d]; exact h3
  ·obtain ⟨c',g1,g2,g3⟩:=Mm (wS ops) (listed.setIfInBounds c true) ops.size ops.size (c+2) aA aA (fun j hj hw=>(aw j).2 (by
    by_cases e:j=c
    ·exact .inl e
    ·by_cases e':j=c+1
     ·subst e'; exact .inr hB
     ·exact .inr ((others j e e' hw).2 aA)))
   have se:∀ j,c+2<=j->j<(c+2)+(c' - (c+2))->wS ops j=false:=by
    intro j h1 h2;cases di:wS ops j with
    | false=>rfl
    | true =>
     have h3:=g3 j h1 aA di;rcases (aw j).1 h3 with h4|h4
     ·omega
     ·have:=(others j aA aA di).1 h4; omega
   have:=constS (c' - (c+2)) (c+2) Za5z se;rw [show c+2+(c' - (c+2))=c' from by omega] at this;exact ⟨c',g2,this.1.symm,this.2.symm⟩
  ·obtain ⟨c',x5,a3f⟩:=hD.cT;have hcc:c'≠c:=fun e=>by
    subst e;have:=(x5.2.2 aA).1;unfold wT at this; rw [hoA] at this;simp only [(Jd q3).2.2] at this;simp at this
   refine ⟨c',⟨x5.1,fun j hj hw=>(aw j).2 (.inr (x5.2.1 j hj hw)),fun hlt=>⟨(x5.2.2 hlt).1,?_⟩⟩,a3f⟩;rw [Dt (fun e=>hcc e.symm)]; exact (x5.2.2 hlt).2
 let Norm:Array Bool->Prop:=fun listed=>∀ e j,Eo ops e j=true->listed.getD j false=true->listed.getD e false=true;let Wait:Nat->Array Bool->Cx->Act->Prop:=fun A listed C1 a1=>Eo ops A (A+1)=true/\listed.getD A false=false/\listed.getD (A+1) false=true/\∃ oB tB arr b,ops[A+1]?=some oB/\oB.op=.alloc tB/\A2 P tB=some (arr.toList.map cst1) /\
  (∀ d x,oB.dst=some d->a1.tmps.toList[d]?=some x->x=.pointer (some ⟨b,0,none⟩))/\C1.w.heap[b]?=some (.cells arr tB (0,0))/\C.w.heap.size<=b/\(∀ o,C1.av b o)/\(∀ x o,x≠b->(C1.av x o↔C.av x o))/\Le C { C1 with av:=C.av }
 have clash:∀ {listed:Array Bool} {s:St} {A A':Nat},DInv ops st sts val listed s->Eo ops A (A+1)=true->listed.getD A false=false->listed.getD (A+1) false=true->Eo ops A' (A'+1)=true->listed.getD A' false=false->((∀ e ∈ depsOf ops (A'+1),listed.getD e false=true))->A'=A:=by
  intro listed s A A' hD hp hA hB ef hA' a02;obtain ⟨p1,p2,r1,r2,⟨r3,-⟩,r4,-⟩:=Jf hp;obtain ⟨p1',p2',r1',r2',⟨r3',-⟩,r4',-⟩:=Jf ef;rcases Sr A' A with h|h|h
  ·exfalso;rcases (bj (A+1) p2 r2).2 A' p1' aA r1' (by simp [conf,(Jd r3').1,(Jd r4).1]) with h1|h1
   ·have:=Dl hD.closed (hD.closed _ hB) A' h1;rw [hA'] at this; simp at this
   ·have:=Gv h1; omega
  ·exact h
  ·exfalso;rcases (bj (A'+1) p2' r2').2 A p1 aA r1 (by simp [conf,(Jd r3).1,(Jd r4').1]) with h1|h1
   ·have:=Dl hD.closed a02 A h1;rw [hA] at this; simp at this
   ·have:=Gv h1; omega
 let Held:Array Bool->Cx->Act->Prop:=fun listed C1 a1=>∃ p al t d arr b,lt=some (p,al)/\al.op=.alloc t/\al.dst=some d/\listed.getD p false=true/\A2 P t=some (arr.toList.map cst1) /\
  (∀ x,a1.tmps.toList[d]?=some x->x=.pointer (some ⟨b,0,none⟩))/\C1.w.heap[b]?=some (.cells arr t (0,0))/\C.w.heap.size<=b/\(∀ o,C1.av b o)/\(∀ x o,x≠b->(C1.av x o↔C.av x o))/\Le C { C1 with av:=C.av }
 let Un:Array Bool->Prop:=fun listed=>∀ p al,lt=some (p,al)->listed.getD p false=false;let Hle:Array Bool->Cx->Act->Prop:=fun listed C1 a1=>(Un listed/\((Norm listed/\Le C C1)\/∃ A,Wait A listed C1 a1))\/Held listed C1 a1;have lateLt:∀ p al,lt=some (p,al)->p<ops.size:=by
  intro p al e;subst e;exact (Cj.1 iv.2.2.2.2.2.2.2).1
 have done:∀ {listed:Array Bool} {s:St} {C1:Cx} {a1:Act},Hle listed C1 a1->Rel C1 s a1->DInv ops st sts val listed s->(∀ j,j<ops.size->listed.getD j false=true)->Q .normal a1 C1.w:=by
  intro listed s C1 a1 hle bz hD hl;have e:=fin hD hl;subst e;rcases hle with ⟨oq,hle⟩|⟨p,al,t,d,arr,b,e1,e2,e3,hp,hz,hx,hb1,hb2,eg,ju,hle⟩
  ·have b8:lt=none:=by
    cases hlt:lt with
    | none=>rfl
    | some q =>
     obtain ⟨p,al⟩:=q;have h1:=oq p al hlt;rw [hl p (lateLt p al hlt)] at h1; cases h1
   rcases hle with ⟨-,hle⟩|⟨A,hp,hA,-⟩
   ·refine hQ a1 C1 hle ?_;rw [b8]; exact bz
   ·rw [hl A (Vc hp).1] at hA; simp at hA
  ·have h00:∀ o,¬ C.av b o:=fun o ha=>by have:=hr.sr.avlt b o ha; omega
   have hL0:=Le0.rev (C:=C1) eg ju h00 (arr.toList.map cst1);have cz:=SR.rev bz.sr hb1 eg ju h00 (fun g a hg=>(hr.sr.glob g a hg).2);have hrv:Vp P lt s={ s with T:=put s.T d (.ref s.S.length s.n 0),S:=s.S++[⟨s.n,arr.toList.map cst1⟩],n:=s.n+1 }:=by
    rw [e1]; simp only [Vp,e2,e3,hz,Ol,putT]
   refine hQ a1 (C1.rev C.av b (arr.toList.map cst1)) ?_ ?_
   ·have hl2:=hle;exact Yam
   ·rw [hrv];refine ⟨?_,bz.tk,?_,?_,bz.defers,cz⟩
    ·simp only [Cx.rev,bz.S,bz.n]
    ·simp only [Cx.rev,bz.n]
    ·have ah:VRs (C1.rev C.av b (arr.toList.map cst1)) s.T a1.tmps.toList:=VRs.mono0 hL0 _ _ bz.tmps;refine Lh ah fun x hx'=>?_;rw [hx x hx'];simp only [VR];refine ⟨b,rfl,?_,fun e'' he'' _=>?_⟩
     ·simp only [Cx.rev,bz.n]; omega
     ·simp only [Cx.rev,bz.S,Cm,Ci,Cu,if_true]
 have main:∀ (fuel:Nat) (listed:Array Bool) (s:St) (C1:Cx) (a1:Act),El listed ops.size<=fuel->Hle listed C1 a1->Rel C1 s a1->DInv ops st sts val listed s->wpAny P .any real Q fuel listed a1 C1.w:=by
  intro fuel;induction fuel with
  | zero =>
   intro listed s C1 a1 a3g hle bz hD;have hl:∀ j,j<ops.size->listed.getD j false=true:=by
    intro j hj;have h0:El listed ops.size=0:=aA
    unfold El at h0;rw [List.countP_eq_zero] at h0;have:=h0 j bL;exact Ya1y
   refine ⟨?_,done hle bz hD hl⟩;cases xx:Region.ready .any real listed with
   | nil=>rfl
   | cons x l =>
    have hx:x ∈ Region.ready .any ops listed:=(jf listed x).1 (by rw [xx]; simp);obtain ⟨h0,o,ho,-⟩:=Eu hx;have oq:=(Gt h0).1;rw [hl x (Cj.1 ho).1] at oq; simp at oq
  | succ fuel ih =>
   intro listed s C1 a1 a3g hle bz hD;refine ⟨fun d7=>done hle bz hD (none_ready hD ?_),fun i a3h=>?_⟩
   ·cases xx:Region.ready .any ops listed with
    | nil=>rfl
    | cons x l =>
     have hx:x ∈ Region.ready .any real listed:=(jf listed x).2 (by rw [xx]; simp);rw [d7] at hx; cases hx
   have b9:=(jf listed i).1 a3h;obtain ⟨h0,o0,vz,a03⟩:=Eu b9;obtain ⟨sm,a3i⟩:=Gt h0;have aw:=setq a3i;have a4g:=Ab6 (Cj.1 vz).1 hD.len sm;by_cases hL8:∃ al,lt=some (i,al)
   ·obtain ⟨al,el⟩:=hL8;have x6:=iv;rw [el] at x6;obtain ⟨-,-,-,r1,r2,r3,⟨t,cs,r4,hz⟩,r5⟩:=x6;rw [vz] at r5;simp only [Ba] at r5;obtain ⟨d,r3⟩:=Su.1 r3;have hle:Le C C1:=by
     rcases hle with ⟨-,⟨-,h⟩|⟨A,hp,-⟩⟩|⟨p,al',-,-,-,-,e1,-,-,hp,-⟩
     ·exact h
     ·exact (jv _ _ el _ _ hp).elim
     ·rw [el] at e1;simp only [Ba,Cf] at e1;obtain ⟨rfl,-⟩:=e1;rw [sm] at hp; cases hp
    obtain ⟨o,ho,oq,bb,s2,hw,hb1,hb2,hT,x7⟩:=step hD i b9 (fun e he=>(jv _ _ el _ _ he).elim) (fun e he=>(jv _ _ el _ _ he).elim);rw [vz] at ho;simp only [Ba] at ho;subst ho;have lg:o0.guard=none:=by rw [r5]; exact r2
    have dd:o0.dst=some d:=by rw [r5]; exact r3
    have hw1:H9 ops.toList s.T o0=some true:=by unfold H9; rw [lg]
    rw [hw] at hw1;simp only [Ba] at hw1;have bw:=hb1 hw1;simp only [evO,r5,evQ,opv,C7,Ba,Cf] at bw;obtain ⟨hv,gd⟩:=bw;subst gd;rw [<- hv,dd] at x7;obtain ⟨arr,f8,hwp⟩:=Aem (P:=P) r4 hz;unfold wpOp;rw [r1];simp only;have hwn:Sc al (yielded real a1.tmps)=true:=by unfold Sc; rw [r2]
    rw [if_pos hwn];refine .inl (hwp C1 a1 _ _ ?_);have hbel:Below C1.w.heap.size C1.w (C1.w.alloc (.cells arr t)):=(Fw _ _).alloc (Ce _) _;have ae:Rel (C1.hid arr t) { s with T:=putT s.T (some d) .bot } (a1.put al.dst (.pointer (some ⟨C1.w.heap.size,0,none⟩))):=by
     rw [r3];exact ⟨bz.S,bz.tk,bz.n,Xq (d:=some d) (VRs.mono0 (Le0.hid arr t) _ _ bz.tmps) bU,bz.defers,bz.sr.hid arr t⟩
    refine ih _ _ (C1.hid arr t) _ aA (.inr ⟨i,al,t,d,arr,C1.w.heap.size,el,r4,r3,(aw _).2 (.inl rfl),by rw [f8]; exact hz,?_,Ax _ _,hle.size,fun o=>.inr rfl,fun x o hx=>?_,?_⟩) ae x7
    ·intro x hx;rw [r3] at hx;exact Ya10
    ·exact Ya3h
    ·exact Ya0o
   have dw:real[i]?=ops[i]?:=a2g i fun p al e hip=>hL8 ⟨al,by rw [hip]; exact e⟩;have hUn:∀ {L:Array Bool},Un listed->(∀ j,L.getD j false=true->j=i\/listed.getD j false=true)->Un L:=by
    intro L hu hs p al e;cases hx:L.getD p false with
    | false=>rfl
    | true =>
     rcases hs p hx with h|h
     ·exact absurd ⟨al,by rw [<- h]; exact e⟩ hL8
     ·rw [hu p al e] at h; cases h
   have ih':∀ (s:St) (C1:Cx) (a1:Act),Un listed->((Norm (listed.setIfInBounds i true)/\Le C C1)\/∃ A,Wait A (listed.setIfInBounds i true) C1 a1)->Rel C1 s a1->DInv ops st sts val (listed.setIfInBounds i true) s->wpAny P .any real Q fuel (listed.setIfInBounds i true) a1 C1.w :=
    fun s C1 a1 hu h=>ih _ s C1 a1 aA (.inl ⟨hUn hu fun j=>(aw j).1,h⟩)
   by_cases hB:∃ A,Eo ops A i=true/\listed.getD A false=false
   ·obtain ⟨A,hp,hA⟩:=hB;have hi1:=Gv hp;subst hi1;obtain ⟨a04,hle⟩:Un listed/\((Norm listed/\Le C C1)\/∃ A,Wait A listed C1 a1):=hle.resolve_right fun ⟨p,al,_,_,_,_,e1,_⟩=>jv p al e1 _ _ hp;have hN:Norm listed/\Le C C1:=by
     rcases hle with h|⟨A',ef,hA',hB',-⟩
     ·exact h
     ·exfalso;have:=clash hD ef hA' hB' hp hA a03;subst this;rw [sm] at hB'; simp at hB'
    obtain ⟨hN,hle⟩:=hN;obtain ⟨pA,pB,q1,q2,⟨q3,-⟩,q4,-⟩:=Jf hp;rw [vz] at q2;simp only [Ba] at q2;subst q2;obtain ⟨t,e,hg⟩:=Qz q4;obtain ⟨cs,hz,-⟩:=allocStep vz e hg;obtain ⟨arr,f8,hwp⟩:=Aem (P:=P) e hz;unfold wpOp;rw [dw,sd];simp only [vz];have hw:H9 ops.toList s.T o0=some true:=by unfold H9; rw [hg]
    rw [if_pos (Jl bz.tmps hw)];refine .inl (hwp C1 a1 _ _ ?_);have hbel:Below C1.w.heap.size C1.w (C1.w.alloc (.cells arr t)):=(Fw _ _).alloc (Ce _) _;have ae:Rel (C1.hid arr t) { s with T:=putT s.T o0.dst .bot } (a1.put o0.dst (.pointer (some ⟨C1.w.heap.size,0,none⟩))) :=
     ⟨bz.S,bz.tk,bz.n,Xq (VRs.mono0 (Le0.hid arr t) _ _ bz.tmps) bU,by cases o0.dst <;> exact bz.defers,bz.sr.hid arr t⟩
    refine ih' _ (C1.hid arr t) _ a04 (.inr ⟨A,hp,?_,?_,o0,t,arr,C1.w.heap.size,vz,e,by rw [f8]; exact hz,?_,Ax _ _,hle.size,fun o=>.inr rfl,fun x o hx=>?_,?_⟩) ae (stepB hD b9 hp hA vz)
    ·rw [Dt aA]; exact hA
    ·exact (aw _).2 (.inl rfl)
    ·intro d x hd hx;rw [hd] at hx;exact Ya10
    ·exact Ya3h
    ·exact Ya0o
   ·by_cases hA2:∃ b,Eo ops i b=true/\listed.getD b false=true
    ·obtain ⟨b',hp,hB'⟩:=hA2;have hi1:=Gv hp;subst hi1;obtain ⟨a04,hle⟩:Un listed/\((Norm listed/\Le C C1)\/∃ A,Wait A listed C1 a1):=hle.resolve_right fun ⟨p,al,_,_,_,_,e1,_⟩=>jv p al e1 _ _ hp;rcases hle with ⟨hN,-⟩|⟨A,ef,hA',hB'',oB,tB,arr,b,ii,e1,hz1,hx1,hb1,hb2,eg,ju,hle⟩
     ·have:=hN _ _ hp hB';rw [sm] at this; simp at this
     ·have hAi:i=A:=clash hD ef hA' hB'' hp sm (hD.closed _ hB');subst hAi;obtain ⟨pA,pB,q1,q2,⟨q3,-⟩,q4,-⟩:=Jf hp;rw [vz] at q1; rw [ii] at q2;simp only [Ba] at q1 q2;subst q1; subst q2;obtain ⟨t,e,hg⟩:=Qz q3;obtain ⟨t',e',hg'⟩:=Qz q4;rw [e1] at e';simp only [Op.alloc.injEq] at e';subst e';obtain ⟨g1,g2,g3⟩:=stepA hD b9 hp hB' vz ii;obtain ⟨cs,hz,v1,v2,v3,v4⟩:=allocStep vz e hg;obtain ⟨cs',ft,v1',v2',v3',v4'⟩:=allocStep ii e1 hg';rw [hz1] at ft;simp only [Ba] at ft;subst ft;have dv:H9 ops.toList s.T o0=some true:=by unfold H9; rw [hg]
      have bw:evO P call o0 s=some (val i,{ s with S:=s.S++[⟨s.n,cs⟩],n:=s.n+1 }):=by
       simp only [evO,e,hz,C7,v1,g1,g2]
      unfold wpOp;rw [dw,sd];simp only [vz];rw [if_pos (Jl bz.tmps dv)];refine .inl (Hm hc bz bw fun u C2 k1 k2 k3 k4 k5 k6=>?_).1;have ae:=bz.put (d:=o0.dst) k1 k2 k3 k4 k5 k6 rfl;have nm:∀ o,¬ C1.Mut b o:=fun o hm=>bz.sr.own b o hm (eg o);have x8:C2.w.heap[b]?=some (.cells arr tB (0,0)):=by
       rw [k1.keep b (Cj.1 hb1).1 nm]; exact hb1
      have a2k:∀ o,C2.av b o:=fun o=>Za5a
      have a0q:∀ x o,x≠b->(C2.av x o↔C.av x o):=fun x o hx=>Za3z
      have h00:∀ o,¬ C.av b o:=fun o ha=>by have:=hr.sr.avlt b o ha; omega
      have hL0:=Le0.rev (C:=C2) a2k a0q h00 (arr.toList.map cst1);have cz:=SR.rev k2 x8 a2k a0q h00 (fun g a hg=>(hr.sr.glob g a hg).2);have fd:(sts (i+2)).S=s.S++[⟨s.n,cs⟩]++[⟨s.n+1,arr.toList.map cst1⟩]/\(sts (i+2)).n=s.n+1+1:=by
       rw [show i+2=i+1+1 from rfl,v2',v3',v2,v3,g1,g2];exact Ya45
      refine ih' _ (C2.rev C.av b (arr.toList.map cst1)) _ a04 (.inl ⟨?_,?_⟩) ⟨?_,?_,?_,?_,ae.defers,cz⟩ g3
      ·intro e' j' hp2 fh;rcases (aw j').1 fh with h|h
       ·subst h;have:=Gv hp2;exfalso;subst this;obtain ⟨p1,p2,r1,r2,⟨r3,-⟩,r4,-⟩:=Jf hp2;rcases (bj (e'+1+1) _ ii).2 e' p1 aA r1 (by simp [conf,(Jd r3).1,(Jd q4).1]) with h1|h1
        ·have h2:=(Q9 hp2 (Vc hp).2 aA aA).1 h1;have:=Dl hD.closed (hD.closed _ hB') _ h2;rw [sm] at this; simp at this
        ·have:=Gv h1; omega
       ·by_cases he:listed.getD e' false=true
        ·exact (aw _).2 (.inr he)
        ·have gd:=Gv hp2;subst gd;have:=clash hD hp sm hB' hp2 gH (hD.closed _ h);exact (aw _).2 (.inl this)
      ·have hl2:Le C { C2 with av:=C.av }:=hle.trans ⟨k1.os,k1.tape,k1.output,k1.size,rfl,k1.n,k1.mt,k1.cell,k1.keep,k1.shape,k1.ent,k1.tok⟩;exact Yam
      ·simp only [Cx.rev,fd.1,k3,k5]
      ·exact k4
      ·simp only [Cx.rev,fd.2,k5]
      ·have ah:VRs (C2.rev C.av b (arr.toList.map cst1)) (putT s.T o0.dst (val i)) (a1.put o0.dst u).tmps.toList:=VRs.mono0 hL0 _ _ ae.tmps;simp only;cases hd:oB.dst with
       | none=>exact ah
       | some d =>
        refine Lh ah fun x hx=>?_;have jn:o0.dst≠some d:=fun h=>by
         have h1:B5 ops i=some d:=by unfold B5; rw [vz]; simpa using h
         have h2:B5 ops (i+1)=some d:=by unfold B5; rw [ii]; simpa using hd
         have:=k9 h1 h2; omega
        have hx':a1.tmps.toList[d]?=some x:=by
         cases dd:o0.dst with
         | none=>rw [dd] at hx; exact hx
         | some d0 =>
          exact Ya05
        rw [hx1 d x hd hx',v1',v2,v3,g1.symm,g2.symm];simp only [VR];refine ⟨b,rfl,?_,fun e'' he'' _=>?_⟩
        ·simp only [Cx.rev,k5]; omega
        ·simp only [Cx.rev,k3,Cm,Ci,Cu,if_true]
    ·have ci:∀ e,Eo ops e i=true->listed.getD e false=true:=fun e he=>by
      cases h:listed.getD e false with
      | true=>rfl
      | false=>exact absurd ⟨e,he,h⟩ hB
     have bo:∀ e,Eo ops i e=true->listed.getD e false=false:=fun e he=>by
      cases h:listed.getD e false with
      | false=>rfl
      | true=>exact absurd ⟨e,he,h⟩ hA2
     obtain ⟨o,ho,oq,b,s2,hw,hb1,hb2,hT,x7⟩:=step hD i b9 ci bo;have u6:=Jl bz.tmps hw;have keepW:∀ {C2:Cx} {u:Value},Le C1 C2->((Norm listed/\Le C C1)\/∃ A,Wait A listed C1 a1)->((Norm (listed.setIfInBounds i true)/\Le C C2)\/∃ A,Wait A (listed.setIfInBounds i true) C2 (a1.put o.dst u)):=by
      intro C2 u k1 hle;rcases hle with ⟨hN,hle⟩|⟨A,ef,hA',hB'',oB,tB,arr,b,ii,e1,hz1,hx1,hb1,hb2,eg,ju,hle⟩
      ·refine .inl ⟨fun e j hp hj=>(aw e).2 ?_,hle.trans k1⟩;rcases (aw j).1 hj with h|h
       ·subst h; exact .inr (ci e hp)
       ·exact .inr (hN e j hp h)
      ·have hiA:i≠A:=fun h=>by
        subst h;have:=bo _ ef; rw [hB''] at this; simp at this
       refine .inr ⟨A,ef,?_,(aw _).2 (.inr hB''),oB,tB,arr,b,ii,e1,hz1,fun d x hd hx=>?_,?_,hb2,fun o=>Za5a,fun x o hx=>Za3z,hle.trans ⟨k1.os,k1.tape,k1.output,k1.size,rfl,k1.n,k1.mt,k1.cell,k1.keep,k1.shape,k1.ent,k1.tok⟩⟩
       ·rw [Dt hiA]; exact hA'
       ·refine hx1 d x hd ?_;have jn:o.dst≠some d:=fun h=>by
         have h1:B5 ops i=some d:=by unfold B5; rw [ho]; simpa using h
         have h2:B5 ops (A+1)=some d:=by unfold B5; rw [ii]; simpa using hd
         have:=k9 h1 h2;subst this;rw [oq] at hB''; simp at hB''
        exact Ya4f
       ·exact Ya26
     have keepH:∀ {C2:Cx} {u:Value},Le C1 C2->Hle listed C1 a1->Hle (listed.setIfInBounds i true) C2 (a1.put o.dst u):=by
      intro C2 u k1 hle;rcases hle with ⟨hu,hle⟩|⟨p,al,t,d,arr,b,e1,e2,e3,hp,hz,hx1,hb1,hb2,eg,ju,hle⟩
      ·exact .inl ⟨hUn hu fun j=>(aw j).1,keepW k1 hle⟩
      ·refine .inr ⟨p,al,t,d,arr,b,e1,e2,e3,(aw _).2 (.inr hp),hz,fun x hx=>?_,?_,hb2,fun o=>Za5a,fun x o hx=>Za3z,hle.trans ⟨k1.os,k1.tape,k1.output,k1.size,rfl,k1.n,k1.mt,k1.cell,k1.keep,k1.shape,k1.ent,k1.tok⟩⟩
       ·refine hx1 x ?_;have jn:o.dst≠some d:=fun h=>by
         have p9:=iv;rw [e1] at p9;have h1:B5 ops i=some d:=by unfold B5; rw [ho]; simpa using h
         have h2:B5 ops p=some d:=by unfold B5; rw [p9.2.2.2.2.2.2.2]; simpa using e3
         have:=k9 h1 h2;subst this;rw [oq] at hp; cases hp
        exact Ya4f
       ·exact Ya26
     unfold wpOp;rw [dw,sd];simp only [ho];cases b with
     | false =>
      rw [if_neg (by rw [u6]; simp)];obtain ⟨hv,rfl⟩:=hb2 rfl;refine ih _ _ C1 _ aA (keepH (Le.refl C1) hle) ?_ x7;rw [hv];exact bz.put (Le.refl C1) bz.sr bz.S bz.tk bz.n bU rfl
     | true =>
      rw [if_pos u6];refine .inl (Hm hc bz (hb1 rfl) fun u C2 k1 k2 k3 k4 k5 k6=>?_).1;exact ih _ _ C2 _ aA (keepH k1 hle) (bz.put k1 k2 k3 k4 k5 k6 hT) x7
 have hbel:Below C.w.heap.size C.w C.w.drew:=(Fw _ _).drew;rw [hsz];refine main ops.size _ st (C.at C.w.drew) a ?_ (.inl ⟨fun p al _=>by simp [Sk],.inl ⟨fun e j _ hj=>by simp [Sk] at hj,Le.of_below hbel⟩⟩) ⟨hr.S,hr.tk,hr.n,VRs.mono (Le.of_below hbel) _ _ hr.tmps,hr.defers,SR.of_below hr.sr hbel⟩ ⟨by simp,?_,rfl,?_,fun t _=>rfl,?_,?_⟩
 ·unfold El;exact Fp List.countP_le_length (by simp)
 ·intro j hj; simp [Sk] at hj
 ·intro j t hj; simp [Sk] at hj
 ·obtain ⟨c,h1,h2,h3⟩:=Mm (wS ops) (Sp ops.size false) ops.size ops.size 0 aA aA (by intro j hj; omega);have se:∀ j,0<=j->j<0+c->wS ops j=false:=by
   intro j _ hj;cases di:wS ops j with
   | false=>rfl
   | true =>
    have:=h2.2.1 j aA di;simp [Sk] at this
  have:=constS c 0 (by have:=h2.1; omega) se;rw [Fm,j6] at this;exact ⟨c,h2,this.1.symm,this.2.symm⟩
 ·obtain ⟨c,h1,h2,h3⟩:=Mm (wT ops) (Sp ops.size false) ops.size ops.size 0 aA aA (by intro j hj; omega);have se:∀ j,0<=j->j<0+c->wT ops j=false:=by
   intro j _ hj;cases di:wT ops j with
   | false=>rfl
   | true =>
    have:=h2.2.1 j aA di;simp [Sk] at this
  have:=constT c 0 (by have:=h2.1; omega) se;rw [Fm,j6] at this;exact ⟨c,h2,this.symm⟩
theorem Aaj [Globs] (hm:P.follows .mixedOrders=true):Ad8 P Bx:=by
 refine ⟨hm,?_⟩;intro call hc real ops lt hlt hi C st st' a Q ab hr h hQ;exact @X3 P (gM (mdOf ops.toList)) hm call (Anw hc) hi real ops lt hlt C st st' a Q ab (At3.2 hr) h (fun a' C' hle dz=>hQ a' C' hle (At3.1 dz))
end
end
section
open Go.RowKit
section
variable {P:Program}
def CLe (a b:Bo):Prop:=∀ f args S tk n r,a f args S tk n=some r->b f args S tk n=some r
theorem Afb [Globs] {a b:Bo} (h:CLe a b) {o:Oper} {st:St} {r:AV × St} (he:evO P a o st=some r):evO P b o st=some r:=by
 unfold evO at he ⊢;split <;> simp_all only
 ·rename_i c _;split <;> simp_all only;split <;> simp_all only
  ·rename_i f args gc;simp only [Cc] at he ⊢;obtain ⟨x,h1,h2⟩:=he;exact ⟨x,h _ _ _ _ _ _ h1,h2⟩
theorem Bz [G:Globs] {a b:Bo} (h:CLe a b) {all:List Oper} : ∀ {l:List Oper} {st st':St},evOs P a all l st=some st'->evOs P b all l st=some st'
 | [],_,_,he=>he
 | o :: l,st,st',he=>by
  simp only [evOs] at he ⊢;split at he
  ·simp at he
  ·exact Bz h he
  ·split at he
   ·rename_i v s1 ho;rw [Afb h ho];simp only;split at he
    ·rename_i om;rw [if_pos om]; exact Bz h he
    ·simp at he
   ·simp at he
theorem CLe.pure [Globs] [Ext P] {M:Md} {a b:Bo} (h:CLe a b):CLe (@Gc (gM M) P _ a) (@Gc (gM M) P _ b):=by
 intro f args S tk n r he;unfold Gc at he ⊢;split at he
 ·rename_i hp; rw [if_pos hp]; exact h _ _ _ _ _ _ he
 ·simp at he
theorem Mw {kp:Bool} {f g:St->Option (Ex × St)} (h:∀ s r,f s=some r->g s=some r):∀ {k m:Nat} {s:St} {r:Ex × St},k<=m->Lo kp f k s=some r->Lo kp g m s=some r
 | 0,_,_,_,_,he=>by simp [Lo] at he
 | k+1,0,_,_,l6,_=>aA
 | k+1,m+1,s,r,l6,he=>by
  simp only [Lo] at he ⊢;split at he
  ·rename_i s1 h1;rw [h _ _ h1];exact Mw h aA he
  ·rename_i hne;rw [h _ _ he];exact Ya2f
theorem Dn [Globs] [Ext P] {a b:Bo} (h:CLe a b) {ok:St->List Oper->Bool} {n m:Nat} (gh:n<=m):∀ (c:Code) (st:St) (r:Ex × St),evC P a ok n c st=some r->evC P b ok m c st=some r
 | .skip,_,_,he=>fC
 | .region _ ops draw,st,r,he=>by
  simp only [evC] at he ⊢;split at he
  ·rename_i hd;rw [if_pos hd];split at he
   ·rename_i ini o vu;exact Ya0a
   ·split at he
    ·exact Ya0a
    ·split at he
     ·rename_i ab;simp only [ab,if_true];simp only [Cc] at he ⊢;obtain ⟨x,h1,h2⟩:=he;exact ⟨x,Bz (G:=gM _) h.pure h1,h2⟩
     ·simp at he
  ·rename_i hd;rw [if_neg hd];simp only [Cc] at he ⊢;obtain ⟨x,h1,h2⟩:=he;exact ⟨x,Bz h h1,h2⟩
 | .seq x y,st,r,he=>by
  simp only [evC] at he ⊢;split at he
  ·rename_i s1 h1;rw [Dn h gh x st _ h1];exact Dn h gh y s1 r he
  ·rename_i hne;rw [Dn h gh x st _ he];exact Ya2f
 | .cond x y z,st,r,he=>by
  simp only [evC] at he ⊢;split at he
  ·rename_i t ht;split at he
   ·rename_i h1; rw [if_pos h1]; exact Dn h gh y st r he
   ·rename_i h1; rw [if_neg h1]; exact Dn h gh z st r he
  ·simp at he
 | .block id x,st,r,he=>by
  simp only [evC] at he ⊢;split at he
  ·rename_i id' s1 h1;rw [Dn h gh x st _ h1]; exact he
  ·rename_i hne;rw [Dn h gh x st _ he];obtain ⟨ex,s2⟩:=r;cases ex with
   | normal=>rfl
   | exit id=>exact absurd he (hne id s2)
   | ret=>rfl
 | .loop x,st,r,he=>by
  simp only [evC] at he ⊢;exact Mw (fun s r=>Dn h gh x s r) gh he
 | .exit id,_,_,he=>fC
 | .ret,_,_,he=>fC
 | .rangeFunc _ _ _ _,_,_,he=>by simp [evC] at he
 | .scope c,st,r,he=>by
  simp only [evC] at he ⊢;exact Dn h gh c st r he
 | .label _,_,_,he=>fC
 | .goto _,_,_,he=>by simp [evC] at he
 | .refuse _,_,_,he=>by simp [evC] at he
theorem Lt {fn:Func} {x y:Option (Ex × St)} {r:AV × St} (h:∀ z,x=some z->y=some z) (he:outA P fn x=some r):outA P fn y=some r:=by
 match x with
 | none=>simp [outA] at he
 | some z=>rw [h z rfl]; exact he
theorem Ek [Globs] [Ext P] {ok:St->List Oper->Bool} : ∀ {k m:Nat},k<=m->CLe (evF P ok k) (evF P ok m)
 | 0,_,_=>Za3q
 | k+1,0,h=>aA
 | k+1,m+1,h=>by
  have ih:CLe (evF P ok k) (evF P ok m):=Ek aA;intro f args S tk n r he;simp only [evF] at he ⊢;split at he
  ·rename_i nq; rw [if_pos nq]; exact he
  rename_i nq;rw [if_neg nq];split at he
  ·rename_i fn hf;split at he
   ·rename_i c hb;split at he
    ·simp at he
    ·rename_i bg;rw [if_neg bg];split at he
     ·rename_i sc;rw [if_pos sc];exact Ya2h
     rename_i sc;rw [if_neg sc];split at he
     ·rename_i hp;rw [if_pos hp];have one:∀ {as:List AV} {r0:AV},runP P ok (evF P ok k) k fn c as=some r0->runP P ok (evF P ok m) m fn c as=some r0:=by
       intro as r0 hrun;unfold runP at hrun ⊢;split at hrun
       ·rename_i r' s1 ho;rw [Lt (fun z hz=>Dn ih aA c _ z hz) ho];exact hrun
       ·simp at hrun
      split at he
      ·rename_i r' ho;have:(if Hw c=true then runN (runP P ok (evF P ok m) m fn c) (args.map w2) else runP P ok (evF P ok m) m fn c (args.map w2))=some r':=by
        exact Ya0d
       rw [this]; exact he
      ·simp at he
     ·rename_i hp;rw [if_neg hp];exact Ya2h
   ·simp at he
  ·simp at he
noncomputable def lim {α:Type} (F:Nat->Option α):Option α:=by
 classical
 exact if h:∃ x,∃ k,F k=some x then some h.choose else none
theorem Alt {α:Type} {F:Nat->Option α} (hm:∀ k m x,k<=m->F k=some x->F m=some x) {x:α} : lim F=some x↔∃ k,F k=some x:=by
 unfold lim;constructor
 ·intro h;split at h
  ·rename_i hx;simp only [Ba] at h; subst h;exact hx.choose_spec
  ·simp at h
 ·rintro ⟨k,hk⟩;have hx:∃ x,∃ k,F k=some x:=⟨x,k,hk⟩;rw [dif_pos hx];obtain ⟨m,fg⟩:=hx.choose_spec;have h1:=hm _ _ _ (iW k m) hk;have h2:=hm _ _ _ (iP k m) fg;rw [h1] at h2;simp only [Ba] at h2;rw [<- h2]
theorem Kz {α:Type} {a b:Option α} (h:∀ x,a=some x↔b=some x):a=b:=by
 cases a with
 | none =>
  cases b with
  | none=>rfl
  | some y=>have:=(h y).2 rfl; simp at this
 | some x=>exact ((h x).1 rfl).symm
noncomputable def cL [Globs] (P:Program) [Ext P]:Bo:=fun f args S tk n=>lim fun k=>evF P Bx k f args S tk n
noncomputable def eL [Globs] (P:Program) [Ext P] (c:Code) (st:St):Option (Ex × St):=lim fun k=>evC P (evF P Bx k) Bx k c st
theorem K3 [Globs] [Ext P] {f args S tk n x} : cL P f args S tk n=some x↔∃ k,evF P Bx k f args S tk n=some x:=Alt fun _ _ _ h he=>Ek h _ _ _ _ _ _ he
theorem Bu [Globs] [Ext P] {c:Code} {st:St} {x:Ex × St} : eL P c st=some x↔∃ k,evC P (evF P Bx k) Bx k c st=some x:=Alt fun _ _ _ h he=>Dn (Ek h) h _ _ _ he
theorem Ahc [Globs] [Ext P] (k:Nat):CLe (evF P Bx k) (cL P):=fun _ _ _ _ _ _ h=>K3.2 ⟨k,h⟩
section
variable {F:Nat->Bo} {L:Bo} (hF:∀ k m,k<=m->CLe (F k) (F m)) (hL:∀ f args S tk n x,L f args S tk n=some x->∃ k,F k f args S tk n=some x)
include hL
theorem Asf [Globs] {o:Oper} {st:St} {r:AV × St} (h:evO P L o st=some r):∃ k,evO P (F k) o st=some r:=by
 by_cases hc:∃ c f args,o.op=.call c/\Ew P st.T c=some (f,args)/\(∀ b,c.callee≠.builtin b)
 ·obtain ⟨c,f,args,ho,gc,hb⟩:=hc;have e:∀ call:Bo,evO P call o st=(call f args st.S st.tk st.n).map fun (v,S,tk,n)=>(v,{ st with S:=S,tk:=tk,n:=n }):=by
   intro call;unfold evO;rw [ho];simp only;split
   ·exact Ya2q
   ·exact Ya2q
   ·rename_i b _ _ h'; exact absurd h' (hb _)
   ·rw [gc]
  rw [e] at h;simp only [Cc] at h;obtain ⟨x,h1,h2⟩:=h;obtain ⟨k,hk⟩:=hL _ _ _ _ _ _ h1;exact ⟨k,by rw [e,hk]; simp [h2]⟩
 ·refine ⟨0,?_⟩;have e:∀ call call':Bo,evO P call o st=evO P call' o st:=by
   intro call call';unfold evO;split <;> try rfl
   rename_i c ho;split <;> try rfl
   rename_i h1 h2 h3;split
   ·rename_i f args gc;exact absurd ⟨c,f,args,ho,gc,fun b hb=>by cases b <;> first|exact h1 hb|exact h2 hb|exact h3 _ hb⟩ hc
   ·rfl
  rw [e _ L]; exact h
include hF
theorem Td [G:Globs] {all:List Oper} : ∀ {l:List Oper} {st st':St},evOs P L all l st=some st'->∃ k,evOs P (F k) all l st=some st'
 | [],_,_,h=>⟨0,h⟩
 | o :: l,st,st',h=>by
  simp only [evOs] at h;split at h
  ·simp at h
  ·rename_i hw;obtain ⟨k,hk⟩:=Td h;exact ⟨k,by simp only [evOs,hw]; exact hk⟩
  ·rename_i hw;split at h
   ·rename_i v s1 ho;split at h;case isFalse=>simp at h
    rename_i om;obtain ⟨k,hk⟩:=Asf hL ho;obtain ⟨m,hm⟩:=Td h;refine ⟨max k m,?_⟩;simp only [evOs,hw];rw [Afb (hF _ _ (iW k m)) hk];simp only;rw [if_pos om];exact Bz (hF _ _ (iP k m)) hm
   ·simp at h
end
theorem Ac1 [Globs] [Ext P] {all l:List Oper} {st st':St} (h:evOs P (cL P) all l st=some st'):∃ k,evOs P (evF P Bx k) all l st=some st' :=
 Td (fun _ _ h=>Ek h) (fun _ _ _ _ _ _ h=>K3.1 h) h
theorem Ac2 [Globs] [Ext P] {M:Md} {all l:List Oper} {st st':St} (h:@evOs (gM M) P (@Gc (gM M) P _ (cL P)) all l st=some st'):∃ k,@evOs (gM M) P (@Gc (gM M) P _ (evF P Bx k)) all l st=some st':=by
 refine Td (F:=fun k=>@Gc (gM M) P _ (evF P Bx k)) (G:=gM M) (fun _ _ h=>(Ek h).pure) (fun f args S tk n x h=>?_) h;unfold Gc at h;split at h
 ·rename_i hp;obtain ⟨k,hk⟩:=K3.1 h;exact ⟨k,by unfold Gc; rw [if_pos hp]; exact hk⟩
 ·simp at h
inductive Kont where
 | seq (c:Code)|block (id:Nat)|loop (c:Code) (k:Nat)
noncomputable def cont [Globs] (P:Program) [Ext P] (fn:Func):Ex->St->List Kont->Option (AV × St)
 | e,st,[]=>outA P fn (some (e,st))
 | .normal,st,.seq c :: k=>match eL P c st with|some (e,st')=>cont P fn e st' k|none=>none
 | .normal,st,.block _ :: k=>cont P fn .normal st k
 | .normal,st,.loop c n :: k=>match eL P (.loop c) { st with S:=cutS (Q2 c) n st.S } with|some (e,st')=>cont P fn e st' k|none=>none
 | .exit id,st,.seq _ :: k=>cont P fn (.exit id) st k
 | .exit id,st,.block id' :: k=>if id=id' then cont P fn .normal st k else cont P fn (.exit id) st k
 | .exit id,st,.loop _ _ :: k=>cont P fn (.exit id) st k
 | .ret,st,_ :: k=>cont P fn .ret st k
noncomputable def RK [Globs] (P:Program) [Ext P] (fn:Func) (c:Code) (st:St) (k:List Kont):Option (AV × St):=match eL P c st with|some (e,st')=>cont P fn e st' k|none=>none
noncomputable def Jn [Globs] (M:Md) (P:Program) [Ext P] (call:Bo):Bo:=@Gc (gM M) P _ call
noncomputable def RO [Globs] (P:Program) [Ext P] (fn:Func) (M:Md) (call:Bo) (all l:List Oper) (st:St) (k:List Kont):Option (AV × St):=match @evOs (gM M) P call all l st with|some st'=>cont P fn .normal st' k|none=>none
def br {α:Type} (w:Option Bool) (a b:Option α):Option α:=match w with|some true=>a|some false=>b|none=>none
variable {fn:Func} {st:St} {k:List Kont}
theorem Aru [Globs] [Ext P]:RK P fn .skip st k=cont P fn .normal st k:=by
 have:eL P .skip st=some (.normal,st):=Bu.2 ⟨0,rfl⟩;simp only [RK,this]
theorem Ars [Globs] [Ext P] {id:Nat} : RK P fn (.exit id) st k=cont P fn (.exit id) st k:=by
 have:eL P (.exit id) st=some (.exit id,st):=Bu.2 ⟨0,rfl⟩;simp only [RK,this]
theorem Atw [Globs] [Ext P]:RK P fn .ret st k=cont P fn .ret st k:=by
 have:eL P .ret st=some (.ret,st):=Bu.2 ⟨0,rfl⟩;simp only [RK,this]
theorem Aqz [Globs] [Ext P] {a b:Code} : eL P (.seq a b) st=match eL P a st with|some (.normal,st')=>eL P b st'|r=>r:=by
 apply Kz;intro x;constructor
 ·intro h;obtain ⟨n,h⟩:=Bu.1 h;simp only [evC] at h;split at h
  ·rename_i s1 h1;rw [Bu.2 ⟨n,h1⟩];exact Bu.2 ⟨n,h⟩
  ·rename_i hne;rw [Bu.2 ⟨n,h⟩];exact Ya03
 ·intro h;split at h
  ·rename_i s1 h1;obtain ⟨n,h1⟩:=Bu.1 h1;obtain ⟨m,h⟩:=Bu.1 h;refine Bu.2 ⟨max n m,?_⟩;simp only [evC];rw [Dn (Ek (iW n m)) (iW n m) _ _ _ h1];exact Dn (Ek (iP n m)) (iP n m) _ _ _ h
  ·rename_i hne;obtain ⟨n,h1⟩:=Bu.1 h;refine Bu.2 ⟨n,?_⟩;simp only [evC];rw [h1];exact Ya03
theorem Atx [Globs] [Ext P] {a b:Code} : RK P fn (.seq a b) st k=RK P fn a st (.seq b :: k):=by
 simp only [RK,Aqz];cases h:eL P a st with
 | none=>rfl
 | some x =>
  obtain ⟨e,s⟩:=x;cases e <;> simp only [cont]
theorem Akp [Globs] [Ext P] {c:Operand} {a b:Code} : eL P (.cond c a b) st=match opv st.T c with|.prim (.bool t)=>if t=true then eL P a st else eL P b st|_=>none:=by
 apply Kz;intro x;rw [Bu];simp only [evC];generalize opv st.T c=v;cases v with
 | prim u =>
  cases u with
  | bool t=>cases t <;> simp [Bu]
  | _=>simp
 | _=>simp
theorem Arr [Globs] [Ext P] {c:Operand} {a b:Code} : RK P fn (.cond c a b) st k=match opv st.T c with|.prim (.bool t)=>if t=true then RK P fn a st k else RK P fn b st k|_=>none:=by
 simp only [RK,Akp];generalize opv st.T c=v;cases v with
 | prim u =>
  cases u with
  | bool t=>cases t <;> simp
  | _=>rfl
 | _=>rfl
theorem Ae7 [Globs] [Ext P] {id:Nat} {c:Code} : eL P (.block id c) st=match eL P c st with|some (.exit id',st')=>if id'=id then some (.normal,st') else some (.exit id',st')|r=>r:=by
 apply Kz;intro x;constructor
 ·intro h;obtain ⟨n,h⟩:=Bu.1 h;simp only [evC] at h;split at h
  ·rename_i s1 h1;rw [Bu.2 ⟨n,h1⟩]; exact h
  ·rename_i hne;rw [Bu.2 ⟨n,h⟩];exact Ya2a
 ·intro h;split at h
  ·rename_i id' s1 h1;obtain ⟨n,h1⟩:=Bu.1 h1;exact Bu.2 ⟨n,by simp only [evC]; rw [h1]; exact h⟩
  ·rename_i hne;obtain ⟨n,h1⟩:=Bu.1 h;refine Bu.2 ⟨n,?_⟩;simp only [evC];rw [h1];exact Ya2a
theorem An8 [Globs] [Ext P] {id:Nat} {c:Code} : RK P fn (.block id c) st k=RK P fn c st (.block id :: k):=by
 simp only [RK,Ae7];cases h:eL P c st with
 | none=>rfl
 | some x =>
  obtain ⟨e,s⟩:=x;cases e with
  | exit id'=>by_cases hid:id'=id <;> simp [cont,hid]
  | normal=>simp only [cont]
  | ret=>simp only [cont]
theorem Aks [Globs] [Ext P] {c:Code} : eL P (.loop c) st=match eL P c st with|some (.normal,st')=>eL P (.loop c) { st' with S:=cutS (Q2 c) st.S.length st'.S } | r=>r:=by
 apply Kz;intro x;constructor
 ·intro h;obtain ⟨n,h⟩:=Bu.1 h;simp only [evC] at h;cases n with
  | zero=>simp [Lo] at h
  | succ n =>
   simp only [Lo] at h;split at h
   ·rename_i s1 h1;rw [Bu.2 ⟨n+1,h1⟩];exact Bu.2 ⟨n+1,by simp only [evC]; exact Mw (fun _ _ h=>h) (kC n) h⟩
   ·rename_i hne;rw [Bu.2 ⟨n+1,h⟩];exact Ya03
 ·intro h;split at h
  ·rename_i s1 h1;obtain ⟨n,h1⟩:=Bu.1 h1;obtain ⟨m,h⟩:=Bu.1 h;simp only [evC] at h;refine Bu.2 ⟨max n m+1,?_⟩;simp only [evC,Lo];rw [Dn (Ek (show n<=max n m+1 by omega)) (show n<=max n m+1 by omega) _ _ _ h1];exact Mw (fun s r=>Dn (Ek (show m<=max n m+1 by omega)) (show m<=max n m+1 by omega) c s r) (show m<=max n m by omega) h
  ·rename_i hne;obtain ⟨n,h1⟩:=Bu.1 h;refine Bu.2 ⟨n+1,?_⟩;simp only [evC,Lo];rw [Dn (Ek (kC n)) (kC n) _ _ _ h1];exact Ya03
theorem Xk [Globs] [Ext P] {c:Code} : RK P fn (.loop c) st k=RK P fn c st (.loop c st.S.length :: k):=by
 rw [RK,Aks,RK];cases h:eL P c st with
 | none=>rfl
 | some x =>
  obtain ⟨e,s⟩:=x;cases e <;> simp only [cont]
theorem Pi [Globs] [Ext P] {id:Nat} {ops:Array Oper} : eL P (.region id ops false) st=(evOs P (cL P) ops.toList ops.toList st).map fun st=>(.normal,st):=by
 apply Kz;intro x;rw [Bu];simp only [evC,Cc,C6,if_false];constructor
 ·rintro ⟨n,s,h1,h2⟩; exact ⟨s,Bz (Ahc n) h1,h2⟩
 ·rintro ⟨s,h1,h2⟩;obtain ⟨n,hn⟩:=Ac1 h1;exact ⟨n,s,hn,h2⟩
theorem Akq [Globs] [Ext P] {id:Nat} {ops:Array Oper} (hs:Gr ops.toList=none) (hl:Kt ops.toList=none):eL P (.region id ops true) st=if Bx st ops.toList=true then (@evOs (gM (mdOf ops.toList)) P (Jn (mdOf ops.toList) P (cL P)) ops.toList ops.toList st).map fun st=>(.normal,st) else none:=by
 apply Kz;intro x;rw [Bu];simp only [evC,if_true,hs,hl];by_cases ab:Bx st ops.toList=true
 ·simp only [ab,if_true,Cc];constructor
  ·rintro ⟨n,s,h1,h2⟩; exact ⟨s,Bz (G:=gM _) (Ahc n).pure h1,h2⟩
  ·rintro ⟨s,h1,h2⟩;obtain ⟨n,hn⟩:=Ac2 h1;exact ⟨n,s,hn,h2⟩
 ·simp [ab]
theorem Akt [Globs] [Ext P] {id:Nat} {ops:Array Oper} {a:List Oper} {o:Oper} (hs:Gr ops.toList=some (a,o)):eL P (.region id ops true) st=if Bx st a=true then (match @evOs (gM (mdOf a)) P (Jn (mdOf a) P (cL P)) a a st with|some st1=>(evOs P (cL P) [o] [o] st1).map fun st=>(.normal,st)|none=>none) else none:=by
 apply Kz;intro x;rw [Bu];simp only [evC,if_true,hs];exact Yac
theorem Akr [Globs] [Ext P] {id:Nat} {ops:Array Oper} {p:Nat} {al o:Oper} (hs:Gr ops.toList=none) (hl:Kt ops.toList=some (p,al,o)):eL P (.region id ops true) st=if Bx st (openL ops.toList)=true then (match @evOs (gM (mdOf (openL ops.toList))) P (Jn (mdOf (openL ops.toList)) P (cL P)) (openL ops.toList) (openL ops.toList) st with|some st1=>(evOs P (cL P) [al,o] [al,o] st1).map fun st=>(.normal,st)|none=>none) else none:=by
 apply Kz;intro x;rw [Bu];simp only [evC,if_true,hs,hl];generalize openL ops.toList=a;exact Yac
theorem Aoa [Globs] [Ext P] {c:Code} : RK P fn (.scope c) st k=RK P fn c st k:=by
 have:eL P (.scope c) st=eL P c st:=by
  apply Kz;intro x;rw [Bu,Bu];simp only [evC]
 simp only [RK,this]
theorem An9 [Globs] [Ext P] {l:Nat} : RK P fn (.label l) st k=cont P fn .normal st k:=by
 have:eL P (.label l) st=some (.normal,st):=Bu.2 ⟨0,cP⟩;simp only [RK,this]
theorem Aja [Globs] [Ext P] {id:Nat} {ops:Array Oper} : RK P fn (.region id ops false) st k=RO P fn .no (cL P) ops.toList ops.toList st k:=by
 simp only [RK,Pi];show _=match evOs P (cL P) ops.toList ops.toList st with|some st'=>cont P fn .normal st' k|none=>none
 cases evOs P (cL P) ops.toList ops.toList st <;> rfl
theorem Tw [Globs] [Ext P] {id:Nat} {ops:Array Oper} (hs:Gr ops.toList=none) (hl:Kt ops.toList=none) (h:Bx st ops.toList=true):RK P fn (.region id ops true) st k=RO P fn (mdOf ops.toList) (Jn (mdOf ops.toList) P (cL P)) ops.toList ops.toList st k:=by
 simp only [RK,RO,Akq hs hl,if_true,h];cases @evOs (gM (mdOf ops.toList)) P (Jn (mdOf ops.toList) P (cL P)) ops.toList ops.toList st <;> rfl
theorem Arv [Globs] [Ext P] {id:Nat} {ops:Array Oper} {a:List Oper} {o:Oper} (hs:Gr ops.toList=some (a,o)) (gd:Gr a=none) (hl2:Kt a=none) (h:Bx st a=true):RK P fn (.region id ops true) st k=RK P fn (.region id a.toArray true) st (.seq (.region id #[o] false) :: k):=by
 rw [Tw (ops:=a.toArray) (by simpa using gd) (by simpa using hl2) aL];simp only [RK,RO,Akt hs,if_true,h];cases @evOs (gM (mdOf a)) P (Jn (mdOf a) P (cL P)) a a st with
 | none=>rfl
 | some s1 =>
  simp only [cont,RK,Pi]
theorem Art [Globs] [Ext P] {id:Nat} {ops:Array Oper} {p:Nat} {al o:Oper} (hs:Gr ops.toList=none) (hl:Kt ops.toList=some (p,al,o)) (h:Bx st (openL ops.toList)=true):RK P fn (.region id ops true) st k=RO P fn (mdOf (openL ops.toList)) (Jn (mdOf (openL ops.toList)) P (cL P)) (openL ops.toList) (openL ops.toList) st (.seq (.region id #[al,o] false) :: k):=by
 simp only [RK,RO,Akr hs hl,if_true,h];cases @evOs (gM (mdOf (openL ops.toList))) P (Jn (mdOf (openL ops.toList)) P (cL P)) (openL ops.toList) (openL ops.toList) st with
 | none=>rfl
 | some s1 =>
  simp only [cont,RK,Pi]
theorem Acg [Globs] [Ext P] {M:Md} {call:Bo} {all l:List Oper} {o:Oper} : RO P fn M call all (o :: l) st k=br (H9 all st.T o) (match @evO (gM M) P call o st with|some (v,st')=>if @chkO (gM M) P all o st v st'=true then RO P fn M call all l { st' with T:=putT st'.T o.dst v } k else none|none=>none) (RO P fn M call all l { st with T:=putT st.T o.dst (.prim undef) } k):=by
 simp only [RO,evOs];cases H9 all st.T o with
 | none=>rfl
 | some b =>
  cases b with
  | false=>rfl
  | true =>
   simp only [br];cases @evO (gM M) P call o st with
   | none=>rfl
   | some x =>
    obtain ⟨v,s1⟩:=x;simp only;cases @chkO (gM M) P all o st v s1 <;> rfl
theorem Aoz [Globs] [Ext P] {x:Kont} : cont P fn .ret st (x :: k)=cont P fn .ret st k:=by cases x <;> rfl
theorem Yl [Globs] [Ext P] {x:Code} {r:AV × St} (h:RK P fn x st []=some r):∃ n,outA P fn (evC P (evF P Bx n) Bx n x st)=some r:=by
 unfold RK at h;cases he:eL P x st with
 | none=>rw [he] at h; simp at h
 | some z =>
  rw [he] at h;obtain ⟨n,hn⟩:=Bu.1 he;obtain ⟨e,s⟩:=z;refine ⟨n,?_⟩;rw [hn];cases e <;> exact h
def asB:AV->Option Bool|.prim (.bool t)=>some t|_=>none
theorem asB_bool {t:Bool} : asB (.prim (.bool t))=some t:=rfl
theorem RK_if [Globs] [Ext P] {c:Operand} {a b:Code} : RK P fn (.cond c a b) st k=br (asB (opv st.T c)) (RK P fn a st k) (RK P fn b st k):=by
 rw [Arr];generalize opv st.T c=v;cases v with
 | prim u =>
  cases u with
  | bool t=>cases t <;> rfl
  | _=>rfl
 | _=>rfl
def fin1 (x:Option (AV × St)):Option AV:=match x with|some (r,s)=>some (w3 (fz3 0 s.S r))|none=>none
theorem fin1_some {r:AV} {s:St} : fin1 (some (r,s))=some (w3 (fz3 0 s.S r)):=rfl
def finS (b:Nat) (x:Option (AV × St)):Option (AV × List Ent × List Nat × Nat):=match x with|some (r,s)=>some (fz3 b s.S r,s.S.take b,s.tk,s.n)|none=>none
theorem finS_some {b:Nat} {r:AV} {s:St} : finS b (some (r,s))=some (fz3 b s.S r,s.S.take b,s.tk,s.n):=rfl
theorem Ash {t:Bool} {a b:Option (AV × St)} {r:AV} : fin1 (br (some t) a b)=some r↔(t=true->fin1 a=some r)/\(t=false->fin1 b=some r):=Za5j
theorem Asj {n:Nat} {t:Bool} {a b:Option (AV × St)} {r:AV × List Ent × List Nat × Nat} : finS n (br (some t) a b)=some r↔(t=true->finS n a=some r)/\(t=false->finS n b=some r):=Za5j
theorem Auj {α:Type} {t:Bool} {a b:Option α} : br (some (!t)) a b=br (some t) b a:=by cases t <;> rfl
theorem Alv [Globs] [Ext P] {ι:Type} {c:Code} (I:ι->St->Prop) (μ:ι->Nat) (G:ι->AV) (h:∀ x st,I x st->(∀ y st',μ y<μ x->I y st'->fin1 (RK P fn (.loop c) st' k)=some (G y))->fin1 (RK P fn c st (.loop c st.S.length :: k))=some (G x)) {x:ι} {st:St} (h0:I x st):fin1 (RK P fn (.loop c) st k)=some (G x):=by
 have key:∀ n x st,μ x=n->I x st->fin1 (RK P fn (.loop c) st k)=some (G x):=by
  intro n;exact Ya4d
 exact key _ x st rfl h0
theorem Ahu [Globs] [Ext P] {ι:Type} {c:Code} {m:Nat} (I:ι->St->Prop) (μ:ι->Nat) (G:ι->AV × List Ent × List Nat × Nat) (h:∀ x st,I x st->(∀ y st',μ y<μ x->I y st'->finS m (RK P fn (.loop c) st' k)=some (G y))->finS m (RK P fn c st (.loop c st.S.length :: k))=some (G x)) {x:ι} {st:St} (h0:I x st):finS m (RK P fn (.loop c) st k)=some (G x):=by
 have key:∀ n x st,μ x=n->I x st->finS m (RK P fn (.loop c) st k)=some (G x):=by
  intro n;exact Ya4d
 exact key _ x st rfl h0
theorem Tl [Globs] [Ext P] {c:Code} {as:List AV} {r:AV} (hp3:pure3 r=true) (h:fin1 (RK P fn c ⟨as++bots (fn.ntmps - as.length),[],[],0⟩ [])=some r):∃ m,runP P Bx (evF P Bx m) m fn c as=some r:=by
 rw [T4] at h;cases hr:RK P fn c ⟨as++Cg (fn.ntmps - as.length) .bot,[],[],0⟩ [] with
 | none=>rw [hr] at h; simp [fin1] at h
 | some x =>
  obtain ⟨r',s⟩:=x;rw [hr,fin1_some] at h;simp only [Ba] at h;obtain ⟨m,hm⟩:=Yl hr;refine ⟨m,?_⟩;unfold runP;rw [hm];simp only [h,hp3,if_true]
theorem Abv [Globs] [Ext P] {k m:Nat} (h:k<=m) {c:Code} {as:List AV} {r:AV} (hr:runP P Bx (evF P Bx k) k fn c as=some r):runP P Bx (evF P Bx m) m fn c as=some r:=by
 unfold runP at hr ⊢;split at hr
 ·rename_i r' s1 ho;rw [Lt (fun z hz=>Dn (Ek h) h c _ z hz) ho];exact hr
 ·simp at hr
theorem Z5 [Globs] [Ext P] {f : FuncId} {c : Code} (hf : P.funcs[f]? = some fn) (hx : (Ext.on P f || Ext.mv P f) = false) (hb : fn.body = some c) (d7 : Hw c = false) (bg : (fn.name == "runtime.NumGoroutine") = false) {args args' : List AV} {nt : Nat} (lh : fn.ntmps = nt) (aa : args.map w2 = args') (hp : args'.all pure2 = true) {r : AV}
  (S:List Ent) (tk:List Nat) (n:Nat) (hp3:pure3 r=true) (h:fin1 (RK P fn c ⟨args'++bots (nt - args.length),[],[],0⟩ [])=some r):cL P f args S tk n=some (r,S,tk,n):=by
 subst aa lh;obtain ⟨m,hm⟩:=Tl (as:=args.map w2) hp3 (by rw [Fg]; exact h);refine K3.2 ⟨m+1,?_⟩;have hn : ¬ fn.name = "runtime.NumGoroutine" := dS
 simp only [Fv] at hx;simp only [evF,hf,hb];rw [if_neg eK,if_neg hn,if_neg fR,if_pos hp,if_neg (by rw [d7]; simp),hm]
theorem Pf [Globs] [Ext P] {f : FuncId} {c : Code} (hf : P.funcs[f]? = some fn) (hx : (Ext.on P f || Ext.mv P f) = false) (hb : fn.body = some c) (d7 : Hw c = true) (bg : (fn.name == "runtime.NumGoroutine") = false) {e : List AV} {es : List (List AV)} {args args' : List AV} {nt : Nat} (lh : fn.ntmps = nt) (aa : args.map w2 = .frz (e :: es) .unk :: args') (hp : (AV.frz (e :: es) .unk :: args').all pure2 = true) {r : AV}
  (S:List Ent) (tk:List Nat) (n:Nat) (hp3:pure3 r=true) (h:fin1 (RK P fn c ⟨(.frz (e :: es) .unk :: args')++bots (nt - (args'.length+1)),[],[],0⟩ [])=some r):cL P f args S tk n=some (r,S,tk,n):=by
 subst lh;obtain ⟨m,hm⟩:=Tl (as:=.frz (e :: es) .unk :: args') hp3 h;refine K3.2 ⟨m+1,?_⟩;have hn : ¬ fn.name = "runtime.NumGoroutine" := dS
 simp only [Fv] at hx;simp only [evF,hf,hb];rw [if_neg eK,if_neg hn,if_neg fR,if_pos (by rw [aa]; exact hp),if_pos d7,aa];simp only [runN,hm]
theorem Rp [Globs] [Ext P] {f : FuncId} {c : Code} (hf : P.funcs[f]? = some fn) (hx : (Ext.on P f || Ext.mv P f) = false) (hb : fn.body = some c) (d7 : Hw c = true) (bg : (fn.name == "runtime.NumGoroutine") = false) {args args' : List AV} {nt : Nat} (lh : fn.ntmps = nt) (aa : args.map w2 = .frz [] .unk :: args') (hp : args'.all pure2 = true)
  (S:List Ent) (tk:List Nat) (n:Nat) (h1:fin1 (RK P fn c ⟨(.frz [] .nl :: args')++bots (nt - (args'.length+1)),[],[],0⟩ [])=some (.frz [] .unk)) (h2:fin1 (RK P fn c ⟨(.frz [] .nn :: args')++bots (nt - (args'.length+1)),[],[],0⟩ [])=some (.frz [] .unk)):cL P f args S tk n=some (.frz [] .unk,S,tk,n):=by
 subst lh;obtain ⟨m1,dk⟩:=Tl (as:=.frz [] .nl :: args') rfl h1;obtain ⟨m2,fi⟩:=Tl (as:=.frz [] .nn :: args') rfl h2;refine K3.2 ⟨max m1 m2+1,?_⟩;have hn : ¬ fn.name = "runtime.NumGoroutine" := dS
 simp only [Fv] at hx;simp only [evF,hf,hb];rw [if_neg eK,if_neg hn,if_neg fR,if_pos (by rw [aa]; simpa [pure2,pure1] using hp),if_pos d7,aa];simp only [runN,Abv (iW m1 m2) dk,Abv (iP m1 m2) fi]
theorem Ni [Globs] [Ext P] {f : FuncId} {c : Code} (hf : P.funcs[f]? = some fn) (hx : (Ext.on P f || Ext.mv P f) = false) (hb : fn.body = some c) (bg : (fn.name == "runtime.NumGoroutine") = false) {args : List AV} {nt : Nat} (lh : fn.ntmps = nt) (hp : (args.map w2).all pure2 = false) {S : List Ent} {tk : List Nat} {n : Nat} {r : AV × List Ent × List Nat × Nat}
  (h:finS S.length (RK P fn c ⟨args++bots (nt - args.length),S,tk,n⟩ [])=some r):cL P f args S tk n=some r:=by
 subst lh;rw [T4] at h;cases hr:RK P fn c ⟨args++Cg (fn.ntmps - args.length) .bot,S,tk,n⟩ [] with
 | none=>rw [hr] at h; simp [finS] at h
 | some x =>
  obtain ⟨r',s⟩:=x;rw [hr,finS_some] at h;obtain ⟨m,hm⟩:=Yl hr;refine K3.2 ⟨m+1,?_⟩;have hn : ¬ fn.name = "runtime.NumGoroutine" := dS
  simp only [Fv] at hx;simp only [evF,hf,hb];rw [if_neg eK,if_neg hn,if_neg fR,if_neg (by rw [hp]; simp),hm];exact h
def finM (x:Option (AV × St)):Option (AV × List Ent × List Nat × Nat):=match x with|some (r,s)=>some (r,s.S,s.tk,s.n)|none=>none
theorem finM_some {r:AV} {s:St} : finM (some (r,s))=some (r,s.S,s.tk,s.n):=rfl
theorem Asi {t:Bool} {a b:Option (AV × St)} {r:AV × List Ent × List Nat × Nat} : finM (br (some t) a b)=some r↔(t=true->finM a=some r)/\(t=false->finM b=some r):=Za5j
theorem Aj3 [Globs] [Ext P] {f : FuncId} {c : Code} (hf : P.funcs[f]? = some fn) (hx : (!Ext.on P f && Ext.mv P f) = true) (hb : fn.body = some c) (bg : (fn.name == "runtime.NumGoroutine") = false) {args : List AV} {nt : Nat} (lh : fn.ntmps = nt) {S : List Ent} {tk : List Nat} {n : Nat} {r : AV × List Ent × List Nat × Nat}
  (h:finM (RK P fn c ⟨args++bots (nt - args.length),S,tk,n⟩ [])=some r):cL P f args S tk n=some r:=by
 subst lh;rw [T4] at h;cases hr:RK P fn c ⟨args++Cg (fn.ntmps - args.length) .bot,S,tk,n⟩ [] with
 | none=>rw [hr] at h; simp [finM] at h
 | some x =>
  obtain ⟨r',s⟩:=x;rw [hr,finM_some] at h;obtain ⟨m,hm⟩:=Yl hr;refine K3.2 ⟨m+1,?_⟩;have hn : ¬ fn.name = "runtime.NumGoroutine" := dS
  simp only [Ch,Ih] at hx;simp only [evF,hf,hb];rw [if_neg eK,if_neg hn,if_pos hx.2,hm];exact h
theorem Xu [Globs] [Ext P] {f:FuncId} (hf:Ext.on P f=true) {args:List AV} {S:List Ent} {tk:List Nat} {n:Nat} {r:AV × List Ent × List Nat × Nat} (h:Ext.call P f args S tk n=some r):cL P f args S tk n=some r:=by
 refine K3.2 ⟨1,?_⟩;rw [Ac0 hf];unfold extC;rw [if_pos hf]; exact h
theorem Aet [Ext P] [Globs] [Agx P] {f:FuncId} {args:List AV} {S:List Ent} {tk:List Nat} {n:Nat} {r:AV} {S':List Ent} {tk':List Nat} {n':Nat} (hm:P.follows .mixedOrders=true) (h:cL P f args S tk n=some (r,S',tk',n')) {C:Cx} {vs:Array Value} (h1:C.S=S) (h2:C.tk=tk) (h3:C.n=n) (hs:SR C) (hv:VRs C args vs.toList) :
  Calls P f vs C.w fun e w'=>∃ v C',e=.returned v/\C'.w=w'/\Le C C'/\SR C'/\C'.S=S'/\C'.tk=tk'/\C'.n=n'/\VR C' r v:=by
 obtain ⟨k,hk⟩:=K3.1 h;exact (Aan (Aaj hm) k _ _ _ _ _ _ _ _ _ hk).2 C vs h1 h2 h3 hs hv
end
end
end Go.Proofs.YthelkgdmgihhiaaGreat
