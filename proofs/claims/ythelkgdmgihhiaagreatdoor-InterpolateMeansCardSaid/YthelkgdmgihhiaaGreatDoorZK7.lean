/- Part 7. -/
import Derived.Test.YthelkgdmgihhiaaGreatDoorZK6
namespace Go.Proofs.YthelkgdmgihhiaaGreatDoor
section
open Go.RowKit
section
def rdS (o:Oper):Bool:=match o.op with|.load _ _=>true|_=>false
def wrS [Globs] (o:Oper):Bool:=match o.op with|.store _ _ _|.alloc _|.box _ _=>true|.makeSlice _ l _=>!L2 o l|.call c=>(match c.callee with|.builtin .copy=>true|.builtin .append=>Globs.own o.dst o.type|.value (.func f)=>shF f || xF f|.value _=>Globs.shAny || Globs.xAny|.invoke _ _=>true|_=>false)|_=>false
def wrT [Globs] (o:Oper):Bool:=match o.op with|.makeSlice _ l _=>L2 o l|.call c=>(match c.callee with|.builtin .append=>true|.value (.func f)=>xF f|.value _=>Globs.xAny|.invoke _ _=>true|_=>false)|_=>false
def rdA [Globs] (o:Oper):Bool:=match o.op with|.call c=>(match c.callee with|.value (.func f)=>shF f || xF f|.value _=>Globs.shAny || Globs.xAny|.invoke _ _=>true|.builtin .append=>Globs.shAny|_=>false)|_=>false
def conf [Globs] (p o:Oper):Bool:=(wrS p && wrS o) || (wrT p && wrT o) || (rdA p && (wrS o || wrT o)) || ((wrS p || wrT p) && rdA o)
def unwr (ops:Array Oper) (t:Tmp):Bool:=(List.range ops.size).all fun j=>Ax ops j != some t
def N1 (st:St) (ops:Array Oper) (i:Nat) (o:Oper):Option (Option Nat) :=
 match o.op with
 | .load _ (.tmp q) =>
  if unwr ops q=true then (match getT st.T q with|.ref id _ _=>if id<st.S.length then some (some id) else none|.fptr _=>some none|_=>none)
  else ((List.range i).findSome? fun (m:Nat)=>match (ops[m]? : Option Oper) with
   | some o'=>(match o'.dst,o'.op with
    | some d,.fieldAddr _ (.tmp x) _=>if d=q/\unwr ops x=true then (match getT st.T x with|.ref id _ _=>if id<st.S.length then some (some id) else none|.fptr _=>some none|_=>none) else none
    | _,_=>none)
   | none=>none)
 | _=>none
def H2 [Globs] (st:St) (ops:Array Oper) (i:Nat) (o p:Oper):Bool :=
 match N1 st ops i o with
 | none=>false
 | some none=>true
 | some (some id)=>match p.op with
  | .store _ (.tmp q) _=>unwr ops q && (match getT st.T q with|.ref id' _ _=>decide (id≠id')|_=>false)
  | .alloc _=>true
  | .box _ _=>true
  | .makeSlice _ _ _=>true
  | .call c=>(match c.callee with|.value (.func f)=>!xF f|.value _=>!Globs.xAny|_=>false)
  | _=>false
def Zs (o:Oper):Bool:=match o.op with|.alloc _|.box _ _|.makeSlice _ _ _=>true|_=>false
def opOk (ops:Array Oper) (i:Nat) (o:Oper):Bool :=
 (match o.op with|.select ..=>false|_=>true) && (depsOf ops i).all (fun j=>decide (j<i)) &&
 (match o.guard with|none=>true|some (g,_)=>(depsOf ops i).contains g) &&
 (o.dst.all fun d=>(List.range i).all fun j=>Ax ops j != some d) &&
 (o.op.operands.all fun x=>match x with
  | .tmp t=>(List.range ops.size).all fun j=>Ax ops j != some t || j == i || (reachAt ops i).contains j || (reachAt ops j).contains i
  | _=>true)
def isAl (o:Oper):Bool:=(match o.op with|.alloc _=>true|_=>false) && o.guard.isNone
def Bv (ops:Array Oper) (j i:Nat):Bool :=
 decide (i=j+1) && (match ops[j]?,ops[i]? with|some p,some o=>isAl p && isAl o|_,_=>false) &&
 (List.range ops.size).all fun k=>k == j || k == i || (reachAt ops k).contains j == (reachAt ops k).contains i
def Py [Globs] (st:St) (L:List Oper):Bool :=
 (List.range L.length).all fun i=>match L.toArray[i]? with
  | none=>false
  | some o=>opOk L.toArray i o && (List.range i).all fun j=>match L.toArray[j]? with
   | none=>false
   | some p=>(!conf p o && !(wrS p && !lkOp p && rdS o) && !(rdS p && wrS o && !lkOp o)) || (reachAt L.toArray i).contains j || (!conf p o && (if rdS o=true then H2 st L.toArray i o p else (Zs o || (anOp o && o.dst.isSome) || H2 st L.toArray j p o))) || Bv L.toArray j i
def Ar [Globs] (st:St) (L:List Oper):Bool:=@Py (gM (mdOf L)) st L
theorem SR_M [Globs] {C:Cx} : ∀ {M:Md},@SR (gM M) C↔SR C
 | .no=>Iff.rfl
 | .quiet=>⟨fun h=>⟨@SR.ent (gM .quiet) _ h,@SR.ne (gM .quiet) _ h,@SR.tok (gM .quiet) _ h,@SR.apart (gM .quiet) _ h,@SR.own (gM .quiet) _ h,@SR.avlt (gM .quiet) _ h,@SR.tlt (gM .quiet) _ h,@SR.glob (gM .quiet) _ h⟩,fun h=>@SR.mk (gM .quiet) _ h.ent h.ne h.tok h.apart h.own h.avlt h.tlt h.glob⟩
 | .look=>⟨fun h=>⟨@SR.ent (gM .look) _ h,@SR.ne (gM .look) _ h,@SR.tok (gM .look) _ h,@SR.apart (gM .look) _ h,@SR.own (gM .look) _ h,@SR.avlt (gM .look) _ h,@SR.tlt (gM .look) _ h,@SR.glob (gM .look) _ h⟩,fun h=>@SR.mk (gM .look) _ h.ent h.ne h.tok h.apart h.own h.avlt h.tlt h.glob⟩
 | .vals=>⟨fun h=>⟨@SR.ent (gM .vals) _ h,@SR.ne (gM .vals) _ h,@SR.tok (gM .vals) _ h,@SR.apart (gM .vals) _ h,@SR.own (gM .vals) _ h,@SR.avlt (gM .vals) _ h,@SR.tlt (gM .vals) _ h,@SR.glob (gM .vals) _ h⟩,fun h=>@SR.mk (gM .vals) _ h.ent h.ne h.tok h.apart h.own h.avlt h.tlt h.glob⟩
theorem Afw [Globs] {C:Cx} {st:St} {a:Act} {M:Md} : @Rel (gM M) C st a↔Rel C st a :=
 ⟨fun h=>⟨@Rel.S (gM M) _ _ _ h,@Rel.tk (gM M) _ _ _ h,@Rel.n (gM M) _ _ _ h,@Rel.tmps (gM M) _ _ _ h,@Rel.defers (gM M) _ _ _ h,SR_M.1 (@Rel.sr (gM M) _ _ _ h)⟩,fun h=>@Rel.mk (gM M) _ _ _ h.S h.tk h.n h.tmps h.defers (SR_M.2 h.sr)⟩
theorem Aba [Globs] {P:Program} {call:Ak} {M:Md} (h:Ev P call):@Ev (gM M) P call:=by
 intro f args S tk n r S' tk' n' e
 refine ⟨(h _ _ _ _ _ _ _ _ _ e).1,fun C vs h1 h2 h3 hs hv=>((h _ _ _ _ _ _ _ _ _ e).2 C vs h1 h2 h3 (SR_M.1 hs) hv).mono ?_⟩
 rintro e w' ⟨v,C',g1,g2,g3,g4,g5⟩
 exact ⟨v,C',g1,g2,g3,SR_M.2 g4,g5⟩
theorem A9 {l:Array Bool} {i j:Nat} {b d:Bool} (h:i≠j):(l.setIfInBounds i b).getD j d=l.getD j d:=by
 simp [Array.getD_eq_getD_getElem?,Array.getElem?_setIfInBounds_ne h]
theorem Eu {l:Array Bool} {i:Nat} {b d:Bool} (h:i<l.size):(l.setIfInBounds i b).getD i d=b:=by
 simp [Array.getD,h]
theorem Aei {P:Program} {t:TypeId} {d s:AV} {S S':List Ent} {n:Nat} (h:cpA P t d s S=some (n,S')):S'.length=S.length:=by
 unfold cpA at h
 split at h
 ·split at h
  ·split at h
   ·split at h
    ·split at h
     ·simp only [Option.some.injEq,Prod.mk.injEq] at h
      obtain ⟨-,rfl⟩:=h
      exact A6
     ·simp at h
    ·simp at h
   ·simp at h
  ·simp at h
 ·simp at h
theorem Aed {P:Program} {t:TypeId} {x y v:AV} {S S':List Ent} {n n':Nat} (h:apO P t x y S n=some (v,S',n')):S.length<=S'.length:=by
 unfold apO at h
 split at h
 ·split at h
  ·split at h
   ·unfold apO2 at h
    split at h
    ·simp only [Option.some.injEq,Prod.mk.injEq] at h
     obtain ⟨-,rfl,-⟩:=h
     simp
    ·split at h
     ·split at h
      ·split at h
       ·simp only [Option.some.injEq,Prod.mk.injEq] at h
        obtain ⟨-,rfl,-⟩:=h
        rw [A6]; exact Nat.le_refl _
       ·simp at h
      ·simp at h
     ·simp at h
    ·simp at h
   ·simp at h
  ·simp at h
 ·simp at h
theorem Aas {P:Program} {t:TypeId} {v:AV} {S S':List Ent} {i e o id:Nat} (h:stA P t (.ref i e o) v S=some S') (hne:i≠id):nth S' id=nth S id:=by
 unfold stA at h
 cases h1:szOf P t with
 | none=>rw [h1] at h; simp at h
 | some sz =>
  cases h2:cellsOf v with
  | none=>rw [h1,h2] at h; simp at h
  | some vs =>
   rw [h1,h2] at h
   simp only at h
   split at h
   ·cases h3:entAt S i e with
    | none=>rw [h3] at h; simp at h
    | some cs =>
     rw [h3] at h
     simp only at h
     cases h4:over cs o vs with
     | none=>rw [h4] at h; simp at h
     | some cs'=>rw [h4] at h; simp only [Option.some.injEq] at h; subst h; exact Bi hne
   ·simp at h
variable {P:Program} {ops:Array Oper}
theorem Dc {listed:Array Bool} {i:Nat} (h:listed.getD i true=false):listed.getD i false=false/\i<listed.size:=by
 by_cases hi:i<listed.size
 ·exact ⟨by simpa [Array.getD,hi] using h,hi⟩
 ·simp [Array.getD,hi] at h
def Bs (listed:Array Bool) (n:Nat):Nat:=(List.range n).countP fun j=>listed.getD j false=false
theorem Tj {listed:Array Bool} {n i:Nat} (hi:i<n) (hl:listed.size=n) (hu:listed.getD i false=false):Bs (listed.setIfInBounds i true) n+1<=Bs listed n:=by
 have key:∀ (l:List Nat),l.Nodup->(l.countP fun j=>(listed.setIfInBounds i true).getD j false=false)+(if i ∈ l then 1 else 0)=l.countP fun j=>listed.getD j false=false:=by
  intro l
  induction l with
  | nil=>intro _; simp
  | cons x l ih =>
   intro hn
   rw [List.nodup_cons] at hn
   have ih:=ih hn.2
   by_cases e:x=i
   ·subst e
    have h1:(listed.setIfInBounds x true).getD x false=true:=Eu (by omega)
    rw [List.countP_cons,List.countP_cons,h1,hu,if_neg hn.1] at *
    simp at ih ⊢
    omega
   ·have h1:(listed.setIfInBounds i true).getD x false=listed.getD x false:=A9 (fun y=>e y.symm)
    rw [List.countP_cons,List.countP_cons,h1]
    have:(i ∈ x :: l)↔i ∈ l:=by rw [List.mem_cons]; exact ⟨fun h=>h.resolve_left fun y=>e y.symm,.inr⟩
    simp only [this]
    omega
 have:=key (List.range n) List.nodup_range
 rw [if_pos (by simpa using hi)] at this
 unfold Bs
 omega
theorem Zd {o:Oper} {ρ ρ':Operand->AV} (h:∀ x ∈ o.op.operands,ρ x=ρ' x):evQ P o ρ=evQ P o ρ':=by
 obtain ⟨dst,op,type,pos,after,guard⟩:=o
 have pairs:∀ ps:Array (Nat × Operand),(∀ x ∈ ps.map (·.2),ρ x=ρ' x)->(ps.toList.map fun (i,x)=>(i,ρ x))=(ps.toList.map fun (i,x)=>(i,ρ' x)):=fun ps hp =>
  List.map_congr_left fun p hm=>by
   obtain ⟨i,x⟩:=p
   simp only [hp x (Array.mem_map.2 ⟨(i,x),by simpa using hm,rfl⟩)]
 have lists:∀ xs:Array Operand,(∀ x ∈ xs,ρ x=ρ' x)->xs.toList.map ρ=xs.toList.map ρ':=fun xs hx=>List.map_congr_left fun x hm=>hx x (by simpa using hm)
 cases op <;> simp only [Op.operands] at h <;> simp only [evQ]
 case build t ps=>rw [pairs ps fun x hx=>h x (by simpa using hx)]
 case buildSlice t n ps=>rw [pairs ps fun x hx=>h x (by simpa using hx)]
 case slice t x lo hi mx=>cases lo <;> cases hi <;> cases mx <;> simp_all
 case makeFunc fn first caps =>
  have h1:=lists caps fun x hx=>h x (by simp [hx])
  have h2:(caps.toList.all fun x=>G9 (ρ x))=(caps.toList.all fun x=>G9 (ρ' x)):=by
   have:∀ f:Operand->AV,(caps.toList.all fun x=>G9 (f x))=(caps.toList.map f).all G9:=fun f=>by rw [List.all_map]; rfl
   rw [this,this,h1]
  have h3:=lists first fun x hx=>h x (by simp [hx])
  cases fn with
  | func f=>simp only [h1,h2,h3]
  | method m =>
   simp only
   split
   ·rename_i x hf _
    rw [h x (by
      have:x ∈ first:=by rw [<- Array.mem_toList_iff,hf]; simp
      simp [this])]
   ·rfl
  | _=>rfl
 case call c =>
  have h1:=lists c.args fun x hx=>h x (by simp [Call.operands,hx])
  rw [h1]
 all_goals first|rfl|(simp_all; done)|skip
def Ac9 [Globs] (P:Program) (call:Ak) (o:Oper) (s s':St) (v:AV):Prop :=
  s'.T=s.T/\(wrS o=false->s'.S=s.S/\s'.n=s.n)/\(wrT o=false->s'.tk=s.tk) /\
  ∀ s2:St,(∀ x ∈ o.op.operands,opv s2.T x=opv s.T x)->(∀ t x,o.op=.load t x->ldA P t (opv s.T x) s2.S=ldA P t (opv s.T x) s.S)->(wrS o=true->s2.S=s.S/\s2.n=s.n)->(wrT o=true->s2.tk=s.tk)->(rdA o=true->s2.S=s.S/\s2.n=s.n/\s2.tk=s.tk) ->
   ∃ s2',evO P call o s2=some (v,s2')/\s2'.T=s2.T/\(wrS o=true->s2'.S=s'.S/\s2'.n=s'.n)/\(wrS o=false->s2'.S=s2.S/\s2'.n=s2.n)/\(wrT o=true->s2'.tk=s'.tk)/\(wrT o=false->s2'.tk=s2.tk)
theorem L1 [Globs] {call:Ak} {o:Oper} {s s':St} {v v':AV} (hq:evQ P o (opv s.T)=some v') (e:(v',s)=(v,s')) (hw:wrS o=false) (ht:wrT o=false) (ai:∀ s2:St,evO P call o s2=(evQ P o (opv s2.T)).map fun v=>(v,s2)):Ac9 P call o s s' v:=by
 simp only [Prod.mk.injEq] at e
 obtain ⟨rfl,rfl⟩:=e
 exact ⟨rfl,fun _=>⟨rfl,rfl⟩,fun _=>rfl,fun s2 h2 _ _ _ _=>⟨s2,by rw [ai,Zd h2,hq]; rfl,rfl,fun h=>by rw [hw] at h; simp at h,fun _=>⟨rfl,rfl⟩,fun h=>by rw [ht] at h; simp at h,fun _=>rfl⟩⟩
theorem Lx [Globs] {call:Ak} (hi:Lh call) {o:Oper} {s s':St} {v:AV} (jm:(match o.op with|.select ..=>false|_=>true)=true) (h:evO P call o s=some (v,s')):Ac9 P call o s s' v:=by
 obtain ⟨dst,op,type,pos,after,guard⟩:=o
 cases op
 case load t x =>
  simp only [evO,Option.map_eq_some_iff,Prod.mk.injEq] at h
  obtain ⟨u,h,rfl,rfl⟩:=h
  refine ⟨rfl,fun _=>⟨rfl,rfl⟩,fun _=>rfl,fun s2 h2 hR _ _ _=>⟨s2,?_,rfl,by simp [wrS],fun _=>⟨rfl,rfl⟩,by simp [wrT],fun _=>rfl⟩⟩
  have e:ldA P t (opv s.T x) s2.S=ldA P t (opv s.T x) s.S:=hR t x rfl
  simp only [evO,h2 x (by simp [Op.operands]),e,h,Option.map_some]
 case store t x y =>
  simp only [evO,Option.map_eq_some_iff,Prod.mk.injEq] at h
  obtain ⟨u,h,rfl,rfl⟩:=h
  refine ⟨rfl,by simp [wrS],fun _=>rfl,fun s2 h2 _ hS _ _=>⟨{ s2 with S:=u },?_,rfl,fun _=>⟨rfl,(hS (by simp [wrS])).2⟩,by simp [wrS],by simp [wrT],fun _=>rfl⟩⟩
  simp only [evO,h2 x (by simp [Op.operands]),h2 y (by simp [Op.operands]),(hS (by simp [wrS])).1,h,Option.map_some]
 case alloc t =>
  simp only [evO,Option.map_eq_some_iff,Prod.mk.injEq] at h
  obtain ⟨u,h,rfl,rfl⟩:=h
  refine ⟨rfl,by simp [wrS],fun _=>rfl,fun s2 h2 _ hS _ _=>?_⟩
  obtain ⟨e1,e2⟩:=hS (by simp [wrS])
  exact ⟨{ s2 with S:=s2.S++[⟨s2.n,u⟩],n:=s2.n+1 },by simp only [evO,h,Option.map_some,e1,e2],rfl,fun _=>by simp [e1,e2],by simp [wrS],by simp [wrT],fun _=>rfl⟩
 case box t x =>
  simp only [evO,Option.map_eq_some_iff,Prod.mk.injEq] at h
  obtain ⟨u,h,rfl,rfl⟩:=h
  refine ⟨rfl,by simp [wrS],fun _=>rfl,fun s2 h2 _ hS _ _=>?_⟩
  obtain ⟨e1,e2⟩:=hS (by simp [wrS])
  exact ⟨{ s2 with S:=s2.S++[⟨s2.n,u⟩],n:=s2.n+1 },by simp only [evO,h2 x (by simp [Op.operands]),h,Option.map_some,e1,e2],rfl,fun _=>by simp [e1,e2],by simp [wrS],by simp [wrT],fun _=>rfl⟩
 case makeSlice t l c =>
  simp only [evO,Option.map_eq_some_iff,Prod.exists] at h
  obtain ⟨l',sz,cs,h,hh⟩:=h
  split at hh
  ·rename_i hl
   simp only [Prod.mk.injEq] at hh
   obtain ⟨rfl,rfl⟩:=hh
   refine ⟨rfl,fun _=>⟨rfl,rfl⟩,by simp [wrT,hl],fun s2 h2 _ _ hT _=>?_⟩
   have e:=hT (by simp [wrT,hl])
   exact ⟨{ s2 with tk:=s2.tk++[0] },by simp only [evO,h2 l (by simp [Op.operands]),h2 c (by simp [Op.operands]),h,Option.map_some,hl,if_true,e],rfl,by simp [wrS,hl],fun _=>⟨rfl,rfl⟩,fun _=>by simp [e],by simp [wrT,hl]⟩
  ·rename_i hl
   simp only [Prod.mk.injEq] at hh
   obtain ⟨rfl,rfl⟩:=hh
   have hl':L2 ⟨dst,.makeSlice t l c,type,pos,after,guard⟩ l=false:=by simpa using hl
   refine ⟨rfl,by simp [wrS,hl'],fun _=>rfl,fun s2 h2 _ hS _ _=>?_⟩
   obtain ⟨e1,e2⟩:=hS (by simp [wrS,hl'])
   exact ⟨{ s2 with S:=s2.S++[⟨s2.n,cs⟩],n:=s2.n+1 },by simp only [evO,h2 l (by simp [Op.operands]),h2 c (by simp [Op.operands]),h,Option.map_some,hl',e1,e2]; rfl,rfl,fun _=>by simp [e1,e2],by simp [wrS,hl'],by simp [wrT,hl'],fun _=>rfl⟩
 case call c =>
  have aa:∀ s2:St,(∀ x ∈ (Op.call c).operands,opv s2.T x=opv s.T x)->c.args.toList.map (opv s2.T)=c.args.toList.map (opv s.T):=fun s2 h2=>List.map_congr_left fun x hx=>h2 x (by simp [Op.operands,Call.operands]; right; simpa using hx)
  cases ab:c.callee with
  | builtin b =>
   by_cases hb:b=.append
   ·subst hb
    simp only [evO,ab] at h
    split at h
    ·rename_i x y t t' cj ht
     split at h
     ·rename_i j3
      split at h
      ·rename_i fv
       simp only [Option.map_eq_some_iff,Prod.mk.injEq,Prod.exists] at h
       obtain ⟨u,S',n',h,rfl,rfl⟩:=h
       have hw:wrS ⟨dst,.call c,type,pos,after,guard⟩=true:=by simpa [wrS,ab] using j3
       refine ⟨rfl,fun hf=>by rw [hw] at hf; simp at hf,fun _=>rfl,fun s2 h2 _ hS hT _=>?_⟩
       obtain ⟨e1,e2⟩:=hS hw
       have e3:=hT (by simp [wrT,ab])
       refine ⟨{ s2 with S:=S',n:=n' },?_,rfl,fun _=>⟨rfl,rfl⟩,fun hf=>by rw [hw] at hf; simp at hf,fun _=>e3,fun _=>rfl⟩
       simp only [evO,ab,aa s2 h2,cj,ht,j3,fv,if_true,e1,e2]
       subst fv
       simp only [h,Option.map_some]
      ·simp at h
     rename_i j3
     have gm:wrS ⟨dst,.call c,type,pos,after,guard⟩=false:=by simpa [wrS,ab] using j3
     split at h
     ·rename_i fv
      simp only [Option.map_eq_some_iff,Prod.mk.injEq,Prod.exists] at h
      obtain ⟨u,tk',h,rfl,rfl⟩:=h
      refine ⟨rfl,fun _=>⟨rfl,rfl⟩,by simp [wrT,ab],fun s2 h2 _ _ hT hA=>⟨{ s2 with tk:=tk' },?_,rfl,fun hf=>by rw [gm] at hf; simp at hf,fun _=>⟨rfl,rfl⟩,fun _=>rfl,by simp [wrT,ab]⟩⟩
      have e:=hT (by simp [wrT,ab])
      have p8:apB1 P t x y s.tk s2.S=apB1 P t x y s.tk s.S:=by
       cases fb:(Globs.shAny:Bool) with
       | true=>rw [(hA (by simp [rdA,ab,fb])).1]
       | false=>unfold apB1; simp [fb]
      simp only [evO,ab,aa s2 h2,cj,ht,fv,if_true,e,if_neg j3]
      subst fv
      rw [p8]
      simp only [h,Option.map_some]
     ·rename_i fv
      simp only [Option.map_eq_some_iff,Prod.mk.injEq,Prod.exists] at h
      obtain ⟨u,tk',h,rfl,rfl⟩:=h
      refine ⟨rfl,fun _=>⟨rfl,rfl⟩,by simp [wrT,ab],fun s2 h2 _ _ hT _=>⟨{ s2 with tk:=tk' },?_,rfl,fun hf=>by rw [gm] at hf; simp at hf,fun _=>⟨rfl,rfl⟩,fun _=>rfl,by simp [wrT,ab]⟩⟩
      have e:=hT (by simp [wrT,ab])
      simp only [evO,ab,aa s2 h2,cj,ht,e,if_neg fv,h,Option.map_some,if_neg j3]
    ·simp at h
   ·by_cases hb2:b=.copy
    ·subst hb2
     simp only [evO,ab] at h
     split at h
     ·rename_i x y t t' cj ht
      simp only [Option.map_eq_some_iff,Prod.mk.injEq,Prod.exists] at h
      obtain ⟨m,S',h,rfl,rfl⟩:=h
      refine ⟨rfl,by simp [wrS,ab],fun _=>rfl,fun s2 h2 _ hS _ _=>⟨{ s2 with S:=S' },?_,rfl,fun _=>⟨rfl,(hS (by simp [wrS,ab])).2⟩,by simp [wrS,ab],by simp [wrT,ab],fun _=>rfl⟩⟩
      simp only [evO,ab,aa s2 h2,cj,ht,(hS (by simp [wrS,ab])).1,h,Option.map_some]
     ·simp at h
    ·have ai:∀ s2:St,evO P call ⟨dst,.call c,type,pos,after,guard⟩ s2=(evQ P ⟨dst,.call c,type,pos,after,guard⟩ (opv s2.T)).map fun v=>(v,s2):=by
      intro s2
      simp only [evO,ab]
     rw [ai] at h
     simp only [Option.map_eq_some_iff] at h
     obtain ⟨v',h1,h2⟩:=h
     exact L1 h1 h2 (by cases b <;> simp [wrS,ab] at hb hb2 ⊢) (by cases b <;> simp [wrT,ab] at hb ⊢) ai
  | value fx =>
   simp only [evO,ab] at h
   split at h
   ·rename_i f args ca
    simp only [Option.map_eq_some_iff,Prod.mk.injEq,Prod.exists] at h
    obtain ⟨r,S',tk',n',h,rfl,rfl⟩:=h
    have f9:∀ s2:St,(∀ x ∈ (Op.call c).operands,opv s2.T x=opv s.T x)->B3 P s2.T c=some (f,args):=by
     intro s2 h2
     rw [<- ca]
     unfold B3
     rw [ab]
     simp only [aa s2 h2,h2 fx (by simp [Op.operands,Call.operands,ab])]
    have fw:∀ g,fx=.func g->g=f:=by
     rintro g rfl
     unfold B3 at ca
     rw [ab] at ca
     simp only [opv,Option.some.injEq,Prod.mk.injEq] at ca
     exact ca.1
    rcases hi _ _ _ _ _ _ _ _ _ h with oq|⟨rfl,rfl,ek⟩
    ·have ic:xF f=true:=by simp only [Bool.and_eq_true] at oq; exact oq.1
     have dv:(Globs.xAny:Bool)=true:=by unfold xF at ic; simp only [Bool.and_eq_true] at ic; exact ic.1
     have ga:rdA ⟨dst,.call c,type,pos,after,guard⟩=true:=by
      simp only [rdA,ab]
      cases fx with
      | func g=>simp only [fw g rfl,ic,Bool.or_true]
      | _=>simp only [dv,Bool.or_true]
     have ko:wrS ⟨dst,.call c,type,pos,after,guard⟩=true:=by
      simp only [wrS,ab]
      cases fx with
      | func g=>simp only [fw g rfl,ic,Bool.or_true]
      | _=>simp only [dv,Bool.or_true]
     have ot:wrT ⟨dst,.call c,type,pos,after,guard⟩=true:=by
      simp only [wrT,ab]
      cases fx with
      | func g=>simp only [fw g rfl,ic]
      | _=>exact dv
     refine ⟨rfl,fun hw=>by rw [ko] at hw; simp at hw,fun hw=>by rw [ot] at hw; simp at hw,fun s2 h2 _ _ _ hA=>?_⟩
     obtain ⟨a1,a2,a3⟩:=hA ga
     refine ⟨{ s2 with S:=S',tk:=tk',n:=n' },?_,rfl,fun _=>⟨rfl,rfl⟩,fun hw=>by rw [ko] at hw; simp at hw,fun _=>rfl,fun hw=>by rw [ot] at hw; simp at hw⟩
     simp only [evO,ab,f9 s2 h2]
     rw [a1,a2,a3,h]
     rfl
    by_cases fb:shF f=true
    ·have dv:(Globs.shAny:Bool)=true:=by unfold shF at fb; simp only [Bool.and_eq_true] at fb; exact fb.1
     have ga:rdA ⟨dst,.call c,type,pos,after,guard⟩=true:=by
      simp only [rdA,ab]
      cases fx with
      | func g=>simp only [fw g rfl,fb,Bool.true_or]
      | _=>simp only [dv,Bool.true_or]
     have ko:wrS ⟨dst,.call c,type,pos,after,guard⟩=true:=by
      simp only [wrS,ab]
      cases fx with
      | func g=>simp only [fw g rfl,fb,Bool.true_or]
      | _=>simp only [dv,Bool.true_or]
     refine ⟨rfl,fun hw=>by rw [ko] at hw; simp at hw,fun _=>rfl,fun s2 h2 _ _ _ hA=>?_⟩
     obtain ⟨a1,a2,a3⟩:=hA ga
     refine ⟨{ s2 with n:=n' },?_,rfl,fun _=>⟨a1,rfl⟩,fun hw=>by rw [ko] at hw; simp at hw,fun _=>a3,fun _=>rfl⟩
     simp only [evO,ab,f9 s2 h2]
     rw [a1,a2,a3,h]
     simp only [Option.map_some,<- a1,<- a3]
    ·obtain ⟨hnn,m5⟩:=ek.resolve_left fb
     subst hnn
     refine ⟨rfl,fun _=>⟨rfl,rfl⟩,fun _=>rfl,fun s2 h2 _ hS hT _=>⟨s2,?_,rfl,fun hw=>?_,fun _=>⟨rfl,rfl⟩,fun hw=>?_,fun _=>rfl⟩⟩
     ·simp only [evO,ab,f9 s2 h2,m5 s2.S s2.tk s2.n,Option.map_some]
     ·exact hS hw
     ·exact hT hw
   ·simp at h
  | invoke rx m =>
   simp only [evO,ab] at h
   split at h
   ·rename_i f args ca
    simp only [Option.map_eq_some_iff,Prod.mk.injEq,Prod.exists] at h
    obtain ⟨r,S',tk',n',h,rfl,rfl⟩:=h
    have f9:∀ s2:St,(∀ x ∈ (Op.call c).operands,opv s2.T x=opv s.T x)->B3 P s2.T c=some (f,args):=by
     intro s2 h2
     rw [<- ca]
     unfold B3
     rw [ab]
     simp only [aa s2 h2,h2 rx (by simp [Op.operands,Call.operands,ab])]
    refine ⟨rfl,fun hw=>by simp [wrS,ab] at hw,fun hw=>by simp [wrT,ab] at hw,fun s2 h2 _ _ _ hA=>?_⟩
    obtain ⟨a1,a2,a3⟩:=hA (by simp [rdA,ab])
    refine ⟨{ s2 with S:=S',tk:=tk',n:=n' },?_,rfl,fun _=>⟨rfl,rfl⟩,fun hw=>by simp [wrS,ab] at hw,fun _=>rfl,fun hw=>by simp [wrT,ab] at hw⟩
    simp only [evO,ab,f9 s2 h2]
    rw [a1,a2,a3,h]
    rfl
   ·simp at h
 all_goals first
  | (simp at jm; done)
  | (simp only [evO,Option.map_eq_some_iff] at h
     obtain ⟨v', h1, h2⟩ := h
     exact L1 h1 h2 rfl rfl (fun s2 => by simp only [evO]))
def Yg [Globs] (P:Program) (call:Ak) (all:List Oper) (o:Oper) (s s':St) (v:AV):Prop :=
 (Ea all s.T o=some false/\v=.prim undef/\s'={ s with T:=putT s.T o.dst v })\/(Ea all s.T o=some true/\∃ s1,evO P call o s=some (v,s1)/\chkO P all o s v s1=true/\s'={ s1 with T:=putT s1.T o.dst v })
theorem Adt [Globs] {call:Ak} {all:List Oper} : ∀ {l:List Oper} {st st':St},evOs P call all l st=some st'->∃ (sts:Nat->St) (val:Nat->AV),sts 0=st/\sts l.length=st'/\∀ (i:Nat) o,l[i]?=some o->Yg P call all o (sts i) (sts (i+1)) (val i)
 | [],st,st',h=>by
  simp only [evOs,Option.some.injEq] at h; subst h
  exact ⟨fun _=>st,fun _=>.bot,rfl,rfl,by simp⟩
 | o :: l,st,st',h=>by
  have key:∀ {s1:St} {v:AV},Yg P call all o st s1 v->evOs P call all l s1=some st'->∃ (sts:Nat->St) (val:Nat->AV),sts 0=st/\sts (o :: l).length=st'/\∀ (i:Nat) o',(o :: l)[i]?=some o'->Yg P call all o' (sts i) (sts (i+1)) (val i):=by
   intro s1 v hs h
   obtain ⟨sts,val,h1,h2,h3⟩:=Adt h
   refine ⟨fun|0=>st|i+1=>sts i,fun|0=>v|i+1=>val i,rfl,h2,fun i o' ho=>?_⟩
   cases i with
   | zero =>
    simp only [List.getElem?_cons_zero,Option.some.injEq] at ho; subst ho
    show Yg P call all o st (sts 0) v
    rw [h1]; exact hs
   | succ i=>exact h3 i o' (by simpa using ho)
  simp only [evOs] at h
  split at h
  ·simp at h
  ·rename_i hw
   exact key (.inl ⟨hw,rfl,rfl⟩) h
  ·rename_i hw
   split at h
   ·rename_i v s1 ho
    split at h
    ·rename_i dc
     exact key (.inr ⟨hw,s1,ho,dc,rfl⟩) h
    ·simp at h
   ·simp at h
theorem El (T:List AV) (d:Option Tmp) (v:AV):(putT T d v).length=T.length:=by
 cases d <;> simp [putT,A6]
theorem D8:∀ {T:List AV} {d:Nat} {v:AV},d<T.length->getT (put T d v) d=v
 | _ :: _,0,_,_=>rfl
 | _ :: T,d+1,v,h=>D8 (T:=T) (by simpa using h)
 | [],_,_,h=>by simp at h
theorem Az:∀ {T:List AV} {d t:Nat} {v:AV},d≠t->getT (put T d v) t=getT T t
 | _ :: _,0,0,_,h=>absurd rfl h
 | _ :: _,0,_+1,_,_=>rfl
 | _ :: _,_+1,0,_,_=>rfl
 | _ :: T,d+1,t+1,v,h=>Az (T:=T) (by omega)
 | [],_,_,_,_=>rfl
theorem Vq:∀ {T T':List AV},T.length=T'.length->(∀ t,getT T t=getT T' t)->T=T'
 | [],[],_,_=>rfl
 | x :: T,y :: T',h,hg=>by
  have h0:=hg 0
  simp only [getT] at h0
  rw [h0,Vq (T:=T) (T':=T') (by simpa using h) fun t=>hg (t+1)]
 | [],_ :: _,h,_=>by simp at h
 | _ :: _,[],h,_=>by simp at h
def Xz (w:Nat->Bool) (listed:Array Bool) (n c:Nat):Prop:=c<=n/\(∀ j,j<c->w j=true->listed.getD j false=true)/\(c<n->w c=true/\listed.getD c false=false)
theorem Ho (w:Nat->Bool) (listed:Array Bool) (n:Nat):∀ k c,n - c<=k->c<=n->(∀ j,j<c->w j=true->listed.getD j false=true)->∃ c',c<=c'/\Xz w listed n c'/\∀ j,c<=j->j<c'->w j=true->listed.getD j false=true
 | 0,c,hk,hc,h=>⟨c,Nat.le_refl _,⟨hc,h,fun h=>by omega⟩,fun j h1 h2=>by omega⟩
 | k+1,c,hk,hc,h=>by
  by_cases hn:c<n/\w c=true/\listed.getD c false=false
  ·exact ⟨c,Nat.le_refl _,⟨hc,h,fun _=>hn.2⟩,fun j h1 h2=>by omega⟩
  ·by_cases ou:c<n
   ·obtain ⟨c',h1,h2,h3⟩:=Ho w listed n k (c+1) (by omega) (by omega) (fun j hj hw=>by
     by_cases e:j=c
     ·subst e
      cases hl:listed.getD j false with
      | true=>rfl
      | false=>exact absurd ⟨ou,hw,hl⟩ hn
     ·exact h j (by omega) hw)
    exact ⟨c',by omega,h2,fun j h4 h5 hw=>h2.2.1 j h5 hw⟩
   ·exact ⟨c,Nat.le_refl _,⟨hc,h,fun h=>absurd h ou⟩,fun j h1 h2=>by omega⟩
def wS [Globs] (ops:Array Oper) (j:Nat):Bool:=match ops[j]? with|some o=>wrS o|none=>false
def wT [Globs] (ops:Array Oper) (j:Nat):Bool:=match ops[j]? with|some o=>wrT o|none=>false
structure DInv [Globs] (ops:Array Oper) (st:St) (sts:Nat->St) (val:Nat->AV) (listed:Array Bool) (s:St):Prop where
 len:listed.size=ops.size
 closed:∀ j,listed.getD j false=true->∀ e ∈ depsOf ops j,listed.getD e false=true
 lenT:s.T.length=st.T.length
 t1:∀ j t,listed.getD j false=true->Ax ops j=some t->(∀ e,Bv ops e j=true->listed.getD e false=true)->getT s.T t=if t<st.T.length then val j else .bot
 t2:∀ t,(∀ j,listed.getD j false=true->Ax ops j≠some t)->getT s.T t=getT st.T t
 cS:∃ c,Xz (wS ops) listed ops.size c/\s.S=(sts c).S/\s.n=(sts c).n
 cT:∃ c,Xz (wT ops) listed ops.size c/\s.tk=(sts c).tk
theorem Kn {o:Oper} (h:isAl o=true):∃ t,o.op=.alloc t/\o.guard=none:=by
 unfold isAl at h
 simp only [Bool.and_eq_true,Option.isNone_iff_eq_none] at h
 obtain ⟨h1,h2⟩:=h
 split at h1
 ·rename_i t e; exact ⟨t,e,h2⟩
 ·simp at h1
theorem Eg [Globs] {o:Oper} (h:isAl o=true):wrS o=true/\rdS o=false/\wrT o=false:=by
 obtain ⟨t,e,-⟩:=Kn h
 exact ⟨by simp [wrS,e],by simp [rdS,e],by simp [wrT,e]⟩
theorem Ej {i j:Nat} (h:Bv ops j i=true):∃ p o,ops[j]?=some p/\ops[i]?=some o/\(isAl p=true/\rdS p=false)/\isAl o=true/\rdS o=false:=by
 unfold Bv at h
 simp only [Bool.and_eq_true] at h
 obtain ⟨⟨-,h⟩,-⟩:=h
 split at h
 ·rename_i p o h1 h2
  simp only [Bool.and_eq_true] at h
  have key:∀ {o:Oper},isAl o=true->rdS o=false:=fun h=>by
   obtain ⟨t,e,-⟩:=Kn h
   simp [rdS,e]
  exact ⟨p,o,h1,h2,⟨h.1,key h.1⟩,h.2,key h.2⟩
 ·simp at h
theorem Dd {i j:Nat} (h:Bv ops j i=true):i=j+1:=by
 unfold Bv at h
 simp only [Bool.and_eq_true,decide_eq_true_eq] at h
 exact h.1.1
theorem Mj {i j:Nat} (h:Bv ops j i=true):j<ops.size/\i<ops.size:=by
 obtain ⟨p,o,h1,h2,-⟩:=Ej h
 exact ⟨(Array.getElem?_eq_some_iff.1 h1).1,(Array.getElem?_eq_some_iff.1 h2).1⟩
theorem Ku {i j k:Nat} (h:Bv ops j i=true) (hk:k<ops.size) (h1:k≠j) (h2:k≠i):j ∈ reachAt ops k↔i ∈ reachAt ops k:=by
 unfold Bv at h
 simp only [Bool.and_eq_true] at h
 have h3:=List.all_eq_true.1 h.2 k (by simpa using hk)
 simp only [Bool.or_eq_true,beq_iff_eq] at h3
 rcases h3 with (h3|h3)|h3
 ·exact absurd h3 h1
 ·exact absurd h3 h2
 ·rw [<- List.contains_iff_mem,<- List.contains_iff_mem,h3]
structure Le0 (C C':Cx):Prop where
 n:C.n<=C'.n
 stays:Stays C.w C'.w C.Avoid C'.Avoid
 shape:∀ (b:Nat) (cs:Array Value) (t:TypeId) (fz:Nat × Nat),C.w.heap[b]?=some (Obj.cells cs t fz)->∃ cs':Array Value,C'.w.heap[b]?=some (Obj.cells cs' t fz)/\cs'.size=cs.size
 ent:∀ id e',nth C'.S id=some e'->e'.ep<C.n->∃ e,nth C.S id=some e/\e.ep=e'.ep/\C'.φ id=C.φ id
 tok:∀ id k,nth C.tk id=some k->∃ k',nth C'.tk id=some k'/\k<=k'/\(k'=k->C'.ψ id=C.ψ id)
theorem CapR.mono0 {C C':Cx} (h:Le0 C C') {c a len cap} (hc:CapR C c a len cap):CapR C' c a len cap:=by
 cases c with
 | unk=>trivial
 | tight=>exact hc
 | nilc=>exact hc
 | nl=>exact hc
 | nn=>exact hc
 | tok id ep sz =>
  obtain ⟨k,h1,h2,h3⟩:=hc
  obtain ⟨k',h4,h5,h6⟩:=h.tok id k h1
  refine ⟨k',h4,by omega,fun e=>?_⟩
  rcases h3 (by omega) with h7|⟨b,cs,t,ea,hp,hb,hl⟩
  ·exact .inl h7
  ·obtain ⟨cs',h8,h9⟩:=h.shape b cs t _ hb
   exact .inr ⟨b,cs',t,ea,by rw [h6 (by omega),hp],h8,by omega⟩
mutual
theorem VR.mono0 {C C':Cx} (h:Le0 C C'):∀ (c:AV) (x:Value),VR C c x->VR C' c x
 | .bot,_,_=>by simp only [VR]
 | .prim _,_,hx=>by simpa only [VR] using hx
 | .frz es c,x,hx=>by
  simp only [VR] at hx ⊢
  obtain ⟨a,len,cap,e,h1,h2,h3,h4⟩:=hx
  refine ⟨a,len,cap,e,h1,h2,h3.mono0 h,h4.imp id ?_⟩
  rintro ⟨b,o,sz,ea,hr⟩
  exact ⟨b,o,sz,ea,Ap.stays h.stays b sz o es hr⟩
 | .fptr cs,x,hx=>by
  simp only [VR] at hx ⊢
  obtain ⟨b,o,vs,e,hl,hr⟩:=hx
  exact ⟨b,o,vs,e,hl.stays h.stays,PRs.stays h.stays cs vs hr⟩
 | .agg cs,x,hx=>by
  simp only [VR] at hx ⊢
  obtain ⟨vs,e,hr⟩:=hx
  exact ⟨vs,e,VRs.mono0 h cs vs.toList hr⟩
 | .tup cs,x,hx=>by
  simp only [VR] at hx ⊢
  obtain ⟨vs,e,hr⟩:=hx
  exact ⟨vs,e,VRs.mono0 h cs vs.toList hr⟩
 | .ref id ep off,x,hx=>by
  simp only [VR] at hx ⊢
  obtain ⟨b,h0,hn,hx⟩:=hx
  refine ⟨b,h0,Nat.lt_of_lt_of_le hn h.n,fun e' he de=>?_⟩
  obtain ⟨e,h1,h2,h3⟩:=h.ent id e' he (by omega)
  rw [h3]; exact hx e h1 (by omega)
 | .sref id ep off len sz,x,hx=>by
  simp only [VR] at hx ⊢
  obtain ⟨b,a,cap,h0,h0',h0'',hn,hx⟩:=hx
  refine ⟨b,a,cap,h0,h0',h0'',Nat.lt_of_lt_of_le hn h.n,fun e' he de=>?_⟩
  obtain ⟨e,h1,h2,h3⟩:=h.ent id e' he (by omega)
  obtain ⟨g1,cs,t,g2,g3⟩:=hx e h1 (by omega)
  obtain ⟨cs',g4,g5⟩:=h.shape b cs t _ g2
  exact ⟨by rw [h3]; exact g1,cs',t,g4,by omega⟩
 | .fn f caps,x,hx=>by
  simp only [VR] at hx ⊢
  obtain ⟨vs,e,hr⟩:=hx
  exact ⟨vs,e,VRs.mono0 h caps vs.toList hr⟩
 | .bfn f caps,x,hx=>by
  simp only [VR] at hx ⊢
  obtain ⟨vs,e,hr⟩:=hx
  exact ⟨vs,e,VRs.mono0 h caps vs.toList hr⟩
 | .ifc t v,x,hx=>by
  simp only [VR] at hx ⊢
  obtain ⟨u,e,hr⟩:=hx
  exact ⟨u,e,VR.mono0 h v u hr⟩
 | .mfn t m v,x,hx=>by
  simp only [VR] at hx ⊢
  obtain ⟨u,e,hr⟩:=hx
  exact ⟨u,e,VR.mono0 h v u hr⟩
 | .lit len cs,x,hx=>by
  simp only [VR] at hx ⊢
  obtain ⟨b,vs,e,hl,hr⟩:=hx
  exact ⟨b,vs,e,hl.stays h.stays,VRs.mono0 h cs vs hr⟩
theorem VRs.mono0 {C C':Cx} (h:Le0 C C'):∀ (cs:List AV) (vs:List Value),VRs C cs vs->VRs C' cs vs
 | [],[],_=>by simp only [VRs]
 | c :: cs,v :: vs,hx=>by simp only [VRs] at hx ⊢; exact ⟨VR.mono0 h c v hx.1,VRs.mono0 h cs vs hx.2⟩
 | [],_ :: _,hx=>by simp only [VRs] at hx
 | _ :: _,[],hx=>by simp only [VRs] at hx
end
def Cx.hid (C:Cx) (arr:Array Value) (t:TypeId):Cx:={ C with w:=C.w.alloc (.cells arr t),av:=fun x o=>C.av x o\/x=C.w.heap.size }
theorem Z1 [Globs] {C:Cx} (hs:SR C) {b o:Nat} (h:C.Mut b o):b<C.w.heap.size:=by
 rcases h with ⟨i,hi,e⟩|⟨i,hi,e,h1,h2⟩
 ·rw [<- e]; exact J2 hs hi
 ·rw [<- e]; exact hs.tlt i o hi h1 h2
theorem Le0.hid [Globs] {C:Cx} (arr:Array Value) (t:TypeId):Le0 C (C.hid arr t):=by
 have hb:Below C.w.heap.size C.w (C.w.alloc (.cells arr t)):=(Below.refl _ _).alloc (Nat.le_refl _) _
 refine ⟨Nat.le_refl _,fun b o v hv ha=>⟨by rw [show (C.hid arr t).w=C.w.alloc (.cells arr t) from rfl,Below.cell hb (Dg hv)]; exact hv,?_⟩,fun b d t' fz hd=>⟨d,A5 hb hd,rfl⟩,fun _ e he _=>⟨e,he,rfl,rfl⟩,fun _ k hk=>⟨k,hk,Nat.le_refl _,fun _=>rfl⟩⟩
 rintro ((h|h)|h)
 ·exact ha (.inl h)
 ·have:=Dg hv; omega
 ·exact ha (.inr h)
theorem SR.hid [Globs] {C:Cx} (hs:SR C) (arr:Array Value) (t:TypeId):SR (C.hid arr t):=by
 have hb:Below C.w.heap.size C.w (C.w.alloc (.cells arr t)):=(Below.refl _ _).alloc (Nat.le_refl _) _
 refine ⟨fun i x hx=>?_,hs.ne,hs.tok,hs.apart,fun b o hm=>?_,fun b o ha=>?_,fun i o hi h1 h2=>Nat.lt_of_lt_of_le (hs.tlt i o hi h1 h2) hb.size,fun g a hg=>?_⟩
 ·obtain ⟨g1,d,t',g2,vs',r',ei,g3⟩:=hs.ent i x hx
  exact ⟨g1,d,t',A5 hb g2,vs',r',ei,VRs.mono0 (Le0.hid arr t) _ _ g3⟩
 ·have bm:C.Mut b o:=hm
  have:=Z1 hs bm
  rintro (h|h)
  ·exact hs.own b o bm h
  ·omega
 ·rcases ha with h|h
  ·exact Nat.lt_of_lt_of_le (hs.avlt b o h) hb.size
  ·subst h
   exact (Array.getElem?_eq_some_iff.1 (Aa C.w (.cells arr t))).1
 ·obtain ⟨⟨t',fz,h1⟩,h2⟩:=hs.glob g a hg
  exact ⟨⟨t',fz,A5 hb h1⟩,fun i=>.inl (h2 i)⟩
def Cx.rev (C:Cx) (av0:Nat->Nat->Prop) (b:Nat) (cs:List AV):Cx :=
 { C with av:=av0,φ:=fun i=>if i=C.S.length then b else C.φ i,S:=C.S++[⟨C.n,cs⟩],n:=C.n+1 }
section
variable {C:Cx} {av0:Nat->Nat->Prop} {b:Nat}
theorem Qg {cs:List AV} {x o:Nat} (h:(C.rev av0 b cs).Mut x o):C.Mut x o\/x=b:=by
 rcases h with ⟨i,hi,e⟩|h
 ·simp only [Cx.rev,List.length_append,List.length_cons,List.length_nil] at hi e
  split at e
  ·exact .inr e.symm
  ·exact .inl (.inl ⟨i,by omega,e⟩)
 ·exact .inl (.inr h)
theorem Le0.rev (bp:∀ o,C.av b o) (b7:∀ x o,x≠b->(C.av x o↔av0 x o)) (h0:∀ o,¬ av0 b o) (cs:List AV):Le0 C (C.rev av0 b cs):=by
 refine ⟨Nat.le_succ _,fun x o v hv ha=>⟨hv,?_⟩,fun _ d _ _ hd=>⟨d,hd,rfl⟩,fun i x hx hn=>?_,fun _ k hk=>⟨k,hk,Nat.le_refl _,fun _=>rfl⟩⟩
 ·rintro (h|h)
  ·by_cases e:x=b
   ·subst e; exact h0 o h
   ·exact ha (.inl ((b7 x o e).2 h))
  ·rcases Qg h with h|h
   ·exact ha (.inr h)
   ·subst h; exact ha (.inl (bp o))
 ·rcases Gr hx with ⟨h1,h2⟩|⟨h1,h2⟩
  ·subst h2; simp at hn
  ·refine ⟨x,h2,rfl,?_⟩
   simp only [Cx.rev]
   rw [if_neg (by omega)]
theorem SR.rev [Globs] (hs:SR C) {arr:Array Value} {t:TypeId} (hb:C.w.heap[b]?=some (.cells arr t (0,0))) (bp:∀ o,C.av b o) (b7:∀ x o,x≠b->(C.av x o↔av0 x o)) (h0:∀ o,¬ av0 b o) (hg:∀ g a,(g,a) ∈ Globs.gl->∀ i,av0 g i) :
  SR (C.rev av0 b (arr.toList.map cst1)):=by
 have hle:=Le0.rev (C:=C) bp b7 h0 (arr.toList.map cst1)
 have nb:∀ i,i<C.S.length->C.φ i≠b:=fun i hi e=>hs.own b 0 (.inl ⟨i,hi,e⟩) (bp 0)
 refine ⟨fun i x hx=>?_,fun i j hi hj h=>?_,hs.tok,fun i j o hi hj h h1 h2=>?_,?_,fun x o ha=>?_,hs.tlt,fun g a hm=>⟨(hs.glob g a hm).1,hg g a hm⟩⟩
 ·rcases Gr hx with ⟨h1,rfl⟩|⟨h1,h2⟩
  ·refine ⟨Nat.lt_succ_self _,arr,t,?_,arr.toList,[],by simp,Ep _⟩
   simp only [Cx.rev,h1,if_true]
   exact hb
  ·obtain ⟨g1,d,t',g2,vs',r',ei,g3⟩:=hs.ent i x h2
   refine ⟨Nat.lt_succ_of_lt g1,d,t',?_,vs',r',ei,VRs.mono0 hle _ _ g3⟩
   simp only [Cx.rev]
   rw [if_neg (by omega)]
   exact g2
 ·simp only [Cx.rev,List.length_append,List.length_cons,List.length_nil] at hi hj h
  by_cases aj:i=C.S.length <;> by_cases bg:j=C.S.length
  ·omega
  ·rw [if_pos aj,if_neg bg] at h
   exact absurd h.symm (nb j (by omega))
  ·rw [if_neg aj,if_pos bg] at h
   exact absurd h (nb i (by omega))
  ·rw [if_neg aj,if_neg bg] at h
   exact hs.ne i j (by omega) (by omega) h
 ·simp only [Cx.rev,List.length_append,List.length_cons,List.length_nil] at hi h hj h1 h2
  by_cases aj:i=C.S.length
  ·rw [if_pos aj] at h
   exact hs.own b o (.inr ⟨j,hj,h.symm,h1,h2⟩) (bp o)
  ·rw [if_neg aj] at h
   exact hs.apart i j o (by omega) hj h h1 h2
 ·intro x o hm ha
  by_cases e:x=b
  ·subst e; exact h0 o ha
  ·rcases Qg hm with h|h
   ·exact hs.own x o h ((b7 x o e).2 ha)
   ·exact e h
 ·by_cases e:x=b
  ·subst e; exact absurd ha (h0 o)
  ·exact hs.avlt x o ((b7 x o e).2 ha)
end
theorem Va {o:Oper} {t:TypeId} {cs:List AV} (ho:o.op=.alloc t) (hz:Ae P t=some cs):∃ arr:Array Value,arr.toList.map cst1=cs/\∀ (C:Cx) (a:Act) (next:Act->World->Prop) (Q:Exit->Act->World->Prop),next (a.put o.dst (.pointer (some ⟨C.w.heap.size,0,none⟩))) (C.w.alloc (.cells arr t))->o.wp P a C.w next Q:=by
 simp only [Ae,Option.map_eq_some_iff,Option.bind_eq_some_iff] at hz
 obtain ⟨zv,⟨i,h1,h2⟩,rfl⟩:=hz
 refine ⟨zv.cells,rfl,fun C a next Q hn=>Ds (v:=.pointer (some ⟨C.w.heap.size,0,none⟩)) (w':=C.w.alloc (.cells zv.cells t)) ?_ hn⟩
 have hz:(zeroValue t).run P C.w=.ok zv C.w:=by simp [zeroValue,typeInfo,h1,h2]
 simp only [execOp,ho,Instr.alloc,Sem.run_bind,hz,Result.andThen_ok,newVar,Ec,Sem.run_pure]
theorem G7 {C:Cx} : ∀ {T vs} {d:Nat} {c},VRs C T vs->(∀ x,vs[d]?=some x->VR C c x)->VRs C (put T d c) vs
 | [],[],_,_,_,_=>by simp only [put,VRs]
 | _ :: _,v :: _,0,_,h,hv=>by simp only [VRs,put] at h ⊢; exact ⟨hv v rfl,h.2⟩
 | _ :: _,_ :: _,d+1,_,h,hv=>by simp only [VRs,put] at h ⊢; exact ⟨h.1,G7 h.2 fun x hx=>hv x (by simpa using hx)⟩
 | [],_ :: _,_,_,h,_=>by simp only [VRs] at h
 | _ :: _,[],_,_,h,_=>by simp only [VRs] at h
theorem Yv [Globs] {T:List AV} {c:Call} {f:FuncId} {args:List AV} (h:B3 P T c=some (f,args)) (hx:xF f=true):Uw c=true:=by
 have dv:(Globs.xAny:Bool)=true:=by unfold xF at hx; simp only [Bool.and_eq_true] at hx; exact hx.1
 unfold B3 at h
 unfold Uw
 split at h
 ·rename_i hc; rw [hc]
 ·rename_i x hc
  rw [hc]
  cases x with
  | func g =>
   simp only [opv,Option.some.injEq,Prod.mk.injEq] at h
   simp only [h.1,hx]
  | _=>exact dv
 ·simp at h
theorem Ab9 [Globs] {call:Ak} {o:Oper} {c:Call} {s s':St} {v:AV} (ho:o.op=.call c) (hb:∀ b,c.callee≠.builtin b) (h:evO P call o s=some (v,s')):∃ f args S' tk' n',B3 P s.T c=some (f,args)/\call f args s.S s.tk s.n=some (v,S',tk',n')/\s'.S=S':=by
 simp only [evO,ho] at h
 split at h
 ·rename_i h'; exact absurd h' (hb _)
 ·rename_i h'; exact absurd h' (hb _)
 ·rename_i b _ _ h'; exact absurd h' (hb _)
 ·split at h
  ·rename_i f args ca
   simp only [Option.map_eq_some_iff,Prod.mk.injEq,Prod.exists] at h
   obtain ⟨r,S',tk',n',h,rfl,rfl⟩:=h
   exact ⟨f,args,S',tk',n',ca,h,rfl⟩
  ·simp at h
theorem Yy [Globs] {all:List Oper} {o:Oper} {s s':St} {v:AV} (h:chkO P all o s v s'=true) (hd:(Globs.dr:Bool)=true) (hx:xOp o=true):chkX P all o s s':=by
 unfold chkO at h
 rw [hd,hx] at h
 simpa using h
theorem Adh [Globs] {all:List Oper} {o:Oper} {s s':St} {v:AV} (h:chkO P all o s v s'=true) (hd:(Globs.dr:Bool)=true) (hl:isLd o=true):isB v=false:=by
 have hx:xOp o=false:=by
  unfold isLd at hl
  unfold xOp
  split at hl
  ·rename_i h'; rw [h']
  ·simp at hl
 unfold chkO at h
 rw [hd,hx,hl] at h
 simpa using h
theorem lk_x [Globs] {o:Oper} (h:lkOp o=true):(Globs.dr:Bool)=true/\xOp o=true:=by
 unfold lkOp at h
 simp only [Bool.and_eq_true] at h
 refine ⟨h.1,?_⟩
 unfold xOp Uw
 split at h
 ·rename_i c ho
  split at h
  ·rename_i hc; rw [hc]
  ·rename_i hc
   rw [hc]
   simp only [Bool.and_eq_true] at h; exact h.2.1
  ·simp at h
 ·simp at h
theorem an_x [Globs] {o:Oper} (h:anOp o=true):(Globs.dr:Bool)=true/\xOp o=true:=by
 unfold anOp at h
 simp only [Bool.and_eq_true] at h
 exact h.1
theorem Np [Globs] {call:Ak} (hi:Lh call) {all:List Oper} {o:Oper} {c:Call} {s s':St} {v:AV} (ho:o.op=.call c) (hb:∀ b,c.callee≠.builtin b) (h:evO P call o s=some (v,s')) (dc:chkO P all o s v s'=true):s'.S=s.S\/(xOp o=true/\s.S.length<=s'.S.length):=by
 obtain ⟨f,args,S',tk',n',h1,h2,rfl⟩:=Ab9 ho hb h
 rcases hi _ _ _ _ _ _ _ _ _ h2 with hx|⟨hS,-⟩
 ·right
  simp only [Bool.and_eq_true] at hx
  have m6:xOp o=true:=by unfold xOp; rw [ho]; exact Yv h1 hx.1
  have hX:=Yy dc hx.2 m6
  refine ⟨m6,?_⟩
  by_cases hl:lkOp o=true
  ·rw [(hX.1 hl).1]; exact Nat.le_refl _
  ·exact (hX.2 (by simp [anOp,hx.2,m6,hl])).1
 ·exact .inl hS
theorem W4 {t:TypeId} {a:AV} {S S':List Ent} (h:∀ id ep off,a≠.ref id ep off):ldA P t a S=ldA P t a S':=by
 unfold ldA
 split
 ·split
  ·rfl
  ·exact absurd rfl (h _ _ _)
  ·rfl
 ·rfl
theorem Lc {t:TypeId} {id ep off:Nat} {S S':List Ent} (h:nth S' id=nth S id):ldA P t (.ref id ep off) S'=ldA P t (.ref id ep off) S:=by
 have:entAt S' id ep=entAt S id ep:=by unfold entAt; rw [h]
 unfold ldA
 simp only [this]
theorem Wx {S S':List Ent} (h:P2 S S'):P2 S' S:=by
 refine ⟨h.1.symm,fun i=>?_⟩
 rcases h.2 i with h|⟨ep,b,b',h1,h2⟩
 ·exact .inl h.symm
 ·exact .inr ⟨ep,b',b,h2,h1⟩
theorem Vo {t:TypeId} {id ep off:Nat} {S S':List Ent} {V:AV} (h:P2 S S') (hl:ldA P t (.ref id ep off) S=some V) (hV:isB V=false):ldA P t (.ref id ep off) S'=some V:=by
 rcases h.2 id with h|⟨ep',b,b',h1,h2⟩
 ·rw [Lc h]; exact hl
 ·have hE:entAt S id ep=if ep'=ep then some [.prim (.bool b)] else none:=by unfold entAt; rw [h1]
  have p9:entAt S' id ep=if ep'=ep then some [.prim (.bool b')] else none:=by unfold entAt; rw [h2]
  unfold ldA at hl ⊢
  simp only [p9]
  simp only [hE] at hl
  split at hl
  ·rename_i sz bb _ _
   split at hl
   ·rename_i cs cw
    split at cw
    ·rename_i he
     simp only [Option.some.injEq] at cw
     subst cw
     rw [if_pos he]
     simp only
     unfold partA at hl ⊢
     cases bb with
     | false =>
      simp only [Bool.false_eq_true,if_false] at hl
      cases off with
      | zero =>
       simp only [List.drop_zero,nth,Option.some.injEq] at hl
       subst hl; simp [isB] at hV
      | succ off=>simp [nth] at hl
     | true =>
      simp only [if_true,Option.map_eq_some_iff] at hl ⊢
      obtain ⟨ds,h3,rfl⟩:=hl
      cases sz with
      | zero=>exact ⟨ds,by simpa [takeN] using h3,rfl⟩
      | succ sz =>
       cases off with
       | zero =>
        simp only [List.drop_zero,takeN,Option.map_eq_some_iff] at h3
        obtain ⟨ds',h4,rfl⟩:=h3
        cases sz with
        | zero =>
         simp only [takeN,Option.some.injEq] at h4
         subst h4
         simp [isB] at hV
        | succ sz=>simp [takeN] at h4
       | succ off=>simp [takeN] at h3
    ·simp at cw
   ·simp at hl
  ·simp at hl
theorem Xa {ops:Array Oper} {k i:Nat} {d:Option Tmp} {o:Oper} {t:TypeId} {a:Operand} (hk:k<ops.size) (hd:Ax ops k=d) (cg:∀ j,j<ops.size->Ax ops j=d->j=k) (hi:i<k) (ho:ops[i]?=some o) (hl:o.op=.load t a) (hr:i ∉ reachAt ops k) :
  (t,a,o.dst,Zv ops.toList k i a) ∈ loadsB ops.toList d:=by
 unfold loadsB
 have hf:((List.range ops.toList.length).find? fun k=>Ax ops.toList.toArray k == d)=some k:=by
  rw [List.find?_eq_some_iff_append]
  refine ⟨by simpa using hd,List.range k,(List.range (ops.toList.length - k - 1)).map (fun j=>k+1+j),?_,fun j hj=>?_⟩
  ·have:ops.toList.length=k+(1+(ops.toList.length - k - 1)):=by simp; omega
   conv=>lhs; rw [this]
   rw [List.range_add,List.range_add]
   simp [Nat.add_assoc]
  ·simp only [List.mem_range] at hj
   cases hh:Ax ops.toList.toArray j == d with
   | false=>rfl
   | true =>
    have:=cg j (by omega) (by simpa using hh)
    omega
 rw [hf]
 simp only [List.mem_filterMap,List.mem_range]
 refine ⟨i,hi,?_⟩
 have:ops.toList[i]?=some o:=by simpa using ho
 rw [this]
 simp only [hl]
 rw [if_neg (by simpa using hr)]
set_option maxHeartbeats 1000000 in
theorem Pz [Globs] (hm:P.follows .mixedOrders=true):∀ (call:Ak),Ev P call->Lh call->∀ (real ops:Array Oper) (lt:Option (Nat × Oper)),Adw P real ops lt->∀ (C:Cx) (st st':St) (a:Act) (Q:Exit->Act->World->Prop),Py st ops.toList=true->Rel C st a->evOs P call ops.toList ops.toList st=some st' ->
  (∀ a' C',Le C C'->Rel C' (Ms P lt st') a'->Q .normal a' C'.w)->wpAny P .any real Q real.size (Array.replicate real.size false) a { C.w with drawn:=C.w.drawn+1 }:=by
 intro call hc hi real ops lt bt C st st' a Q ag hr h hQ
 have hsz:real.size=ops.size:=by
  cases lt with
  | none=>rw [show real=ops from bt]
  | some q=>obtain ⟨p,al⟩:=q; exact bt.1
 have kq:∀ i,(∀ p al,lt=some (p,al)->i≠p)->real[i]?=ops[i]?:=by
  intro i aj
  cases lt with
  | none=>rw [show real=ops from bt]
  | some q=>obtain ⟨p,al⟩:=q; exact bt.2.1 i (aj p al rfl)
 have ir:∀ i:Nat,(real[i]?).map (fun o=>(o.after,o.dst))=(ops[i]?).map fun o=>(o.after,o.dst):=by
  intro i
  cases lt with
  | none=>rw [show real=ops from bt]
  | some q =>
   obtain ⟨p,al⟩:=q
   obtain ⟨-,h1,-,h2,-,-,-,h3⟩:=bt
   by_cases e:i=p
   ·subst e; rw [h2,h3]; rfl
   ·rw [h1 i e]
 have b4:∀ listed i,i ∈ Region.ready .any real listed↔i ∈ Region.ready .any ops listed:=by
  intro listed i
  have bm:=ir i
  rw [mem_ready,mem_ready]
  constructor
  ·rintro ⟨h0,o,ho,hd⟩
   rw [ho] at bm
   obtain ⟨o',bd,e⟩:=Option.map_eq_some_iff.1 bm.symm
   simp only [Prod.mk.injEq] at e
   exact ⟨h0,o',bd,by rw [e.1]; exact hd⟩
  ·rintro ⟨h0,o,ho,hd⟩
   rw [ho] at bm
   obtain ⟨o',bd,e⟩:=Option.map_eq_some_iff.1 bm
   simp only [Prod.mk.injEq] at e
   exact ⟨h0,o',bd,by rw [e.1]; exact hd⟩
 have d8:∀ tmps,yielded real tmps=yielded ops tmps:=by
  intro tmps
  funext j
  have bm:=ir j
  unfold yielded
  cases h1:real[j]? with
  | none=>rw [h1] at bm; rw [Option.map_eq_none_iff.1 bm.symm]
  | some o =>
   rw [h1] at bm
   obtain ⟨o',bd,e⟩:=Option.map_eq_some_iff.1 bm.symm
   simp only [Prod.mk.injEq] at e
   simp only [bd,Option.bind_some,e.2]
 have b8:∀ p al,lt=some (p,al)->∀ i j,Bv ops i j=true->False:=by
  intro p al e i j hp
  subst e
  obtain ⟨p1,p2,q1,-,⟨q3,-⟩,-,-⟩:=Ej hp
  have:=bt.2.2.1 i p1 q1
  obtain ⟨t,e1,-⟩:=Kn q3
  unfold isMk at this
  rw [e1] at this; cases this
 obtain ⟨sts,val,jf,ly,kr⟩:=Adt h
 simp only [Array.length_toList] at ly
 have bf:∀ (i:Nat) o,ops[i]?=some o->Yg P call ops.toList o (sts i) (sts (i+1)) (val i):=fun i o ho=>kr i o (by simpa using ho)
 have gb:∀ i o,ops[i]?=some o->opOk ops i o=true/\∀ j p,j<i->ops[j]?=some p->((!conf p o && !(wrS p && !lkOp p && rdS o) && !(rdS p && wrS o && !lkOp o)) || (reachAt ops i).contains j || (!conf p o && (if rdS o=true then H2 st ops i o p else (Zs o || (anOp o && o.dst.isSome) || H2 st ops j p o))) || Bv ops j i)=true:=by
  intro i o ho
  have hlt:=(Array.getElem?_eq_some_iff.1 ho).1
  unfold Py at ag
  rw [List.all_eq_true] at ag
  have h1:=ag i (by simpa using hlt)
  simp only [Array.toArray_toList,ho,Bool.and_eq_true] at h1
  refine ⟨h1.1,fun j p hj hp=>?_⟩
  have h2:=List.all_eq_true.1 h1.2 j (by simpa using hj)
  simp only [hp] at h2
  exact h2
 have hall:∀ i o,ops[i]?=some o->opOk ops i o=true/\∀ j p,j<i->ops[j]?=some p->conf p o=true->j ∈ reachAt ops i\/Bv ops j i=true:=by
  intro i o ho
  refine ⟨(gb i o ho).1,fun j p hj hp kt=>?_⟩
  have h2:=(gb i o ho).2 j p hj hp
  simp only [kt,Bool.not_true,Bool.false_and,Bool.false_or,Bool.or_false,Bool.or_eq_true] at h2
  exact h2.imp (fun h=>by simpa using h) id
 have c5:∀ i o,ops[i]?=some o->∀ j p,j<i->ops[j]?=some p->((wrS p && !lkOp p && rdS o) || (rdS p && wrS o && !lkOp o))=true->j ∈ reachAt ops i\/(if rdS o=true then H2 st ops i o p else (Zs o || (anOp o && o.dst.isSome) || H2 st ops j p o))=true:=by
  intro i o ho j p hj hp kt
  have h2:=(gb i o ho).2 j p hj hp
  have h3:(!conf p o && !(wrS p && !lkOp p && rdS o) && !(rdS p && wrS o && !lkOp o))=false:=by
   simp only [Bool.or_eq_true] at kt
   rcases kt with h|h <;> simp [h]
  rw [h3] at h2
  simp only [Bool.false_or,Bool.or_eq_true,Bool.and_eq_true] at h2
  rcases h2 with (h2|h2)|h2
  ·exact .inl (by simpa using h2)
  ·exact .inr h2.2
  ·obtain ⟨p',o',q1,q2,⟨-,q3⟩,-,q4⟩:=Ej h2
   rw [hp] at q1; rw [ho] at q2
   simp only [Option.some.injEq] at q1 q2
   subst q1; subst q2
   simp [q3,q4] at kt
 have hop:∀ i o,ops[i]?=some o->(match o.op with|.select ..=>false|_=>true)=true/\(∀ j ∈ depsOf ops i,j<i)/\(∀ g w,o.guard=some (g,w)->g ∈ depsOf ops i)/\(∀ d,o.dst=some d->∀ j,j<i->Ax ops j≠some d) /\
   (∀ t,Operand.tmp t ∈ o.op.operands->∀ j,Ax ops j=some t->j=i\/j ∈ reachAt ops i\/i ∈ reachAt ops j):=by
  intro i o ho
  have h1:=(hall i o ho).1
  unfold opOk at h1
  simp only [Bool.and_eq_true] at h1
  obtain ⟨⟨⟨⟨a1,a2⟩,a3⟩,a4⟩,a5⟩:=h1
  refine ⟨a1,fun j hj=>by simpa using List.all_eq_true.1 a2 j hj,fun g w hg=>by rw [hg] at a3; simpa using a3,fun d hd j hj=>?_,fun t ht j hj=>?_⟩
  ·rw [hd] at a4
   simp only [Option.all_some] at a4
   have:=List.all_eq_true.1 a4 j (by simpa using hj)
   simpa using this
  ·have h2:=Array.all_eq_true_iff_forall_mem.1 a5 (.tmp t) ht
   have ku:j<ops.size:=by
    unfold Ax at hj
    cases hx:ops[j]? with
    | none=>rw [hx] at hj; simp at hj
    | some _=>exact (Array.getElem?_eq_some_iff.1 hx).1
   have h3:=List.all_eq_true.1 h2 j (by simpa using ku)
   simp only [hj,bne_self_eq_false,Bool.false_or,Bool.or_eq_true,beq_iff_eq,List.contains_iff_mem] at h3
   rcases h3 with (h3|h3)|h3
   ·exact .inl h3
   ·exact .inr (.inl h3)
   ·exact .inr (.inr h3)
 have ie:∀ {j:Nat} {d:Tmp},Ax ops j=some d->∃ o,ops[j]?=some o/\o.dst=some d:=by
  intro j d hj
  unfold Ax at hj
  cases hx:ops[j]? with
  | none=>rw [hx] at hj; simp at hj
  | some o=>rw [hx] at hj; exact ⟨o,rfl,by simpa using hj⟩
 have cg:∀ {i j:Nat} {d:Tmp},Ax ops i=some d->Ax ops j=some d->i=j:=by
  intro i j d h1 h2
  obtain ⟨o,ho,lm⟩:=ie h1
  obtain ⟨p,hp,qa⟩:=ie h2
  rcases Nat.lt_trichotomy i j with hh|hh|hh
  ·exact absurd h1 ((hop j p hp).2.2.2.1 d qa i hh)
  ·exact hh
  ·exact absurd h2 ((hop i o ho).2.2.2.1 d lm j hh)
 have stepT:∀ i o,ops[i]?=some o->(sts (i+1)).T=putT (sts i).T o.dst (val i)/\(wrS o=false->(sts (i+1)).S=(sts i).S/\(sts (i+1)).n=(sts i).n)/\(wrT o=false->(sts (i+1)).tk=(sts i).tk):=by
  intro i o ho
  rcases bf i o ho with ⟨-,-,e⟩|⟨-,s1,h1,-,e⟩
  ·rw [e]; exact ⟨rfl,fun _=>⟨rfl,rfl⟩,fun _=>rfl⟩
  ·obtain ⟨g1,g2,g3,-⟩:=Lx hi (hop i o ho).1 h1
   rw [e]; exact ⟨by simp only [g1],g2,g3⟩
 have textLen:∀ i,i<=ops.size->(sts i).T.length=st.T.length:=by
  intro i
  induction i with
  | zero=>intro _; rw [jf]
  | succ i ih =>
   intro hlt
   rw [(stepT i _ (Array.getElem?_eq_getElem (show i<ops.size by omega))).1,El,ih (by omega)]
 have text2:∀ i,i<=ops.size->∀ t,(∀ j,j<i->Ax ops j≠some t)->getT (sts i).T t=getT st.T t:=by
  intro i
  induction i with
  | zero=>intro _ t _; rw [jf]
  | succ i ih =>
   intro hlt t ht
   have ho:=Array.getElem?_eq_getElem (show i<ops.size by omega)
   rw [(stepT i _ ho).1]
   have hne:(ops[i]'(by omega)).dst≠some t:=fun e=>ht i (by omega) (by unfold Ax; rw [ho]; simpa using e)
   cases hd:(ops[i]'(by omega)).dst with
   | none=>simp only [putT]; exact ih (by omega) t fun j hj=>ht j (by omega)
   | some d =>
    simp only [putT]
    rw [Az (fun e=>hne (by rw [hd,e]))]
    exact ih (by omega) t fun j hj=>ht j (by omega)
 have text1:∀ i,i<=ops.size->∀ j t,j<i->Ax ops j=some t->getT (sts i).T t=if t<st.T.length then val j else .bot:=by
  intro i
  induction i with
  | zero=>intro _ j t hj; omega
  | succ i ih =>
   intro hlt j t hj hd
   have ho:=Array.getElem?_eq_getElem (show i<ops.size by omega)
   rw [(stepT i _ ho).1]
   by_cases e:j=i
   ·subst e
    have cf:(ops[j]'(by omega)).dst=some t:=by unfold Ax at hd; rw [ho] at hd; simpa using hd
    rw [cf]
    simp only [putT]
    by_cases b5:t<st.T.length
    ·rw [if_pos b5]
     exact D8 (by rw [textLen j (by omega)]; exact b5)
    ·rw [if_neg b5]
     refine Jr ?_
     rw [A6,textLen j (by omega)]; exact Nat.le_of_not_lt b5
   ·have hne:Ax ops i≠some t:=fun x=>e (cg hd x)
    have m7:(ops[i]'(by omega)).dst≠some t:=fun x=>hne (by unfold Ax; rw [ho]; simpa using x)
    cases cf:(ops[i]'(by omega)).dst with
    | none=>simp only [putT]; exact ih (by omega) j t (by omega) hd
    | some d =>
     simp only [putT]
     rw [Az (fun x=>m7 (by rw [cf,x]))]
     exact ih (by omega) j t (by omega) hd
 have constS:∀ k i,i+k<=ops.size->(∀ j,i<=j->j<i+k->wS ops j=false)->(sts (i+k)).S=(sts i).S/\(sts (i+k)).n=(sts i).n:=by
  intro k
  induction k with
  | zero=>intro i _ _; exact ⟨rfl,rfl⟩
  | succ k ih =>
   intro i hle hw
   have ho:=Array.getElem?_eq_getElem (show i+k<ops.size by omega)
   have h1:=hw (i+k) (by omega) (by omega)
   unfold wS at h1; rw [ho] at h1
   have h2:=(stepT (i+k) _ ho).2.1 h1
   have h3:=ih i (by omega) fun j a b=>hw j a (by omega)
   exact ⟨by rw [<- h3.1,<- h2.1]; rfl,by rw [<- h3.2,<- h2.2]; rfl⟩
 have constT:∀ k i,i+k<=ops.size->(∀ j,i<=j->j<i+k->wT ops j=false)->(sts (i+k)).tk=(sts i).tk:=by
  intro k
  induction k with
  | zero=>intro i _ _; rfl
  | succ k ih =>
   intro i hle hw
   have ho:=Array.getElem?_eq_getElem (show i+k<ops.size by omega)
   have h1:=hw (i+k) (by omega) (by omega)
   unfold wT at h1; rw [ho] at h1
   have h2:=(stepT (i+k) _ ho).2.2 h1
   have h3:=ih i (by omega) fun j a b=>hw j a (by omega)
   rw [<- h3,<- h2]; rfl
 have ldB:∀ i o t q id ep off b,ops[i]?=some o->o.op=.load t (.tmp q)->N1 st ops i o=some b->getT (sts i).T q=.ref id ep off->b=some id/\id<st.S.length:=by
  intro i o t q id ep off b ho m8 hb hv
  have dl:=(Array.getElem?_eq_some_iff.1 ho).1
  have base:∀ x,unwr ops x=true->∀ m,m<=ops.size->getT (sts m).T x=getT st.T x:=by
   intro x hx m bm
   refine text2 m bm x fun j hj hd=>?_
   have:=List.all_eq_true.1 hx j (by simp; omega)
   rw [hd] at this; simp at this
  unfold N1 at hb
  rw [m8] at hb
  simp only at hb
  split at hb
  ·rename_i hu
   rw [<- base q hu i (by omega),hv] at hb
   simp only at hb
   split at hb
   ·rename_i hl; simp only [Option.some.injEq] at hb; exact ⟨hb.symm,hl⟩
   ·simp at hb
  ·obtain ⟨m,bm,cd⟩:=List.exists_of_findSome?_eq_some hb
   have qb:m<i:=by simpa using bm
   split at cd
   ·rename_i o1 ov
    split at cd
    ·rename_i d t' x k' hd1 m9
     split at cd
     ·rename_i qc
      obtain ⟨rfl,qd⟩:=qc
      have b9:=text1 i (by omega) m d qb (by unfold Ax; rw [ov]; exact hd1)
      rw [hv] at b9
      have lz:val m=.ref id ep off:=by
       split at b9
       ·exact b9.symm
       ·simp at b9
      rcases bf m _ ov with ⟨-,qe,-⟩|⟨-,s1,ai,-,-⟩
      ·rw [qe] at lz; simp at lz
      ·simp only [evO,evQ,m9,Option.map_eq_some_iff,Prod.mk.injEq] at ai
       obtain ⟨v,ai,rfl,-⟩:=ai
       simp only [opv] at ai
       rw [base x qd m (by omega)] at ai
       unfold fldA at ai
       split at ai
       ·rename_i hx
        simp only [Option.some.injEq] at ai
        rw [lz] at ai; simp at ai
       ·rename_i id0 e0 o0 hf hx
        rw [hx] at cd
        simp only at cd
        simp only [Option.some.injEq] at ai
        rw [lz] at ai
        simp only [AV.ref.injEq] at ai
        obtain ⟨rfl,-⟩:=ai
        split at cd
        ·rename_i hl; simp only [Option.some.injEq] at cd; exact ⟨cd.symm,hl⟩
        ·simp at cd
       ·simp at ai
     ·simp at cd
    ·simp at cd
   ·simp at cd
 have growStep:∀ m,m<ops.size->(sts m).S.length<=(sts (m+1)).S.length:=by
   intro m hlt
   have ho:=Array.getElem?_eq_getElem hlt
   rcases bf m _ ho with ⟨-,-,e⟩|⟨-,s1,ai,dc,e⟩
   ·rw [e]; exact Nat.le_refl _
   ·rw [e]
    by_cases hw:wrS (ops[m]'hlt)=true
    ·have grC:∀ c,(ops[m]'hlt).op=.call c->(∀ b,c.callee≠.builtin b)->(sts m).S.length<=s1.S.length:=fun c h1 h2=>by
      rcases Np hi h1 h2 ai dc with h|⟨-,h⟩
      ·rw [h]; exact Nat.le_refl _
      ·exact h
     unfold wrS at hw
     unfold evO at ai
     split at ai
     ·rename_i h'; rw [h'] at hw; simp at hw
     ·simp only [Option.map_eq_some_iff,Prod.mk.injEq] at ai
      obtain ⟨S',am,-,rfl⟩:=ai
      unfold stA at am
      split at am
      ·split at am
       ·split at am
        ·split at am
         ·simp only [Option.some.injEq] at am; subst am; simp [A6]
         ·simp at am
        ·simp at am
       ·simp at am
      ·simp at am
     ·simp only [Option.map_eq_some_iff,Prod.mk.injEq] at ai
      obtain ⟨cs,-,-,rfl⟩:=ai
      simp
     ·simp only [Option.map_eq_some_iff,Prod.mk.injEq] at ai
      obtain ⟨cs,-,-,rfl⟩:=ai
      simp
     ·rename_i t l c h'
      rw [h'] at hw
      have hl:L2 (ops[m]'hlt) l=false:=by simpa using hw
      simp only [Option.map_eq_some_iff,Prod.exists,hl] at ai
      obtain ⟨l',sz,cs,-,hh⟩:=ai
      rw [if_neg (by simp)] at hh
      simp only [Prod.mk.injEq] at hh
      obtain ⟨-,rfl⟩:=hh
      simp
     ·rename_i c h'
      rw [h'] at hw
      simp only at hw
      cases ab:c.callee with
      | builtin b =>
       rw [ab] at hw
       cases b <;> simp at hw
       ·simp only [ab] at ai
        split at ai
        ·rename_i x y t t' cj ht
         rw [if_pos hw] at ai
         split at ai
         ·simp only [Option.map_eq_some_iff,Prod.mk.injEq,Prod.exists] at ai
          obtain ⟨u,S',n',ci,-,rfl⟩:=ai
          exact Aed ci
         ·simp at ai
        ·simp at ai
       simp only [ab] at ai
       split at ai
       ·simp only [Option.map_eq_some_iff,Prod.mk.injEq,Prod.exists] at ai
        obtain ⟨mm,S',md,-,rfl⟩:=ai
        rw [Aei md]; exact Nat.le_refl _
       ·simp at ai
      | value x=>exact grC c h' (fun b hb=>by rw [ab] at hb; cases hb)
      | invoke _ _=>exact grC c h' (fun b hb=>by rw [ab] at hb; cases hb)
     ·rename_i h1 h2 h3 h4 h5 h6
      split at hw
      ·exact absurd (by assumption) (h2 _ _ _)
      ·exact absurd (by assumption) (h3 _)
      ·exact absurd (by assumption) (h4 _ _)
      ·exact absurd (by assumption) (h5 _ _ _)
      ·exact absurd (by assumption) (h6 _)
      ·simp at hw
    ·have:=(Lx hi (hop m _ ho).1 ai).2.1 (by simpa using hw)
     rw [this.1]; exact Nat.le_refl _
 have growS2:∀ k i,i+k<=ops.size->(sts i).S.length<=(sts (i+k)).S.length:=by
  intro k
  induction k with
  | zero=>intro i _; exact Nat.le_refl _
  | succ k ih=>intro i hle; exact Nat.le_trans (ih i (by omega)) (growStep (i+k) (by omega))
 have growS:∀ m,m<=ops.size->st.S.length<=(sts m).S.length:=fun m hm=>by
  have:=growS2 m 0 (by omega)
  rw [jf,Nat.zero_add] at this; exact this
 have mkStep:∀ k pk id,ops[k]?=some pk->Zs pk=true->id<(sts k).S.length->nth (sts (k+1)).S id=nth (sts k).S id:=by
  intro k pk id hk f5 hid
  rcases bf k pk hk with ⟨-,-,e⟩|⟨-,s1,ai,-,e⟩
  ·rw [e]
  ·rw [e]
   unfold evO at ai
   unfold Zs at f5
   split at f5
   ·rename_i t' dm
    simp only [dm,Option.map_eq_some_iff,Prod.mk.injEq] at ai
    obtain ⟨cs,-,-,rfl⟩:=ai
    simp only
    rw [Ab,Ab,List.getElem?_append_left (by omega)]
   ·rename_i t' x' dm
    simp only [dm,Option.map_eq_some_iff,Prod.mk.injEq] at ai
    obtain ⟨cs,-,-,rfl⟩:=ai
    simp only
    rw [Ab,Ab,List.getElem?_append_left (by omega)]
   ·rename_i t' l' c' dm
    simp only [dm,Option.map_eq_some_iff,Prod.exists] at ai
    obtain ⟨l0,sz0,cs0,-,hh⟩:=ai
    split at hh
    ·simp only [Prod.mk.injEq] at hh
     obtain ⟨-,rfl⟩:=hh
     rfl
    ·simp only [Prod.mk.injEq] at hh
     obtain ⟨-,rfl⟩:=hh
     simp only
     rw [Ab,Ab,List.getElem?_append_left (by omega)]
   ·simp at f5
 have apartStep:∀ i o k pk t q id ep off,ops[i]?=some o->ops[k]?=some pk->o.op=.load t (.tmp q)->getT (sts i).T q=.ref id ep off->H2 st ops i o pk=true->wrS pk=true->nth (sts (k+1)).S id=nth (sts k).S id:=by
  intro i o k pk t q id ep off ho hk cp hv ci dw
  have hkl:=(Array.getElem?_eq_some_iff.1 hk).1
  unfold H2 at ci
  cases hb:N1 st ops i o with
  | none=>rw [hb] at ci; simp at ci
  | some b =>
   obtain ⟨rfl,bc⟩:=ldB i o t q id ep off b ho cp hb hv
   rw [hb] at ci
   simp only at ci
   have bq:=growS k (by omega)
   rcases bf k pk hk with ⟨-,-,e⟩|⟨-,s1,ai,dc,e⟩
   ·rw [e]
   ·rw [e]
    have apC:∀ c,pk.op=.call c->(∀ b,c.callee≠.builtin b)->xOp pk=false->nth s1.S id=nth (sts k).S id:=fun c h1 h2 h3=>by
     rcases Np hi h1 h2 ai dc with h|⟨h,-⟩
     ·rw [h]
     ·rw [h3] at h; simp at h
    unfold evO at ai
    split at ci
    ·rename_i t' q' x' dm
     simp only [Bool.and_eq_true] at ci
     obtain ⟨hu,hne⟩:=ci
     simp only [dm,Option.map_eq_some_iff,Prod.mk.injEq] at ai
     obtain ⟨S',am,-,rfl⟩:=ai
     have hq:getT (sts k).T q'=getT st.T q':=text2 k (by omega) q' fun j hj hd=>by
      have:=List.all_eq_true.1 hu j (by simp; omega)
      rw [hd] at this; simp at this
     simp only [opv] at am
     rw [hq] at am
     split at hne
     ·rename_i id' e' o' hx
      rw [hx] at am
      simp only [decide_eq_true_eq] at hne
      exact Aas am (fun h=>hne h.symm)
     ·simp at hne
    ·rename_i t' dm
     simp only [dm,Option.map_eq_some_iff,Prod.mk.injEq] at ai
     obtain ⟨cs,-,-,rfl⟩:=ai
     simp only
     rw [Ab,Ab,List.getElem?_append_left (by omega)]
    ·rename_i t' x' dm
     simp only [dm,Option.map_eq_some_iff,Prod.mk.injEq] at ai
     obtain ⟨cs,-,-,rfl⟩:=ai
     simp only
     rw [Ab,Ab,List.getElem?_append_left (by omega)]
    ·rename_i t' l' c' dm
     simp only [dm,Option.map_eq_some_iff,Prod.exists] at ai
     obtain ⟨l0,sz0,cs0,-,hh⟩:=ai
     split at hh
     ·simp only [Prod.mk.injEq] at hh
      obtain ⟨-,rfl⟩:=hh
      rfl
     ·simp only [Prod.mk.injEq] at hh
      obtain ⟨-,rfl⟩:=hh
      simp only
      rw [Ab,Ab,List.getElem?_append_left (by omega)]
    ·rename_i c dm
     split at ci
     ·rename_i g ab
      exact apC c dm (fun b hb=>by rw [ab] at hb; cases hb) (by simpa [xOp,dm,Uw,ab] using ci)
     ·rename_i x hx ab
      refine apC c dm (fun b hb=>by rw [ab] at hb; cases hb) ?_
      unfold xOp Uw
      rw [dm]
      simp only [ab]
      simpa using ci
     ·simp at ci
    ·simp at ci
 have constU:∀ (p:List Ent->Prop) k i,i+k<=ops.size->(∀ j pj,i<=j->j<i+k->ops[j]?=some pj->wrS pj=true->p (sts j).S->p (sts (j+1)).S)->p (sts i).S->p (sts (i+k)).S:=by
  intro p k
  induction k with
  | zero=>intro i _ _ h; exact h
  | succ k ih =>
   intro i hle hw h
   have ho:=Array.getElem?_eq_getElem (show i+k<ops.size by omega)
   have h3:=ih i (by omega) (fun j pj a b=>hw j pj a (by omega)) h
   show p (sts (i+k+1)).S
   by_cases dw:wrS (ops[i+k]'(by omega))=true
   ·exact hw (i+k) _ (by omega) (by omega) ho dw h3
   ·rw [((stepT (i+k) _ ho).2.1 (by simpa using dw)).1]; exact h3
 have constD:∀ (p:List Ent->Prop) k i,i+k<=ops.size->(∀ j pj,i<=j->j<i+k->ops[j]?=some pj->wrS pj=true->p (sts (j+1)).S->p (sts j).S)->p (sts (i+k)).S->p (sts i).S:=by
  intro p k
  induction k with
  | zero=>intro i _ _ h; exact h
  | succ k ih =>
   intro i hle hw h
   have ho:=Array.getElem?_eq_getElem (show i+k<ops.size by omega)
   refine ih i (by omega) (fun j pj a b=>hw j pj a (by omega)) ?_
   have h':p (sts (i+k+1)).S:=h
   by_cases dw:wrS (ops[i+k]'(by omega))=true
   ·exact hw (i+k) _ (by omega) (by omega) ho dw h'
   ·rw [((stepT (i+k) _ ho).2.1 (by simpa using dw)).1] at h'; exact h'
 have textKeep:∀ k i q,i+k<=ops.size->(∀ j,i<=j->j<i+k->Ax ops j≠some q)->getT (sts (i+k)).T q=getT (sts i).T q:=by
  intro k
  induction k with
  | zero=>intro i q _ _; rfl
  | succ k ih =>
   intro i q hle hw
   have ho:=Array.getElem?_eq_getElem (show i+k<ops.size by omega)
   rw [<- ih i q (by omega) fun j a b=>hw j a (by omega)]
   show getT (sts (i+k+1)).T q=_
   rw [(stepT (i+k) _ ho).1]
   have hne:(ops[i+k]'(by omega)).dst≠some q:=fun e=>hw (i+k) (by omega) (by omega) (by unfold Ax; rw [ho]; simpa using e)
   cases hd:(ops[i+k]'(by omega)).dst with
   | none=>rfl
   | some d =>
    simp only [putT]
    exact Az (fun e=>hne (by rw [hd,e]))
 have lkStep:∀ k pk,ops[k]?=some pk->lkOp pk=true->P2 (sts k).S (sts (k+1)).S:=by
  intro k pk hk hl
  rcases bf k pk hk with ⟨-,-,e⟩|⟨-,s1,ai,dc,e⟩
  ·rw [e]; exact ⟨rfl,fun _=>.inl rfl⟩
  ·rw [e]
   obtain ⟨hd,hx⟩:=lk_x hl
   exact (Yy dc hd hx).1 hl
 have fin:∀ {listed:Array Bool} {s:St},DInv ops st sts val listed s->(∀ j,j<ops.size->listed.getD j false=true)->s=st':=by
  intro listed s hD hl
  have eT:s.T=st'.T:=by
   refine Vq (by rw [hD.lenT,<- ly,textLen _ (Nat.le_refl _)]) fun t=>?_
   rw [<- ly]
   by_cases hx:∃ j,Ax ops j=some t
   ·obtain ⟨j,hj⟩:=hx
    obtain ⟨o,ho,-⟩:=ie hj
    have hlt:=(Array.getElem?_eq_some_iff.1 ho).1
    rw [hD.t1 j t (hl j hlt) hj (fun e he=>hl e (Mj he).1),text1 _ (Nat.le_refl _) j t hlt hj]
   ·rw [hD.t2 t fun j _ hj=>hx ⟨j,hj⟩,text2 _ (Nat.le_refl _) t fun j _ hj=>hx ⟨j,hj⟩]
  obtain ⟨c,aq,hc2,hc3⟩:=hD.cS
  obtain ⟨c',ow,j4⟩:=hD.cT
  have e1:c=ops.size:=by
   rcases Nat.lt_or_ge c ops.size with h|h
   ·have:=(aq.2.2 h).2; rw [hl c h] at this; simp at this
   ·have:=aq.1; omega
  have e2:c'=ops.size:=by
   rcases Nat.lt_or_ge c' ops.size with h|h
   ·have:=(ow.2.2 h).2; rw [hl c' h] at this; simp at this
   ·have:=ow.1; omega
  subst e1
  rw [e2] at j4
  rw [ly] at hc2 hc3 j4
  cases s; cases st'
  simp_all
 have none_ready:∀ {listed:Array Bool} {s:St},DInv ops st sts val listed s->Region.ready .any ops listed=[]->∀ j,j<ops.size->listed.getD j false=true:=by
  intro listed s hD au j
  induction j using Nat.strongRecOn with
  | _ j ihj =>
   intro hj
   cases hl:listed.getD j false with
   | true=>rfl
   | false =>
    exfalso
    have ho:ops[j]?=some (ops[j]'hj):=Array.getElem?_eq_getElem hj
    have:j ∈ Region.ready .any ops listed:=by
     apply mem_ready.2
     refine ⟨?_,_,ho,fun e he hb=>?_⟩
     ·have ia:j<listed.size:=by rw [hD.len]; exact hj
      simpa [Array.getD,ia] using hl
     ·have bm:e.on ∈ depsOf ops j:=by
       unfold depsOf; rw [ho]
       exact List.mem_map.2 ⟨e,List.mem_filter.2 ⟨by simpa using he,hb⟩,rfl⟩
      have:=(hop j _ ho).2.1 _ bm
      exact ihj _ this (by omega)
    rw [au] at this; simp at this
 have step:∀ {listed:Array Bool} {s:St},DInv ops st sts val listed s->∀ i ∈ Region.ready .any ops listed,(∀ e,Bv ops e i=true->listed.getD e false=true)->(∀ e,Bv ops i e=true->listed.getD e false=false)->∃ o,ops[i]?=some o/\listed.getD i false=false /\
   ∃ b s2,Ea ops.toList s.T o=some b/\(b=true->evO P call o s=some (val i,s2))/\(b=false->val i=.prim undef/\s2=s)/\s2.T=s.T/\DInv ops st sts val (listed.setIfInBounds i true) { s2 with T:=putT s2.T o.dst (val i) }:=by
  intro listed s hD i gc bv hn2
  obtain ⟨h0,o,ho,ct⟩:=B1 gc
  obtain ⟨dd,dl⟩:=Dc h0
  rw [hD.len] at dl
  refine ⟨o,ho,dd,?_⟩
  have bl:=A1 hD.closed ct
  have ed:∀ j,listed.getD j false=true->i ∈ reachAt ops j->False:=fun j hj bn=>by
   have:=A1 hD.closed (hD.closed j hj) i bn
   rw [dd] at this; simp at this
  obtain ⟨jm,na,hgd,j5,f8⟩:=hop i o ho
  have agree:∀ t,(∀ j,Ax ops j=some t->j=i\/j ∈ reachAt ops i\/i ∈ reachAt ops j)->getT s.T t=getT (sts i).T t:=by
   intro t ht
   by_cases hx:∃ j,listed.getD j false=true/\Ax ops j=some t
   ·obtain ⟨j,hj,ee⟩:=hx
    have hji:j<i:=by
     rcases ht j ee with e|e|e
     ·subst e; rw [dd] at hj; simp at hj
     ·-- what is reached comes before
      have:∀ e ∈ reachAt ops i,e<i:=by
       unfold reachAt
       have key:∀ (l:List Nat) (s:List Nat),(∀ e ∈ s,e<i)->∀ e ∈ l.foldl (fun s j=>if s.contains j then depsOf ops j++s else s) s,e<i:=by
        intro l
        induction l with
        | nil=>intro s hs; exact hs
        | cons j l ih =>
         intro s hs
         simp only [List.foldl_cons]
         apply ih
         split
         ·rename_i hj
          intro e he
          rcases List.mem_append.1 he with h|h
          ·have ku:=hs j (by simpa using hj)
           cases hx:ops[j]? with
           | none=>unfold depsOf at h; rw [hx] at h; simp at h
           | some p=>have:=(hop j p hx).2.1 e h; omega
          ·exact hs e h
         ·exact hs
       exact key _ _ na
      exact this j e
     ·exact (ed j hj e).elim
    rw [hD.t1 j t hj ee (fun e he=>?_),text1 i (by omega) j t hji ee]
    by_cases c7:i=e
    ·subst c7
     have:=hn2 j he; rw [hj] at this; simp at this
    ·rcases ht j ee with q|q|q
     ·omega
     ·exact bl e ((Ku (k:=i) he dl c7 (by omega)).2 q)
     ·exact (ed j hj q).elim
   ·rw [hD.t2 t fun j hj ee=>hx ⟨j,hj,ee⟩,text2 i (by omega) t fun j hj ee=>?_]
    rcases ht j ee with e|e|e
    ·omega
    ·exact hx ⟨j,bl j e,ee⟩
    ·-- i before j in the order,j before i in the text: not so
     have:i<j:=by
      have key:∀ (l:List Nat) (s:List Nat),(∀ e ∈ s,e<j)->∀ e ∈ l.foldl (fun s j=>if s.contains j then depsOf ops j++s else s) s,e<j:=by
       intro l
       induction l with
       | nil=>intro s hs; exact hs
       | cons k l ih =>
        intro s hs
        simp only [List.foldl_cons]
        apply ih
        split
        ·rename_i hk
         intro e he
         rcases List.mem_append.1 he with h|h
         ·have qf:=hs k (by simpa using hk)
          cases hx:ops[k]? with
          | none=>unfold depsOf at h; rw [hx] at h; simp at h
          | some p=>have:=(hop k p hx).2.1 e h; omega
         ·exact hs e h
        ·exact hs
      obtain ⟨p,hp,-⟩:=ie ee
      exact key _ _ (hop j p hp).2.1 i e
     omega
  have agreeO:∀ x ∈ o.op.operands,opv s.T x=opv (sts i).T x:=by
   intro x hx
   cases x with
   | tmp t=>exact agree t (f8 t hx)
   | _=>rfl
  have agreeG:Ea ops.toList s.T o=Ea ops.toList (sts i).T o:=by
   unfold Ea
   cases hg:o.guard with
   | none=>rfl
   | some gw =>
    obtain ⟨g,w⟩:=gw
    have qg:=hgd g w hg
    simp only
    cases oz:(nth ops.toList g).bind (·.dst) with
    | none=>rfl
    | some d =>
     have cf:Ax ops g=some d:=by unfold Ax; rw [Ab] at oz; simpa using oz
     have:getT s.T d=getT (sts i).T d:=agree d fun j hj=>by
      have:=cg hj cf
      subst this
      right; left
      have key:∀ (l:List Nat) (s:List Nat) (x:Nat),x ∈ s->x ∈ l.foldl (fun s j=>if s.contains j then depsOf ops j++s else s) s:=by
       intro l
       induction l with
       | nil=>intro s x hs; exact hs
       | cons k l ih =>
        intro s x hs
        simp only [List.foldl_cons]
        apply ih
        split
        ·exact List.mem_append_right _ hs
        ·exact hs
      exact key _ _ _ qg
     simp only [this]
  have confl:∀ j p,ops[j]?=some p->conf p o=true->conf o p=true->j≠i->(listed.getD j false=true↔j<i):=by
   intro j p hp h1 h2 hne
   rcases Nat.lt_or_gt_of_ne hne with hlt|j6
   ·exact ⟨fun _=>hlt,fun _=>((hall i o ho).2 j p hlt hp h1).elim (bl j) (bv j)⟩
   ·exact ⟨fun hl=>((hall j p hp).2 i o j6 ho h2).elim (fun q=>(ed j hl q).elim) (fun q=>by have:=hn2 j q; rw [hl] at this; simp at this),fun h=>by omega⟩
  have curS:(wrS o=true\/rdA o=true)->s.S=(sts i).S/\s.n=(sts i).n/\(wrS o=true->Xz (wS ops) listed ops.size i):=by
   intro c5
   obtain ⟨c,aq,hc2,hc3⟩:=hD.cS
   have hw:∀ j,j≠i->wS ops j=true->(listed.getD j false=true↔j<i):=by
    intro j hne ar
    unfold wS at ar
    cases hp:ops[j]? with
    | none=>rw [hp] at ar; simp at ar
    | some p =>
     rw [hp] at ar
     refine confl j p hp ?_ ?_ hne
     ·rcases c5 with c5|c5 <;> simp [conf,ar,c5]
     ·rcases c5 with c5|c5 <;> simp [conf,ar,c5]
   rcases Nat.lt_trichotomy c i with hlt|heq|j6
   ·have:=aq.2.2 (by omega)
    have h2:=(hw c (by omega) this.1).2 hlt
    rw [this.2] at h2; simp at h2
   ·subst heq; exact ⟨hc2,hc3,fun _=>aq⟩
   ·have gm:wrS o=false:=by
     cases bj:wrS o with
     | false=>rfl
     | true =>
      have:=aq.2.1 i j6 (by unfold wS; rw [ho]; exact bj)
      rw [dd] at this; simp at this
    have hno:∀ j,i<=j->j<i+(c - i)->wS ops j=false:=by
     intro j h1 h2
     by_cases e:j=i
     ·subst e; unfold wS; rw [ho]; exact gm
     ·cases ar:wS ops j with
      | false=>rfl
      | true =>
       have h3:=aq.2.1 j (by omega) ar
       have:=(hw j e ar).1 h3
       omega
    have:=constS (c - i) i (by have:=aq.1; omega) hno
    rw [show i+(c - i)=c from by omega] at this
    exact ⟨by rw [hc2,this.1],by rw [hc3,this.2],fun h=>by rw [gm] at h; simp at h⟩
  have curL:∀ t x V s1,o.op=.load t x->ldA P t (opv (sts i).T x) (sts i).S=some V->val i=V->chkO P ops.toList o (sts i) V s1=true->ldA P t (opv (sts i).T x) s.S=ldA P t (opv (sts i).T x) (sts i).S:=by
   intro t x V s1 cp hV b9 dc
   by_cases o3:∃ id ep off,opv (sts i).T x=.ref id ep off
   case neg=>exact W4 fun id ep off h=>o3 ⟨id,ep,off,h⟩
   obtain ⟨id,ep,off,hv⟩:=o3
   rw [hv] at hV ⊢
   rw [hV]
   have bc:id<(sts i).S.length:=by
    unfold ldA at hV
    split at hV
    ·simp only at hV
     split at hV
     ·rename_i cs he
      obtain ⟨e,h1,-⟩:=Bw he
      exact A7 h1
     ·simp at hV
    ·simp at hV
   cases x with
   | tmp q =>
    simp only [opv] at hv
    have ga:rdS o=true:=by unfold rdS; rw [cp]
    have gm:wrS o=false:=by unfold wrS; rw [cp]
    have j7:lkOp o=false:=by unfold lkOp; rw [cp]; simp
    have kv:isLd o=true:=by unfold isLd; rw [cp]
    obtain ⟨c,aq,hc2,-⟩:=hD.cS
    have nord:∀ pk,wrS pk=true->rdS pk=false:=by
     intro pk hw
     unfold wrS at hw
     unfold rdS
     split at hw <;> rename_i h' <;> first|(rw [h'])|simp at hw
    rw [hc2]
    rcases Nat.lt_or_ge c i with hlt|dk
    ·refine constD (fun S=>ldA P t (.ref id ep off) S=some V) (i - c) c (by omega) (fun k pk h1 h2 hk dw hg=>?_) (by rw [show c+(i - c)=i from by omega]; exact hV)
     have ln:k<i:=by omega
     cases d9:lkOp pk with
     | true =>
      have nc:=lkStep k pk hk d9
      exact Vo (Wx nc) hg (Adh dc (lk_x d9).1 kv)
     | false =>
      rcases c5 i o ho k pk ln hk (by simp [dw,ga,d9]) with h3|h3
      ·exfalso
       have l3:=bl k h3
       have l4:=(aq.2.2 (by omega)).2
       by_cases dc:k=c
       ·subst dc; rw [l3] at l4; simp at l4
       ·have kw:=(aq.2.2 (by omega)).1
        unfold wS at kw
        cases nd:ops[c]? with
        | none=>rw [nd] at kw; simp at kw
        | some pc =>
         rw [nd] at kw
         rcases (hall k pk hk).2 c pc (by omega) nd (by simp [conf,kw,dw]) with hh|hh
         ·have:=A1 hD.closed (hD.closed k l3) c hh
          rw [l4] at this; simp at this
         ·have:=bl c ((Ku (k:=i) hh dl (by omega) (by omega)).2 h3)
          rw [l4] at this; simp at this
      ·rw [if_pos ga] at h3
       rw [<- Lc (apartStep i o k pk t q id ep off ho hk cp hv h3 dw)]; exact hg
    ·have:=constU (fun S=>ldA P t (.ref id ep off) S=some V) (c - i) i (by have:=aq.1; omega) (fun k pk h1 h2 hk dw hg=>?_) hV
     ·rwa [show i+(c - i)=c from by omega] at this
     have ng:=(Array.getElem?_eq_some_iff.1 hk).1
     have ln:k≠i:=fun e=>by
      subst e
      rw [ho] at hk
      simp only [Option.some.injEq] at hk
      subst hk
      rw [gm] at dw; simp at dw
     have l3:=aq.2.1 k (by omega) (by unfold wS; rw [hk]; exact dw)
     cases d9:lkOp pk with
     | true=>exact Vo (lkStep k pk hk d9) hg (Adh dc (lk_x d9).1 kv)
     | false =>
      have o4:i ∉ reachAt ops k:=fun h3=>ed k l3 h3
      rcases c5 k pk hk i o (by omega) ho (by simp [dw,ga,d9]) with h3|h3
      ·exact (o4 h3).elim
      ·rw [if_neg (by rw [nord pk dw]; simp)] at h3
       simp only [Bool.or_eq_true] at h3
       rcases h3 with (h3|h3)|h3
       ·rw [Lc (mkStep k pk id hk h3 (Nat.lt_of_lt_of_le bc ?_))]
        ·exact hg
        ·have:=growS2 (k - i) i (by omega)
         rwa [show i+(k - i)=k from by omega] at this
       ·-- it is looked at again
        rcases bf k pk hk with ⟨-,-,e⟩|⟨-,s1',ai,nh,e⟩
        ·rw [e]; exact hg
        ·rw [e]
         simp only [Bool.and_eq_true] at h3
         obtain ⟨h3,g1⟩:=h3
         obtain ⟨hd1,jn⟩:=an_x h3
         have g3:=((Yy nh hd1 jn).2 h3).2 g1
         obtain ⟨d0,dy⟩:=Option.isSome_iff_exists.1 g1
         have jo:Ax ops k=pk.dst:=by unfold Ax; rw [hk]; rfl
         have hmem:=Xa ng jo (fun j hj ee=>cg (by rw [ee,dy]) (by rw [jo,dy])) (by omega) ho cp o4
         obtain ⟨f1,d,f2,f3,f4⟩:=g3 _ hmem
         simp only [Zv] at f1 f2 f4
         have qh:Ax ops i=some d:=by unfold Ax; rw [ho]; exact f2
         rw [text1 k (by omega) i d (by omega) qh,if_pos (by rw [textLen k (by omega)] at f3; exact f3),b9] at f4
         simp only [opv] at f4
         have hq:getT (sts k).T q=getT (sts i).T q:=by
          have:=textKeep (k - i) i q (by omega) fun j a b ee=>by
           have:=List.all_eq_true.1 f1 j (by simp; omega)
           rw [ee] at this
           simp at this; omega
          rwa [show i+(k - i)=k from by omega] at this
         rw [hq,hv] at f4
         exact f4
       ·rw [Lc (apartStep i o k pk t q id ep off ho hk cp hv h3 dw)]; exact hg
   | const v=>simp only [opv] at hv; unfold cst at hv; split at hv; (· simp at hv); (· unfold cst1 at hv; split at hv <;> simp at hv)
   | global g=>simp [opv] at hv
   | func f=>simp [opv] at hv
  have curT:(wrT o=true\/rdA o=true)->s.tk=(sts i).tk/\(wrT o=true->Xz (wT ops) listed ops.size i):=by
   intro c5
   obtain ⟨c,aq,hc2⟩:=hD.cT
   have hw:∀ j,j≠i->wT ops j=true->(listed.getD j false=true↔j<i):=by
    intro j hne ar
    unfold wT at ar
    cases hp:ops[j]? with
    | none=>rw [hp] at ar; simp at ar
    | some p =>
     rw [hp] at ar
     refine confl j p hp ?_ ?_ hne
     ·rcases c5 with c5|c5 <;> simp [conf,ar,c5]
     ·rcases c5 with c5|c5 <;> simp [conf,ar,c5]
   rcases Nat.lt_trichotomy c i with hlt|heq|j6
   ·have:=aq.2.2 (by omega)
    have h2:=(hw c (by omega) this.1).2 hlt
    rw [this.2] at h2; simp at h2
   ·subst heq; exact ⟨hc2,fun _=>aq⟩
   ·have gm:wrT o=false:=by
     cases bj:wrT o with
     | false=>rfl
     | true =>
      have:=aq.2.1 i j6 (by unfold wT; rw [ho]; exact bj)
      rw [dd] at this; simp at this
    have hno:∀ j,i<=j->j<i+(c - i)->wT ops j=false:=by
     intro j h1 h2
     by_cases e:j=i
     ·subst e; unfold wT; rw [ho]; exact gm
     ·cases ar:wT ops j with
      | false=>rfl
      | true =>
       have h3:=aq.2.1 j (by omega) ar
       have:=(hw j e ar).1 h3
       omega
    have:=constT (c - i) i (by have:=aq.1; omega) hno
    rw [show i+(c - i)=c from by omega] at this
    exact ⟨by rw [hc2,this],fun h=>by rw [gm] at h; simp at h⟩
  obtain ⟨st1,st2,st3⟩:=stepT i o ho
  have fromS:∀ {s2:St},s2.T=s.T->(wrS o=true->s2.S=(sts (i+1)).S/\s2.n=(sts (i+1)).n)->(wrS o=false->s2.S=s.S/\s2.n=s.n)->(wrT o=true->s2.tk=(sts (i+1)).tk)->(wrT o=false->s2.tk=s.tk) ->
    DInv ops st sts val (listed.setIfInBounds i true) { s2 with T:=putT s2.T o.dst (val i) }:=by
   intro s2 eT k1 k2 k3 k4
   have ah:∀ j,(listed.setIfInBounds i true).getD j false=true↔j=i\/listed.getD j false=true:=by
    intro j
    by_cases e:i=j
    ·subst e
     simp [Eu (l:=listed) (b:=true) (d:=false) (show i<listed.size by rw [hD.len]; exact dl)]
    ·rw [A9 e]
     exact ⟨.inr,fun h=>h.resolve_left fun x=>e x.symm⟩
   refine ⟨by simp [hD.len],fun j hj e he=>(ah e).2 (.inr ?_),by simp only [El,eT,hD.lenT],fun j t hj hd j8=>?_,fun t ht=>?_,?_,?_⟩
   ·rcases (ah j).1 hj with rfl|hj
    ·exact ct e he
    ·exact hD.closed j hj e he
   ·simp only [eT]
    rcases (ah j).1 hj with rfl|bg
    ·have cf:o.dst=some t:=by unfold Ax at hd; rw [ho] at hd; simpa using hd
     rw [cf]
     simp only [putT]
     by_cases b5:t<st.T.length
     ·rw [if_pos b5]
      exact D8 (by rw [hD.lenT]; exact b5)
     ·rw [if_neg b5]
      refine Jr ?_
      rw [A6,hD.lenT]; exact Nat.le_of_not_lt b5
    ·have hne:o.dst≠some t:=fun x=>by
      have:Ax ops i=some t:=by unfold Ax; rw [ho]; simpa using x
      have:=cg this hd
      subst this
      rw [dd] at bg; simp at bg
     have kx:∀ e,Bv ops e j=true->listed.getD e false=true:=fun e he=>((ah e).1 (j8 e he)).resolve_left fun x=>by
      subst x
      have:=hn2 j he; rw [bg] at this; simp at this
     cases cf:o.dst with
     | none=>simp only [putT]; exact hD.t1 j t bg hd kx
     | some d =>
      simp only [putT]
      rw [Az (fun x=>hne (by rw [cf,x]))]
      exact hD.t1 j t bg hd kx
   ·simp only [eT]
    have hne:o.dst≠some t:=fun x=>ht i ((ah i).2 (.inl rfl)) (by unfold Ax; rw [ho]; simpa using x)
    have h3:=hD.t2 t fun j hj=>ht j ((ah j).2 (.inr hj))
    cases cf:o.dst with
    | none=>simp only [putT]; exact h3
    | some d =>
     simp only [putT]
     rw [Az (fun x=>hne (by rw [cf,x]))]
     exact h3
   ·cases bj:wrS o with
    | false =>
     obtain ⟨c,aq,hc2,hc3⟩:=hD.cS
     have ni:c≠i:=fun e=>by
      subst e
      have:=(aq.2.2 dl).1
      unfold wS at this; rw [ho] at this
      simp only at this
      rw [bj] at this; simp at this
     refine ⟨c,⟨aq.1,fun j hj hw=>(ah j).2 (.inr (aq.2.1 j hj hw)),fun hlt=>⟨(aq.2.2 hlt).1,?_⟩⟩,by simp only [(k2 bj).1,hc2],by simp only [(k2 bj).2,hc3]⟩
     rw [A9 (fun e=>ni e.symm)]; exact (aq.2.2 hlt).2
    | true =>
     have jp:=(curS (.inl bj)).2.2 bj
     obtain ⟨c,g1,g2,g3⟩:=Ho (wS ops) (listed.setIfInBounds i true) ops.size ops.size (i+1) (by omega) (by omega) (fun j hj hw=>(ah j).2 (by
      by_cases e:j=i
      ·exact .inl e
      ·exact .inr (jp.2.1 j (by omega) hw)))
     have hno:∀ j,i+1<=j->j<(i+1)+(c - (i+1))->wS ops j=false:=by
      intro j h1 h2
      cases ar:wS ops j with
      | false=>rfl
      | true =>
       have h3:=g3 j h1 (by omega) ar
       rcases (ah j).1 h3 with h4|h4
       ·omega
       ·exfalso
        unfold wS at ar
        cases hp:ops[j]? with
        | none=>rw [hp] at ar; simp at ar
        | some p =>
         rw [hp] at ar
         have:=(confl j p hp (by simp [conf,ar,bj]) (by simp [conf,ar,bj]) (by omega)).1 h4
         omega
     have:=constS (c - (i+1)) (i+1) (by have:=g2.1; omega) hno
     rw [show i+1+(c - (i+1))=c from by omega] at this
     exact ⟨c,g2,by simp only [(k1 bj).1,this.1],by simp only [(k1 bj).2,this.2]⟩
   ·cases bj:wrT o with
    | false =>
     obtain ⟨c,aq,hc2⟩:=hD.cT
     have ni:c≠i:=fun e=>by
      subst e
      have:=(aq.2.2 dl).1
      unfold wT at this; rw [ho] at this
      simp only at this
      rw [bj] at this; simp at this
     refine ⟨c,⟨aq.1,fun j hj hw=>(ah j).2 (.inr (aq.2.1 j hj hw)),fun hlt=>⟨(aq.2.2 hlt).1,?_⟩⟩,by simp only [k4 bj,hc2]⟩
     rw [A9 (fun e=>ni e.symm)]; exact (aq.2.2 hlt).2
    | true =>
     have jp:=(curT (.inl bj)).2 bj
     obtain ⟨c,g1,g2,g3⟩:=Ho (wT ops) (listed.setIfInBounds i true) ops.size ops.size (i+1) (by omega) (by omega) (fun j hj hw=>(ah j).2 (by
      by_cases e:j=i
      ·exact .inl e
      ·exact .inr (jp.2.1 j (by omega) hw)))
     have hno:∀ j,i+1<=j->j<(i+1)+(c - (i+1))->wT ops j=false:=by
      intro j h1 h2
      cases ar:wT ops j with
      | false=>rfl
      | true =>
       have h3:=g3 j h1 (by omega) ar
       rcases (ah j).1 h3 with h4|h4
       ·omega
       ·exfalso
        unfold wT at ar
        cases hp:ops[j]? with
        | none=>rw [hp] at ar; simp at ar
        | some p =>
         rw [hp] at ar
         have:=(confl j p hp (by simp [conf,ar,bj]) (by simp [conf,ar,bj]) (by omega)).1 h4
         omega
     have:=constT (c - (i+1)) (i+1) (by have:=g2.1; omega) hno
     rw [show i+1+(c - (i+1))=c from by omega] at this
     exact ⟨c,g2,by simp only [k3 bj,this]⟩
  rcases bf i o ho with ⟨hw,hv,he⟩|⟨hw,s1,h1,dc,he⟩
  ·refine ⟨false,s,by rw [agreeG]; exact hw,by simp,fun _=>⟨hv,rfl⟩,rfl,fromS rfl (fun bj=>?_) (fun _=>⟨rfl,rfl⟩) (fun bj=>?_) (fun _=>rfl)⟩
   ·rw [he]; exact ⟨(curS (.inl bj)).1,(curS (.inl bj)).2.1⟩
   ·rw [he]; exact (curT (.inl bj)).1
  ·obtain ⟨g1,g2,g3,g4⟩:=Lx hi jm h1
   obtain ⟨s2,e1,e2,e3,e4,e5,e6⟩:=g4 s agreeO (fun t x cp=>by
    have lw:=h1
    simp only [evO,cp,Option.map_eq_some_iff,Prod.mk.injEq] at lw
    obtain ⟨V,hV,o5,-⟩:=lw
    exact curL t x V s1 cp hV o5.symm (by rw [o5]; exact dc)) (fun bj=>⟨(curS (.inl bj)).1,(curS (.inl bj)).2.1⟩) (fun bj=>(curT (.inl bj)).1) (fun hA=>⟨(curS (.inr hA)).1,(curS (.inr hA)).2.1,(curT (.inr hA)).1⟩)
   refine ⟨true,s2,by rw [agreeG]; exact hw,fun _=>e1,by simp,e2,fromS e2 (fun bj=>?_) e4 (fun bj=>?_) e6⟩
   ·rw [he]; exact e3 bj
   ·rw [he]; exact e5 bj
 have allocStep:∀ {i:Nat} {o:Oper} {t:TypeId},ops[i]?=some o->o.op=.alloc t->o.guard=none->∃ cs,Ae P t=some cs/\val i=.ref (sts i).S.length (sts i).n 0/\(sts (i+1)).S=(sts i).S++[⟨(sts i).n,cs⟩]/\(sts (i+1)).n=(sts i).n+1/\(sts (i+1)).tk=(sts i).tk:=by
  intro i o t ho e hg
  rcases bf i o ho with ⟨hw,-,-⟩|⟨-,s1,h1,-,he⟩
  ·unfold Ea at hw; rw [hg] at hw; simp at hw
  ·simp only [evO,e,Option.map_eq_some_iff,Prod.mk.injEq] at h1
   obtain ⟨cs,h1,h2,rfl⟩:=h1
   exact ⟨cs,h1,h2.symm,by rw [he],by rw [he],by rw [he]⟩
 have setq:∀ {listed:Array Bool} {i:Nat},i<listed.size->∀ j,(listed.setIfInBounds i true).getD j false=true↔j=i\/listed.getD j false=true:=by
  intro listed i dl j
  by_cases e:i=j
  ·subst e
   simp [Eu (l:=listed) (b:=true) (d:=false) dl]
  ·rw [A9 e]
   exact ⟨.inr,fun h=>h.resolve_left fun x=>e x.symm⟩
 have stepB:∀ {listed:Array Bool} {s:St} {A:Nat} {o:Oper},DInv ops st sts val listed s->A+1 ∈ Region.ready .any ops listed->Bv ops A (A+1)=true->listed.getD A false=false->ops[A+1]?=some o ->
   DInv ops st sts val (listed.setIfInBounds (A+1) true) { s with T:=putT s.T o.dst .bot }:=by
  intro listed s A o hD gc hp hA ho
  obtain ⟨h0,o',bd,ct⟩:=B1 gc
  rw [ho] at bd
  simp only [Option.some.injEq] at bd
  subst bd
  obtain ⟨dd,dl⟩:=Dc h0
  have ah:=setq dl
  obtain ⟨pA,pB,q1,q2,⟨q3,-⟩,q4,-⟩:=Ej hp
  rw [ho] at q2
  simp only [Option.some.injEq] at q2
  subst q2
  have wA:wS ops A=true:=by unfold wS; rw [q1]; exact (Eg q3).1
  refine ⟨by simp [hD.len],fun j hj e he=>(ah e).2 (.inr ?_),by simp only [El]; exact hD.lenT,fun j t hj hd j8=>?_,fun t ht=>?_,?_,?_⟩
  ·rcases (ah j).1 hj with rfl|hj
   ·exact ct e he
   ·exact hD.closed j hj e he
  ·rcases (ah j).1 hj with rfl|bg
   ·have:=(ah A).1 (j8 A hp)
    rcases this with h|h
    ·omega
    ·rw [hA] at h; simp at h
   ·have hne:o.dst≠some t:=fun x=>by
     have:Ax ops (A+1)=some t:=by unfold Ax; rw [ho]; simpa using x
     have:=cg this hd
     subst this
     rw [dd] at bg; simp at bg
    have bu:getT s.T t=if t<st.T.length then val j else .bot:=hD.t1 j t bg hd fun e he=>by
     rcases (ah e).1 (j8 e he) with h|h
     ·subst h
      exfalso
      have qi:=Dd he
      have hlt:=Mj he
      obtain ⟨p1,p2,r1,r2,⟨r3,-⟩,r4,-⟩:=Ej he
      rcases (hall j p2 r2).2 A pA (by omega) q1 (by simp [conf,(Eg r4).1,(Eg q3).1]) with h|h
      ·have:=A1 hD.closed (hD.closed j bg) A h
       rw [hA] at this; simp at this
      ·have:=Dd h; omega
     ·exact h
    cases cf:o.dst with
    | none=>simp only [putT]; exact bu
    | some d =>
     simp only [putT]
     rw [Az (fun x=>hne (by rw [cf,x]))]
     exact bu
  ·have hne:o.dst≠some t:=fun x=>ht (A+1) ((ah _).2 (.inl rfl)) (by unfold Ax; rw [ho]; simpa using x)
   have h3:=hD.t2 t fun j hj=>ht j ((ah j).2 (.inr hj))
   cases cf:o.dst with
   | none=>simp only [putT]; exact h3
   | some d =>
    simp only [putT]
    rw [Az (fun x=>hne (by rw [cf,x]))]
    exact h3
  ·obtain ⟨c,aq,hc2,hc3⟩:=hD.cS
   have o6:c<=A:=by
    rcases Nat.lt_or_ge A c with h|h
    ·have:=aq.2.1 A h wA; rw [hA] at this; simp at this
    ·exact h
   refine ⟨c,⟨aq.1,fun j hj hw=>(ah j).2 (.inr (aq.2.1 j hj hw)),fun hlt=>⟨(aq.2.2 hlt).1,?_⟩⟩,hc2,hc3⟩
   rw [A9 (by omega)]; exact (aq.2.2 hlt).2
  ·obtain ⟨c,aq,hc2⟩:=hD.cT
   have qj:c≠A+1:=fun e=>by
    subst e
    have:=(aq.2.2 (by rw [<- hD.len]; exact dl)).1
    unfold wT at this; rw [ho] at this
    simp only [(Eg q4).2.2] at this
    simp at this
   refine ⟨c,⟨aq.1,fun j hj hw=>(ah j).2 (.inr (aq.2.1 j hj hw)),fun hlt=>⟨(aq.2.2 hlt).1,?_⟩⟩,hc2⟩
   rw [A9 (fun e=>qj e.symm)]; exact (aq.2.2 hlt).2
 have stepA:∀ {listed:Array Bool} {s:St} {A:Nat} {oA oB:Oper},DInv ops st sts val listed s->A ∈ Region.ready .any ops listed->Bv ops A (A+1)=true->listed.getD (A+1) false=true->ops[A]?=some oA->ops[A+1]?=some oB ->
   s.S=(sts A).S/\s.n=(sts A).n/\DInv ops st sts val (listed.setIfInBounds A true) { s with T:=putT (putT s.T oA.dst (val A)) oB.dst (val (A+1)),S:=(sts (A+2)).S,n:=(sts (A+2)).n }:=by
  intro listed s A oA oB hD gc hp hB iu j9
  obtain ⟨h0,o',bd,ct⟩:=B1 gc
  rw [iu] at bd
  simp only [Option.some.injEq] at bd
  subst bd
  obtain ⟨dd,dl⟩:=Dc h0
  have ah:=setq dl
  have bl:=A1 hD.closed ct
  have hlB:=(Mj hp).2
  obtain ⟨pA,pB,q1,q2,⟨q3,-⟩,q4,-⟩:=Ej hp
  rw [iu] at q1; rw [j9] at q2
  simp only [Option.some.injEq] at q1 q2
  subst q1; subst q2
  have wA:wS ops A=true:=by unfold wS; rw [iu]; exact (Eg q3).1
  have wB:wS ops (A+1)=true:=by unfold wS; rw [j9]; exact (Eg q4).1
  have others:∀ j,j≠A->j≠A+1->wS ops j=true->(listed.getD j false=true↔j<A):=by
   intro j l5 qi ar
   unfold wS at ar
   cases l6:ops[j]? with
   | none=>rw [l6] at ar; simp at ar
   | some p =>
    rw [l6] at ar
    simp only at ar
    rcases Nat.lt_or_gt_of_ne l5 with hlt|j6
    ·refine ⟨fun _=>hlt,fun _=>?_⟩
     rcases (hall (A+1) _ j9).2 j p (by omega) l6 (by simp [conf,ar,(Eg q4).1]) with h|h
     ·exact A1 hD.closed (hD.closed _ hB) j h
     ·have:=Dd h; omega
    ·refine ⟨fun hl=>?_,fun h=>by omega⟩
     exfalso
     rcases (hall j p l6).2 A _ (by omega) iu (by simp [conf,ar,(Eg q3).1]) with h|h
     ·have:=A1 hD.closed (hD.closed _ hl) A h
      rw [dd] at this; simp at this
     ·have:=Dd h; omega
  obtain ⟨c,aq,hc2,hc3⟩:=hD.cS
  have o6:c=A:=by
   rcases Nat.lt_trichotomy c A with h|h|h
   ·have h1:=aq.2.2 (by omega)
    have:=(others c (by omega) (by omega) h1.1).2 h
    rw [h1.2] at this; simp at this
   ·exact h
   ·have:=aq.2.1 A h wA; rw [dd] at this; simp at this
  subst o6
  refine ⟨hc2,hc3,⟨by simp [hD.len],fun j hj e he=>(ah e).2 (.inr ?_),by simp only [El]; exact hD.lenT,fun j t hj hd j8=>?_,fun t ht=>?_,?_,?_⟩⟩
  ·rcases (ah j).1 hj with rfl|hj
   ·exact ct e he
   ·exact hD.closed j hj e he
  ·simp only
   have putV:∀ {T:List AV} {o:Oper} {k:Nat} {v:AV},T.length=st.T.length->ops[k]?=some o->(Ax ops k=some t->getT (putT T o.dst v) t=if t<st.T.length then v else .bot)/\(Ax ops k≠some t->getT (putT T o.dst v) t=getT T t):=by
    intro T o k v hl hk
    refine ⟨fun e=>?_,fun e=>?_⟩
    ·have cf:o.dst=some t:=by unfold Ax at e; rw [hk] at e; simpa using e
     rw [cf]
     simp only [putT]
     by_cases b5:t<st.T.length
     ·rw [if_pos b5]; exact D8 (by rw [hl]; exact b5)
     ·rw [if_neg b5]; exact Jr (by rw [A6,hl]; exact Nat.le_of_not_lt b5)
    ·have hne:o.dst≠some t:=fun x=>e (by unfold Ax; rw [hk]; simpa using x)
     cases cf:o.dst with
     | none=>simp only [putT]
     | some d =>
      simp only [putT]
      rw [Az (fun x=>hne (by rw [cf,x]))]
   have hl1:(putT s.T oA.dst (val c)).length=st.T.length:=by rw [El]; exact hD.lenT
   by_cases ejB:j=c+1
   ·subst ejB; exact (putV hl1 j9).1 hd
   ·rw [(putV hl1 j9).2 fun x=>ejB (cg hd x)]
    by_cases ejA:j=c
    ·subst ejA; exact (putV hD.lenT iu).1 hd
    ·rw [(putV hD.lenT iu).2 fun x=>ejA (cg hd x)]
     have bg:=((ah j).1 hj).resolve_left ejA
     refine hD.t1 j t bg hd fun e he=>((ah e).1 (j8 e he)).resolve_left fun x=>?_
     subst x
     have:=Dd he; omega
  ·simp only
   have nj:oA.dst≠some t:=fun x=>ht c ((ah _).2 (.inl rfl)) (by unfold Ax; rw [iu]; simpa using x)
   have nk:oB.dst≠some t:=fun x=>ht (c+1) ((ah _).2 (.inr hB)) (by unfold Ax; rw [j9]; simpa using x)
   have h3:=hD.t2 t fun j hj=>ht j ((ah j).2 (.inr hj))
   have one:∀ {T:List AV} {o:Oper} {v:AV},o.dst≠some t->getT (putT T o.dst v) t=getT T t:=by
    intro T o v hne
    cases cf:o.dst with
    | none=>simp only [putT]
    | some d =>
     simp only [putT]
     rw [Az (fun x=>hne (by rw [cf,x]))]
   rw [one nk,one nj]; exact h3
  ·obtain ⟨c',g1,g2,g3⟩:=Ho (wS ops) (listed.setIfInBounds c true) ops.size ops.size (c+2) (by omega) (by omega) (fun j hj hw=>(ah j).2 (by
    by_cases e:j=c
    ·exact .inl e
    ·by_cases e':j=c+1
     ·subst e'; exact .inr hB
     ·exact .inr ((others j e e' hw).2 (by omega))))
   have hno:∀ j,c+2<=j->j<(c+2)+(c' - (c+2))->wS ops j=false:=by
    intro j h1 h2
    cases ar:wS ops j with
    | false=>rfl
    | true =>
     have h3:=g3 j h1 (by omega) ar
     rcases (ah j).1 h3 with h4|h4
     ·omega
     ·have:=(others j (by omega) (by omega) ar).1 h4; omega
   have:=constS (c' - (c+2)) (c+2) (by have:=g2.1; omega) hno
   rw [show c+2+(c' - (c+2))=c' from by omega] at this
   exact ⟨c',g2,this.1.symm,this.2.symm⟩
  ·obtain ⟨c',gd,np⟩:=hD.cT
   have hcc:c'≠c:=fun e=>by
    subst e
    have:=(gd.2.2 (by omega)).1
    unfold wT at this; rw [iu] at this
    simp only [(Eg q3).2.2] at this
    simp at this
   refine ⟨c',⟨gd.1,fun j hj hw=>(ah j).2 (.inr (gd.2.1 j hj hw)),fun hlt=>⟨(gd.2.2 hlt).1,?_⟩⟩,np⟩
   rw [A9 (fun e=>hcc e.symm)]; exact (gd.2.2 hlt).2
 let Norm:Array Bool->Prop:=fun listed=>∀ e j,Bv ops e j=true->listed.getD j false=true->listed.getD e false=true
 let Wait:Nat->Array Bool->Cx->Act->Prop:=fun A listed C1 a1=>Bv ops A (A+1)=true/\listed.getD A false=false/\listed.getD (A+1) false=true/\∃ oB tB arr b,ops[A+1]?=some oB/\oB.op=.alloc tB/\Ae P tB=some (arr.toList.map cst1) /\
  (∀ d x,oB.dst=some d->a1.tmps.toList[d]?=some x->x=.pointer (some ⟨b,0,none⟩))/\C1.w.heap[b]?=some (.cells arr tB (0,0))/\C.w.heap.size<=b/\(∀ o,C1.av b o)/\(∀ x o,x≠b->(C1.av x o↔C.av x o))/\Le C { C1 with av:=C.av }
 have clash:∀ {listed:Array Bool} {s:St} {A A':Nat},DInv ops st sts val listed s->Bv ops A (A+1)=true->listed.getD A false=false->listed.getD (A+1) false=true->Bv ops A' (A'+1)=true->listed.getD A' false=false->((∀ e ∈ depsOf ops (A'+1),listed.getD e false=true))->A'=A:=by
  intro listed s A A' hD hp hA hB cz jq jr
  obtain ⟨p1,p2,r1,r2,⟨r3,-⟩,r4,-⟩:=Ej hp
  obtain ⟨p1',p2',r1',r2',⟨r3',-⟩,r4',-⟩:=Ej cz
  rcases Nat.lt_trichotomy A' A with h|h|h
  ·exfalso
   rcases (hall (A+1) p2 r2).2 A' p1' (by omega) r1' (by simp [conf,(Eg r3').1,(Eg r4).1]) with h1|h1
   ·have:=A1 hD.closed (hD.closed _ hB) A' h1
    rw [jq] at this; simp at this
   ·have:=Dd h1; omega
  ·exact h
  ·exfalso
   rcases (hall (A'+1) p2' r2').2 A p1 (by omega) r1 (by simp [conf,(Eg r3).1,(Eg r4').1]) with h1|h1
   ·have:=A1 hD.closed jr A h1
    rw [hA] at this; simp at this
   ·have:=Dd h1; omega
 let Held:Array Bool->Cx->Act->Prop:=fun listed C1 a1=>∃ p al t d arr b,lt=some (p,al)/\al.op=.alloc t/\al.dst=some d/\listed.getD p false=true/\Ae P t=some (arr.toList.map cst1) /\
  (∀ x,a1.tmps.toList[d]?=some x->x=.pointer (some ⟨b,0,none⟩))/\C1.w.heap[b]?=some (.cells arr t (0,0))/\C.w.heap.size<=b/\(∀ o,C1.av b o)/\(∀ x o,x≠b->(C1.av x o↔C.av x o))/\Le C { C1 with av:=C.av }
 let Un:Array Bool->Prop:=fun listed=>∀ p al,lt=some (p,al)->listed.getD p false=false
 let Hle:Array Bool->Cx->Act->Prop:=fun listed C1 a1=>(Un listed/\((Norm listed/\Le C C1)\/∃ A,Wait A listed C1 a1))\/Held listed C1 a1
 have lateLt:∀ p al,lt=some (p,al)->p<ops.size:=by
  intro p al e
  subst e
  exact (Array.getElem?_eq_some_iff.1 bt.2.2.2.2.2.2.2).1
 have done:∀ {listed:Array Bool} {s:St} {C1:Cx} {a1:Act},Hle listed C1 a1->Rel C1 s a1->DInv ops st sts val listed s->(∀ j,j<ops.size->listed.getD j false=true)->Q .normal a1 C1.w:=by
  intro listed s C1 a1 hle ap hD hl
  have e:=fin hD hl
  subst e
  rcases hle with ⟨dd,hle⟩|⟨p,al,t,d,arr,b,e1,e2,e3,hp,hz,hx,hb1,hb2,bp,b7,hle⟩
  ·have dj:lt=none:=by
    cases hlt:lt with
    | none=>rfl
    | some q =>
     obtain ⟨p,al⟩:=q
     have h1:=dd p al hlt
     rw [hl p (lateLt p al hlt)] at h1; cases h1
   rcases hle with ⟨-,hle⟩|⟨A,hp,hA,-⟩
   ·refine hQ a1 C1 hle ?_
    rw [dj]; exact ap
   ·rw [hl A (Mj hp).1] at hA; simp at hA
  ·have ky:∀ o,¬ C.av b o:=fun o ha=>by have:=hr.sr.avlt b o ha; omega
   have kz:=Le0.rev (C:=C1) bp b7 ky (arr.toList.map cst1)
   have nq:=SR.rev ap.sr hb1 bp b7 ky (fun g a hg=>(hr.sr.glob g a hg).2)
   have qk:Ms P lt s={ s with T:=put s.T d (.ref s.S.length s.n 0),S:=s.S++[⟨s.n,arr.toList.map cst1⟩],n:=s.n+1 }:=by
    rw [e1]; simp only [Ms,e2,e3,hz,Option.getD_some,putT]
   refine hQ a1 (C1.rev C.av b (arr.toList.map cst1)) ?_ ?_
   ·have hl2:=hle
    refine ⟨hl2.os,hl2.tape,hl2.output,hl2.size,rfl,Nat.le_succ_of_le hl2.n,fun x o hx hm=>?_,hl2.cell,hl2.keep,hl2.shape,fun id e' he hn=>?_,hl2.tok⟩
    ·rcases Qg hm with h|h
     ·exact hl2.mt x o hx h
     ·omega
    ·rcases Gr he with ⟨h1,h2⟩|⟨h1,h2⟩
     ·subst h2
      have:=hl2.n
      simp only at this hn
      omega
     ·obtain ⟨w1,w2,w3,w4⟩:=hl2.ent id e' h2 hn
      refine ⟨w1,w2,w3,?_⟩
      simp only [Cx.rev]
      rw [if_neg (by omega)]
      exact w4
   ·rw [qk]
    refine ⟨?_,ap.tk,?_,?_,ap.defers,nq⟩
    ·simp only [Cx.rev,ap.S,ap.n]
    ·simp only [Cx.rev,ap.n]
    ·have ka:VRs (C1.rev C.av b (arr.toList.map cst1)) s.T a1.tmps.toList:=VRs.mono0 kz _ _ ap.tmps
     refine G7 ka fun x hx'=>?_
     rw [hx x hx']
     simp only [VR]
     refine ⟨b,rfl,?_,fun e'' he'' _=>?_⟩
     ·simp only [Cx.rev,ap.n]; omega
     ·simp only [Cx.rev,ap.S,List.length_append,List.length_cons,List.length_nil,if_true]
 have main:∀ (fuel:Nat) (listed:Array Bool) (s:St) (C1:Cx) (a1:Act),Bs listed ops.size<=fuel->Hle listed C1 a1->Rel C1 s a1->DInv ops st sts val listed s->wpAny P .any real Q fuel listed a1 C1.w:=by
  intro fuel
  induction fuel with
  | zero =>
   intro listed s C1 a1 nr hle ap hD
   have hl:∀ j,j<ops.size->listed.getD j false=true:=by
    intro j hj
    have h0:Bs listed ops.size=0:=by omega
    unfold Bs at h0
    rw [List.countP_eq_zero] at h0
    have:=h0 j (by simpa using hj)
    simpa using this
   refine ⟨?_,done hle ap hD hl⟩
   cases ga:Region.ready .any real listed with
   | nil=>rfl
   | cons x l =>
    have hx:x ∈ Region.ready .any ops listed:=(b4 listed x).1 (by rw [ga]; simp)
    obtain ⟨h0,o,ho,-⟩:=B1 hx
    have dd:=(Dc h0).1
    rw [hl x (Array.getElem?_eq_some_iff.1 ho).1] at dd; simp at dd
  | succ fuel ih =>
   intro listed s C1 a1 nr hle ap hD
   refine ⟨fun au=>done hle ap hD (none_ready hD ?_),fun i nu=>?_⟩
   ·cases ga:Region.ready .any ops listed with
    | nil=>rfl
    | cons x l =>
     have hx:x ∈ Region.ready .any real listed:=(b4 listed x).2 (by rw [ga]; simp)
     rw [au] at hx; cases hx
   have gc:=(b4 listed i).1 nu
   obtain ⟨h0,o0,ev,js⟩:=B1 gc
   obtain ⟨ec,nv⟩:=Dc h0
   have ah:=setq nv
   have o7:=Tj (Array.getElem?_eq_some_iff.1 ev).1 hD.len ec
   by_cases nw:∃ al,lt=some (i,al)
   ·-- the variable that may be made at any time
    obtain ⟨al,el⟩:=nw
    have ge:=bt
    rw [el] at ge
    obtain ⟨-,-,-,r1,r2,r3,⟨t,cs,r4,hz⟩,r5⟩:=ge
    rw [ev] at r5
    simp only [Option.some.injEq] at r5
    obtain ⟨d,r3⟩:=Option.isSome_iff_exists.1 r3
    have hle:Le C C1:=by
     rcases hle with ⟨-,⟨-,h⟩|⟨A,hp,-⟩⟩|⟨p,al',-,-,-,-,e1,-,-,hp,-⟩
     ·exact h
     ·exact (b8 _ _ el _ _ hp).elim
     ·rw [el] at e1
      simp only [Option.some.injEq,Prod.mk.injEq] at e1
      obtain ⟨rfl,-⟩:=e1
      rw [ec] at hp; cases hp
    obtain ⟨o,ho,dd,bb,s2,hw,hb1,hb2,hT,k7⟩:=step hD i gc (fun e he=>(b8 _ _ el _ _ he).elim) (fun e he=>(b8 _ _ el _ _ he).elim)
    rw [ev] at ho
    simp only [Option.some.injEq] at ho
    subst ho
    have ql:o0.guard=none:=by rw [r5]; exact r2
    have dy:o0.dst=some d:=by rw [r5]; exact r3
    have hw1:Ea ops.toList s.T o0=some true:=by unfold Ea; rw [ql]
    rw [hw] at hw1
    simp only [Option.some.injEq] at hw1
    have ai:=hb1 hw1
    simp only [evO,r5,evQ,opv,Option.map_some,Option.some.injEq,Prod.mk.injEq] at ai
    obtain ⟨hv,hs2⟩:=ai
    subst hs2
    rw [<- hv,dy] at k7
    obtain ⟨arr,bh,hwp⟩:=Va (P:=P) r4 hz
    unfold wpOp
    rw [r1]
    simp only
    have qn:Region.wanted al (yielded real a1.tmps)=true:=by unfold Region.wanted; rw [r2]
    rw [if_pos qn]
    refine .inl (hwp C1 a1 _ _ ?_)
    have hbel:Below C1.w.heap.size C1.w (C1.w.alloc (.cells arr t)):=(Below.refl _ _).alloc (Nat.le_refl _) _
    have c8:Rel (C1.hid arr t) { s with T:=putT s.T (some d) .bot } (a1.put al.dst (.pointer (some ⟨C1.w.heap.size,0,none⟩))):=by
     rw [r3]
     exact ⟨ap.S,ap.tk,ap.n,Po (d:=some d) (VRs.mono0 (Le0.hid arr t) _ _ ap.tmps) (by simp only [VR]),ap.defers,ap.sr.hid arr t⟩
    refine ih _ _ (C1.hid arr t) _ (by omega) (.inr ⟨i,al,t,d,arr,C1.w.heap.size,el,r4,r3,(ah _).2 (.inl rfl),by rw [bh]; exact hz,?_,Aa _ _,hle.size,fun o=>.inr rfl,fun x o hx=>?_,?_⟩) c8 k7
    ·intro x hx
     rw [r3] at hx
     simp only [Act.put,Array.toList_setIfInBounds] at hx
     rw [List.getElem?_set] at hx
     simp only [if_true] at hx
     split at hx
     ·simpa using hx.symm
     ·simp at hx
    ·simp only [Cx.hid]
     rw [hle.av]
     exact ⟨fun h=>h.resolve_right hx,.inl⟩
    ·have:=hle.trans (Le.of_below (C:=C1) hbel)
     rw [show ({ C1.hid arr t with av:=C.av } : Cx)=C1.at (C1.w.alloc (.cells arr t)) from by unfold Cx.hid Cx.at; rw [hle.av]]
     exact this
   have gg:real[i]?=ops[i]?:=kq i fun p al e qo=>nw ⟨al,by rw [qo]; exact e⟩
   have o8:∀ {L:Array Bool},Un listed->(∀ j,L.getD j false=true->j=i\/listed.getD j false=true)->Un L:=by
    intro L hu hs p al e
    cases hx:L.getD p false with
    | false=>rfl
    | true =>
     rcases hs p hx with h|h
     ·exact absurd ⟨al,by rw [<- h]; exact e⟩ nw
     ·rw [hu p al e] at h; cases h
   have ih':∀ (s:St) (C1:Cx) (a1:Act),Un listed->((Norm (listed.setIfInBounds i true)/\Le C C1)\/∃ A,Wait A (listed.setIfInBounds i true) C1 a1)->Rel C1 s a1->DInv ops st sts val (listed.setIfInBounds i true) s->wpAny P .any real Q fuel (listed.setIfInBounds i true) a1 C1.w :=
    fun s C1 a1 hu h=>ih _ s C1 a1 (by omega) (.inl ⟨o8 hu fun j=>(ah j).1,h⟩)
   by_cases hB:∃ A,Bv ops A i=true/\listed.getD A false=false
   ·-- the second of a pair,ahead of the first
    obtain ⟨A,hp,hA⟩:=hB
    have hi1:=Dd hp
    subst hi1
    obtain ⟨jt,hle⟩:Un listed/\((Norm listed/\Le C C1)\/∃ A,Wait A listed C1 a1):=hle.resolve_right fun ⟨p,al,_,_,_,_,e1,_⟩=>b8 p al e1 _ _ hp
    have hN:Norm listed/\Le C C1:=by
     rcases hle with h|⟨A',cz,jq,ig,-⟩
     ·exact h
     ·exfalso
      have:=clash hD cz jq ig hp hA js
      subst this
      rw [ec] at ig; simp at ig
    obtain ⟨hN,hle⟩:=hN
    obtain ⟨pA,pB,q1,q2,⟨q3,-⟩,q4,-⟩:=Ej hp
    rw [ev] at q2
    simp only [Option.some.injEq] at q2
    subst q2
    obtain ⟨t,e,hg⟩:=Kn q4
    obtain ⟨cs,hz,-⟩:=allocStep ev e hg
    obtain ⟨arr,bh,hwp⟩:=Va (P:=P) e hz
    unfold wpOp
    rw [gg,d8]
    simp only [ev]
    have hw:Ea ops.toList s.T o0=some true:=by unfold Ea; rw [hg]
    rw [if_pos (En ap.tmps hw)]
    refine .inl (hwp C1 a1 _ _ ?_)
    have hbel:Below C1.w.heap.size C1.w (C1.w.alloc (.cells arr t)):=(Below.refl _ _).alloc (Nat.le_refl _) _
    have c8:Rel (C1.hid arr t) { s with T:=putT s.T o0.dst .bot } (a1.put o0.dst (.pointer (some ⟨C1.w.heap.size,0,none⟩))) :=
     ⟨ap.S,ap.tk,ap.n,Po (VRs.mono0 (Le0.hid arr t) _ _ ap.tmps) (by simp only [VR]),by cases o0.dst <;> exact ap.defers,ap.sr.hid arr t⟩
    refine ih' _ (C1.hid arr t) _ jt (.inr ⟨A,hp,?_,?_,o0,t,arr,C1.w.heap.size,ev,e,by rw [bh]; exact hz,?_,Aa _ _,hle.size,fun o=>.inr rfl,fun x o hx=>?_,?_⟩) c8 (stepB hD gc hp hA ev)
    ·rw [A9 (by omega)]; exact hA
    ·exact (ah _).2 (.inl rfl)
    ·intro d x hd hx
     rw [hd] at hx
     simp only [Act.put,Array.toList_setIfInBounds] at hx
     rw [List.getElem?_set] at hx
     simp only [if_true] at hx
     split at hx
     ·simpa using hx.symm
     ·simp at hx
    ·simp only [Cx.hid]
     rw [hle.av]
     exact ⟨fun h=>h.resolve_right hx,.inl⟩
    ·have:=hle.trans (Le.of_below (C:=C1) hbel)
     rw [show ({ C1.hid arr t with av:=C.av } : Cx)=C1.at (C1.w.alloc (.cells arr t)) from by unfold Cx.hid Cx.at; rw [hle.av]]
     exact this
   ·by_cases l7:∃ b,Bv ops i b=true/\listed.getD b false=true
    ·-- the first of a pair,behind the second
     obtain ⟨b',hp,ig⟩:=l7
     have hi1:=Dd hp
     subst hi1
     obtain ⟨jt,hle⟩:Un listed/\((Norm listed/\Le C C1)\/∃ A,Wait A listed C1 a1):=hle.resolve_right fun ⟨p,al,_,_,_,_,e1,_⟩=>b8 p al e1 _ _ hp
     rcases hle with ⟨hN,-⟩|⟨A,cz,jq,hB'',oB,tB,arr,b,db,e1,hz1,jn,hb1,hb2,bp,b7,hle⟩
     ·have:=hN _ _ hp ig
      rw [ec] at this; simp at this
     ·have qp:i=A:=clash hD cz jq hB'' hp ec (hD.closed _ ig)
      subst qp
      obtain ⟨pA,pB,q1,q2,⟨q3,-⟩,q4,-⟩:=Ej hp
      rw [ev] at q1; rw [db] at q2
      simp only [Option.some.injEq] at q1 q2
      subst q1; subst q2
      obtain ⟨t,e,hg⟩:=Kn q3
      obtain ⟨t',e',ny⟩:=Kn q4
      rw [e1] at e'
      simp only [Op.alloc.injEq] at e'
      subst e'
      obtain ⟨g1,g2,g3⟩:=stepA hD gc hp ig ev db
      obtain ⟨cs,hz,v1,v2,v3,v4⟩:=allocStep ev e hg
      obtain ⟨cs',k8,v1',v2',v3',v4'⟩:=allocStep db e1 ny
      rw [hz1] at k8
      simp only [Option.some.injEq] at k8
      subst k8
      have bj:Ea ops.toList s.T o0=some true:=by unfold Ea; rw [hg]
      have ai:evO P call o0 s=some (val i,{ s with S:=s.S++[⟨s.n,cs⟩],n:=s.n+1 }):=by
       simp only [evO,e,hz,Option.map_some,v1,g1,g2]
      unfold wpOp
      rw [gg,d8]
      simp only [ev]
      rw [if_pos (En ap.tmps bj)]
      refine .inl (D2 hc ap ai fun u C2 k1 k2 k3 k4 k5 k6=>?_).1
      have c8:=ap.put (d:=o0.dst) k1 k2 k3 k4 k5 k6 rfl
      have nm:∀ o,¬ C1.Mut b o:=fun o hm=>ap.sr.own b o hm (bp o)
      have hb3:C2.w.heap[b]?=some (.cells arr tB (0,0)):=by
       rw [k1.keep b (Array.getElem?_eq_some_iff.1 hb1).1 nm]; exact hb1
      have k9:∀ o,C2.av b o:=fun o=>by rw [k1.av]; exact bp o
      have iv:∀ x o,x≠b->(C2.av x o↔C.av x o):=fun x o hx=>by rw [k1.av]; exact b7 x o hx
      have ky:∀ o,¬ C.av b o:=fun o ha=>by have:=hr.sr.avlt b o ha; omega
      have kz:=Le0.rev (C:=C2) k9 iv ky (arr.toList.map cst1)
      have nq:=SR.rev k2 hb3 k9 iv ky (fun g a hg=>(hr.sr.glob g a hg).2)
      have dq:(sts (i+2)).S=s.S++[⟨s.n,cs⟩]++[⟨s.n+1,arr.toList.map cst1⟩]/\(sts (i+2)).n=s.n+1+1:=by
       rw [show i+2=i+1+1 from rfl,v2',v3',v2,v3,g1,g2]; exact ⟨rfl,rfl⟩
      refine ih' _ (C2.rev C.av b (arr.toList.map cst1)) _ jt (.inl ⟨?_,?_⟩) ⟨?_,?_,?_,?_,c8.defers,nq⟩ g3
      ·-- no other pair waits
       intro e' j' lc bg
       rcases (ah j').1 bg with h|h
       ·subst h
        have:=Dd lc
        exfalso
        subst this
        obtain ⟨p1,p2,r1,r2,⟨r3,-⟩,r4,-⟩:=Ej lc
        rcases (hall (e'+1+1) _ db).2 e' p1 (by omega) r1 (by simp [conf,(Eg r3).1,(Eg q4).1]) with h1|h1
        ·have h2:=(Ku lc (Mj hp).2 (by omega) (by omega)).1 h1
         have:=A1 hD.closed (hD.closed _ ig) _ h2
         rw [ec] at this; simp at this
        ·have:=Dd h1; omega
       ·by_cases he:listed.getD e' false=true
        ·exact (ah _).2 (.inr he)
        ·have hs2:=Dd lc
         subst hs2
         have:=clash hD hp ec ig lc (by simpa using he) (hD.closed _ h)
         exact (ah _).2 (.inl this)
      ·have hl2:Le C { C2 with av:=C.av }:=hle.trans ⟨k1.os,k1.tape,k1.output,k1.size,rfl,k1.n,k1.mt,k1.cell,k1.keep,k1.shape,k1.ent,k1.tok⟩
       refine ⟨hl2.os,hl2.tape,hl2.output,hl2.size,rfl,Nat.le_succ_of_le hl2.n,fun x o hx hm=>?_,hl2.cell,hl2.keep,hl2.shape,fun id e' he hn=>?_,hl2.tok⟩
       ·rcases Qg hm with h|h
        ·exact hl2.mt x o hx h
        ·omega
       ·rcases Gr he with ⟨h1,h2⟩|⟨h1,h2⟩
        ·subst h2
         have:=hl2.n
         simp only at this hn
         omega
        ·obtain ⟨w1,w2,w3,w4⟩:=hl2.ent id e' h2 hn
         refine ⟨w1,w2,w3,?_⟩
         simp only [Cx.rev]
         rw [if_neg (by omega)]
         exact w4
      ·simp only [Cx.rev,dq.1,k3,k5]
      ·exact k4
      ·simp only [Cx.rev,dq.2,k5]
      ·have ka:VRs (C2.rev C.av b (arr.toList.map cst1)) (putT s.T o0.dst (val i)) (a1.put o0.dst u).tmps.toList:=VRs.mono0 kz _ _ c8.tmps
       simp only
       cases hd:oB.dst with
       | none=>exact ka
       | some d =>
        refine G7 ka fun x hx=>?_
        have j5:o0.dst≠some d:=fun h=>by
         have h1:Ax ops i=some d:=by unfold Ax; rw [ev]; simpa using h
         have h2:Ax ops (i+1)=some d:=by unfold Ax; rw [db]; simpa using hd
         have:=cg h1 h2; omega
        have hx':a1.tmps.toList[d]?=some x:=by
         cases dy:o0.dst with
         | none=>rw [dy] at hx; exact hx
         | some d0 =>
          rw [dy] at hx
          simp only [Act.put,Array.toList_setIfInBounds] at hx
          rw [List.getElem?_set_ne (fun h=>j5 (by rw [dy,h]))] at hx
          exact hx
        rw [jn d x hd hx',v1',v2,v3,g1.symm,g2.symm]
        simp only [VR]
        refine ⟨b,rfl,?_,fun e'' he'' _=>?_⟩
        ·simp only [Cx.rev,k5]; omega
        ·simp only [Cx.rev,k3,List.length_append,List.length_cons,List.length_nil,if_true]
    ·-- an operation as any other
     have bv:∀ e,Bv ops e i=true->listed.getD e false=true:=fun e he=>by
      cases h:listed.getD e false with
      | true=>rfl
      | false=>exact absurd ⟨e,he,h⟩ hB
     have hn2:∀ e,Bv ops i e=true->listed.getD e false=false:=fun e he=>by
      cases h:listed.getD e false with
      | false=>rfl
      | true=>exact absurd ⟨e,he,h⟩ l7
     obtain ⟨o,ho,dd,b,s2,hw,hb1,hb2,hT,k7⟩:=step hD i gc bv hn2
     have ef:=En ap.tmps hw
     have keepW:∀ {C2:Cx} {u:Value},Le C1 C2->((Norm listed/\Le C C1)\/∃ A,Wait A listed C1 a1)->((Norm (listed.setIfInBounds i true)/\Le C C2)\/∃ A,Wait A (listed.setIfInBounds i true) C2 (a1.put o.dst u)):=by
      intro C2 u k1 hle
      rcases hle with ⟨hN,hle⟩|⟨A,cz,jq,hB'',oB,tB,arr,b,db,e1,hz1,jn,hb1,hb2,bp,b7,hle⟩
      ·refine .inl ⟨fun e j hp hj=>(ah e).2 ?_,hle.trans k1⟩
       rcases (ah j).1 hj with h|h
       ·subst h; exact .inr (bv e hp)
       ·exact .inr (hN e j hp h)
      ·have qq:i≠A:=fun h=>by
        subst h
        have:=hn2 _ cz; rw [hB''] at this; simp at this
       refine .inr ⟨A,cz,?_,(ah _).2 (.inr hB''),oB,tB,arr,b,db,e1,hz1,fun d x hd hx=>?_,?_,hb2,fun o=>by rw [k1.av]; exact bp o,fun x o hx=>by rw [k1.av]; exact b7 x o hx,hle.trans ⟨k1.os,k1.tape,k1.output,k1.size,rfl,k1.n,k1.mt,k1.cell,k1.keep,k1.shape,k1.ent,k1.tok⟩⟩
       ·rw [A9 qq]; exact jq
       ·refine jn d x hd ?_
        have j5:o.dst≠some d:=fun h=>by
         have h1:Ax ops i=some d:=by unfold Ax; rw [ho]; simpa using h
         have h2:Ax ops (A+1)=some d:=by unfold Ax; rw [db]; simpa using hd
         have:=cg h1 h2
         subst this
         rw [dd] at hB''; simp at hB''
        cases dy:o.dst with
        | none=>rw [dy] at hx; exact hx
        | some d0 =>
         rw [dy] at hx
         simp only [Act.put,Array.toList_setIfInBounds] at hx
         rw [List.getElem?_set_ne (fun h=>j5 (by rw [dy,h]))] at hx
         exact hx
       ·rw [k1.keep b (Array.getElem?_eq_some_iff.1 hb1).1 fun o hm=>ap.sr.own b o hm (bp o)]; exact hb1
     have keepH:∀ {C2:Cx} {u:Value},Le C1 C2->Hle listed C1 a1->Hle (listed.setIfInBounds i true) C2 (a1.put o.dst u):=by
      intro C2 u k1 hle
      rcases hle with ⟨hu,hle⟩|⟨p,al,t,d,arr,b,e1,e2,e3,hp,hz,jn,hb1,hb2,bp,b7,hle⟩
      ·exact .inl ⟨o8 hu fun j=>(ah j).1,keepW k1 hle⟩
      ·refine .inr ⟨p,al,t,d,arr,b,e1,e2,e3,(ah _).2 (.inr hp),hz,fun x hx=>?_,?_,hb2,fun o=>by rw [k1.av]; exact bp o,fun x o hx=>by rw [k1.av]; exact b7 x o hx,hle.trans ⟨k1.os,k1.tape,k1.output,k1.size,rfl,k1.n,k1.mt,k1.cell,k1.keep,k1.shape,k1.ent,k1.tok⟩⟩
       ·refine jn x ?_
        have j5:o.dst≠some d:=fun h=>by
         have hl':=bt
         rw [e1] at hl'
         have h1:Ax ops i=some d:=by unfold Ax; rw [ho]; simpa using h
         have h2:Ax ops p=some d:=by unfold Ax; rw [hl'.2.2.2.2.2.2.2]; simpa using e3
         have:=cg h1 h2
         subst this
         rw [dd] at hp; cases hp
        cases dy:o.dst with
        | none=>rw [dy] at hx; exact hx
        | some d0 =>
         rw [dy] at hx
         simp only [Act.put,Array.toList_setIfInBounds] at hx
         rw [List.getElem?_set_ne (fun h=>j5 (by rw [dy,h]))] at hx
         exact hx
       ·rw [k1.keep b (Array.getElem?_eq_some_iff.1 hb1).1 fun o hm=>ap.sr.own b o hm (bp o)]; exact hb1
     unfold wpOp
     rw [gg,d8]
     simp only [ho]
     cases b with
     | false =>
      rw [if_neg (by rw [ef]; simp)]
      obtain ⟨hv,rfl⟩:=hb2 rfl
      refine ih _ _ C1 _ (by omega) (keepH (Le.refl C1) hle) ?_ k7
      rw [hv]
      exact ap.put (Le.refl C1) ap.sr ap.S ap.tk ap.n (by simp only [VR]) rfl
     | true =>
      rw [if_pos ef]
      refine .inl (D2 hc ap (hb1 rfl) fun u C2 k1 k2 k3 k4 k5 k6=>?_).1
      exact ih _ _ C2 _ (by omega) (keepH k1 hle) (ap.put k1 k2 k3 k4 k5 k6 hT) k7
 have hbel:Below C.w.heap.size C.w C.w.drew:=(Below.refl _ _).drew
 rw [hsz]
 refine main ops.size _ st (C.at C.w.drew) a ?_ (.inl ⟨fun p al _=>by simp [Array.getD],.inl ⟨fun e j _ hj=>by simp [Array.getD] at hj,Le.of_below hbel⟩⟩) ⟨hr.S,hr.tk,hr.n,VRs.mono (Le.of_below hbel) _ _ hr.tmps,hr.defers,SR.of_below hr.sr hbel⟩ ⟨by simp,?_,rfl,?_,fun t _=>rfl,?_,?_⟩
 ·unfold Bs
  exact Nat.le_trans List.countP_le_length (by simp)
 ·intro j hj; simp [Array.getD] at hj
 ·intro j t hj; simp [Array.getD] at hj
 ·obtain ⟨c,h1,h2,h3⟩:=Ho (wS ops) (Array.replicate ops.size false) ops.size ops.size 0 (by omega) (by omega) (by intro j hj; omega)
  have hno:∀ j,0<=j->j<0+c->wS ops j=false:=by
   intro j _ hj
   cases ar:wS ops j with
   | false=>rfl
   | true =>
    have:=h2.2.1 j (by omega) ar
    simp [Array.getD] at this
  have:=constS c 0 (by have:=h2.1; omega) hno
  rw [Nat.zero_add,jf] at this
  exact ⟨c,h2,this.1.symm,this.2.symm⟩
 ·obtain ⟨c,h1,h2,h3⟩:=Ho (wT ops) (Array.replicate ops.size false) ops.size ops.size 0 (by omega) (by omega) (by intro j hj; omega)
  have hno:∀ j,0<=j->j<0+c->wT ops j=false:=by
   intro j _ hj
   cases ar:wT ops j with
   | false=>rfl
   | true =>
    have:=h2.2.1 j (by omega) ar
    simp [Array.getD] at this
  have:=constT c 0 (by have:=h2.1; omega) hno
  rw [Nat.zero_add,jf] at this
  exact ⟨c,h2,this.symm⟩
theorem Re [Globs] (hm:P.follows .mixedOrders=true):U0 P Ar:=by
 refine ⟨hm,?_⟩
 intro call hc real ops lt hlt hi C st st' a Q ag hr h hQ
 exact @Pz P (gM (mdOf ops.toList)) hm call (Aba hc) hi real ops lt hlt C st st' a Q ag (Afw.2 hr) h (fun a' C' hle bn=>hQ a' C' hle (Afw.1 bn))
end
section
variable {P:Program}
def CLe (a b:Ak):Prop:=∀ f args S tk n r,a f args S tk n=some r->b f args S tk n=some r
theorem Vk [Globs] {a b:Ak} (h:CLe a b) {o:Oper} {st:St} {r:AV × St} (he:evO P a o st=some r):evO P b o st=some r:=by
 unfold evO at he ⊢
 split <;> simp_all only
 ·rename_i c _
  split <;> simp_all only
  split <;> simp_all only
  ·rename_i f args ca
   simp only [Option.map_eq_some_iff] at he ⊢
   obtain ⟨x,h1,h2⟩:=he
   exact ⟨x,h _ _ _ _ _ _ h1,h2⟩
theorem Av [G:Globs] {a b:Ak} (h:CLe a b) {all:List Oper} : ∀ {l:List Oper} {st st':St},evOs P a all l st=some st'->evOs P b all l st=some st'
 | [],_,_,he=>he
 | o :: l,st,st',he=>by
  simp only [evOs] at he ⊢
  split at he
  ·simp at he
  ·exact Av h he
  ·split at he
   ·rename_i v s1 ho
    rw [Vk h ho]
    simp only
    split at he
    ·rename_i dc
     rw [if_pos dc]; exact Av h he
    ·simp at he
   ·simp at he
theorem CLe.pure [Globs] [Ext P] {M:Md} {a b:Ak} (h:CLe a b):CLe (@Bq (gM M) P _ a) (@Bq (gM M) P _ b):=by
 intro f args S tk n r he
 unfold Bq at he ⊢
 split at he
 ·rename_i hp; rw [if_pos hp]; exact h _ _ _ _ _ _ he
 ·simp at he
theorem Hs {kp:Bool} {f g:St->Option (Ex × St)} (h:∀ s r,f s=some r->g s=some r):∀ {k m:Nat} {s:St} {r:Ex × St},k<=m->He kp f k s=some r->He kp g m s=some r
 | 0,_,_,_,_,he=>by simp [He] at he
 | k+1,0,_,_,qr,_=>by omega
 | k+1,m+1,s,r,qr,he=>by
  simp only [He] at he ⊢
  split at he
  ·rename_i s1 h1
   rw [h _ _ h1]
   exact Hs h (by omega) he
  ·rename_i hne
   rw [h _ _ he]
   obtain ⟨ex,s2⟩:=r
   cases ex with
   | normal=>exact absurd he (hne s2)
   | exit id=>rfl
   | ret=>rfl
theorem A3 [Globs] [Ext P] {a b:Ak} (h:CLe a b) {ok:St->List Oper->Bool} {n m:Nat} (dg:n<=m):∀ (c:Code) (st:St) (r:Ex × St),evC P a ok n c st=some r->evC P b ok m c st=some r
 | .skip,_,_,he=>by simpa only [evC] using he
 | .region _ ops draw,st,r,he=>by
  simp only [evC] at he ⊢
  split at he
  ·rename_i hd
   rw [if_pos hd]
   split at he
   ·rename_i ini o f7
    split at he
    ·rename_i ag
     simp only [ag,if_true]
     split at he
     ·rename_i s1 h1
      rw [Av (G:=gM _) h.pure h1]
      simp only [Option.map_eq_some_iff] at he ⊢
      obtain ⟨x,h1,h2⟩:=he
      exact ⟨x,Av h h1,h2⟩
     ·simp at he
    ·simp at he
   ·split at he
    ·split at he
     ·rename_i ag
      simp only [ag,if_true]
      split at he
      ·rename_i s1 h1
       rw [Av (G:=gM _) h.pure h1]
       simp only [Option.map_eq_some_iff] at he ⊢
       obtain ⟨x,h1,h2⟩:=he
       exact ⟨x,Av h h1,h2⟩
      ·simp at he
     ·simp at he
    ·split at he
     ·rename_i ag
      simp only [ag,if_true]
      simp only [Option.map_eq_some_iff] at he ⊢
      obtain ⟨x,h1,h2⟩:=he
      exact ⟨x,Av (G:=gM _) h.pure h1,h2⟩
     ·simp at he
  ·rename_i hd
   rw [if_neg hd]
   simp only [Option.map_eq_some_iff] at he ⊢
   obtain ⟨x,h1,h2⟩:=he
   exact ⟨x,Av h h1,h2⟩
 | .seq x y,st,r,he=>by
  simp only [evC] at he ⊢
  split at he
  ·rename_i s1 h1
   rw [A3 h dg x st _ h1]
   exact A3 h dg y s1 r he
  ·rename_i hne
   rw [A3 h dg x st _ he]
   obtain ⟨ex,s2⟩:=r
   cases ex with
   | normal=>exact absurd he (hne s2)
   | exit id=>rfl
   | ret=>rfl
 | .cond x y z,st,r,he=>by
  simp only [evC] at he ⊢
  split at he
  ·rename_i t ht
   split at he
   ·rename_i h1; rw [if_pos h1]; exact A3 h dg y st r he
   ·rename_i h1; rw [if_neg h1]; exact A3 h dg z st r he
  ·simp at he
 | .block id x,st,r,he=>by
  simp only [evC] at he ⊢
  split at he
  ·rename_i id' s1 h1
   rw [A3 h dg x st _ h1]; exact he
  ·rename_i hne
   rw [A3 h dg x st _ he]
   obtain ⟨ex,s2⟩:=r
   cases ex with
   | normal=>rfl
   | exit id=>exact absurd he (hne id s2)
   | ret=>rfl
 | .loop x,st,r,he=>by
  simp only [evC] at he ⊢
  exact Hs (fun s r=>A3 h dg x s r) dg he
 | .exit id,_,_,he=>by simpa only [evC] using he
 | .ret,_,_,he=>by simpa only [evC] using he
 | .rangeFunc _ _ _ _,_,_,he=>by simp [evC] at he
 | .scope c,st,r,he=>by
  simp only [evC] at he ⊢
  exact A3 h dg c st r he
 | .label _,_,_,he=>by simpa only [evC] using he
 | .goto _,_,_,he=>by simp [evC] at he
 | .refuse _,_,_,he=>by simp [evC] at he
theorem Hf {fn:Func} {x y:Option (Ex × St)} {r:AV × St} (h:∀ z,x=some z->y=some z) (he:outA P fn x=some r):outA P fn y=some r:=by
 match x with
 | none=>simp [outA] at he
 | some z=>rw [h z rfl]; exact he
theorem Br [Globs] [Ext P] {ok:St->List Oper->Bool} : ∀ {k m:Nat},k<=m->CLe (evF P ok k) (evF P ok m)
 | 0,_,_=>by intro f args S tk n r he; simp [evF] at he
 | k+1,0,h=>by omega
 | k+1,m+1,h=>by
  have ih:CLe (evF P ok k) (evF P ok m):=Br (by omega)
  intro f args S tk n r he
  simp only [evF] at he ⊢
  split at he
  ·rename_i bi; rw [if_pos bi]; exact he
  rename_i bi
  rw [if_neg bi]
  split at he
  ·rename_i fn hf
   split at he
   ·rename_i c hb
    split at he
    ·simp at he
    ·rename_i ao
     rw [if_neg ao]
     split at he
     ·rename_i eu
      rw [if_pos eu]
      split at he
      ·rename_i r' s1 ho
       rw [Hf (fun z hz=>A3 ih (by omega) c _ z hz) ho]
       exact he
      ·simp at he
     rename_i eu
     rw [if_neg eu]
     split at he
     ·rename_i hp
      rw [if_pos hp]
      have one:∀ {as:List AV} {r0:AV},runP P ok (evF P ok k) k fn c as=some r0->runP P ok (evF P ok m) m fn c as=some r0:=by
       intro as r0 hrun
       unfold runP at hrun ⊢
       split at hrun
       ·rename_i r' s1 ho
        rw [Hf (fun z hz=>A3 ih (by omega) c _ z hz) ho]
        exact hrun
       ·simp at hrun
      split at he
      ·rename_i r' ho
       have:(if D7 c=true then runN (runP P ok (evF P ok m) m fn c) (args.map w2) else runP P ok (evF P ok m) m fn c (args.map w2))=some r':=by
        split at ho
        ·rename_i hn
         rw [if_pos hn]
         unfold runN at ho ⊢
         split at ho
         ·split at ho
          ·rename_i q1 q2
           rw [one q1,one q2]; exact ho
          ·simp at ho
         ·exact one ho
        ·rename_i hn
         rw [if_neg hn]
         exact one ho
       rw [this]; exact he
      ·simp at he
     ·rename_i hp
      rw [if_neg hp]
      split at he
      ·rename_i r' s1 ho
       rw [Hf (fun z hz=>A3 ih (by omega) c _ z hz) ho]
       exact he
      ·simp at he
   ·simp at he
  ·simp at he
noncomputable def lim {α:Type} (F:Nat->Option α):Option α:=by
 classical
 exact if h:∃ x,∃ k,F k=some x then some h.choose else none
theorem Zx {α:Type} {F:Nat->Option α} (hm:∀ k m x,k<=m->F k=some x->F m=some x) {x:α} : lim F=some x↔∃ k,F k=some x:=by
 unfold lim
 constructor
 ·intro h
  split at h
  ·rename_i hx
   simp only [Option.some.injEq] at h; subst h
   exact hx.choose_spec
  ·simp at h
 ·rintro ⟨k,hk⟩
  have hx:∃ x,∃ k,F k=some x:=⟨x,k,hk⟩
  rw [dif_pos hx]
  obtain ⟨m,bm⟩:=hx.choose_spec
  have h1:=hm _ _ _ (Nat.le_max_left k m) hk
  have h2:=hm _ _ _ (Nat.le_max_right k m) bm
  rw [h1] at h2
  simp only [Option.some.injEq] at h2
  rw [<- h2]
theorem Gs {α:Type} {a b:Option α} (h:∀ x,a=some x↔b=some x):a=b:=by
 cases a with
 | none =>
  cases b with
  | none=>rfl
  | some y=>have:=(h y).2 rfl; simp at this
 | some x=>exact ((h x).1 rfl).symm
noncomputable def cL [Globs] (P:Program) [Ext P]:Ak:=fun f args S tk n=>lim fun k=>evF P Ar k f args S tk n
noncomputable def eL [Globs] (P:Program) [Ext P] (c:Code) (st:St):Option (Ex × St):=lim fun k=>evC P (evF P Ar k) Ar k c st
theorem Gx [Globs] [Ext P] {f args S tk n x} : cL P f args S tk n=some x↔∃ k,evF P Ar k f args S tk n=some x:=Zx fun _ _ _ h he=>Br h _ _ _ _ _ _ he
theorem Ao [Globs] [Ext P] {c:Code} {st:St} {x:Ex × St} : eL P c st=some x↔∃ k,evC P (evF P Ar k) Ar k c st=some x:=Zx fun _ _ _ h he=>A3 (Br h) h _ _ _ he
theorem Wu [Globs] [Ext P] (k:Nat):CLe (evF P Ar k) (cL P):=fun _ _ _ _ _ _ h=>Gx.2 ⟨k,h⟩
section
variable {F:Nat->Ak} {L:Ak} (hF:∀ k m,k<=m->CLe (F k) (F m)) (hL:∀ f args S tk n x,L f args S tk n=some x->∃ k,F k f args S tk n=some x)
include hL
theorem Ael [Globs] {o:Oper} {st:St} {r:AV × St} (h:evO P L o st=some r):∃ k,evO P (F k) o st=some r:=by
 by_cases hc:∃ c f args,o.op=.call c/\B3 P st.T c=some (f,args)/\(∀ b,c.callee≠.builtin b)
 ·obtain ⟨c,f,args,ho,ca,hb⟩:=hc
  have e:∀ call:Ak,evO P call o st=(call f args st.S st.tk st.n).map fun (v,S,tk,n)=>(v,{ st with S:=S,tk:=tk,n:=n }):=by
   intro call
   unfold evO
   rw [ho]
   simp only
   split
   ·rename_i h'; exact absurd h' (hb _)
   ·rename_i h'; exact absurd h' (hb _)
   ·rename_i b _ _ h'; exact absurd h' (hb _)
   ·rw [ca]
  rw [e] at h
  simp only [Option.map_eq_some_iff] at h
  obtain ⟨x,h1,h2⟩:=h
  obtain ⟨k,hk⟩:=hL _ _ _ _ _ _ h1
  exact ⟨k,by rw [e,hk]; simp [h2]⟩
 ·refine ⟨0,?_⟩
  have e:∀ call call':Ak,evO P call o st=evO P call' o st:=by
   intro call call'
   unfold evO
   split <;> try rfl
   rename_i c ho
   split <;> try rfl
   rename_i h1 h2 h3
   split
   ·rename_i f args ca
    exact absurd ⟨c,f,args,ho,ca,fun b hb=>by cases b <;> first|exact h1 hb|exact h2 hb|exact h3 _ hb⟩ hc
   ·rfl
  rw [e _ L]; exact h
include hF
theorem La [G:Globs] {all:List Oper} : ∀ {l:List Oper} {st st':St},evOs P L all l st=some st'->∃ k,evOs P (F k) all l st=some st'
 | [],_,_,h=>⟨0,h⟩
 | o :: l,st,st',h=>by
  simp only [evOs] at h
  split at h
  ·simp at h
  ·rename_i hw
   obtain ⟨k,hk⟩:=La h
   exact ⟨k,by simp only [evOs,hw]; exact hk⟩
  ·rename_i hw
   split at h
   ·rename_i v s1 ho
    split at h
    case isFalse=>simp at h
    rename_i dc
    obtain ⟨k,hk⟩:=Ael hL ho
    obtain ⟨m,hm⟩:=La h
    refine ⟨max k m,?_⟩
    simp only [evOs,hw]
    rw [Vk (hF _ _ (Nat.le_max_left k m)) hk]
    simp only
    rw [if_pos dc]
    exact Av (hF _ _ (Nat.le_max_right k m)) hm
   ·simp at h
end
theorem T5 [Globs] [Ext P] {all l:List Oper} {st st':St} (h:evOs P (cL P) all l st=some st'):∃ k,evOs P (evF P Ar k) all l st=some st' :=
 La (fun _ _ h=>Br h) (fun _ _ _ _ _ _ h=>Gx.1 h) h
theorem T6 [Globs] [Ext P] {M:Md} {all l:List Oper} {st st':St} (h:@evOs (gM M) P (@Bq (gM M) P _ (cL P)) all l st=some st'):∃ k,@evOs (gM M) P (@Bq (gM M) P _ (evF P Ar k)) all l st=some st':=by
 refine La (F:=fun k=>@Bq (gM M) P _ (evF P Ar k)) (G:=gM M) (fun _ _ h=>(Br h).pure) (fun f args S tk n x h=>?_) h
 unfold Bq at h
 split at h
 ·rename_i hp
  obtain ⟨k,hk⟩:=Gx.1 h
  exact ⟨k,by unfold Bq; rw [if_pos hp]; exact hk⟩
 ·simp at h
inductive Kont where
 | seq (c:Code)|block (id:Nat)|loop (c:Code) (k:Nat)
noncomputable def cont [Globs] (P:Program) [Ext P] (fn:Func):Ex->St->List Kont->Option (AV × St)
 | e,st,[]=>outA P fn (some (e,st))
 | .normal,st,.seq c :: k=>match eL P c st with|some (e,st')=>cont P fn e st' k|none=>none
 | .normal,st,.block _ :: k=>cont P fn .normal st k
 | .normal,st,.loop c n :: k=>match eL P (.loop c) { st with S:=cutS (Kp c) n st.S } with|some (e,st')=>cont P fn e st' k|none=>none
 | .exit id,st,.seq _ :: k=>cont P fn (.exit id) st k
 | .exit id,st,.block id' :: k=>if id=id' then cont P fn .normal st k else cont P fn (.exit id) st k
 | .exit id,st,.loop _ _ :: k=>cont P fn (.exit id) st k
 | .ret,st,_ :: k=>cont P fn .ret st k
noncomputable def RK [Globs] (P:Program) [Ext P] (fn:Func) (c:Code) (st:St) (k:List Kont):Option (AV × St):=match eL P c st with|some (e,st')=>cont P fn e st' k|none=>none
noncomputable def Eo [Globs] (M:Md) (P:Program) [Ext P] (call:Ak):Ak:=@Bq (gM M) P _ call
noncomputable def RO [Globs] (P:Program) [Ext P] (fn:Func) (M:Md) (call:Ak) (all l:List Oper) (st:St) (k:List Kont):Option (AV × St):=match @evOs (gM M) P call all l st with|some st'=>cont P fn .normal st' k|none=>none
def br {α:Type} (w:Option Bool) (a b:Option α):Option α:=match w with|some true=>a|some false=>b|none=>none
variable {fn:Func} {st:St} {k:List Kont}
theorem Ad2 [Globs] [Ext P]:RK P fn .skip st k=cont P fn .normal st k:=by
 have:eL P .skip st=some (.normal,st):=Ao.2 ⟨0,rfl⟩
 simp only [RK,this]
theorem Ad0 [Globs] [Ext P] {id:Nat} : RK P fn (.exit id) st k=cont P fn (.exit id) st k:=by
 have:eL P (.exit id) st=some (.exit id,st):=Ao.2 ⟨0,rfl⟩
 simp only [RK,this]
theorem Afp [Globs] [Ext P]:RK P fn .ret st k=cont P fn .ret st k:=by
 have:eL P .ret st=some (.ret,st):=Ao.2 ⟨0,rfl⟩
 simp only [RK,this]
theorem Adj [Globs] [Ext P] {a b:Code} : eL P (.seq a b) st=match eL P a st with|some (.normal,st')=>eL P b st'|r=>r:=by
 apply Gs
 intro x
 constructor
 ·intro h
  obtain ⟨n,h⟩:=Ao.1 h
  simp only [evC] at h
  split at h
  ·rename_i s1 h1
   rw [Ao.2 ⟨n,h1⟩]
   exact Ao.2 ⟨n,h⟩
  ·rename_i hne
   rw [Ao.2 ⟨n,h⟩]
   obtain ⟨ex,s2⟩:=x
   cases ex with
   | normal=>exact absurd h (hne s2)
   | exit id=>rfl
   | ret=>rfl
 ·intro h
  split at h
  ·rename_i s1 h1
   obtain ⟨n,h1⟩:=Ao.1 h1
   obtain ⟨m,h⟩:=Ao.1 h
   refine Ao.2 ⟨max n m,?_⟩
   simp only [evC]
   rw [A3 (Br (Nat.le_max_left n m)) (Nat.le_max_left n m) _ _ _ h1]
   exact A3 (Br (Nat.le_max_right n m)) (Nat.le_max_right n m) _ _ _ h
  ·rename_i hne
   obtain ⟨n,h1⟩:=Ao.1 h
   refine Ao.2 ⟨n,?_⟩
   simp only [evC]
   rw [h1]
   obtain ⟨ex,s2⟩:=x
   cases ex with
   | normal=>exact absurd h (hne s2)
   | exit id=>rfl
   | ret=>rfl
theorem Afq [Globs] [Ext P] {a b:Code} : RK P fn (.seq a b) st k=RK P fn a st (.seq b :: k):=by
 simp only [RK,Adj]
 cases h:eL P a st with
 | none=>rfl
 | some x =>
  obtain ⟨e,s⟩:=x
  cases e <;> simp only [cont]
theorem Y5 [Globs] [Ext P] {c:Operand} {a b:Code} : eL P (.cond c a b) st=match opv st.T c with|.prim (.bool t)=>if t=true then eL P a st else eL P b st|_=>none:=by
 apply Gs
 intro x
 rw [Ao]
 simp only [evC]
 generalize opv st.T c=v
 cases v with
 | prim u =>
  cases u with
  | bool t=>cases t <;> simp [Ao]
  | _=>simp
 | _=>simp
theorem Adz [Globs] [Ext P] {c:Operand} {a b:Code} : RK P fn (.cond c a b) st k=match opv st.T c with|.prim (.bool t)=>if t=true then RK P fn a st k else RK P fn b st k|_=>none:=by
 simp only [RK,Y5]
 generalize opv st.T c=v
 cases v with
 | prim u =>
  cases u with
  | bool t=>cases t <;> simp
  | _=>rfl
 | _=>rfl
theorem Vj [Globs] [Ext P] {id:Nat} {c:Code} : eL P (.block id c) st=match eL P c st with|some (.exit id',st')=>if id'=id then some (.normal,st') else some (.exit id',st')|r=>r:=by
 apply Gs
 intro x
 constructor
 ·intro h
  obtain ⟨n,h⟩:=Ao.1 h
  simp only [evC] at h
  split at h
  ·rename_i s1 h1
   rw [Ao.2 ⟨n,h1⟩]; exact h
  ·rename_i hne
   rw [Ao.2 ⟨n,h⟩]
   obtain ⟨ex,s2⟩:=x
   cases ex with
   | normal=>rfl
   | exit id=>exact absurd h (hne id s2)
   | ret=>rfl
 ·intro h
  split at h
  ·rename_i id' s1 h1
   obtain ⟨n,h1⟩:=Ao.1 h1
   exact Ao.2 ⟨n,by simp only [evC]; rw [h1]; exact h⟩
  ·rename_i hne
   obtain ⟨n,h1⟩:=Ao.1 h
   refine Ao.2 ⟨n,?_⟩
   simp only [evC]
   rw [h1]
   obtain ⟨ex,s2⟩:=x
   cases ex with
   | normal=>rfl
   | exit id=>exact absurd h (hne id s2)
   | ret=>rfl
theorem Abg [Globs] [Ext P] {id:Nat} {c:Code} : RK P fn (.block id c) st k=RK P fn c st (.block id :: k):=by
 simp only [RK,Vj]
 cases h:eL P c st with
 | none=>rfl
 | some x =>
  obtain ⟨e,s⟩:=x
  cases e with
  | exit id'=>by_cases hid:id'=id <;> simp [cont,hid]
  | normal=>simp only [cont]
  | ret=>simp only [cont]
theorem Y8 [Globs] [Ext P] {c:Code} : eL P (.loop c) st=match eL P c st with|some (.normal,st')=>eL P (.loop c) { st' with S:=cutS (Kp c) st.S.length st'.S } | r=>r:=by
 apply Gs
 intro x
 constructor
 ·intro h
  obtain ⟨n,h⟩:=Ao.1 h
  simp only [evC] at h
  cases n with
  | zero=>simp [He] at h
  | succ n =>
   simp only [He] at h
   split at h
   ·rename_i s1 h1
    rw [Ao.2 ⟨n+1,h1⟩]
    exact Ao.2 ⟨n+1,by simp only [evC]; exact Hs (fun _ _ h=>h) (Nat.le_succ n) h⟩
   ·rename_i hne
    rw [Ao.2 ⟨n+1,h⟩]
    obtain ⟨ex,s2⟩:=x
    cases ex with
    | normal=>exact absurd h (hne s2)
    | exit id=>rfl
    | ret=>rfl
 ·intro h
  split at h
  ·rename_i s1 h1
   obtain ⟨n,h1⟩:=Ao.1 h1
   obtain ⟨m,h⟩:=Ao.1 h
   simp only [evC] at h
   refine Ao.2 ⟨max n m+1,?_⟩
   simp only [evC,He]
   rw [A3 (Br (show n<=max n m+1 by omega)) (show n<=max n m+1 by omega) _ _ _ h1]
   exact Hs (fun s r=>A3 (Br (show m<=max n m+1 by omega)) (show m<=max n m+1 by omega) c s r) (show m<=max n m by omega) h
  ·rename_i hne
   obtain ⟨n,h1⟩:=Ao.1 h
   refine Ao.2 ⟨n+1,?_⟩
   simp only [evC,He]
   rw [A3 (Br (Nat.le_succ n)) (Nat.le_succ n) _ _ _ h1]
   obtain ⟨ex,s2⟩:=x
   cases ex with
   | normal=>exact absurd h (hne s2)
   | exit id=>rfl
   | ret=>rfl
theorem Yb [Globs] [Ext P] {c:Code} : RK P fn (.loop c) st k=RK P fn c st (.loop c st.S.length :: k):=by
 rw [RK,Y8,RK]
 cases h:eL P c st with
 | none=>rfl
 | some x =>
  obtain ⟨e,s⟩:=x
  cases e <;> simp only [cont]
theorem Jp [Globs] [Ext P] {id:Nat} {ops:Array Oper} : eL P (.region id ops false) st=(evOs P (cL P) ops.toList ops.toList st).map fun st=>(.normal,st):=by
 apply Gs
 intro x
 rw [Ao]
 simp only [evC,Option.map_eq_some_iff,Bool.false_eq_true,if_false]
 constructor
 ·rintro ⟨n,s,h1,h2⟩; exact ⟨s,Av (Wu n) h1,h2⟩
 ·rintro ⟨s,h1,h2⟩
  obtain ⟨n,hn⟩:=T5 h1
  exact ⟨n,s,hn,h2⟩
theorem Y6 [Globs] [Ext P] {id:Nat} {ops:Array Oper} (hs:Db ops.toList=none) (hl:Gl ops.toList=none):eL P (.region id ops true) st=if Ar st ops.toList=true then (@evOs (gM (mdOf ops.toList)) P (Eo (mdOf ops.toList) P (cL P)) ops.toList ops.toList st).map fun st=>(.normal,st) else none:=by
 apply Gs
 intro x
 rw [Ao]
 simp only [evC,if_true,hs,hl]
 by_cases ag:Ar st ops.toList=true
 ·simp only [ag,if_true,Option.map_eq_some_iff]
  constructor
  ·rintro ⟨n,s,h1,h2⟩; exact ⟨s,Av (G:=gM _) (Wu n).pure h1,h2⟩
  ·rintro ⟨s,h1,h2⟩
   obtain ⟨n,hn⟩:=T6 h1
   exact ⟨n,s,hn,h2⟩
 ·simp [ag]
theorem Y9 [Globs] [Ext P] {id:Nat} {ops:Array Oper} {a:List Oper} {o:Oper} (hs:Db ops.toList=some (a,o)):eL P (.region id ops true) st=if Ar st a=true then (match @evOs (gM (mdOf a)) P (Eo (mdOf a) P (cL P)) a a st with|some st1=>(evOs P (cL P) [o] [o] st1).map fun st=>(.normal,st)|none=>none) else none:=by
 apply Gs
 intro x
 rw [Ao]
 simp only [evC,if_true,hs]
 by_cases ag:Ar st a=true
 ·simp only [ag,if_true]
  constructor
  ·rintro ⟨n,h⟩
   split at h
   ·rename_i s1 h1
    have e:@evOs (gM (mdOf a)) P (Eo (mdOf a) P (cL P)) a a st=some s1:=Av (G:=gM _) (Wu n).pure h1
    rw [e]
    simp only [Option.map_eq_some_iff] at h ⊢
    obtain ⟨s,h1,h2⟩:=h
    exact ⟨s,Av (Wu n) h1,h2⟩
   ·simp at h
  ·intro h
   split at h
   ·rename_i s1 h1
    simp only [Option.map_eq_some_iff] at h
    obtain ⟨s,h2,h3⟩:=h
    obtain ⟨n,hn⟩:=T6 h1
    obtain ⟨m,hm⟩:=T5 h2
    refine ⟨max n m,?_⟩
    rw [Av (G:=gM _) (Br (show n<=max n m by omega)).pure hn]
    simp only [Option.map_eq_some_iff]
    exact ⟨s,Av (Br (show m<=max n m by omega)) hm,h3⟩
   ·simp at h
 ·simp [ag]
theorem Y7 [Globs] [Ext P] {id:Nat} {ops:Array Oper} {p:Nat} {al o:Oper} (hs:Db ops.toList=none) (hl:Gl ops.toList=some (p,al,o)):eL P (.region id ops true) st=if Ar st (openL ops.toList)=true then (match @evOs (gM (mdOf (openL ops.toList))) P (Eo (mdOf (openL ops.toList)) P (cL P)) (openL ops.toList) (openL ops.toList) st with|some st1=>(evOs P (cL P) [al,o] [al,o] st1).map fun st=>(.normal,st)|none=>none) else none:=by
 apply Gs
 intro x
 rw [Ao]
 simp only [evC,if_true,hs,hl]
 generalize openL ops.toList=a
 by_cases ag:Ar st a=true
 ·simp only [ag,if_true]
  constructor
  ·rintro ⟨n,h⟩
   split at h
   ·rename_i s1 h1
    have e:@evOs (gM (mdOf a)) P (Eo (mdOf a) P (cL P)) a a st=some s1:=Av (G:=gM _) (Wu n).pure h1
    rw [e]
    simp only [Option.map_eq_some_iff] at h ⊢
    obtain ⟨s,h1,h2⟩:=h
    exact ⟨s,Av (Wu n) h1,h2⟩
   ·simp at h
  ·intro h
   split at h
   ·rename_i s1 h1
    simp only [Option.map_eq_some_iff] at h
    obtain ⟨s,h2,h3⟩:=h
    obtain ⟨n,hn⟩:=T6 h1
    obtain ⟨m,hm⟩:=T5 h2
    refine ⟨max n m,?_⟩
    rw [Av (G:=gM _) (Br (show n<=max n m by omega)).pure hn]
    simp only [Option.map_eq_some_iff]
    exact ⟨s,Av (Br (show m<=max n m by omega)) hm,h3⟩
   ·simp at h
 ·simp [ag]
theorem Abi [Globs] [Ext P] {c:Code} : RK P fn (.scope c) st k=RK P fn c st k:=by
 have:eL P (.scope c) st=eL P c st:=by
  apply Gs
  intro x
  rw [Ao,Ao]
  simp only [evC]
 simp only [RK,this]
theorem Abh [Globs] [Ext P] {l:Nat} : RK P fn (.label l) st k=cont P fn .normal st k:=by
 have:eL P (.label l) st=some (.normal,st):=Ao.2 ⟨0,by simp only [evC]⟩
 simp only [RK,this]
theorem Yc [Globs] [Ext P] {id:Nat} {ops:Array Oper} : RK P fn (.region id ops false) st k=RO P fn .no (cL P) ops.toList ops.toList st k:=by
 simp only [RK,Jp]
 show _=match evOs P (cL P) ops.toList ops.toList st with|some st'=>cont P fn .normal st' k|none=>none
 cases evOs P (cL P) ops.toList ops.toList st <;> rfl
theorem Lm [Globs] [Ext P] {id:Nat} {ops:Array Oper} (hs:Db ops.toList=none) (hl:Gl ops.toList=none) (h:Ar st ops.toList=true):RK P fn (.region id ops true) st k=RO P fn (mdOf ops.toList) (Eo (mdOf ops.toList) P (cL P)) ops.toList ops.toList st k:=by
 simp only [RK,RO,Y6 hs hl,if_true,h]
 cases @evOs (gM (mdOf ops.toList)) P (Eo (mdOf ops.toList) P (cL P)) ops.toList ops.toList st <;> rfl
theorem Ad3 [Globs] [Ext P] {id:Nat} {ops:Array Oper} {a:List Oper} {o:Oper} (hs:Db ops.toList=some (a,o)) (hs2:Db a=none) (hl2:Gl a=none) (h:Ar st a=true):RK P fn (.region id ops true) st k=RK P fn (.region id a.toArray true) st (.seq (.region id #[o] false) :: k):=by
 rw [Lm (ops:=a.toArray) (by simpa using hs2) (by simpa using hl2) (by simpa using h)]
 simp only [RK,RO,Y9 hs,if_true,h]
 cases @evOs (gM (mdOf a)) P (Eo (mdOf a) P (cL P)) a a st with
 | none=>rfl
 | some s1 =>
  simp only [cont,RK,Jp]
theorem Ad1 [Globs] [Ext P] {id:Nat} {ops:Array Oper} {p:Nat} {al o:Oper} (hs:Db ops.toList=none) (hl:Gl ops.toList=some (p,al,o)) (h:Ar st (openL ops.toList)=true):RK P fn (.region id ops true) st k=RO P fn (mdOf (openL ops.toList)) (Eo (mdOf (openL ops.toList)) P (cL P)) (openL ops.toList) (openL ops.toList) st (.seq (.region id #[al,o] false) :: k):=by
 simp only [RK,RO,Y7 hs hl,if_true,h]
 cases @evOs (gM (mdOf (openL ops.toList))) P (Eo (mdOf (openL ops.toList)) P (cL P)) (openL ops.toList) (openL ops.toList) st with
 | none=>rfl
 | some s1 =>
  simp only [cont,RK,Jp]
theorem Tr [Globs] [Ext P] {M:Md} {call:Ak} {all l:List Oper} {o:Oper} : RO P fn M call all (o :: l) st k=br (Ea all st.T o) (match @evO (gM M) P call o st with|some (v,st')=>if @chkO (gM M) P all o st v st'=true then RO P fn M call all l { st' with T:=putT st'.T o.dst v } k else none|none=>none) (RO P fn M call all l { st with T:=putT st.T o.dst (.prim undef) } k):=by
 simp only [RO,evOs]
 cases Ea all st.T o with
 | none=>rfl
 | some b =>
  cases b with
  | false=>rfl
  | true =>
   simp only [br]
   cases @evO (gM M) P call o st with
   | none=>rfl
   | some x =>
    obtain ⟨v,s1⟩:=x
    simp only
    cases @chkO (gM M) P all o st v s1 <;> rfl
theorem Ab5 [Globs] [Ext P] {x:Kont} : cont P fn .ret st (x :: k)=cont P fn .ret st k:=by cases x <;> rfl
theorem Qb [Globs] [Ext P] {x:Code} {r:AV × St} (h:RK P fn x st []=some r):∃ n,outA P fn (evC P (evF P Ar n) Ar n x st)=some r:=by
 unfold RK at h
 cases he:eL P x st with
 | none=>rw [he] at h; simp at h
 | some z =>
  rw [he] at h
  obtain ⟨n,hn⟩:=Ao.1 he
  obtain ⟨e,s⟩:=z
  refine ⟨n,?_⟩
  rw [hn]
  cases e <;> exact h
def asB:AV->Option Bool|.prim (.bool t)=>some t|_=>none
theorem asB_bool {t:Bool} : asB (.prim (.bool t))=some t:=rfl
theorem RK_if [Globs] [Ext P] {c:Operand} {a b:Code} : RK P fn (.cond c a b) st k=br (asB (opv st.T c)) (RK P fn a st k) (RK P fn b st k):=by
 rw [Adz]
 generalize opv st.T c=v
 cases v with
 | prim u =>
  cases u with
  | bool t=>cases t <;> rfl
  | _=>rfl
 | _=>rfl
def fin1 (x:Option (AV × St)):Option AV:=match x with|some (r,s)=>some (w3 (fz3 0 s.S r))|none=>none
theorem fin1_some {r:AV} {s:St} : fin1 (some (r,s))=some (w3 (fz3 0 s.S r)):=rfl
def finS (b:Nat) (x:Option (AV × St)):Option (AV × List Ent × List Nat × Nat):=match x with|some (r,s)=>some (fz3 b s.S r,s.S.take b,s.tk,s.n)|none=>none
theorem finS_some {b:Nat} {r:AV} {s:St} : finS b (some (r,s))=some (fz3 b s.S r,s.S.take b,s.tk,s.n):=rfl
theorem Aen {t:Bool} {a b:Option (AV × St)} {r:AV} : fin1 (br (some t) a b)=some r↔(t=true->fin1 a=some r)/\(t=false->fin1 b=some r):=by cases t <;> simp [br]
theorem Aep {n:Nat} {t:Bool} {a b:Option (AV × St)} {r:AV × List Ent × List Nat × Nat} : finS n (br (some t) a b)=some r↔(t=true->finS n a=some r)/\(t=false->finS n b=some r):=by cases t <;> simp [br]
theorem Afz {α:Type} {t:Bool} {a b:Option α} : br (some (!t)) a b=br (some t) b a:=by cases t <;> rfl
theorem Zy [Globs] [Ext P] {ι:Type} {c:Code} (I:ι->St->Prop) (μ:ι->Nat) (G:ι->AV) (h:∀ x st,I x st->(∀ y st',μ y<μ x->I y st'->fin1 (RK P fn (.loop c) st' k)=some (G y))->fin1 (RK P fn c st (.loop c st.S.length :: k))=some (G x)) {x:ι} {st:St} (h0:I x st):fin1 (RK P fn (.loop c) st k)=some (G x):=by
 have key:∀ n x st,μ x=n->I x st->fin1 (RK P fn (.loop c) st k)=some (G x):=by
  intro n
  induction n using Nat.strongRecOn with
  | _ n ih =>
   intro x st hn hI
   rw [Yb]
   exact h x st hI fun y st' hlt hy=>ih (μ y) (hn ▸ hlt) y st' rfl hy
 exact key _ x st rfl h0
theorem Xb [Globs] [Ext P] {ι:Type} {c:Code} {m:Nat} (I:ι->St->Prop) (μ:ι->Nat) (G:ι->AV × List Ent × List Nat × Nat) (h:∀ x st,I x st->(∀ y st',μ y<μ x->I y st'->finS m (RK P fn (.loop c) st' k)=some (G y))->finS m (RK P fn c st (.loop c st.S.length :: k))=some (G x)) {x:ι} {st:St} (h0:I x st):finS m (RK P fn (.loop c) st k)=some (G x):=by
 have key:∀ n x st,μ x=n->I x st->finS m (RK P fn (.loop c) st k)=some (G x):=by
  intro n
  induction n using Nat.strongRecOn with
  | _ n ih =>
   intro x st hn hI
   rw [Yb]
   exact h x st hI fun y st' hlt hy=>ih (μ y) (hn ▸ hlt) y st' rfl hy
 exact key _ x st rfl h0
theorem Ld [Globs] [Ext P] {c:Code} {as:List AV} {r:AV} (hp3:pure3 r=true) (h:fin1 (RK P fn c ⟨as++bots (fn.ntmps - as.length),[],[],0⟩ [])=some r):∃ m,runP P Ar (evF P Ar m) m fn c as=some r:=by
 rw [Lp] at h
 cases hr:RK P fn c ⟨as++List.replicate (fn.ntmps - as.length) .bot,[],[],0⟩ [] with
 | none=>rw [hr] at h; simp [fin1] at h
 | some x =>
  obtain ⟨r',s⟩:=x
  rw [hr,fin1_some] at h
  simp only [Option.some.injEq] at h
  obtain ⟨m,hm⟩:=Qb hr
  refine ⟨m,?_⟩
  unfold runP
  rw [hm]
  simp only [h,hp3,if_true]
theorem Te [Globs] [Ext P] {k m:Nat} (h:k<=m) {c:Code} {as:List AV} {r:AV} (hr:runP P Ar (evF P Ar k) k fn c as=some r):runP P Ar (evF P Ar m) m fn c as=some r:=by
 unfold runP at hr ⊢
 split at hr
 ·rename_i r' s1 ho
  rw [Hf (fun z hz=>A3 (Br h) h c _ z hz) ho]
  exact hr
 ·simp at hr
theorem Q8 [Globs] [Ext P] {f : FuncId} {c : Code} (hf : P.funcs[f]? = some fn) (hx : (Ext.on P f || Ext.mv P f) = false) (hb : fn.body = some c) (au : D7 c = false) (ao : (fn.name == "runtime.NumGoroutine") = false) {args args' : List AV} {nt : Nat} (ew : fn.ntmps = nt) (aa : args.map w2 = args') (hp : args'.all pure2 = true) {r : AV}
  (S:List Ent) (tk:List Nat) (n:Nat) (hp3:pure3 r=true) (h:fin1 (RK P fn c ⟨args'++bots (nt - args.length),[],[],0⟩ [])=some r):cL P f args S tk n=some (r,S,tk,n):=by
 subst aa ew
 obtain ⟨m,hm⟩:=Ld (as:=args.map w2) hp3 (by rw [List.length_map]; exact h)
 refine Gx.2 ⟨m+1,?_⟩
 have hn : ¬ fn.name = "runtime.NumGoroutine" := by simpa using ao
 simp only [Bool.or_eq_false_iff] at hx
 simp only [evF,hf,hb]
 rw [if_neg (by rw [hx.1]; simp),if_neg hn,if_neg (by rw [hx.2]; simp),if_pos hp,if_neg (by rw [au]; simp),hm]
theorem Pt [Globs] [Ext P] {f : FuncId} {c : Code} (hf : P.funcs[f]? = some fn) (hx : (Ext.on P f || Ext.mv P f) = false) (hb : fn.body = some c) (au : D7 c = true) (ao : (fn.name == "runtime.NumGoroutine") = false) {e : List AV} {es : List (List AV)} {args args' : List AV} {nt : Nat} (ew : fn.ntmps = nt) (aa : args.map w2 = .frz (e :: es) .unk :: args') (hp : (AV.frz (e :: es) .unk :: args').all pure2 = true) {r : AV}
  (S:List Ent) (tk:List Nat) (n:Nat) (hp3:pure3 r=true) (h:fin1 (RK P fn c ⟨(.frz (e :: es) .unk :: args')++bots (nt - (args'.length+1)),[],[],0⟩ [])=some r):cL P f args S tk n=some (r,S,tk,n):=by
 subst ew
 obtain ⟨m,hm⟩:=Ld (as:=.frz (e :: es) .unk :: args') hp3 h
 refine Gx.2 ⟨m+1,?_⟩
 have hn : ¬ fn.name = "runtime.NumGoroutine" := by simpa using ao
 simp only [Bool.or_eq_false_iff] at hx
 simp only [evF,hf,hb]
 rw [if_neg (by rw [hx.1]; simp),if_neg hn,if_neg (by rw [hx.2]; simp),if_pos (by rw [aa]; exact hp),if_pos au,aa]
 simp only [runN,hm]
theorem Q7 [Globs] [Ext P] {f : FuncId} {c : Code} (hf : P.funcs[f]? = some fn) (hx : (Ext.on P f || Ext.mv P f) = false) (hb : fn.body = some c) (au : D7 c = true) (ao : (fn.name == "runtime.NumGoroutine") = false) {args args' : List AV} {nt : Nat} (ew : fn.ntmps = nt) (aa : args.map w2 = .frz [] .unk :: args') (hp : args'.all pure2 = true)
  (S:List Ent) (tk:List Nat) (n:Nat) (h1:fin1 (RK P fn c ⟨(.frz [] .nl :: args')++bots (nt - (args'.length+1)),[],[],0⟩ [])=some (.frz [] .unk)) (h2:fin1 (RK P fn c ⟨(.frz [] .nn :: args')++bots (nt - (args'.length+1)),[],[],0⟩ [])=some (.frz [] .unk)):cL P f args S tk n=some (.frz [] .unk,S,tk,n):=by
 subst ew
 obtain ⟨m1,qt⟩:=Ld (as:=.frz [] .nl :: args') rfl h1
 obtain ⟨m2,qu⟩:=Ld (as:=.frz [] .nn :: args') rfl h2
 refine Gx.2 ⟨max m1 m2+1,?_⟩
 have hn : ¬ fn.name = "runtime.NumGoroutine" := by simpa using ao
 simp only [Bool.or_eq_false_iff] at hx
 simp only [evF,hf,hb]
 rw [if_neg (by rw [hx.1]; simp),if_neg hn,if_neg (by rw [hx.2]; simp),if_pos (by rw [aa]; simpa [pure2,pure1] using hp),if_pos au,aa]
 simp only [runN,Te (Nat.le_max_left m1 m2) qt,Te (Nat.le_max_right m1 m2) qu]
theorem Lq [Globs] [Ext P] {f : FuncId} {c : Code} (hf : P.funcs[f]? = some fn) (hx : (Ext.on P f || Ext.mv P f) = false) (hb : fn.body = some c) (ao : (fn.name == "runtime.NumGoroutine") = false) {args : List AV} {nt : Nat} (ew : fn.ntmps = nt) (hp : (args.map w2).all pure2 = false) {S : List Ent} {tk : List Nat} {n : Nat} {r : AV × List Ent × List Nat × Nat}
  (h:finS S.length (RK P fn c ⟨args++bots (nt - args.length),S,tk,n⟩ [])=some r):cL P f args S tk n=some r:=by
 subst ew
 rw [Lp] at h
 cases hr:RK P fn c ⟨args++List.replicate (fn.ntmps - args.length) .bot,S,tk,n⟩ [] with
 | none=>rw [hr] at h; simp [finS] at h
 | some x =>
  obtain ⟨r',s⟩:=x
  rw [hr,finS_some] at h
  obtain ⟨m,hm⟩:=Qb hr
  refine Gx.2 ⟨m+1,?_⟩
  have hn : ¬ fn.name = "runtime.NumGoroutine" := by simpa using ao
  simp only [Bool.or_eq_false_iff] at hx
  simp only [evF,hf,hb]
  rw [if_neg (by rw [hx.1]; simp),if_neg hn,if_neg (by rw [hx.2]; simp),if_neg (by rw [hp]; simp),hm]
  exact h
def finM (x:Option (AV × St)):Option (AV × List Ent × List Nat × Nat):=match x with|some (r,s)=>some (r,s.S,s.tk,s.n)|none=>none
theorem finM_some {r:AV} {s:St} : finM (some (r,s))=some (r,s.S,s.tk,s.n):=rfl
theorem Aeo {t:Bool} {a b:Option (AV × St)} {r:AV × List Ent × List Nat × Nat} : finM (br (some t) a b)=some r↔(t=true->finM a=some r)/\(t=false->finM b=some r):=by cases t <;> simp [br]
theorem Aeg [Globs] [Ext P] {f : FuncId} {c : Code} (hf : P.funcs[f]? = some fn) (hx : (!Ext.on P f && Ext.mv P f) = true) (hb : fn.body = some c) (ao : (fn.name == "runtime.NumGoroutine") = false) {args : List AV} {nt : Nat} (ew : fn.ntmps = nt) {S : List Ent} {tk : List Nat} {n : Nat} {r : AV × List Ent × List Nat × Nat}
  (h:finM (RK P fn c ⟨args++bots (nt - args.length),S,tk,n⟩ [])=some r):cL P f args S tk n=some r:=by
 subst ew
 rw [Lp] at h
 cases hr:RK P fn c ⟨args++List.replicate (fn.ntmps - args.length) .bot,S,tk,n⟩ [] with
 | none=>rw [hr] at h; simp [finM] at h
 | some x =>
  obtain ⟨r',s⟩:=x
  rw [hr,finM_some] at h
  obtain ⟨m,hm⟩:=Qb hr
  refine Gx.2 ⟨m+1,?_⟩
  have hn : ¬ fn.name = "runtime.NumGoroutine" := by simpa using ao
  simp only [Bool.and_eq_true,Bool.not_eq_true'] at hx
  simp only [evF,hf,hb]
  rw [if_neg (by rw [hx.1]; simp),if_neg hn,if_pos hx.2,hm]
  exact h
theorem K7 [Globs] [Ext P] {f:FuncId} (hf:Ext.on P f=true) {args:List AV} {S:List Ent} {tk:List Nat} {n:Nat} {r:AV × List Ent × List Nat × Nat} (h:Ext.call P f args S tk n=some r):cL P f args S tk n=some r:=by
 refine Gx.2 ⟨1,?_⟩
 rw [T4 hf]
 unfold extC
 rw [if_pos hf]; exact h
theorem K8 [Ext P] [Globs] [Qn P] {f:FuncId} {args:List AV} {S:List Ent} {tk:List Nat} {n:Nat} {r:AV} {S':List Ent} {tk':List Nat} {n':Nat} (hm:P.follows .mixedOrders=true) (h:cL P f args S tk n=some (r,S',tk',n')) {C:Cx} {vs:Array Value} (h1:C.S=S) (h2:C.tk=tk) (h3:C.n=n) (hs:SR C) (hv:VRs C args vs.toList) :
  Calls P f vs C.w fun e w'=>∃ v C',e=.returned v/\C'.w=w'/\Le C C'/\SR C'/\C'.S=S'/\C'.tk=tk'/\C'.n=n'/\VR C' r v:=by
 obtain ⟨k,hk⟩:=Gx.1 h
 exact (Rh (Re hm) k _ _ _ _ _ _ _ _ _ hk).2 C vs h1 h2 h3 hs hv
end
end
end Go.Proofs.YthelkgdmgihhiaaGreatDoor
