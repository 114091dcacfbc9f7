/- Part 15. -/
import Derived.OpenShut
import Derived.ChangeArms
import Derived.Test.YthelkgdmgihhiaaGreatZW14
namespace Go.Proofs.YthelkgdmgihhiaaGreat
section
open Go
inductive Sh (P:Program):TypeId->List AV->Prop
 | bool {t b} : P.underlying t=some .bool->Sh P t [.prim (.bool b)]
 | int {t k n} : P.underlying t=some (.int k)->(Lit.int k n).wf=true->Sh P t [.prim (.int k n)]
 | str {t s} : P.underlying t=some .string->s.size<=maxLen->Sh P t [.prim (.string s)]
 | slice {t e es} : P.underlying t=some (.slice e)->(∀ x ∈ es,Sh P e x)->es.length<=maxLen->Sh P t [.frz es .unk]
 | struct {t fs} {pss:List (List AV)} : P.underlying t=some (.struct fs)->pss.length=fs.size->(∀ i f p,fs[i]?=some f->nth pss i=some p->Sh P f.type p)->Sh P t pss.flatten
 | array {t n e} {pss:List (List AV)} : P.underlying t=some (.array n e)->pss.length=n->(∀ p ∈ pss,Sh P e p)->Sh P t pss.flatten
def Ms (P:Program):List Field->Nat->Nat->Bool
 | [],o,n=>o == n
 | f :: fs,o,n=>f.offset == o && Ms P fs (o+P.cellsOf f.type) n
def Vj (P:Program) (F:List TypeId) (t:TypeId):Bool :=
 match P.underlying t with
 | some .bool=>true
 | some (.int k)=>k != .u64
 | some .string=>true
 | some (.slice e)=>F.contains e && decide (0<P.cellsOf e)
 | some (.struct fs)=>Ms P fs.toList 0 (P.cellsOf t) && fs.toList.all fun f=>F.contains f.type
 | some (.array n e)=>F.contains e && P.cellsOf t == n*P.cellsOf e
 | _=>false
def Ny (P:Program) (F:List TypeId):Bool:=F.all (Vj P F)
def J2:AV->Bool
 | .prim (.int k _)=>k != .u64
 | .prim _=>true
 | .frz _ _=>true
 | _=>false
theorem W4 {w:World} {A:Nat->Nat->Prop} {b:Nat} : ∀ (vs:List Value) (o:Nat),(∀ j v,nth vs j=some v->w.cell? ⟨b,o+j,none⟩=some v/\¬ A b (o+j))->Lie w A b o vs
 | [],_,_=>trivial
 | v :: vs,o,h=>by
  have h0:=h 0 v rfl
  refine ⟨h0.1,h0.2,W4 vs (o+1) fun j u hu=>?_⟩
  have:=h (j+1) u hu
  rwa [show o+(j+1)=o+1+j by omega] at this
theorem Pr {w:World} {A:Nat->Nat->Prop} {b sz:Nat} : ∀ (es:List (List AV)) (o:Nat),(∀ i e,nth es i=some e->e.length=sz/\∃ vs,Lie w A b (o+i*sz) vs/\PRs w A e vs)->An w A b sz o es
 | [],_,_=>by simp only [An]
 | e :: es,o,h=>by
  simp only [An]
  have h0:=h 0 e rfl
  rw [Nat.zero_mul,Nat.add_zero] at h0
  refine ⟨h0.1,h0.2,Pr es (o+sz) fun i f hf=>?_⟩
  have:=h (i+1) f hf
  rwa [show o+(i+1)*sz=o+sz+i*sz by rw [Nat.add_mul]; omega] at this
theorem Ns {w:World} {A:Nat->Nat->Prop} : ∀ {cs ds:List AV} {us vs:List Value},PRs w A cs us->PRs w A ds vs->PRs w A (cs++ds) (us++vs)
 | [],_,[],_,_,h=>h
 | _ :: _,_,_ :: _,_,h1,h2=>by simp only [PRs,List.cons_append] at h1 ⊢; exact ⟨h1.1,Ns h1.2 h2⟩
 | [],_,_ :: _,_,h1,_=>by simp only [PRs] at h1
 | _ :: _,_,[],_,h1,_=>by simp only [PRs] at h1
theorem Qa {w:World} {A:Nat->Nat->Prop} : ∀ {cs:List AV} {vs:List Value},PRs w A cs vs->(∀ c ∈ cs,J2 c=true)->∀ v ∈ vs,∀ n,v≠.int .u64 n
 | [],[],_,_,v,hv=>by simp at hv
 | c :: cs,x :: vs,h,hg,v,hv=>by
  simp only [PRs] at h
  rcases List.mem_cons.1 hv with rfl|hv
  ·intro n e
   subst e
   have hc:=hg c (by simp)
   have hp:=h.1
   cases c with
   | prim y=>simp only [PR] at hp; rw [<- hp.1] at hc; simp [J2] at hc
   | frz es q=>cases q <;> simp only [PR] at hp; obtain ⟨a,l,q,e,-⟩:=hp; cases e
   | _=>simp [J2] at hc
  ·exact Qa h.2 (fun d hd=>hg d (by simp [hd])) v hv
 | [],_ :: _,h,_,_,_=>by simp only [PRs] at h
 | _ :: _,[],h,_,_,_=>by simp only [PRs] at h
theorem Pa {α β:Type} {f:α->Option β} : ∀ {l:List α} {ys:List β},l.mapM f=some ys->ys.length=l.length/\∀ i x y,nth l i=some x->nth ys i=some y->f x=some y
 | [],ys,h=>by simp at h; subst h; exact ⟨rfl,fun i x y hx=>by simp [nth] at hx⟩
 | a :: l,ys,h=>by
  rw [List.mapM_cons] at h
  simp only [Option.pure_def,Option.bind_eq_bind,Option.bind_eq_some_iff] at h
  obtain ⟨b,hb,bs,mh,e⟩:=h
  simp only [Option.some.injEq] at e
  subst e
  obtain ⟨h1,h2⟩:=Pa mh
  refine ⟨by simp [h1],fun i x y hx hy=>?_⟩
  cases i with
  | zero=>simp only [nth,Option.some.injEq] at hx hy; subst hx hy; exact hb
  | succ i=>exact h2 i x y hx hy
theorem Nd {n i:Nat} (h:i<n):nth (List.range n) i=some i:=by rw [Aa,List.getElem?_range h]
theorem V9 {w:World} {b off n:Nat} {vs:List Value} (h:w.cells? 0 ⟨b,off,none⟩ n=some vs):vs.length=n/\∀ j v,nth vs j=some v->w.cell? ⟨b,off+j,none⟩=some v:=by
 unfold World.cells? at h
 rw [if_pos (Nat.zero_le _)] at h
 obtain ⟨h1,h2⟩:=Pa h
 rw [List.length_range] at h1
 refine ⟨h1,fun j v hv=>?_⟩
 have hj:j<n:=by have:=A2 hv; omega
 have:=h2 j j v (Nd hj) hv
 unfold Addr.add at this
 split at this
 ·rename_i h0; subst h0; exact this
 ·exact this
theorem spot0 {w:World} {a:Addr} {v:Value} (h:w.cell? a=some v):a.spot=none:=by
 unfold World.cell? at h
 split at h
 ·split at h
  ·cases h
  ·rename_i hs; simpa using hs
 ·cases h
section
variable {H:Type} {enc:TypeId × Value->H} {P:Program} {w:World} {sp:Nat->Bool} {ci:Bool} {A:Nat->Nat->Prop} {F:List TypeId}
def Rd (P:Program) (w:World) (A:Nat->Nat->Prop) (t:TypeId) (cs:List Value) (avs:List AV):Prop:=Sh P t avs/\PRs w A avs cs/\∀ c ∈ avs,J2 c=true
theorem M0 {n:Nat} {cs:List Value} (ih:∀ t ds x,t ∈ F->DataW.trod enc P w 0 sp ci n t ds=some x->∃ avs,Rd P w A t ds avs) :
  ∀ (fs:List Field) (o:Nat) (xs:List (DataW H × List MemPlace)),Ms P fs o cs.length=true->(∀ f ∈ fs,f.type ∈ F)->xs.length=fs.length ->
   (∀ i f,nth fs i=some f->DataW.trod enc P w 0 sp ci n f.type ((cs.drop f.offset).take (P.cellsOf f.type))=nth xs i) ->
   ∃ pss:List (List AV),pss.length=fs.length/\(∀ i f p,nth fs i=some f->nth pss i=some p->Sh P f.type p)/\PRs w A pss.flatten (cs.drop o)/\∀ c ∈ pss.flatten,J2 c=true
 | [],o,xs,hc,_,_,_=>by
  simp only [Ms,beq_iff_eq] at hc
  exact ⟨[],rfl,fun i f p hf=>by simp [nth] at hf,by rw [hc,List.drop_length]; simp only [List.flatten_nil,PRs],by simp⟩
 | f :: fs,o,xs,hc,hF,hl,h=>by
  simp only [Ms,Bool.and_eq_true,beq_iff_eq] at hc
  obtain ⟨ho,hc⟩:=hc
  cases xs with
  | nil=>simp at hl
  | cons x xs =>
  have h0:=h 0 f rfl
  obtain ⟨avs,s1,p1,g1⟩:=ih _ _ _ (hF f (by simp)) h0
  obtain ⟨pss,l2,s2,p2,g2⟩:=M0 ih fs (o+P.cellsOf f.type) xs hc (fun g hg=>hF g (by simp [hg])) (by simpa using hl) fun i g hg=>h (i+1) g hg
  refine ⟨avs :: pss,by simp [l2],fun i g p hg hp=>?_,?_,?_⟩
  ·cases i with
   | zero=>simp only [nth,Option.some.injEq] at hg hp; subst hg hp; exact s1
   | succ i=>exact s2 i g p hg hp
  ·rw [ho] at p1
   have e:cs.drop o=(cs.drop o).take (P.cellsOf f.type)++cs.drop (o+P.cellsOf f.type):=by
    rw [<- List.drop_drop,List.take_append_drop]
   rw [e,List.flatten_cons]
   exact Ns p1 p2
  ·intro c hc
   rw [List.flatten_cons] at hc
   rcases List.mem_append.1 hc with hc|hc
   ·exact g1 c hc
   ·exact g2 c hc
theorem P3 {n sz:Nat} {e:TypeId} {cs:List Value} (ih:∀ t ds x,t ∈ F->DataW.trod enc P w 0 sp ci n t ds=some x->∃ avs,Rd P w A t ds avs) (he:e ∈ F) :
  ∀ (k o:Nat),cs.length=o+k*sz->(∀ i,i<k->∃ x,DataW.trod enc P w 0 sp ci n e ((cs.drop (o+i*sz)).take sz)=some x) ->
   ∃ pss:List (List AV),pss.length=k/\(∀ p ∈ pss,Sh P e p)/\PRs w A pss.flatten (cs.drop o)/\∀ c ∈ pss.flatten,J2 c=true
 | 0,o,hl,_=>⟨[],rfl,by simp,by rw [List.drop_eq_nil_of_le (by omega)]; simp only [List.flatten_nil,PRs],by simp⟩
 | k+1,o,hl,h=>by
  obtain ⟨x,h0⟩:=h 0 (by omega)
  rw [Nat.zero_mul,Nat.add_zero] at h0
  obtain ⟨avs,s1,p1,g1⟩:=ih _ _ _ he h0
  obtain ⟨pss,l2,s2,p2,g2⟩:=P3 (sz:=sz) ih he k (o+sz) (by rw [hl,Nat.add_mul]; omega) fun i hi=>by
   have:=h (i+1) (by omega)
   rwa [show o+(i+1)*sz=o+sz+i*sz by rw [Nat.add_mul]; omega] at this
  refine ⟨avs :: pss,by simp [l2],fun p hp=>?_,?_,?_⟩
  ·rcases List.mem_cons.1 hp with rfl|hp
   ·exact s1
   ·exact s2 p hp
  ·have e:cs.drop o=(cs.drop o).take sz++cs.drop (o+sz):=by rw [<- List.drop_drop,List.take_append_drop]
   rw [e,List.flatten_cons]
   exact Ns p1 p2
  ·intro c hc
   rw [List.flatten_cons] at hc
   rcases List.mem_append.1 hc with hc|hc
   ·exact g1 c hc
   ·exact g2 c hc
theorem Vi (hF:Ny P F=true) (hA:∀ b o v,A b o->w.cell? ⟨b,o,none⟩=some v->∃ n,v=.int .u64 n):∀ (fuel:Nat) (t:TypeId) (cs:List Value) (x:DataW H × List MemPlace),t ∈ F->DataW.trod enc P w 0 sp ci fuel t cs=some x->∃ avs,Rd P w A t cs avs
 | 0,_,_,_,_,h=>by simp [DataW.trod] at h
 | n+1,t,cs,x,ht,h=>by
  have b4:Vj P F t=true:=List.all_eq_true.1 hF t ht
  have ih:∀ t ds x,t ∈ F->DataW.trod enc P w 0 sp ci n t ds=some x->∃ avs,Rd P w A t ds avs:=fun t ds x ht h=>Vi hF hA n t ds x ht h
  unfold Vj at b4
  split at b4
  ·rename_i hu
   obtain ⟨b,rfl,-⟩:=DataW.trod_bool hu h
   exact ⟨[.prim (.bool b)],.bool hu,by simp [PRs,PR,Value.oneCell'],by simp [J2]⟩
  ·rename_i k hu
   obtain ⟨q,rfl,-,hw⟩:=DataW.trod_int hu h
   exact ⟨[.prim (.int k q)],.int hu hw,by simp [PRs,PR,Value.oneCell'],by simpa [J2] using b4⟩
  ·rename_i hu
   obtain ⟨s,rfl,-,hw⟩:=DataW.trod_string hu h
   exact ⟨[.prim (.string s)],.str hu hw,by simp [PRs,PR,Value.oneCell'],by simp [J2]⟩
  ·rename_i e hu
   simp only [Bool.and_eq_true,decide_eq_true_eq] at b4
   obtain ⟨b4,hpos⟩:=b4
   have he:e ∈ F:=by simpa using b4
   rcases DataW.trod_slice hu h with ⟨rfl,-⟩|⟨a,len,cap,elems,rest,n',hn,rfl,-,-,hl,hcap,rq,hi,-,-⟩
   ·exact ⟨[.frz [] .unk],.slice hu (by simp) (by simp),by simp only [PRs,PR,and_true]; exact ⟨none,0,0,rfl,rfl,Nat.le_refl _,.inl trivial⟩,by simp [J2]⟩
   ·simp only [Nat.add_right_cancel_iff] at hn
    subst hn
    have jj:∀ i,i<len->∃ vs avs,w.cells? 0 (a.add (i*P.cellsOf e)) (P.cellsOf e)=some vs/\Rd P w A e vs avs:=fun i cz=>by
     have h1:=hi i cz
     rw [List.getElem?_eq_getElem (by omega)] at h1
     obtain ⟨vs,h2,h3⟩:=Option.bind_eq_some_iff.1 h1
     obtain ⟨avs,h4⟩:=ih _ _ _ he h3
     exact ⟨vs,avs,h2,h4⟩
    have ez:∃ es:List (List AV),es.length=len/\∀ i av,nth es i=some av->∃ vs,w.cells? 0 (a.add (i*P.cellsOf e)) (P.cellsOf e)=some vs/\Rd P w A e vs av:=by
     clear hi rq hl hcap h
     induction len with
     | zero=>exact ⟨[],rfl,fun i av az=>by simp [nth] at az⟩
     | succ len ihl =>
      obtain ⟨es,l1,l2⟩:=ihl fun i cz=>jj i (by omega)
      obtain ⟨vs,avs,h1,h2⟩:=jj len (by omega)
      refine ⟨es++[avs],by simp [l1],fun i av az=>?_⟩
      rw [Aa] at az
      rcases Nat.lt_or_ge i len with hlt|de
      ·rw [List.getElem?_append_left (by omega),<- Aa] at az; exact l2 i av az
      ·rw [List.getElem?_append_right (by omega),l1] at az
       have:i - len=0:=by
        rcases Nat.eq_zero_or_pos (i - len) with h0|h0
        ·exact h0
        ·rw [List.getElem?_eq_none (by simp; omega)] at az; cases az
       rw [this] at az
       have e1:i=len:=by omega
       simp only [List.getElem?_cons_zero,Option.some.injEq] at az
       subst az e1
       exact ⟨vs,h1,h2⟩
    obtain ⟨es,l1,l2⟩:=ez
    refine ⟨[.frz es .unk],.slice hu (fun x hx=>?_) (by omega),?_,by simp [J2]⟩
    ·obtain ⟨i,hx⟩:=List.mem_iff_getElem?.1 hx
     obtain ⟨vs,-,h1,-⟩:=l2 i x (by rw [Aa]; exact hx)
     exact h1
    ·simp only [PRs,PR,and_true]
     refine ⟨some a,len,cap,rfl,l1,hl,?_⟩
     by_cases hlen:es=[]
     ·exact .inl hlen
     right
     have eo:0<len:=by
      rcases Nat.eq_zero_or_pos len with h0|h0
      ·rw [h0] at l1; exact absurd (List.length_eq_zero_iff.1 l1) hlen
      ·exact h0
     obtain ⟨b,off,spt⟩:=a
     have ef:spt=none:=by
      obtain ⟨vs,avs,h1,-⟩:=jj 0 eo
      rw [Nat.zero_mul] at h1
      unfold World.cells? at h1
      rw [if_pos (Nat.zero_le _)] at h1
      obtain ⟨h2,h3⟩:=Pa h1
      rw [List.length_range] at h2
      obtain ⟨v,hv⟩:=Aj (l:=vs) (i:=0) (by omega)
      have h4:=h3 0 0 v (Nd hpos) hv
      exact spot0 (a:=(⟨b,off,spt⟩:Addr)) h4
     subst ef
     have ja:∀ i,(⟨b,off,none⟩:Addr).add i=⟨b,off+i,none⟩:=fun i=>by
      unfold Addr.add
      split
      ·rename_i h0; rw [h0]; rfl
      ·rfl
     refine ⟨b,off,P.cellsOf e,rfl,Pr es off fun i av az=>?_⟩
     obtain ⟨vs,h1,eg,fa,hgd⟩:=l2 i av az
     rw [ja] at h1
     obtain ⟨h2,h3⟩:=V9 h1
     refine ⟨by rw [E4 fa,h2],vs,W4 vs _ fun j v hv=>⟨h3 j v hv,fun ha=>?_⟩,fa⟩
     obtain ⟨q,hq⟩:=hA _ _ v ha (h3 j v hv)
     exact Qa fa hgd v (List.mem_of_getElem? (by rw [Aa] at hv; exact hv)) q hq
  ·rename_i fs hu
   simp only [Bool.and_eq_true] at b4
   obtain ⟨xs,n',hn,-,hlen,j0,hi⟩:=DataW.trod_struct hu h
   simp only [Nat.add_right_cancel_iff] at hn
   subst hn
   rw [<- hlen] at b4
   obtain ⟨pss,l1,l2,l3,l4⟩:=M0 ih fs.toList 0 xs b4.1 (fun f hf=>by simpa using List.all_eq_true.1 b4.2 f hf) (by simpa using j0) fun i f hf=>by
    rw [Aa] at hf ⊢
    exact hi i f (by simpa using hf)
   rw [List.drop_zero] at l3
   exact ⟨pss.flatten,.struct hu (by simpa using l1) (fun i f p hf hp=>l2 i f p (by rw [Aa]; simpa using hf) hp),l3,l4⟩
  ·rename_i k e hu
   simp only [Bool.and_eq_true,beq_iff_eq] at b4
   obtain ⟨b4,hsz⟩:=b4
   have he:e ∈ F:=by simpa using b4
   obtain ⟨xs,n',hn,-,hlen,j0,hi⟩:=DataW.trod_array hu h
   simp only [Nat.add_right_cancel_iff] at hn
   subst hn
   obtain ⟨pss,l1,l2,l3,l4⟩:=P3 (sz:=P.cellsOf e) ih he k 0 (by rw [hlen,hsz]; omega) fun i rr=>by
    have:=hi i rr
    rw [List.getElem?_eq_getElem (by omega)] at this
    rw [Nat.zero_add]
    exact ⟨_,this⟩
   rw [List.drop_zero] at l3
   exact ⟨pss.flatten,.array hu l1 l2,l3,l4⟩
  ·cases b4
theorem Yo (hF:Ny P F=true) (hA:∀ b o v,A b o->w.cell? ⟨b,o,none⟩=some v->∃ n,v=.int .u64 n) {t:TypeId} {v:Value} {d:DataW H} {p:List MemPlace} (ht:t ∈ F) (h:DataW.Trod enc P w 0 sp ci t v d p):∃ avs,Sh P t avs/\PRs w A avs v.cells.toList:=by
 obtain ⟨fuel,hf⟩:=h
 obtain ⟨avs,h1,h2,-⟩:=Vi hF hA fuel t _ _ ht hf
 exact ⟨avs,h1,h2⟩
theorem Yq {t:TypeId} {avs:List AV} (hu:P.underlying t=some .bool) (h:Sh P t avs):∃ b,avs=[.prim (.bool b)]:=by
 cases h <;> rename_i h <;> rw [hu] at h <;> cases h
 exact ⟨_,rfl⟩
theorem Zz {t:TypeId} {avs:List AV} (hu:P.underlying t=some .string) (h:Sh P t avs):∃ s:ByteArray,avs=[.prim (.string s)]/\s.size<=maxLen:=by
 cases h with
 | str _ h=>exact ⟨_,rfl,h⟩
 | bool h|int h|slice h|struct h|array h=>rw [hu] at h; cases h
theorem Xo {t:TypeId} {k:IntKind} {avs:List AV} (hu:P.underlying t=some (.int k)) (h:Sh P t avs):∃ n,avs=[.prim (.int k n)]/\(Lit.int k n).wf=true:=by
 cases h with
 | int h h'=>rw [hu] at h; cases h; exact ⟨_,rfl,h'⟩
 | bool h|str h|slice h|struct h|array h=>rw [hu] at h; cases h
theorem W1 {t e:TypeId} {avs:List AV} (hu:P.underlying t=some (.slice e)) (h:Sh P t avs):∃ es,avs=[.frz es .unk]/\(∀ x ∈ es,Sh P e x)/\es.length<=maxLen:=by
 cases h with
 | slice h h' hl=>rw [hu] at h; cases h; exact ⟨_,rfl,h',hl⟩
 | bool h|str h|int h|struct h|array h=>rw [hu] at h; cases h
theorem U4 {t:TypeId} {fs:Array Field} {avs:List AV} (hu:P.underlying t=some (.struct fs)) (h:Sh P t avs):∃ pss:List (List AV),avs=pss.flatten/\pss.length=fs.size/\∀ i f p,fs[i]?=some f->nth pss i=some p->Sh P f.type p:=by
 cases h with
 | struct h h1 h2=>rw [hu] at h; cases h; exact ⟨_,rfl,h1,h2⟩
 | bool h|str h|int h|slice h|array h=>rw [hu] at h; cases h
theorem Hy {t:TypeId} {f0 f1:Field} {avs:List AV} (hu:P.underlying t=some (.struct #[f0,f1])) (h:Sh P t avs):∃ p0 p1,avs=p0++p1/\Sh P f0.type p0/\Sh P f1.type p1:=by
 obtain ⟨pss,rfl,hl,hp⟩:=U4 hu h
 match pss,hl with
 | [p0,p1],_=>exact ⟨p0,p1,by simp,hp 0 f0 p0 rfl rfl,hp 1 f1 p1 rfl rfl⟩
theorem Xk {α:Type} {f:α->List AV} {Q:α->Prop} : ∀ {es:List (List AV)},(∀ x ∈ es,∃ c,x=f c/\Q c)->∃ cs:List α,es=cs.map f/\∀ c ∈ cs,Q c
 | [],_=>⟨[],rfl,by simp⟩
 | x :: es,h=>by
  obtain ⟨c,hc,hq⟩:=h x (by simp)
  obtain ⟨cs,h1,h2⟩:=Xk (es:=es) fun y hy=>h y (by simp [hy])
  exact ⟨c :: cs,by rw [h1,hc]; rfl,fun d hd=>by
   rcases List.mem_cons.1 hd with rfl|hd
   ·exact hq
   ·exact h2 d hd⟩
theorem Zc {C:Cx} {avs:List AV} {xs:Array Value} (h:PRs C.w C.Avoid avs (Value.agg xs).cells.toList):VR C (.agg avs) (.agg xs):=by
 simp only [VR]; exact ⟨xs,rfl,D3 h⟩
end
end
section
open Go Tryz Go.RowKit
theorem Lie.other {w:World} {A A':Nat->Nat->Prop} {b:Nat} (h:∀ o,¬ A' b o):∀ {vs:List Value} {o:Nat},Lie w A b o vs->Lie w A' b o vs
 | [],_,_=>trivial
 | _ :: _,_,⟨h1,_,h3⟩=>⟨h1,h _,Lie.other h h3⟩
theorem An.other {w:World} {A A':Nat->Nat->Prop} {b:Nat} (h:∀ o,¬ A' b o):∀ (l:List Int) (o:Nat),An w A b 1 o (l.map digC)->An w A' b 1 o (l.map digC)
 | [],_,_=>by simp only [List.map_nil,An]
 | x :: l,o,hr=>by
  simp only [List.map_cons,An] at hr ⊢
  obtain ⟨h1,⟨vs,h2,h3⟩,h4⟩:=hr
  refine ⟨h1,⟨vs,h2.other h,?_⟩,An.other h l _ h4⟩
  match vs,h3 with
  | [v],h3 =>
   simp only [digC,PRs,PR,and_true] at h3 ⊢
   exact h3
theorem Y1 {C:Cx} (hs:SR C) {l:List Int} {c:Cap} {v:Value} (h:VR C (.frz (l.map digC) c) v):RD C.w v l:=by
 simp only [VR] at h
 obtain ⟨a,len,cap,rfl,h1,h2,-,h4⟩:=h
 simp only [RD,digA,VR]
 refine ⟨a,len,cap,rfl,h1,h2,trivial,h4.imp id ?_⟩
 rintro ⟨b,o,sz,ea,hr⟩
 exact ⟨b,o,sz,ea,An.stays (A:=C.Avoid) (fun b' o' v hv ha=>⟨hv,Lg⟩) b sz o _ hr⟩
theorem Mj {C:Cx} (hs:SR C) {w':World} {v:Value} {l:List Int} (h:RD w' v l) (hn:NewB C.w.heap.size v):VR (C.at w') (digA l) v:=by
 obtain ⟨a,cap,rfl,h2,hc⟩:=E5 h
 by_cases hl:l=[]
 ·subst hl
  simp only [digA,List.map_nil,VR]
  exact ⟨a,0,cap,rfl,rfl,Nat.zero_le _,trivial,.inl trivial⟩
 ·simp only [RD,digA,VR] at h ⊢
  obtain ⟨a',len,cap',e,h1,h3,-,h4⟩:=h
  refine ⟨a',len,cap',e,h1,h3,trivial,.inr ?_⟩
  rcases h4 with h4|⟨b,o,sz,ea,hr⟩
  ·exact absurd (by simpa using h4) hl
  ·have hsz:sz=1:=by
    cases l with
    | nil=>exact absurd rfl hl
    | cons y l=>simp only [List.map_cons,An,digC] at hr; exact hr.1.symm
   subst hsz
   subst ea
   have hb:=hn b o _ _ e
   exact ⟨b,o,1,rfl,An.other (fun o' ha=>by
    rcases ha with ha|ha
    ·have:=hs.avlt b o' ha; omega
    ·have:=Uo hs (show C.Mut b o' from ha); omega) l o hr⟩
theorem Xu {C:Cx} {vs:Array Value} (hs:SR C) (l r:List Int) (c d:Cap) (hl:l=dig (val l).toNat) (hr:r=dig (val r).toNat) (n8:r≠[]) (h1:l.length<=90000) (h2:r.length<=90000) (hv:VRs C [.frz (l.map digC) c,.frz (r.map digC) d] vs.toList) :
  Calls prog 228 vs C.w fun e w'=>∃ v C',e=.returned v/\C'.w=w'/\Le C C'/\SR C'/\C'.S=C.S/\C'.tk=C.tk/\C'.n=C.n/\VR C' (.tup [digA (dig ((val l).toNat / (val r).toNat)),digA (dig ((val l).toNat % (val r).toNat))]) v:=by
 obtain ⟨vl⟩:=vs
 match vl,hv with
 | [x,y],hv =>
 simp only [VRs,and_true] at hv
 obtain ⟨hx,hy⟩:=hv
 have hb0:0<(val r).toNat:=by
  rcases Nat.eq_zero_or_pos (val r).toNat with h|h
  ·rw [h,Ed] at hr; exact absurd hr n8
  ·exact h
 have rt:0<C.w.heap.size:=by
  simp only [VR] at hy
  obtain ⟨a,len,cap,rfl,h1,h2,-,h4⟩:=hy
  rcases h4 with h4|⟨b,o,sz,rfl,hr⟩
  ·exact absurd (by simpa using h4) n8
  ·cases r with
   | nil=>exact absurd rfl n8
   | cons z r =>
    simp only [List.map_cons,An,digC] at hr
    obtain ⟨-,⟨vs,di,hp⟩,-⟩:=hr
    match vs,hp with
    | [u],_=>exact Nat.lt_of_le_of_lt (Nat.zero_le _) (Bw di.1)
 refine (Nj C.w x y (val l).toNat (val r).toNat rt (by rw [<- hl]; exact Y1 hs hx) (by rw [<- hr]; exact Y1 hs hy) hb0 (by rw [<- hl]; exact h1) (by rw [<- hr]; exact h2)).mono ?_
 rintro e w' ⟨v1,v2,rfl,g1,g2,hb,n1,n2⟩
 refine ⟨_,C.at w',rfl,rfl,Le.of_below hb,SR.of_below hs hb,rfl,rfl,rfl,?_⟩
 unfold VR
 refine ⟨_,rfl,?_⟩
 simp only [VRs,and_true]
 refine ⟨Mj hs g1 n1,?_⟩
 rcases n2 with ⟨rfl,e2⟩|n2
 ·rw [e2,<- hl]
  have ip:=VR.mono (Le.of_below hb) _ _ hx
  simp only [digA,VR] at ip ⊢
  obtain ⟨a,len,cap,q1,q2,q3,-,q4⟩:=ip
  exact ⟨a,len,cap,q1,q2,q3,trivial,q4⟩
 ·exact Mj hs g2 n2
theorem Gw:∀ {es:List (List AV)} {l:List Int},H4 es=some l->es=l.map digC
 | [],l,h=>by simp only [H4,Option.some.injEq] at h; subst h; rfl
 | e :: es,l,h=>by
  unfold H4 at h
  split at h
  ·rename_i he; simp at he
  ·rename_i x r he
   simp only [List.cons.injEq] at he
   obtain ⟨rfl,rfl⟩:=he
   simp only [Option.map_eq_some_iff] at h
   obtain ⟨l',h1,rfl⟩:=h
   rw [Gw h1]; rfl
  ·simp at h
theorem Wy {l r:List Int} {v:AV} (h:quoF l r=some v):l=dig (val l).toNat/\r=dig (val r).toNat/\r≠[]/\l.length<=90000/\r.length<=90000/\v=.tup [digA (dig ((val l).toNat / (val r).toNat)),digA (dig ((val l).toNat % (val r).toNat))]:=by
 unfold quoF at h
 split at h
 ·rename_i hh
  simp only [Option.some.injEq] at h
  exact ⟨hh.1,hh.2.1,hh.2.2.1,hh.2.2.2.1,hh.2.2.2.2,h.symm⟩
 ·simp at h
theorem Qn {args:List AV} {S:List Ent} {tk:List Nat} {n:Nat} {r:AV} {S':List Ent} {tk':List Nat} {n':Nat} (h:quoC args S tk n=some (r,S',tk',n')):∃ l y c d,args=[.frz (l.map digC) c,.frz (y.map digC) d]/\quoF l y=some r/\S'=S/\tk'=tk/\n'=n:=by
 unfold quoC at h
 split at h
 ·rename_i es c ys d
  split at h
  ·rename_i l y hl hy
   split at h
   ·rename_i v hv
    simp only [Option.some.injEq,Prod.mk.injEq] at h
    obtain ⟨rfl,rfl,rfl,rfl⟩:=h
    exact ⟨l,y,c,d,by rw [Gw hl,Gw hy],hv,rfl,rfl,rfl⟩
   ·simp at h
  ·simp at h
 ·simp at h
theorem Qw {args:List AV} {S:List Ent} {tk:List Nat} {n:Nat} {r:AV} {S':List Ent} {tk':List Nat} {n':Nat} (h:uniC args S tk n=some (r,S',tk',n')):∃ l c,args=[.frz (l.map strC) c,.frz [] .nilc]/\l.length<=1000000/\(!l.isEmpty || Qe c)=true/\r=Rw (uniS l)/\S'=S/\tk'=tk/\n'=n:=by
 unfold uniC at h
 split at h
 ·rename_i es c
  split at h
  ·rename_i l hl
   split at h
   ·rename_i hlen
    simp only [Bool.and_eq_true,decide_eq_true_eq] at hlen
    simp only [Option.some.injEq,Prod.mk.injEq] at h
    obtain ⟨rfl,rfl,rfl,rfl⟩:=h
    exact ⟨l,c,by rw [Kl hl],hlen.1,hlen.2,rfl,rfl,rfl,rfl⟩
   ·simp at h
  ·simp at h
 ·simp at h
theorem Zw {l y:List Int} {c d:Cap} {r:AV} (hq:quoF l y=some r) (S:List Ent) (tk:List Nat) (n:Nat):quoC [.frz (l.map digC) c,.frz (y.map digC) d] S tk n=some (r,S,tk,n):=by simp [quoC,K4,hq]
theorem Z7 {l:List ByteArray} {c:Cap} (hlen:l.length<=1000000) (hc:(!l.isEmpty || Qe c)=true) (S:List Ent) (tk:List Nat) (n:Nat):uniC [.frz (l.map strC) c,.frz [] .nilc] S tk n=some (Rw (uniS l),S,tk,n):=by
 simp only [uniC,Lf]
 rw [if_pos (by rw [hc]; simpa using hlen)]
theorem Mz {f:FuncId} {args:List AV} {S:List Ent} {tk:List Nat} {n:Nat} {r:AV} {S':List Ent} {tk':List Nat} {n':Nat} (h:@extC prog E1 f args S tk n=some (r,S',tk',n')) :
  (f=78/\uniC args S tk n=some (r,S',tk',n'))\/(f=228/\quoC args S tk n=some (r,S',tk',n')):=by
 unfold extC at h
 split at h
 ·simp only [Ext.call] at h
  split at h
  ·rename_i hf; exact .inl ⟨by simpa using hf,h⟩
  ·split at h
   ·rename_i hf; exact .inr ⟨by simpa using hf,h⟩
   ·simp at h
 ·simp at h
theorem Wi (args:List AV) (S:List Ent) (tk:List Nat) (n:Nat):@extC prog E1 78 args S tk n=uniC args S tk n:=by
 simp [extC,Ext.on,Ext.call]
theorem Wh (args:List AV) (S:List Ent) (tk:List Nat) (n:Nat):@extC prog E1 228 args S tk n=quoC args S tk n:=by
 simp [extC,Ext.on,Ext.call]
@[reducible] noncomputable instance E1i:Ext prog:=E1
instance ok1:Qx prog:={
 ok:=fun f args S tk n r S' tk' n' h=>by
  rcases Mz h with ⟨rfl,hh⟩|⟨rfl,hh⟩
  ·obtain ⟨l,c,rfl,hlen,hc,rfl,rfl,rfl,rfl⟩:=Qw hh
   refine ⟨⟨_,func78,by decide +kernel,by decide +kernel⟩,fun C vs h1 h2 h3 hs hv=>?_⟩
   subst h1 h2 h3
   refine Te hs l c hlen (fun e=>?_) hv
   subst e
   cases c <;> simp [Qe] at hc
   rfl
  ·obtain ⟨l,y,c,d,rfl,hq,rfl,rfl,rfl⟩:=Qn hh
   refine ⟨⟨_,func228,by decide +kernel,by decide +kernel⟩,fun C vs h1 h2 h3 hs hv=>?_⟩
   subst h1 h2 h3
   obtain ⟨q1,q2,q3,q4,q5,rfl⟩:=Wy hq
   exact Xu hs l y c d q1 q2 q3 q4 q5 hv
 indep:=fun M f args S tk n r S' tk' n' h=>by
  unfold Bk at h
  split at h
  ·rename_i hp
   rcases Mz h with ⟨rfl,hh⟩|⟨rfl,hh⟩
   ·obtain ⟨l,c,rfl,hlen,hc,rfl,rfl,rfl,rfl⟩:=Qw hh
    refine ⟨rfl,rfl,.inr ⟨rfl,fun S2 tk2 n2=>?_⟩⟩
    unfold Bk
    rw [if_pos hp,Wi]
    exact Z7 hlen hc S2 tk2 n2
   ·obtain ⟨l,y,c,d,rfl,hq,rfl,rfl,rfl⟩:=Qn hh
    refine ⟨rfl,rfl,.inr ⟨rfl,fun S2 tk2 n2=>?_⟩⟩
    unfold Bk
    rw [if_pos hp,Wh]
    exact Zw hq S2 tk2 n2
  ·simp at h }
end
section
open Go
end
section
open Go
end
section
open Go Tryz
theorem ext_mv1 (f:FuncId) (h:mvF0 f=false):Ext.mv prog f=false:=h
set_option linter.defProp false in
def ev1:=And.intro ext_mv1 ev0
end
section
open Go
end
section
open Go
end
section
open Go
end
section
open Go
structure Xs (n d:Int):Prop where
 pos:0<d
 cop:n.natAbs.gcd d.natAbs=1
 ln:(dig n.natAbs).length<=200
 ld:(dig d.natAbs).length<=200
end
section
open Go
end
section
open Go
end
section
open Go
theorem Xs.neg {n d:Int} (h:Xs n d):Xs (-n) d:=by
 have e:(-n).natAbs=n.natAbs:=by omega
 exact ⟨h.pos,by rw [e]; exact h.cop,by rw [e]; exact h.ln,h.ld⟩
end
section
open Go
end
section
open Go
end
section
open Go
end
section
open Go
end
section
open Go
theorem Kq {l:List Int} {i:Nat} {x:Int} (h:i<l.length):(l.set i x).drop i=x :: l.drop (i+1):=by
 rw [Bl (Nf h)]
 congr 1
 rw [List.drop_set]; simp
theorem K9 (n:Nat):okD (List.replicate n 0):=fun d hd=>by
 have:=(List.mem_replicate.1 hd).2; omega
structure Jo (A:Nat) (b:Int) (m:Nat) (r:Int) (out:List Int):Prop where
 len:out.length=(dig A).length
 ok:okD out
 r0:0<=r/\r<b
 eqv:val ((dig A).drop m)=val (out.drop m)*b+r
theorem Jo.start {A:Nat} {b:Int} (h:0<b):Jo A b (dig A).length 0 (List.replicate (dig A).length 0):=by
 refine ⟨by simp,K9 _,by omega,?_⟩
 rw [List.drop_length,List.drop_eq_nil_of_le (by simp)]; simp [val]
theorem Jo.step {A:Nat} {b:Int} {m:Nat} {r x:Int} {out:List Int} (h:Jo A b m r out) (hm:m≠0) (od:m<=(dig A).length) (hx:nth (dig A) (m - 1)=some x) :
  Jo A b (m - 1) ((r*10000+x).tmod b) (out.set (m - 1) ((r*10000+x).tdiv b))/\0<=(r*10000+x).tdiv b/\(r*10000+x).tdiv b<10000/\0<=(r*10000+x).tmod b/\(r*10000+x).tmod b<b:=by
 have hr:=h.r0
 have hxk:=Dy (Bo A) hx
 have hn:0<=r*10000+x:=by omega
 have e1:(r*10000+x).tdiv b=(r*10000+x) / b:=Int.tdiv_eq_ediv_of_nonneg hn
 have e2:(r*10000+x).tmod b=(r*10000+x) % b:=Int.tmod_eq_emod_of_nonneg hn
 have m0:=Int.emod_nonneg (r*10000+x) (show b≠0 by omega)
 have m1:=Int.emod_lt_of_pos (r*10000+x) (show 0<b by omega)
 have q0:0<=(r*10000+x) / b:=Int.ediv_nonneg hn (by omega)
 have q1:(r*10000+x) / b<10000:=Int.ediv_lt_of_lt_mul (by omega) (by omega)
 have nw:m - 1+1=m:=by omega
 have hlen:m - 1<out.length:=by have:=h.len; omega
 rw [e1,e2]
 refine ⟨⟨by rw [List.length_set]; exact h.len,L0 h.ok q0 q1,⟨m0,m1⟩,?_⟩,q0,q1,m0,m1⟩
 have hv:=h.eqv
 rw [Bl hx,Kq hlen,val,val,nw,hv]
 have hd:=Int.emod_add_mul_ediv (r*10000+x) b
 rw [Int.add_mul,Int.mul_add,<- Int.mul_assoc,Int.mul_comm ((r*10000+x) / b)]
 generalize b*((r*10000+x) / b)=t at *
 generalize (r*10000+x) % b=u at *
 rw [Int.mul_assoc]
 generalize val (out.drop m)*b=w at *
 omega
theorem Yc {A B Q R:Int} (h:A=Q*B+R) (h0:0<=R) (h1:R<B):A / B=Q/\A % B=R:=by
 have hb:0<B:=by omega
 subst h
 constructor
 ·rw [Int.add_comm,Int.add_mul_ediv_right _ _ (by omega),Int.ediv_eq_zero_of_lt h0 h1]; omega
 ·rw [Int.add_comm,Int.add_mul_emod_self_right,Int.emod_eq_of_lt h0 h1]
theorem Wd {A B:Nat} {Q R:Int} (h:(A:Int)=Q*B+R) (h0:0<=R) (h1:R<B):Q=((A / B:Nat):Int)/\R=((A % B:Nat):Int):=by
 obtain ⟨e1,e2⟩:=Yc h h0 h1
 rw [<- e1,<- e2]; exact ⟨rfl,rfl⟩
theorem Jo.done {A B:Nat} {r:Int} {out:List Int} (h:Jo A B 0 r out):A8 out=dig (A / B)/\r.toNat=A % B:=by
 have hv:=h.eqv
 rw [List.drop_zero,List.drop_zero,Bf] at hv
 obtain ⟨e1,e2⟩:=Wd hv h.r0.1 h.r0.2
 rw [Bv h.ok,e1]
 exact ⟨by congr 1,by omega⟩
theorem Uu (n:Nat):((10000 ^ n:Nat):Int)=(10000:Int) ^ n:=Int.natCast_pow ..
structure Dg (a d z i:Nat) (c:Int) (out:List Int):Prop where
 len:out.length=z+i
 ok:okD out
 c0:0<=c/\c<=9999
 eqv:val out+10000 ^ (z+i)*(c+d*val ((dig a).drop i))=(a*d*10000 ^ z:Nat)
theorem Dg.start (a d z:Nat):Dg a d z 0 0 (List.replicate z 0):=by
 refine ⟨by simp,K9 _,by omega,?_⟩
 rw [Dd,List.drop_zero,Bf,Int.natCast_mul,Int.natCast_mul,Uu,Nat.add_zero,Int.zero_add,Int.zero_add,Int.mul_comm,Int.mul_comm (a:Int)]
theorem Yl {x d:Int} (h0:0<=x) (h1:x<10000) (h2:0<=d) (h3:d<10000):0<=x*d/\x*d<=99980001:=by
 have a:=Int.mul_nonneg h0 h2
 have b:=Int.mul_le_mul (a:=x) (b:=d) (c:=9999) (d:=9999) (by omega) (by omega) h2 (by omega)
 omega
theorem Dg.step {a d z i:Nat} {c x n:Int} {out:List Int} (h:Dg a d z i c out) (hd:d<10000) (hx:nth (dig a) i=some x) (hn:n=c+x*d) :
  Dg a d z (i+1) (n.tdiv 10000) (out++[n.tmod 10000])/\0<=n/\n<=99990000:=by
 have hxk:=Dy (Bo a) hx
 have hm:=Yl hxk.1 hxk.2 (Int.natCast_nonneg d) (by omega)
 have h3:=h.c0
 have e1:n.tdiv 10000=n / 10000:=Int.tdiv_eq_ediv_of_nonneg (by omega)
 have e2:n.tmod 10000=n % 10000:=Int.tmod_eq_emod_of_nonneg (by omega)
 refine ⟨⟨by simp [h.len]; omega,Jg h.ok (by omega) (by omega),by omega,?_⟩,by omega,by omega⟩
 have hv:=h.eqv
 rw [Bl hx,val] at hv
 have e3:(d:Int)*(x+10000*val ((dig a).drop (i+1)))=x*d+10000*(d*val ((dig a).drop (i+1))):=by
  rw [Int.mul_add,Int.mul_comm (d:Int) x,<- Int.mul_assoc,Int.mul_comm (d:Int) 10000,Int.mul_assoc]
 rw [e3] at hv
 have:n.tmod 10000+10000*(n.tdiv 10000+d*val ((dig a).drop (i+1)))=c+(x*d+10000*(d*val ((dig a).drop (i+1)))):=by omega
 rw [Jj,h.len,Int.add_assoc,<- Nat.add_assoc,Ge,this]
 exact hv
theorem Dg.done {a d z i:Nat} {c:Int} {out:List Int} (h:Dg a d z i c out) (hi:(dig a).length<=i) (hc:c=0):A8 out=dig (a*d*10000 ^ z):=by
 have hv:=h.eqv
 rw [List.drop_eq_nil_of_le hi,val,hc] at hv
 rw [Bv h.ok]
 congr 1
 have e:(10000:Int) ^ (z+i)*(0+d*0)=0:=by rw [Int.mul_zero,Int.add_zero,Int.mul_zero]
 rw [e] at hv
 omega
end
section
open Go
end
section
open Go
end
section
open Go
end
section
open Go
abbrev Q:=Int × Int
structure Fld where
 whole:Int->Q × Bool
 minus:Q->Q->Q × Bool
 times:Q->Q->Q × Bool
 over:Q->Q->Q × Bool
 ok:Q->Prop
 rat:Q->Q
 stop:Bool
structure Fld.Keeps (F:Fld):Prop where
 whole:∀ n,i64 n->F.ok (F.whole n).1
 minus:∀ a b,F.ok a->F.ok b->F.ok (F.minus a b).1
 times:∀ a b,F.ok a->F.ok b->F.ok (F.times a b).1
 over:∀ a b,F.ok a->F.ok b->F.ok (F.over a b).1
theorem Jv {S:List Ent} {i j e:Nat} {x:Ent} (h:i≠j):entAt (put S i x) j e=entAt S j e:=by
 simp [entAt,A0 h]
end
section
open Go
end
section
open Go
end
section
open Go
section
variable {P:Program} {fn:Func} {k:List Kont}
abbrev Rs:=AV × List Ent × List Nat × Nat
end
def FAq (S:List Ent) (iq eq:Nat) (b:Bool):Prop:=entAt S iq eq=some [.prim (.bool b)]
structure FAw (_:List Ent) (_ _:Nat) (_:Bool):Prop where
theorem FAq.put {S:List Ent} {iq eq i:Nat} {b:Bool} {x:Ent} (h:FAq S iq eq b) (hne:i≠iq):FAq (put S i x) iq eq b:=by unfold FAq; rw [Jv hne]; exact h
theorem FAw.put {S:List Ent} {iq eq i:Nat} {b:Bool} {x:Ent} (_:FAw S iq eq b) (_:i≠iq):FAw (put S i x) iq eq b:=⟨⟩
end
section
open Go
end
section
open Go
structure Tb where
 vars:Nat
 real:Nat
 rows:List (List Q)
 cost:List Q
 basis:List Nat
 flip:List Bool
 fl:Bool
def q0:Q:=(0,1)
structure TI where
 it:Nat
 et:Nat
 ir:Nat
 er:Nat
 ic:Nat
 ec:Nat
 ib:Nat
 eb:Nat
 ids:List (Nat × Nat)
structure Apart (I:TI) (iq:Nat):Prop where
 tr:I.it≠I.ir
 tc:I.it≠I.ic
 tb:I.it≠I.ib
 rc:I.ir≠I.ic
 rb:I.ir≠I.ib
 cb:I.ic≠I.ib
 qt:iq≠I.it
 qr:iq≠I.ir
 qc:iq≠I.ic
 qb:iq≠I.ib
 row:∀ p ∈ I.ids,p.1≠I.it/\p.1≠I.ir/\p.1≠I.ic/\p.1≠I.ib/\p.1≠iq
 rows:∀ i j p q,nth I.ids i=some p->nth I.ids j=some q->i≠j->p.1≠q.1
def pf (W sz:Nat) (x:Nat × Nat):AV:=.sref x.1 x.2 0 W sz
def du (id ep sz:Nat):Nat->AV
 | 0=>.frz [] .nilc
 | n+1=>.sref id ep 0 (n+1) sz
theorem Yn {α:Type} {l:List α} {i:Nat} {x:α} (h:nth l i=some x):x ∈ l:=by rw [Aa] at h; exact List.mem_of_getElem? h
theorem Q6 {S:List Ent} {n i e:Nat} (h:i<n):entAt (S.take n) i e=entAt S i e:=by
 unfold entAt
 rw [Aa,Aa,List.getElem?_take]; simp [h]
theorem FAq.take {S:List Ent} {n iq eq:Nat} {b:Bool} (h:FAq S iq eq b) (hi:iq<n):FAq (S.take n) iq eq b:=by unfold FAq; rw [Q6 hi]; exact h
theorem FAw.take {S:List Ent} {n iq eq:Nat} {b:Bool} (_:FAw S iq eq b) (_:True):FAw (S.take n) iq eq b:=⟨⟩
end
section
open Go Tryz
def Dm (c:ByteArray × Int):List AV:=[.prim (.string c.1),.prim (.int .i64 c.2)]
def Ar (cs:List (ByteArray × Int)):AV:=.frz (cs.map Dm) .unk
def linA (cs:List (ByteArray × Int)) (n:Int):AV:=.agg [Ar cs,.prim (.int .i64 n)]
def A3 (s:ByteArray):Bool:=sEq s ⟨#[]⟩ || decide ((s.size:Int) > 400)
def Eg:Option ByteArray->ByteArray->Bool
 | none,_=>false
 | some p,s=>sLt s p || sEq s p
def Ae (n:Int):Option ByteArray->List (ByteArray × Int)->Int
 | _,[]=>if inB n then 0 else 2
 | p,c :: cs=>if A3 c.1 then 3 else if c.2 == 0 || !inB c.2 then 2 else if Eg p c.1 then 9 else Ae n (some c.1) cs
def B8 (cs:List (ByteArray × Int)) (n:Int):Int:=if 24<cs.length then 7 else Ae n none cs
def Bu (cs:List (ByteArray × Int)):Nat->Option ByteArray
 | 0=>none
 | j+1=>(nth cs j).map (·.1)
section
variable (S:List Ent) (tk:List Nat) (k:Nat)
theorem Pc (n:Int):cL prog 58 [.int n] S tk k=some (.bool (inB n),S,tk,k):=by
 refine opP func58 ntmps58 ?_
 simp +contextual only [ev0,reduceIte,reduceCtorEq,Nat.reduceAdd,Nat.reduceSub,Nat.reduceBEq,Nat.reduceEqDiff,Nat.reduceMul,Nat.reduceLT,Nat.reduceLeDiff,Int.reduceNeg,AV.int,AV.bool,AV.str,results58]
 unfold inB
 exact ⟨fun h=>by simp at h ⊢; omega,fun h=>by simp at h ⊢; omega⟩
theorem R4 (n:Int):cL prog 73 [.int n] S tk k=some (.bool (inB n),S,tk,k):=by
 refine opP func73 ntmps73 ?_
 simp +contextual only [ev0,reduceIte,reduceCtorEq,Nat.reduceAdd,Nat.reduceSub,Nat.reduceBEq,Nat.reduceEqDiff,Nat.reduceMul,Nat.reduceLT,Nat.reduceLeDiff,Int.reduceNeg,AV.int,AV.bool,AV.str,results73]
 unfold inB
 exact ⟨fun h=>by simp at h ⊢; omega,fun h=>by simp at h ⊢; omega⟩
theorem Na (cs:List (ByteArray × Int)) (n:Int) (hlen:cs.length<=1048576):cL prog 33 [linA cs n] S tk k=some (.int (B8 cs n),S,tk,k):=by
 refine opP func33 ntmps33 ?_
 simp (maxSteps:=10^6)+contextual(disch:=try exact dqd)only[ev1,reduceIte,reduceCtorEq,Nat.reduceAdd,Nat.reduceSub,Nat.reduceBEq,Nat.reduceEqDiff,Nat.reduceMul,Nat.reduceLT,Nat.reduceLeDiff,Int.reduceNeg,AV.int,AV.bool,AV.str,results33,linA,Ar]
 refine ⟨fun h=>?_,fun h=>?_⟩
 ·unfold B8; rw [if_pos (by simp at h; omega)]
 have hc:B8 cs n=Ae n none cs:=by unfold B8; rw [if_neg (by simp at h; omega)]
 rw [hc]
 refine loop1 (fun i st=>st.T.length=57/\i<=cs.length/\getT st.T 1=.ref 0 0 0/\getT st.T 10=Ar cs/\getT st.T 11=.int cs.length/\getT st.T 12=.int (i:Nat)/\st.S=[⟨0,[Ar cs,.int n]⟩]) (fun i=>cs.length - i) (fun i=>.int (Ae n (Bu cs i) (cs.drop i))) 0 ?_ ?_
 case refine_2=>exact ⟨rfl,Nat.zero_le _,rfl,rfl,rfl,rfl,rfl⟩
 rintro i ⟨T,S',tk',n'⟩ ⟨hl,hi,e1,e10,e11,e12,rfl⟩ IH
 obtain ⟨g,hg,hT⟩:=Ep hl
 rw [hg] at e1 e10 e11 e12
 subst hT
 clear hg hl h hc
 by_cases hlt:i<cs.length
 ·have d1:decide ((i:Int)<(cs.length:Int))=true:=by simpa using hlt
  obtain ⟨c,hc⟩:=Aj hlt
  have bn:nth (cs.map Dm) i=some (Dm c):=by rw [Db,hc]; rfl
  have hw:=D0 (i:=i) (by omega)
  have hp:Bu cs (i+1)=some c.1:=by simp [Bu,hc]
  rw [Bl hc]
  rcases i with _|j
  ·have d2:decide (((0:Nat):Int) > 0)=false:=rfl
   simp (maxSteps:=10^6)+contextual(disch:=try exact dqd)only[ev1,reduceIte,reduceCtorEq,Nat.reduceAdd,Nat.reduceSub,Nat.reduceBEq,Nat.reduceEqDiff,Nat.reduceMul,Nat.reduceLT,Nat.reduceLeDiff,Int.reduceNeg,AV.int,AV.bool,AV.str,results33,e1,e10,e11,e12,d1,d2,Ar,bn,hw,Dm,Pc]
   refine ⟨fun h1=>?_,fun h1=>⟨fun h2=>?_,fun h2=>⟨fun h3=>?_,fun h3=>⟨fun h4=>?_,fun h4=>?_⟩⟩⟩⟩
   ·simp [Ae,A3,h1]
   ·simp only [Ae,A3,h1,h2]; rfl
   ·simp only [Ae,A3,h1,h2,h3]; rfl
   ·rw [IH 1 _ (by omega) ⟨rfl,by omega,rfl,rfl,rfl,rfl,rfl⟩,hp]
    simp only [Ae,A3,h1,h2,h3,h4,Bu,Eg]; rfl
   ·simp only [Ae,A3,h1,h2,h3,h4]; rfl
  ·have d2:decide (((j+1:Nat):Int) > 0)=true:=decide_eq_true (by omega)
   obtain ⟨p,fa⟩:=Aj (show j<cs.length by omega)
   have c5:nth (cs.map Dm) j=some (Dm p):=by rw [Db,fa]; rfl
   have n9:=Nr (j:=j) (by omega)
   have jk:Bu cs (j+1)=some p.1:=by simp [Bu,fa]
   simp (maxSteps:=10^6)+contextual(disch:=try exact dqd)only[ev1,reduceIte,reduceCtorEq,Nat.reduceAdd,Nat.reduceSub,Nat.reduceBEq,Nat.reduceEqDiff,Nat.reduceMul,Nat.reduceLT,Nat.reduceLeDiff,Int.reduceNeg,AV.int,AV.bool,AV.str,results33,e1,e10,e11,e12,d1,d2,Ar,bn,hw,Dm,Pc,c5,n9]
   refine ⟨fun h1=>?_,fun h1=>⟨fun h2=>?_,fun h2=>⟨fun h3=>?_,fun h3=>⟨fun h4=>?_,fun h4=>?_⟩⟩⟩⟩
   ·simp [Ae,A3,h1]
   ·simp only [Ae,A3,h1,h2]; rfl
   ·simp only [Ae,A3,h1,h2,h3]; rfl
   ·refine ⟨fun h5=>?_,fun h5=>?_⟩
    ·simp only [Ae,A3,h1,h2,h3,h4,jk,Eg,h5]; rfl
    ·rw [IH (j+1+1) _ (by omega) ⟨rfl,by omega,rfl,rfl,rfl,rfl,rfl⟩,hp]
     simp only [Ae,A3,h1,h2,h3,h4,jk,Eg,h5]; rfl
   ·simp only [Ae,A3,h1,h2,h3,h4]; rfl
 ·have d1:decide ((i:Int)<(cs.length:Int))=false:=by simpa using hlt
  have he:i=cs.length:=by omega
  simp (maxSteps:=10^6)+contextual(disch:=try exact dqd)only[ev1,reduceIte,reduceCtorEq,Nat.reduceAdd,Nat.reduceSub,Nat.reduceBEq,Nat.reduceEqDiff,Nat.reduceMul,Nat.reduceLT,Nat.reduceLeDiff,Int.reduceNeg,AV.int,AV.bool,AV.str,results33,e1,e10,e11,e12,d1,Ar,Pc]
  rw [he,List.drop_length]
  exact ⟨fun h=>by simp [Ae,h],fun h=>by simp [Ae,h]⟩
theorem R5 (cs:List (ByteArray × Int)) (n:Int) (hlen:cs.length<=1048576):cL prog 35 [linA cs n] S tk k=some (.int (B8 cs n),S,tk,k):=by
 refine opP func35 ntmps35 ?_
 simp (maxSteps:=10^6)+contextual(disch:=try exact dqd)only[ev1,reduceIte,reduceCtorEq,Nat.reduceAdd,Nat.reduceSub,Nat.reduceBEq,Nat.reduceEqDiff,Nat.reduceMul,Nat.reduceLT,Nat.reduceLeDiff,Int.reduceNeg,AV.int,AV.bool,AV.str,results35,linA,Ar]
 refine ⟨fun h=>?_,fun h=>?_⟩
 ·unfold B8; rw [if_pos (by simp at h; omega)]
 have hc:B8 cs n=Ae n none cs:=by unfold B8; rw [if_neg (by simp at h; omega)]
 rw [hc]
 refine loop1 (fun i st=>st.T.length=60/\i<=cs.length/\getT st.T 1=.ref 0 0 0/\getT st.T 3=.int (i:Nat)/\st.S=[⟨0,[Ar cs,.int n]⟩]) (fun i=>cs.length - i) (fun i=>.int (Ae n (Bu cs i) (cs.drop i))) 0 ?_ ?_
 case refine_2=>exact ⟨rfl,Nat.zero_le _,rfl,rfl,rfl⟩
 rintro i ⟨T,S',tk',n'⟩ ⟨hl,hi,e1,e3,rfl⟩ IH
 obtain ⟨g,hg,hT⟩:=Ep hl
 rw [hg] at e1 e3
 subst hT
 clear hg hl h hc
 by_cases hlt:i<cs.length
 ·have d1:decide ((i:Int)<(cs.length:Int))=true:=by simpa using hlt
  obtain ⟨c,hc⟩:=Aj hlt
  have bn:nth (cs.map Dm) i=some (Dm c):=by rw [Db,hc]; rfl
  have hw:=D0 (i:=i) (by omega)
  have hp:Bu cs (i+1)=some c.1:=by simp [Bu,hc]
  rw [Bl hc]
  rcases i with _|j
  ·have d2:decide (((0:Nat):Int) > 0)=false:=rfl
   simp (maxSteps:=10^6)+contextual(disch:=try exact dqd)only[ev1,reduceIte,reduceCtorEq,Nat.reduceAdd,Nat.reduceSub,Nat.reduceBEq,Nat.reduceEqDiff,Nat.reduceMul,Nat.reduceLT,Nat.reduceLeDiff,Int.reduceNeg,AV.int,AV.bool,AV.str,results35,e1,e3,d1,d2,Ar,bn,hw,Dm,R4]
   refine ⟨fun h1=>?_,fun h1=>⟨fun h2=>?_,fun h2=>⟨fun h3=>?_,fun h3=>⟨fun h4=>?_,fun h4=>?_⟩⟩⟩⟩
   ·simp [Ae,A3,h1]
   ·simp only [Ae,A3,h1,h2]; rfl
   ·simp only [Ae,A3,h1,h2,h3]; rfl
   ·rw [IH 1 _ (by omega) ⟨rfl,by omega,rfl,rfl,rfl⟩,hp]
    simp only [Ae,A3,h1,h2,h3,h4,Bu,Eg]; rfl
   ·simp only [Ae,A3,h1,h2,h3,h4]; rfl
  ·have d2:decide (((j+1:Nat):Int) > 0)=true:=decide_eq_true (by omega)
   obtain ⟨p,fa⟩:=Aj (show j<cs.length by omega)
   have c5:nth (cs.map Dm) j=some (Dm p):=by rw [Db,fa]; rfl
   have n9:=Nr (j:=j) (by omega)
   have jk:Bu cs (j+1)=some p.1:=by simp [Bu,fa]
   simp (maxSteps:=10^6)+contextual(disch:=try exact dqd)only[ev1,reduceIte,reduceCtorEq,Nat.reduceAdd,Nat.reduceSub,Nat.reduceBEq,Nat.reduceEqDiff,Nat.reduceMul,Nat.reduceLT,Nat.reduceLeDiff,Int.reduceNeg,AV.int,AV.bool,AV.str,results35,e1,e3,d1,d2,Ar,bn,hw,Dm,R4,c5,n9]
   refine ⟨fun h1=>?_,fun h1=>⟨fun h2=>?_,fun h2=>⟨fun h3=>?_,fun h3=>⟨fun h4=>?_,fun h4=>?_⟩⟩⟩⟩
   ·simp [Ae,A3,h1]
   ·simp only [Ae,A3,h1,h2]; rfl
   ·simp only [Ae,A3,h1,h2,h3]; rfl
   ·refine ⟨fun h5=>?_,fun h5=>?_⟩
    ·simp only [Ae,A3,h1,h2,h3,h4,jk,Eg,h5]; rfl
    ·rw [IH (j+1+1) _ (by omega) ⟨rfl,by omega,rfl,rfl,rfl⟩,hp]
     simp only [Ae,A3,h1,h2,h3,h4,jk,Eg,h5]; rfl
   ·simp only [Ae,A3,h1,h2,h3,h4]; rfl
 ·have d1:decide ((i:Int)<(cs.length:Int))=false:=by simpa using hlt
  have he:i=cs.length:=by omega
  simp (maxSteps:=10^6)+contextual(disch:=try exact dqd)only[ev1,reduceIte,reduceCtorEq,Nat.reduceAdd,Nat.reduceSub,Nat.reduceBEq,Nat.reduceEqDiff,Nat.reduceMul,Nat.reduceLT,Nat.reduceLeDiff,Int.reduceNeg,AV.int,AV.bool,AV.str,results35,e1,e3,d1,Ar,R4]
  rw [he,List.drop_length]
  exact ⟨fun h=>by simp [Ae,h],fun h=>by simp [Ae,h]⟩
end
end
section
open Go
abbrev RowT:=List (ByteArray × Int) × Int × Bool
def rowC (r:RowT):List AV:=[Ar r.1,.prim (.int .i64 r.2.1),.prim (.bool r.2.2)]
def Kh (l:List RowT):AV:=.frz (l.map rowC) .unk
theorem Hz {α:Type} : ∀ {l:List α} {i:Nat} {x:α},nth l i=some x->l.take (i+1)=l.take i++[x]
 | a :: l,0,x,h=>by simp only [nth,Option.some.injEq] at h; subst h; rfl
 | a :: l,i+1,x,h=>by simp only [List.take_succ_cons,List.cons_append,Hz (l:=l) (i:=i) h]
 | [],_,_,h=>by simp [nth] at h
end
section
open Go Tryz
def nX:ByteArray:=⟨#[120]⟩
def nY:ByteArray:=⟨#[121]⟩
def lA:List RowT:=[([(nX,1),(nY,-1)],0,false),([(nX,-1)],1,false)]
def lB:List RowT:=[([(nY,1)],0,false)]
def rIt:RowT:=([(nY,-1)],1,false)
def kzB (n:Int):List AV:=[.prim (.bool (decide (n<0))),if n=0 then .frz [] .unk else .frz [[AV.int n.natAbs]] .unk]
def kzA (l:List Int):AV:=.frz (l.map kzB) .unk
def kqA (n:Int):AV:=.agg (kzB n++kzB 1)
def kq2 (x y z:Int):List AV × AV:=([kqA x,kqA y],kqA z)
def kq1 (x y:Int):List AV × AV:=([kqA x],.int y)
abbrev TabL:=List (Nat × List (List AV × AV))
def tblR:TabL:=[(139,[kq2 (-2) (-2) 0,kq2 (-2) 0 (-2),kq2 (-1) (-2) 1,kq2 (-1) (-1) 0,kq2 (-1) 0 (-1),kq2 (-1) 1 (-2),kq2 0 (-2) 2,kq2 0 (-1) 1,kq2 0 0 0,kq2 0 1 (-1),kq2 0 2 (-2),kq2 1 (-1) 2,kq2 1 0 1,kq2 1 1 0,kq2 2 0 2,kq2 2 2 0]),
 (141,[kq1 (-2) (-1),kq1 (-1) (-1),kq1 0 0,kq1 1 1,kq1 2 1]),(179,[kq2 (-1) 1 (-1),kq2 0 1 0,kq2 1 1 1]),
 (188,[kq2 (-2) (-1) 2,kq2 (-2) 0 0,kq2 (-2) 1 (-2),kq2 (-1) (-1) 1,kq2 (-1) 0 0,kq2 (-1) 1 (-1),kq2 1 (-1) (-1),kq2 1 0 0,kq2 1 1 1]),
 (178,[([kqA 0,kqA 1],.int (-1)),([kqA 1,kqA 0],.int 1)]),(138,[([.int 0],kqA 0),([.int 1],kqA 1),([.int (-1)],kqA (-1))])]
theorem Yt:Tab prog (tbT (tblR++[])):=Km H7 H7 (by kernel_rfl)
def rI (b:Bool):AV:=.tup [.bool b,.int 0]
end
end Go.Proofs.YthelkgdmgihhiaaGreat
