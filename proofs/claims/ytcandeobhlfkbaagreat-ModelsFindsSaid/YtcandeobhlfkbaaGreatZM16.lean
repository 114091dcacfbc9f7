/- Part 16. -/
import Derived.OpenShut
import Derived.ChangeArms
import Derived.Test.YtcandeobhlfkbaaGreatZM15
namespace Go.Proofs.YtcandeobhlfkbaaGreat
section
open Go
inductive Sh (P:Program):TypeId->List AV->Prop
 | bool {t b} : P.underlying t=some .bool->Sh P t [.prim (.bool b)]
 | int {t k n} : P.underlying t=some (.int k)->(Lit.int k n).wf=true->Sh P t [.prim (.int k n)]
 | str {t s} : P.underlying t=some .string->s.size<=maxLen->Sh P t [.prim (.string s)]
 | slice {t e es} : P.underlying t=some (.slice e)->(∀ x ∈ es,Sh P e x)->es.length<=maxLen->Sh P t [.frz es .unk]
 | struct {t fs} {pss:List (List AV)} : P.underlying t=some (.struct fs)->pss.length=fs.size->(∀ i f p,fs[i]?=some f->nth pss i=some p->Sh P f.type p)->Sh P t pss.flatten
 | array {t n e} {pss:List (List AV)} : P.underlying t=some (.array n e)->pss.length=n->(∀ p ∈ pss,Sh P e p)->Sh P t pss.flatten
def Xi (P:Program):List Field->Nat->Nat->Bool
 | [],o,n=>o == n
 | f :: fs,o,n=>f.offset == o && Xi P fs (o+P.cellsOf f.type) n
def Ai4 (P:Program) (F:List TypeId) (t:TypeId):Bool :=
 match P.underlying t with
 | some .bool=>true
 | some (.int k)=>k != .u64
 | some .string=>true
 | some (.slice e)=>F.contains e && decide (0<P.cellsOf e)
 | some (.struct fs)=>Xi P fs.toList 0 (P.cellsOf t) && fs.toList.all fun f=>F.contains f.type
 | some (.array n e)=>F.contains e && P.cellsOf t == n*P.cellsOf e
 | _=>false
def Ze (P:Program) (F:List TypeId):Bool:=F.all (Ai4 P F)
def Qo:AV->Bool
 | .prim (.int k _)=>k != .u64
 | .prim _=>true
 | .frz _ _=>true
 | _=>false
theorem Aly {w:World} {A:Nat->Nat->Prop} {b:Nat} : ∀ (vs:List Value) (o:Nat),(∀ j v,nth vs j=some v->w.cell? ⟨b,o+j,none⟩=some v/\¬ A b (o+j))->Lie w A b o vs
 | [],_,_=>trivial
 | v :: vs,o,h=>by
  have h0:=h 0 v rfl
  refine ⟨h0.1,h0.2,Aly vs (o+1) fun j u hu=>?_⟩
  have:=h (j+1) u hu
  rwa [show o+(j+1)=o+1+j by omega] at this
theorem Aax {w:World} {A:Nat->Nat->Prop} {b sz:Nat} : ∀ (es:List (List AV)) (o:Nat),(∀ i e,nth es i=some e->e.length=sz/\∃ vs,Lie w A b (o+i*sz) vs/\PRs w A e vs)->A5 w A b sz o es
 | [],_,_=>by simp only [A5]
 | e :: es,o,h=>by
  simp only [A5]
  have h0:=h 0 e rfl
  rw [Nat.zero_mul,Nat.add_zero] at h0
  refine ⟨h0.1,h0.2,Aax es (o+sz) fun i f hf=>?_⟩
  have:=h (i+1) f hf
  rwa [show o+(i+1)*sz=o+sz+i*sz by rw [Nat.add_mul]; omega] at this
theorem Y4 {w:World} {A:Nat->Nat->Prop} : ∀ {cs ds:List AV} {us vs:List Value},PRs w A cs us->PRs w A ds vs->PRs w A (cs++ds) (us++vs)
 | [],_,[],_,_,h=>h
 | _ :: _,_,_ :: _,_,h1,h2=>by simp only [PRs,List.cons_append] at h1 ⊢; exact ⟨h1.1,Y4 h1.2 h2⟩
 | [],_,_ :: _,_,h1,_=>by simp only [PRs] at h1
 | _ :: _,_,[],_,h1,_=>by simp only [PRs] at h1
theorem Aby {w:World} {A:Nat->Nat->Prop} : ∀ {cs:List AV} {vs:List Value},PRs w A cs vs->(∀ c ∈ cs,Qo c=true)->∀ v ∈ vs,∀ n,v≠.int .u64 n
 | [],[],_,_,v,hv=>by simp at hv
 | c :: cs,x :: vs,h,hg,v,hv=>by
  simp only [PRs] at h
  rcases List.mem_cons.1 hv with rfl|hv
  ·intro n e
   subst e
   have hc:=hg c (by simp)
   have hp:=h.1
   cases c with
   | prim y=>simp only [PR] at hp; rw [<- hp.1] at hc; simp [Qo] at hc
   | frz es q=>cases q <;> simp only [PR] at hp; obtain ⟨a,l,q,e,-⟩:=hp; cases e
   | _=>simp [Qo] at hc
  ·exact Aby h.2 (fun d hd=>hg d (by simp [hd])) v hv
 | [],_ :: _,h,_,_,_=>by simp only [PRs] at h
 | _ :: _,[],h,_,_,_=>by simp only [PRs] at h
theorem Zx {α β:Type} {f:α->Option β} : ∀ {l:List α} {ys:List β},l.mapM f=some ys->ys.length=l.length/\∀ i x y,nth l i=some x->nth ys i=some y->f x=some y
 | [],ys,h=>by simp at h; subst h; exact ⟨rfl,fun i x y hx=>by simp [nth] at hx⟩
 | a :: l,ys,h=>by
  rw [List.mapM_cons] at h
  simp only [Option.pure_def,Option.bind_eq_bind,Option.bind_eq_some_iff] at h
  obtain ⟨b,hb,bs,yb,e⟩:=h
  simp only [Option.some.injEq] at e
  subst e
  obtain ⟨h1,h2⟩:=Zx yb
  refine ⟨by simp [h1],fun i x y hx hy=>?_⟩
  cases i with
  | zero=>simp only [nth,Option.some.injEq] at hx hy; subst hx hy; exact hb
  | succ i=>exact h2 i x y hx hy
theorem Yh {n i:Nat} (h:i<n):nth (List.range n) i=some i:=by rw [Ac,List.getElem?_range h]
theorem Akd {w:World} {b off n:Nat} {vs:List Value} (h:w.cells? 0 ⟨b,off,none⟩ n=some vs):vs.length=n/\∀ j v,nth vs j=some v->w.cell? ⟨b,off+j,none⟩=some v:=by
 unfold World.cells? at h
 rw [if_pos (Nat.zero_le _)] at h
 obtain ⟨h1,h2⟩:=Zx h
 rw [List.length_range] at h1
 refine ⟨h1,fun j v hv=>?_⟩
 have hj:j<n:=by have:=Bb hv; omega
 have:=h2 j j v (Yh hj) hv
 unfold Addr.add at this
 split at this
 ·rename_i h0; subst h0; exact this
 ·exact this
theorem spot0 {w:World} {a:Addr} {v:Value} (h:w.cell? a=some v):a.spot=none:=by
 unfold World.cell? at h
 split at h
 ·split at h
  ·cases h
  ·rename_i hs; simpa using hs
 ·cases h
section
variable {H:Type} {enc:TypeId × Value->H} {P:Program} {w:World} {sp:Nat->Bool} {d7:Bool} {A:Nat->Nat->Prop} {F:List TypeId}
def Rd (P:Program) (w:World) (A:Nat->Nat->Prop) (t:TypeId) (cs:List Value) (avs:List AV):Prop:=Sh P t avs/\PRs w A avs cs/\∀ c ∈ avs,Qo c=true
theorem Xq {n:Nat} {cs:List Value} (ih:∀ t ds x,t ∈ F->DataW.trod enc P w 0 sp d7 n t ds=some x->∃ avs,Rd P w A t ds avs) :
  ∀ (fs:List Field) (o:Nat) (xs:List (DataW H × List MemPlace)),Xi P fs o cs.length=true->(∀ f ∈ fs,f.type ∈ F)->xs.length=fs.length ->
   (∀ i f,nth fs i=some f->DataW.trod enc P w 0 sp d7 n f.type ((cs.drop f.offset).take (P.cellsOf f.type))=nth xs i) ->
   ∃ pss:List (List AV),pss.length=fs.length/\(∀ i f p,nth fs i=some f->nth pss i=some p->Sh P f.type p)/\PRs w A pss.flatten (cs.drop o)/\∀ c ∈ pss.flatten,Qo c=true
 | [],o,xs,hc,_,_,_=>by
  simp only [Xi,beq_iff_eq] at hc
  exact ⟨[],rfl,fun i f p hf=>by simp [nth] at hf,by rw [hc,List.drop_length]; simp only [List.flatten_nil,PRs],by simp⟩
 | f :: fs,o,xs,hc,hF,hl,h=>by
  simp only [Xi,Bool.and_eq_true,beq_iff_eq] at hc
  obtain ⟨ho,hc⟩:=hc
  cases xs with
  | nil=>simp at hl
  | cons x xs =>
  have h0:=h 0 f rfl
  obtain ⟨avs,s1,p1,g1⟩:=ih _ _ _ (hF f (by simp)) h0
  obtain ⟨pss,l2,s2,p2,g2⟩:=Xq ih fs (o+P.cellsOf f.type) xs hc (fun g hg=>hF g (by simp [hg])) (by simpa using hl) fun i g hg=>h (i+1) g hg
  refine ⟨avs :: pss,by simp [l2],fun i g p hg hp=>?_,?_,?_⟩
  ·cases i with
   | zero=>simp only [nth,Option.some.injEq] at hg hp; subst hg hp; exact s1
   | succ i=>exact s2 i g p hg hp
  ·rw [ho] at p1
   have e:cs.drop o=(cs.drop o).take (P.cellsOf f.type)++cs.drop (o+P.cellsOf f.type):=by
    rw [<- List.drop_drop,List.take_append_drop]
   rw [e,List.flatten_cons]
   exact Y4 p1 p2
  ·intro c hc
   rw [List.flatten_cons] at hc
   rcases List.mem_append.1 hc with hc|hc
   ·exact g1 c hc
   ·exact g2 c hc
theorem Abn {n sz:Nat} {e:TypeId} {cs:List Value} (ih:∀ t ds x,t ∈ F->DataW.trod enc P w 0 sp d7 n t ds=some x->∃ avs,Rd P w A t ds avs) (he:e ∈ F) :
  ∀ (k o:Nat),cs.length=o+k*sz->(∀ i,i<k->∃ x,DataW.trod enc P w 0 sp d7 n e ((cs.drop (o+i*sz)).take sz)=some x) ->
   ∃ pss:List (List AV),pss.length=k/\(∀ p ∈ pss,Sh P e p)/\PRs w A pss.flatten (cs.drop o)/\∀ c ∈ pss.flatten,Qo c=true
 | 0,o,hl,_=>⟨[],rfl,by simp,by rw [List.drop_eq_nil_of_le (by omega)]; simp only [List.flatten_nil,PRs],by simp⟩
 | k+1,o,hl,h=>by
  obtain ⟨x,h0⟩:=h 0 (by omega)
  rw [Nat.zero_mul,Nat.add_zero] at h0
  obtain ⟨avs,s1,p1,g1⟩:=ih _ _ _ he h0
  obtain ⟨pss,l2,s2,p2,g2⟩:=Abn (sz:=sz) ih he k (o+sz) (by rw [hl,Nat.add_mul]; omega) fun i hi=>by
   have:=h (i+1) (by omega)
   rwa [show o+(i+1)*sz=o+sz+i*sz by rw [Nat.add_mul]; omega] at this
  refine ⟨avs :: pss,by simp [l2],fun p hp=>?_,?_,?_⟩
  ·rcases List.mem_cons.1 hp with rfl|hp
   ·exact s1
   ·exact s2 p hp
  ·have e:cs.drop o=(cs.drop o).take sz++cs.drop (o+sz):=by rw [<- List.drop_drop,List.take_append_drop]
   rw [e,List.flatten_cons]
   exact Y4 p1 p2
  ·intro c hc
   rw [List.flatten_cons] at hc
   rcases List.mem_append.1 hc with hc|hc
   ·exact g1 c hc
   ·exact g2 c hc
theorem Ai3 (hF:Ze P F=true) (hA:∀ b o v,A b o->w.cell? ⟨b,o,none⟩=some v->∃ n,v=.int .u64 n):∀ (fuel:Nat) (t:TypeId) (cs:List Value) (x:DataW H × List MemPlace),t ∈ F->DataW.trod enc P w 0 sp d7 fuel t cs=some x->∃ avs,Rd P w A t cs avs
 | 0,_,_,_,_,h=>by simp [DataW.trod] at h
 | n+1,t,cs,x,ht,h=>by
  have c7:Ai4 P F t=true:=List.all_eq_true.1 hF t ht
  have ih:∀ t ds x,t ∈ F->DataW.trod enc P w 0 sp d7 n t ds=some x->∃ avs,Rd P w A t ds avs:=fun t ds x ht h=>Ai3 hF hA n t ds x ht h
  unfold Ai4 at c7
  split at c7
  ·rename_i hu
   obtain ⟨b,rfl,-⟩:=DataW.trod_bool hu h
   exact ⟨[.prim (.bool b)],.bool hu,by simp [PRs,PR,Value.oneCell'],by simp [Qo]⟩
  ·rename_i k hu
   obtain ⟨q,rfl,-,hw⟩:=DataW.trod_int hu h
   exact ⟨[.prim (.int k q)],.int hu hw,by simp [PRs,PR,Value.oneCell'],by simpa [Qo] using c7⟩
  ·rename_i hu
   obtain ⟨s,rfl,-,hw⟩:=DataW.trod_string hu h
   exact ⟨[.prim (.string s)],.str hu hw,by simp [PRs,PR,Value.oneCell'],by simp [Qo]⟩
  ·rename_i e hu
   simp only [Bool.and_eq_true,decide_eq_true_eq] at c7
   obtain ⟨c7,hpos⟩:=c7
   have he:e ∈ F:=by simpa using c7
   rcases DataW.trod_slice hu h with ⟨rfl,-⟩|⟨a,len,cap,elems,rest,n',hn,rfl,-,-,hl,hcap,hel,hi,-,-⟩
   ·exact ⟨[.frz [] .unk],.slice hu (by simp) (by simp),by simp only [PRs,PR,and_true]; exact ⟨none,0,0,rfl,rfl,Nat.le_refl _,.inl trivial⟩,by simp [Qo]⟩
   ·simp only [Nat.add_right_cancel_iff] at hn
    subst hn
    have qk:∀ i,i<len->∃ vs avs,w.cells? 0 (a.add (i*P.cellsOf e)) (P.cellsOf e)=some vs/\Rd P w A e vs avs:=fun i bl=>by
     have h1:=hi i bl
     rw [List.getElem?_eq_getElem (by omega)] at h1
     obtain ⟨vs,h2,h3⟩:=Option.bind_eq_some_iff.1 h1
     obtain ⟨avs,h4⟩:=ih _ _ _ he h3
     exact ⟨vs,avs,h2,h4⟩
    have km:∃ es:List (List AV),es.length=len/\∀ i av,nth es i=some av->∃ vs,w.cells? 0 (a.add (i*P.cellsOf e)) (P.cellsOf e)=some vs/\Rd P w A e vs av:=by
     clear hi hel hl hcap h
     induction len with
     | zero=>exact ⟨[],rfl,fun i av bg=>by simp [nth] at bg⟩
     | succ len ihl =>
      obtain ⟨es,l1,l2⟩:=ihl fun i bl=>qk i (by omega)
      obtain ⟨vs,avs,h1,h2⟩:=qk len (by omega)
      refine ⟨es++[avs],by simp [l1],fun i av bg=>?_⟩
      rw [Ac] at bg
      rcases Nat.lt_or_ge i len with hlt|c9
      ·rw [List.getElem?_append_left (by omega),<- Ac] at bg; exact l2 i av bg
      ·rw [List.getElem?_append_right (by omega),l1] at bg
       have:i - len=0:=by
        rcases Nat.eq_zero_or_pos (i - len) with h0|h0
        ·exact h0
        ·rw [List.getElem?_eq_none (by simp; omega)] at bg; cases bg
       rw [this] at bg
       have e1:i=len:=by omega
       simp only [List.getElem?_cons_zero,Option.some.injEq] at bg
       subst bg e1
       exact ⟨vs,h1,h2⟩
    obtain ⟨es,l1,l2⟩:=km
    refine ⟨[.frz es .unk],.slice hu (fun x hx=>?_) (by omega),?_,by simp [Qo]⟩
    ·obtain ⟨i,hx⟩:=List.mem_iff_getElem?.1 hx
     obtain ⟨vs,-,h1,-⟩:=l2 i x (by rw [Ac]; exact hx)
     exact h1
    ·simp only [PRs,PR,and_true]
     refine ⟨some a,len,cap,rfl,l1,hl,?_⟩
     by_cases hlen:es=[]
     ·exact .inl hlen
     right
     have c8:0<len:=by
      rcases Nat.eq_zero_or_pos len with h0|h0
      ·rw [h0] at l1; exact absurd (List.length_eq_zero_iff.1 l1) hlen
      ·exact h0
     obtain ⟨b,off,spt⟩:=a
     have io:spt=none:=by
      obtain ⟨vs,avs,h1,-⟩:=qk 0 c8
      rw [Nat.zero_mul] at h1
      unfold World.cells? at h1
      rw [if_pos (Nat.zero_le _)] at h1
      obtain ⟨h2,h3⟩:=Zx h1
      rw [List.length_range] at h2
      obtain ⟨v,hv⟩:=Ab (l:=vs) (i:=0) (by omega)
      have h4:=h3 0 0 v (Yh hpos) hv
      exact spot0 (a:=(⟨b,off,spt⟩:Addr)) h4
     subst io
     have qf:∀ i,(⟨b,off,none⟩:Addr).add i=⟨b,off+i,none⟩:=fun i=>by
      unfold Addr.add
      split
      ·rename_i h0; rw [h0]; rfl
      ·rfl
     refine ⟨b,off,P.cellsOf e,rfl,Aax es off fun i av bg=>?_⟩
     obtain ⟨vs,h1,jy,j8,hgd⟩:=l2 i av bg
     rw [qf] at h1
     obtain ⟨h2,h3⟩:=Akd h1
     refine ⟨by rw [Ke j8,h2],vs,Aly vs _ fun j v hv=>⟨h3 j v hv,fun ha=>?_⟩,j8⟩
     obtain ⟨q,hq⟩:=hA _ _ v ha (h3 j v hv)
     exact Aby j8 hgd v (List.mem_of_getElem? (by rw [Ac] at hv; exact hv)) q hq
  ·rename_i fs hu
   simp only [Bool.and_eq_true] at c7
   obtain ⟨xs,n',hn,-,hlen,s0,hi⟩:=DataW.trod_struct hu h
   simp only [Nat.add_right_cancel_iff] at hn
   subst hn
   rw [<- hlen] at c7
   obtain ⟨pss,l1,l2,l3,l4⟩:=Xq ih fs.toList 0 xs c7.1 (fun f hf=>by simpa using List.all_eq_true.1 c7.2 f hf) (by simpa using s0) fun i f hf=>by
    rw [Ac] at hf ⊢
    exact hi i f (by simpa using hf)
   rw [List.drop_zero] at l3
   exact ⟨pss.flatten,.struct hu (by simpa using l1) (fun i f p hf hp=>l2 i f p (by rw [Ac]; simpa using hf) hp),l3,l4⟩
  ·rename_i k e hu
   simp only [Bool.and_eq_true,beq_iff_eq] at c7
   obtain ⟨c7,hsz⟩:=c7
   have he:e ∈ F:=by simpa using c7
   obtain ⟨xs,n',hn,-,hlen,s0,hi⟩:=DataW.trod_array hu h
   simp only [Nat.add_right_cancel_iff] at hn
   subst hn
   obtain ⟨pss,l1,l2,l3,l4⟩:=Abn (sz:=P.cellsOf e) ih he k 0 (by rw [hlen,hsz]; omega) fun i iu=>by
    have:=hi i iu
    rw [List.getElem?_eq_getElem (by omega)] at this
    rw [Nat.zero_add]
    exact ⟨_,this⟩
   rw [List.drop_zero] at l3
   exact ⟨pss.flatten,.array hu l1 l2,l3,l4⟩
  ·cases c7
theorem Aoc (hF:Ze P F=true) (hA:∀ b o v,A b o->w.cell? ⟨b,o,none⟩=some v->∃ n,v=.int .u64 n) {t:TypeId} {v:Value} {d:DataW H} {p:List MemPlace} (ht:t ∈ F) (h:DataW.Trod enc P w 0 sp d7 t v d p):∃ avs,Sh P t avs/\PRs w A avs v.cells.toList:=by
 obtain ⟨fuel,hf⟩:=h
 obtain ⟨avs,h1,h2,-⟩:=Ai3 hF hA fuel t _ _ ht hf
 exact ⟨avs,h1,h2⟩
theorem Aon {t:TypeId} {avs:List AV} (hu:P.underlying t=some .bool) (h:Sh P t avs):∃ b,avs=[.prim (.bool b)]:=by
 cases h <;> rename_i h <;> rw [hu] at h <;> cases h
 exact ⟨_,rfl⟩
theorem Aqd {t:TypeId} {avs:List AV} (hu:P.underlying t=some .string) (h:Sh P t avs):∃ s:ByteArray,avs=[.prim (.string s)]/\s.size<=maxLen:=by
 cases h with
 | str _ h=>exact ⟨_,rfl,h⟩
 | bool h|int h|slice h|struct h|array h=>rw [hu] at h; cases h
theorem Amj {t:TypeId} {k:IntKind} {avs:List AV} (hu:P.underlying t=some (.int k)) (h:Sh P t avs):∃ n,avs=[.prim (.int k n)]/\(Lit.int k n).wf=true:=by
 cases h with
 | int h h'=>rw [hu] at h; cases h; exact ⟨_,rfl,h'⟩
 | bool h|str h|slice h|struct h|array h=>rw [hu] at h; cases h
theorem Acx {t e:TypeId} {avs:List AV} (hu:P.underlying t=some (.slice e)) (h:Sh P t avs):∃ es,avs=[.frz es .unk]/\(∀ x ∈ es,Sh P e x)/\es.length<=maxLen:=by
 cases h with
 | slice h h' hl=>rw [hu] at h; cases h; exact ⟨_,rfl,h',hl⟩
 | bool h|str h|int h|struct h|array h=>rw [hu] at h; cases h
theorem Aio {t:TypeId} {fs:Array Field} {avs:List AV} (hu:P.underlying t=some (.struct fs)) (h:Sh P t avs):∃ pss:List (List AV),avs=pss.flatten/\pss.length=fs.size/\∀ i f p,fs[i]?=some f->nth pss i=some p->Sh P f.type p:=by
 cases h with
 | struct h h1 h2=>rw [hu] at h; cases h; exact ⟨_,rfl,h1,h2⟩
 | bool h|str h|int h|slice h|array h=>rw [hu] at h; cases h
theorem Nr {t:TypeId} {f0 f1:Field} {avs:List AV} (hu:P.underlying t=some (.struct #[f0,f1])) (h:Sh P t avs):∃ p0 p1,avs=p0++p1/\Sh P f0.type p0/\Sh P f1.type p1:=by
 obtain ⟨pss,rfl,hl,hp⟩:=Aio hu h
 match pss,hl with
 | [p0,p1],_=>exact ⟨p0,p1,by simp,hp 0 f0 p0 rfl rfl,hp 1 f1 p1 rfl rfl⟩
theorem Ahs {α:Type} {f:α->List AV} {Q:α->Prop} : ∀ {es:List (List AV)},(∀ x ∈ es,∃ c,x=f c/\Q c)->∃ cs:List α,es=cs.map f/\∀ c ∈ cs,Q c
 | [],_=>⟨[],rfl,by simp⟩
 | x :: es,h=>by
  obtain ⟨c,hc,hq⟩:=h x (by simp)
  obtain ⟨cs,h1,h2⟩:=Ahs (es:=es) fun y hy=>h y (by simp [hy])
  exact ⟨c :: cs,by rw [h1,hc]; rfl,fun d hd=>by
   rcases List.mem_cons.1 hd with rfl|hd
   ·exact hq
   ·exact h2 d hd⟩
theorem Ap4 {C:Cx} {c:AV} {v:Value} (hv:v.cells.toList=[v]) (h:PRs C.w C.Avoid [c] v.cells.toList):VR C c v:=by
 rw [hv] at h; simp only [PRs,and_true] at h; exact Uw h
end
end
section
open Go Tryz Go.RowKit
theorem Lie.other {w:World} {A A':Nat->Nat->Prop} {b:Nat} (h:∀ o,¬ A' b o):∀ {vs:List Value} {o:Nat},Lie w A b o vs->Lie w A' b o vs
 | [],_,_=>trivial
 | _ :: _,_,⟨h1,_,h3⟩=>⟨h1,h _,Lie.other h h3⟩
theorem A5.other {w:World} {A A':Nat->Nat->Prop} {b:Nat} (h:∀ o,¬ A' b o):∀ (l:List Int) (o:Nat),A5 w A b 1 o (l.map digC)->A5 w A' b 1 o (l.map digC)
 | [],_,_=>by simp only [List.map_nil,A5]
 | x :: l,o,hr=>by
  simp only [List.map_cons,A5] at hr ⊢
  obtain ⟨h1,⟨vs,h2,h3⟩,h4⟩:=hr
  refine ⟨h1,⟨vs,h2.other h,?_⟩,A5.other h l _ h4⟩
  match vs,h3 with
  | [v],h3 =>
   simp only [digC,PRs,PR,and_true] at h3 ⊢
   exact h3
theorem Ao7 {C:Cx} (hs:SR C) {l:List Int} {c:Cap} {v:Value} (h:VR C (.frz (l.map digC) c) v):RD C.w v l:=by
 simp only [VR] at h
 obtain ⟨a,len,cap,rfl,h1,h2,-,h4⟩:=h
 simp only [RD,digA,VR]
 refine ⟨a,len,cap,rfl,h1,h2,trivial,h4.imp id ?_⟩
 rintro ⟨b,o,sz,ea,hr⟩
 exact ⟨b,o,sz,ea,A5.stays (A:=C.Avoid) (fun b' o' v hv ha=>⟨hv,Ue⟩) b sz o _ hr⟩
theorem Wv {C:Cx} (hs:SR C) {w':World} {v:Value} {l:List Int} (h:RD w' v l) (hn:NewB C.w.heap.size v):VR (C.at w') (digA l) v:=by
 obtain ⟨a,cap,rfl,h2,hc⟩:=Kf h
 by_cases hl:l=[]
 ·subst hl
  simp only [digA,List.map_nil,VR]
  exact ⟨a,0,cap,rfl,rfl,Nat.zero_le _,trivial,.inl trivial⟩
 ·simp only [RD,digA,VR] at h ⊢
  obtain ⟨a',len,cap',e,h1,h3,-,h4⟩:=h
  refine ⟨a',len,cap',e,h1,h3,trivial,.inr ?_⟩
  rcases h4 with h4|⟨b,o,sz,ea,hr⟩
  ·exact absurd (by simpa using h4) hl
  ·have hsz:sz=1:=by
    cases l with
    | nil=>exact absurd rfl hl
    | cons y l=>simp only [List.map_cons,A5,digC] at hr; exact hr.1.symm
   subst hsz
   subst ea
   have hb:=hn b o _ _ e
   exact ⟨b,o,1,rfl,A5.other (fun o' ha=>by
    rcases ha with ha|ha
    ·have:=hs.avlt b o' ha; omega
    ·have:=Acb hs (show C.Mut b o' from ha); omega) l o hr⟩
theorem Amm {C:Cx} {vs:Array Value} (hs:SR C) (l r:List Int) (c d:Cap) (hl:l=dig (val l).toNat) (hr:r=dig (val r).toNat) (mq:r≠[]) (h1:l.length<=90000) (h2:r.length<=90000) (hv:VRs C [.frz (l.map digC) c,.frz (r.map digC) d] vs.toList) :
  Calls prog 174 vs C.w fun e w'=>∃ v C',e=.returned v/\C'.w=w'/\Le C C'/\SR C'/\C'.S=C.S/\C'.tk=C.tk/\C'.n=C.n/\VR C' (.tup [digA (dig ((val l).toNat / (val r).toNat)),digA (dig ((val l).toNat % (val r).toNat))]) v:=by
 obtain ⟨vl⟩:=vs
 match vl,hv with
 | [x,y],hv =>
 simp only [VRs,and_true] at hv
 obtain ⟨hx,hy⟩:=hv
 have hb0:0<(val r).toNat:=by
  rcases Nat.eq_zero_or_pos (val r).toNat with h|h
  ·rw [h,Dc] at hr; exact absurd hr mq
  ·exact h
 have ve:0<C.w.heap.size:=by
  simp only [VR] at hy
  obtain ⟨a,len,cap,rfl,h1,h2,-,h4⟩:=hy
  rcases h4 with h4|⟨b,o,sz,rfl,hr⟩
  ·exact absurd (by simpa using h4) mq
  ·cases r with
   | nil=>exact absurd rfl mq
   | cons z r =>
    simp only [List.map_cons,A5,digC] at hr
    obtain ⟨-,⟨vs,gg,hp⟩,-⟩:=hr
    match vs,hp with
    | [u],_=>exact Nat.lt_of_le_of_lt (Nat.zero_le _) (Dn gg.1)
 refine (Yp C.w x y (val l).toNat (val r).toNat ve (by rw [<- hl]; exact Ao7 hs hx) (by rw [<- hr]; exact Ao7 hs hy) hb0 (by rw [<- hl]; exact h1) (by rw [<- hr]; exact h2)).mono ?_
 rintro e w' ⟨v1,v2,rfl,g1,g2,hb,n1,n2⟩
 refine ⟨_,C.at w',rfl,rfl,Le.of_below hb,SR.of_below hs hb,rfl,rfl,rfl,?_⟩
 unfold VR
 refine ⟨_,rfl,?_⟩
 simp only [VRs,and_true]
 refine ⟨Wv hs g1 n1,?_⟩
 rcases n2 with ⟨rfl,e2⟩|n2
 ·rw [e2,<- hl]
  have ow:=VR.mono (Le.of_below hb) _ _ hx
  simp only [digA,VR] at ow ⊢
  obtain ⟨a,len,cap,q1,q2,q3,-,q4⟩:=ow
  exact ⟨a,len,cap,q1,q2,q3,trivial,q4⟩
 ·exact Wv hs g2 n2
theorem Li:∀ {es:List (List AV)} {l:List Int},Ny es=some l->es=l.map digC
 | [],l,h=>by simp only [Ny,Option.some.injEq] at h; subst h; rfl
 | e :: es,l,h=>by
  unfold Ny at h
  split at h
  ·rename_i he; simp at he
  ·rename_i x r he
   simp only [List.cons.injEq] at he
   obtain ⟨rfl,rfl⟩:=he
   simp only [Option.map_eq_some_iff] at h
   obtain ⟨l',h1,rfl⟩:=h
   rw [Li h1]; rfl
  ·simp at h
theorem Alc {l r:List Int} {v:AV} (h:quoF l r=some v):l=dig (val l).toNat/\r=dig (val r).toNat/\r≠[]/\l.length<=90000/\r.length<=90000/\v=.tup [digA (dig ((val l).toNat / (val r).toNat)),digA (dig ((val l).toNat % (val r).toNat))]:=by
 unfold quoF at h
 split at h
 ·rename_i hh
  simp only [Option.some.injEq] at h
  exact ⟨hh.1,hh.2.1,hh.2.2.1,hh.2.2.2.1,hh.2.2.2.2,h.symm⟩
 ·simp at h
theorem Vw {args:List AV} {S:List Ent} {tk:List Nat} {n:Nat} {r:AV} {S':List Ent} {tk':List Nat} {n':Nat} (h:quoC args S tk n=some (r,S',tk',n')):∃ l y c d,args=[.frz (l.map digC) c,.frz (y.map digC) d]/\quoF l y=some r/\S'=S/\tk'=tk/\n'=n:=by
 unfold quoC at h
 split at h
 ·rename_i es c ys d
  split at h
  ·rename_i l y hl hy
   split at h
   ·rename_i v hv
    simp only [Option.some.injEq,Prod.mk.injEq] at h
    obtain ⟨rfl,rfl,rfl,rfl⟩:=h
    exact ⟨l,y,c,d,by rw [Li hl,Li hy],hv,rfl,rfl,rfl⟩
   ·simp at h
  ·simp at h
 ·simp at h
theorem V8 {args:List AV} {S:List Ent} {tk:List Nat} {n:Nat} {r:AV} {S':List Ent} {tk':List Nat} {n':Nat} (h:uniC args S tk n=some (r,S',tk',n')):∃ l c,args=[.frz (l.map strC) c,.frz [] .nilc]/\l.length<=1000000/\(!l.isEmpty || Qr c)=true/\r=Al (uniS l)/\S'=S/\tk'=tk/\n'=n:=by
 unfold uniC at h
 split at h
 ·rename_i es c
  split at h
  ·rename_i l hl
   split at h
   ·rename_i hlen
    simp only [Bool.and_eq_true,decide_eq_true_eq] at hlen
    simp only [Option.some.injEq,Prod.mk.injEq] at h
    obtain ⟨rfl,rfl,rfl,rfl⟩:=h
    exact ⟨l,c,by rw [Rq hl],hlen.1,hlen.2,rfl,rfl,rfl,rfl⟩
   ·simp at h
  ·simp at h
 ·simp at h
theorem Amg {l y:List Int} {c d:Cap} {r:AV} (hq:quoF l y=some r) (S:List Ent) (tk:List Nat) (n:Nat):quoC [.frz (l.map digC) c,.frz (y.map digC) d] S tk n=some (r,S,tk,n):=by simp [quoC,Tx,hq]
theorem Ai5 {l:List ByteArray} {c:Cap} (hlen:l.length<=1000000) (hc:(!l.isEmpty || Qr c)=true) (S:List Ent) (tk:List Nat) (n:Nat):uniC [.frz (l.map strC) c,.frz [] .nilc] S tk n=some (Al (uniS l),S,tk,n):=by
 simp only [uniC,Uc]
 rw [if_pos (by rw [hc]; simpa using hlen)]
theorem Qe {f:FuncId} {args:List AV} {S:List Ent} {tk:List Nat} {n:Nat} {r:AV} {S':List Ent} {tk':List Nat} {n':Nat} (h:@extC prog E1 f args S tk n=some (r,S',tk',n')) :
  (f=48/\uniC args S tk n=some (r,S',tk',n'))\/(f=174/\quoC args S tk n=some (r,S',tk',n')):=by
 unfold extC at h
 split at h
 ·simp only [Ext.call] at h
  split at h
  ·rename_i hf; exact .inl ⟨by simpa using hf,h⟩
  ·split at h
   ·rename_i hf; exact .inr ⟨by simpa using hf,h⟩
   ·simp at h
 ·simp at h
theorem Abr (args:List AV) (S:List Ent) (tk:List Nat) (n:Nat):@extC prog E1 48 args S tk n=uniC args S tk n:=by
 simp [extC,Ext.on,Ext.call]
theorem Abq (args:List AV) (S:List Ent) (tk:List Nat) (n:Nat):@extC prog E1 174 args S tk n=quoC args S tk n:=by
 simp [extC,Ext.on,Ext.call]
@[reducible] noncomputable instance E1i:Ext prog:=E1
instance ok1:Y3 prog:={
 ok:=fun f args S tk n r S' tk' n' h=>by
  rcases Qe h with ⟨rfl,hh⟩|⟨rfl,hh⟩
  ·obtain ⟨l,c,rfl,hlen,hc,rfl,rfl,rfl,rfl⟩:=V8 hh
   refine ⟨⟨_,func48,by decide +kernel,by decide +kernel⟩,fun C vs h1 h2 h3 hs hv=>?_⟩
   subst h1 h2 h3
   refine Afn hs l c hlen (fun e=>?_) hv
   subst e
   cases c <;> simp [Qr] at hc
   rfl
  ·obtain ⟨l,y,c,d,rfl,hq,rfl,rfl,rfl⟩:=Vw hh
   refine ⟨⟨_,func174,by decide +kernel,by decide +kernel⟩,fun C vs h1 h2 h3 hs hv=>?_⟩
   subst h1 h2 h3
   obtain ⟨q1,q2,q3,q4,q5,rfl⟩:=Alc hq
   exact Amm hs l y c d q1 q2 q3 q4 q5 hv
 indep:=fun M f args S tk n r S' tk' n' h=>by
  unfold Dq at h
  split at h
  ·rename_i hp
   rcases Qe h with ⟨rfl,hh⟩|⟨rfl,hh⟩
   ·obtain ⟨l,c,rfl,hlen,hc,rfl,rfl,rfl,rfl⟩:=V8 hh
    refine ⟨rfl,rfl,.inr ⟨rfl,fun S2 tk2 n2=>?_⟩⟩
    unfold Dq
    rw [if_pos hp,Abr]
    exact Ai5 hlen hc S2 tk2 n2
   ·obtain ⟨l,y,c,d,rfl,hq,rfl,rfl,rfl⟩:=Vw hh
    refine ⟨rfl,rfl,.inr ⟨rfl,fun S2 tk2 n2=>?_⟩⟩
    unfold Dq
    rw [if_pos hp,Abq]
    exact Amg hq S2 tk2 n2
  ·simp at h }
section
variable (S:List Ent) (tk:List Nat) (k:Nat)
theorem Zz (l:List ByteArray) (c:Cap) (hlen:l.length<=1000000) (hc:(!l.isEmpty || Qr c)=true):cL prog 48 [.frz (l.map strC) c,.frz [] .nilc] S tk k=some (Al (uniS l),S,tk,k):=by
 refine Abd rfl ?_
 simp only [Ext.call,beq_self_eq_true,if_true]
 exact Ai5 hlen hc S tk k
end
end
section
open Go
theorem Agk {a n:Nat} (h:(dig a).length<=n):a<10000 ^ n:=Bf.1 h
theorem V5 {a k:Nat} : topV (dig a) k<=a:=by
 have h1:val ((dig a).take k)+10000 ^ ((dig a).take k).length*val ((dig a).drop k)=a:=by
  rw [<- D5,List.take_append_drop,Bj]
 have h2:=Dv (l:=(dig a).take k) fun d hd=>Ba a d (List.mem_of_mem_take hd)
 have h3:=Dv (l:=(dig a).drop k) fun d hd=>Ba a d (List.mem_of_mem_drop hd)
 have h4:val ((dig a).drop k)<=10000 ^ ((dig a).take k).length*val ((dig a).drop k):=by
  have hp:(1:Int)<=10000 ^ ((dig a).take k).length:=by
   have:=Pk ((dig a).take k).length; omega
  have:=Int.mul_le_mul_of_nonneg_right hp h3
  omega
 unfold topV
 omega
theorem Ac1 (A:List Int):topV A A.length=0:=by unfold topV; rw [List.drop_length]; rfl
def smB (z:Int):Bool:=!decide (2<(dig z.natAbs).length)
theorem Acy {z:Int} (h:smB z=true):z.natAbs<100000000:=by
 have h2:(dig z.natAbs).length<=2:=by simpa [smB] using h
 exact Agk h2
theorem zneg (z:Int):(!decide (z<0) && !decide (dig z.natAbs=[]))=decide (-z<0):=by
 have h1:dig z.natAbs=[]↔z.natAbs=0:=Gc
 by_cases h:z<0
 ·have h2:¬ (-z<0):=by omega
  simp [h]; omega
 ·by_cases h0:z=0
  ·subst h0; rfl
  ·have h2 : -z<0:=by omega
   have h3:¬ dig z.natAbs=[]:=fun e=>by have:=h1.1 e; omega
   simp [h,h3]; omega
theorem L6 (n:Nat):decide (((dig n).length:Int) > 0)=!decide (dig n=[]):=by
 cases h:dig n with
 | nil=>rfl
 | cons x l=>simp
theorem Alj (z:Int):sg (decide (z<0)) z.natAbs=z:=by
 by_cases h:z<0 <;> simp [sg,h] <;> omega
theorem Yg {x y:Int} (h:decide (x<0)=decide (y<0)):decide (x+y<0)=decide (x<0)/\(x+y).natAbs=x.natAbs+y.natAbs:=by
 have h':(x<0)↔(y<0):=by simpa using h
 constructor
 ·rw [decide_eq_decide]; omega
 ·omega
end
section
open Go Tryz
theorem ext_mv1 (f:FuncId) (h:mvF0 f=false):Ext.mv prog f=false:=h
set_option linter.defProp false in
def ev1:=And.intro ext_mv1 ev0
set_option linter.defProp false in
def evs1:=And.intro ext_mv1 evs0
theorem Aqg {p:Bool} {n:Nat} (h:n=0->p=false):bigA p (dig n)=zA (sg p n):=by
 unfold zA
 rw [Aqb]
 cases p with
 | false =>
  have:¬ ((n:Int)<0):=by omega
  simp [sg,this]
 | true =>
  have h0:n≠0:=fun e=>by simpa using h e
  have:(sg true n<0):=by simp [sg]; omega
  simp [this]
theorem Aom (x y:Int):bigA (decide (x<0) != decide (y<0) && !decide (dig (x.natAbs*y.natAbs)=[])) (dig (x.natAbs*y.natAbs))=zA (x*y):=by
 rw [Aqg (fun e=>by rw [e,Dc]; simp)]
 congr 1
 have h:=Ap2 (decide (x<0)) (decide (y<0)) x.natAbs y.natAbs
 rw [Alj,Alj] at h
 rw [<- h]
 by_cases h0:x.natAbs*y.natAbs=0
 ·rw [h0]; simp [sg]
 ·have:¬ dig (x.natAbs*y.natAbs)=[]:=fun e=>h0 (Gc.1 e)
  simp [this]
theorem Alo (u:Int):(u.tmod 10000).natAbs=u.natAbs % 10000:=by
 rw [Int.natAbs_tmod]; rfl
theorem Alm (u:Int):(u.tdiv 10000).natAbs=u.natAbs / 10000:=by
 rw [Int.natAbs_tdiv]; rfl
theorem Agj {n:Nat} (h:n<10000000000000000000):(dig n).length<=5:=Bf.2 (Nat.lt_of_lt_of_le h (by decide))
theorem Aob {u N:Nat} {out:List Int} (he:out++dig u=dig N) (h:u≠0):(out++[((u % 10000:Nat):Int)])++dig (u / 10000)=dig N:=by
 rw [<- he,H0 h]; simp
theorem Ap3 {u N:Nat} {out:List Int} (he:out++dig u=dig N) (hN:N<10000000000000000000):out.length<=5:=by
 have:=Agj hN
 rw [<- he] at this; simp at this; omega
theorem Aoa {N:Nat} {out:List Int} (he:out++dig 0=dig N):out=dig N:=by rw [<- he,Dc,List.append_nil]
section
variable (S:List Ent) (tk:List Nat) (k:Nat)
set_option maxRecDepth 100000 in
theorem Lw (n:Int) (hn:i64 n):cL prog 77 [.int n] S tk k=some (zA n,S,tk,k):=by
 refine opP func77 ntmps77 (hp3:=rfl) ?_
 have lj:=hn
 unfold i64 at lj
 have hN:n.natAbs<10000000000000000000:=by omega
 simp (maxSteps:=10^6)+contextual(disch:=try exact dqd)only[ev0,simprocAttr,AV.int,AV.bool,AV.str,results77]
 refine loop1 (P:=prog) (fun x st=>st.T.length=25/\(i64 x.1)/\(x.2.1++dig x.1.natAbs=dig n.natAbs)/\(A9 st.tk x.2.2 1=true)/\getT st.T 0=.int x.1/\getT st.T 2=.ref 0 0 0/\getT st.T 3=.frz (x.2.1.map digC) x.2.2/\getT st.T 4=.bool (decide (n<0))/\st.S=[⟨0,[.bool false,.frz [] .nilc]⟩]) (fun x=>x.1.natAbs) (fun x=>zA n) (n,[],.nilc) ?_ ?_
 case refine_2=>exact ⟨rfl,hn,rfl,rfl,rfl,rfl,rfl,rfl,rfl⟩
 rintro ⟨u,out,c⟩ ⟨T,S',tk',n'⟩ ⟨hl,hu,he,hok,e0,e2,e3,e4,eS⟩ IH
 simp only at hu he hok e0 e2 e3 e4 eS
 subst eS
 obtain ⟨g,hg,hT⟩:=Ap hl
 rw [hg] at e0 e2 e3 e4
 subst hT
 clear hg hl
 have hlen:=Ap3 he hN
 have hr:=Gv out
 have bc:=D2 hok
 unfold i64 at hu
 by_cases h0:u=0
 ·have d1:(u != 0)=false:=by simp; omega
  subst h0
  have hd:=Aoa he
  subst hd
  simp (maxSteps:=10^6)+contextual(disch:=try exact dqd)only[ev0,simprocAttr,AV.int,AV.bool,AV.str,results77,e0,e2,e3,e4,d1]
  simp [zA,bigA,digA]
 ·have d1:(u != 0)=true:=by simp; omega
  have ez:¬ ((10000:Int)=0):=by omega
  have bm:(out.map digC).length+1<=1048576:=by simp; omega
  have t1:=Alo u
  have t2:=Alm u
  have q1:IntKind.i64.wrap (u.tmod 10000)=u.tmod 10000:=Ad (by unfold i64; omega)
  have q3:IntKind.i64.wrap (u.tdiv 10000)=u.tdiv 10000:=Ad (by unfold i64; omega)
  have hs:=Aob he (u:=u.natAbs) (by omega)
  cases d2:decide (u.tmod 10000<0) with
  | true =>
   simp only [decide_eq_true_eq] at d2
   have d2':decide (u.tmod 10000<0)=true:=by simpa using d2
   have q4:IntKind.i64.wrap (0 - u.tmod 10000)=((u.natAbs % 10000:Nat):Int):=by rw [Ad (by unfold i64; omega)]; omega
   simp (maxSteps:=10^6)+contextual(disch:=try exact dqd)only[ev0,simprocAttr,AV.int,AV.bool,AV.str,results77,e0,e2,e3,e4,d1,ez,q1,q3,d2',q4,hr]
   exact IH (u.tdiv 10000,out++[((u.natAbs % 10000:Nat):Int)],Bp tk' c 1) _ (by first|omega|(simp only; omega)) ⟨rfl,by unfold i64; omega,by rw [t2]; exact hs,bc,(by first|rfl|simp only [getT,List.map_append,List.map_cons,List.map_nil,digC,digA]),(by first|rfl|simp only [getT,List.map_append,List.map_cons,List.map_nil,digC,digA]),(by first|rfl|simp only [getT,List.map_append,List.map_cons,List.map_nil,digC,digA]),(by first|rfl|simp only [getT,List.map_append,List.map_cons,List.map_nil,digC,digA]),(by first|rfl|simp only [getT,List.map_append,List.map_cons,List.map_nil,digC,digA])⟩
  | false =>
   simp only [decide_eq_false_iff_not] at d2
   have d2':decide (u.tmod 10000<0)=false:=by simpa using d2
   have q4:u.tmod 10000=((u.natAbs % 10000:Nat):Int):=by omega
   rw [q4] at d2' q1
   simp (maxSteps:=10^6)+contextual(disch:=try exact dqd)only[ev0,simprocAttr,AV.int,AV.bool,AV.str,results77,e0,e2,e3,e4,d1,ez,q4,q1,q3,d2',hr]
   exact IH (u.tdiv 10000,out++[((u.natAbs % 10000:Nat):Int)],Bp tk' c 1) _ (by first|omega|(simp only; omega)) ⟨rfl,by unfold i64; omega,by rw [t2]; exact hs,bc,(by first|rfl|simp only [getT,List.map_append,List.map_cons,List.map_nil,digC,digA]),(by first|rfl|simp only [getT,List.map_append,List.map_cons,List.map_nil,digC,digA]),(by first|rfl|simp only [getT,List.map_append,List.map_cons,List.map_nil,digC,digA]),(by first|rfl|simp only [getT,List.map_append,List.map_cons,List.map_nil,digC,digA]),(by first|rfl|simp only [getT,List.map_append,List.map_cons,List.map_nil,digC,digA])⟩
end
end
section
open Go
def ratA (p:Bool) (l:List Int) (q:Bool) (r:List Int):AV:=.agg [.prim (.bool p),digA l,.prim (.bool q),digA r]
def qA (n d:Int):AV:=ratA (decide (n<0)) (dig n.natAbs) (decide (d<0)) (dig d.natAbs)
def lowN (n d:Int):Int:=(if d<0 then -n else n).tdiv ((n.natAbs.gcd d.natAbs:Nat):Int)
def lowD (n d:Int):Int:=((d.natAbs / n.natAbs.gcd d.natAbs:Nat):Int)
theorem K2 {p:Bool} {l:List Int} (h:Ej p l=true):p=decide (V p l<0)/\l=dig (V p l).natAbs:=by
 have ha:=Api p l
 rw [if_pos h] at ha
 refine ⟨?_,ha.symm⟩
 have hs:=V_sg p l
 cases p with
 | false =>
  have:¬ V false l<0:=by rw [hs]; simp [sg]
  simp [this]
 | true =>
  have hl:l≠[]:=fun e=>by subst e; simp [Ej] at h
  have h0:(V true l).natAbs≠0:=fun e=>by rw [e,Dc] at ha; exact hl ha.symm
  have:V true l<0:=by rw [hs]; simp only [sg,if_true]; omega
  simp [this]
def R0 (n d:Int):Bool:=decide (0<d) && decide (n.natAbs.gcd d.natAbs=1)
def Kb (p:Bool) (l:List Int) (q:Bool) (r:List Int):Bool:=Ej p l && Ej q r && R0 (V p l) (V q r)
def nQ (p:Bool) (l:List Int) (q:Bool) (r:List Int):Int:=if Kb p l q r=true then V p l else 0
def dQ (p:Bool) (l:List Int) (q:Bool) (r:List Int):Int:=if Kb p l q r=true then V q r else 1
theorem Rt {p:Bool} {l:List Int} {q:Bool} {r:List Int} (h:Kb p l q r=true):Ej p l=true/\Ej q r=true/\R0 (V p l) (V q r)=true:=by
 unfold Kb at h
 simp only [Bool.and_eq_true] at h
 exact ⟨h.1.1,h.1.2,h.2⟩
theorem Ael {p:Bool} {l:List Int} {q:Bool} {r:List Int} (h:Kb p l q r=true):ratA p l q r=qA (V p l) (V q r):=by
 obtain ⟨h1,h2,-⟩:=Rt h
 obtain ⟨a1,a2⟩:=K2 h1
 obtain ⟨b1,b2⟩:=K2 h2
 unfold qA
 rw [<- a1,<- a2,<- b1,<- b2]
structure He (n d:Int):Prop where
 pos:0<d
 cop:n.natAbs.gcd d.natAbs=1
 ln:(dig n.natAbs).length<=200
 ld:(dig d.natAbs).length<=200
theorem H2 (p:Bool) (l:List Int) (q:Bool) (r:List Int):He (nQ p l q r) (dQ p l q r):=by
 unfold nQ dQ
 cases h:Kb p l q r with
 | false =>
  simp only [Bool.false_eq_true,if_false]
  exact ⟨by omega,rfl,by decide +kernel,by decide +kernel⟩
 | true =>
  obtain ⟨h1,h2,h3⟩:=Rt h
  simp only [R0,Bool.and_eq_true,decide_eq_true_eq] at h3
  exact ⟨h3.1,h3.2,Apj p l,Apj q r⟩
def Eh (n d:Int):Bool:=!decide (d=0) && okZ (lowN n d) && okZ (lowD n d)
def resN (n d:Int):Int:=if Eh n d=true then lowN n d else 0
def resD (n d:Int):Int:=if Eh n d=true then lowD n d else 0
def resQ (n d:Int):AV:=.tup [qA (resN n d) (resD n d),.bool (Eh n d)]
theorem Q2 (n d:Int):(lowN n d).natAbs=n.natAbs / n.natAbs.gcd d.natAbs:=by
 unfold lowN
 rw [Int.natAbs_tdiv]
 split <;> simp <;> rfl
theorem Ak0 (n d:Int) (hd:d≠0):(decide (n<0) != decide (d<0) && !decide (dig (n.natAbs / n.natAbs.gcd d.natAbs)=[]))=decide (lowN n d<0):=by
 have ha:=Q2 n d
 have nh:0<n.natAbs.gcd d.natAbs:=Nat.gcd_pos_of_pos_right _ (by omega)
 have hz:dig (n.natAbs / n.natAbs.gcd d.natAbs)=[]↔lowN n d=0:=by rw [Gc,<- ha]; omega
 have ri:∀ x:Int,0<=x->0<=x.tdiv ((n.natAbs.gcd d.natAbs:Nat):Int):=fun x hx=>Int.tdiv_nonneg hx (by omega)
 have hneg:∀ x:Int,x<=0->x.tdiv ((n.natAbs.gcd d.natAbs:Nat):Int)<=0:=fun x hx=>by
  have h1:=ri (-x) (by omega)
  rw [Int.neg_tdiv] at h1
  omega
 rw [Bool.eq_iff_iff]
 simp only [Bool.and_eq_true,bne_iff_ne,ne_eq,decide_eq_decide,Bool.not_eq_true',decide_eq_false_iff_not,decide_eq_true_eq,hz]
 by_cases h:d<0
 ·have e:lowN n d=(-n).tdiv ((n.natAbs.gcd d.natAbs:Nat):Int):=by unfold lowN; rw [if_pos h]
  have h1:=ri (-n)
  have h2:=hneg (-n)
  rw [<- e] at h1 h2
  constructor
  ·rintro ⟨h3,h4⟩; have:0<=n:=by omega
   have:=h2 (by omega); omega
  ·intro h3
   have:¬ 0<=-n:=fun h4=>by have:=h1 h4; omega
   omega
 ·have e:lowN n d=n.tdiv ((n.natAbs.gcd d.natAbs:Nat):Int):=by unfold lowN; rw [if_neg h]
  have h1:=ri n
  have h2:=hneg n
  rw [<- e] at h1 h2
  constructor
  ·rintro ⟨h3,h4⟩; have:n<0:=by omega
   have:=h2 (by omega); omega
  ·intro h3
   have:¬ 0<=n:=fun h4=>by have:=h1 h4; omega
   omega
theorem Gp {x y:Int} {a b:Nat} (hx:(dig x.natAbs).length<=a) (hy:(dig y.natAbs).length<=b):(dig (x*y).natAbs).length<=a+b:=by
 rw [Bf] at hx hy ⊢
 rw [Int.natAbs_mul,Nat.pow_add]
 exact Nat.mul_lt_mul_of_lt_of_le hx (by omega) (Nat.pow_pos (by decide))
theorem Akw {x y:Int} {a:Nat} (hx:(dig x.natAbs).length<=a) (hy:(dig y.natAbs).length<=a):(dig (x+y).natAbs).length<=a+1:=by
 rw [Bf] at hx hy ⊢
 rw [Nat.pow_succ]
 omega
theorem Adx {n d:Int} (hn:n.natAbs<=100000000000000000) (hd:d.natAbs<=100000000000000000) (cu:d≠0):Eh n d=true:=by
 have h1:(dig (lowN n d).natAbs).length<=5:=Bf.2 (by
  have:=Nat.div_le_self n.natAbs (n.natAbs.gcd d.natAbs)
  rw [<- Q2] at this
  omega)
 have h2:(dig (lowD n d).natAbs).length<=5:=Bf.2 (by
  have:=Nat.div_le_self d.natAbs (n.natAbs.gcd d.natAbs)
  have e:(lowD n d).natAbs=d.natAbs / n.natAbs.gcd d.natAbs:=rfl
  rw [e]
  omega)
 simp only [Eh,okZ]
 simp [cu]
 omega
theorem Ale (n:Int):resQ n 0=.tup [qA 0 0,.bool false]:=rfl
theorem Anh {x y:Int} (h:x<y):cmpZ x y=-1:=by simp [cmpZ,h]
theorem Ang {x y:Int} (h:y<x):cmpZ x y=1:=by unfold cmpZ; rw [if_neg (by omega),if_pos h]
theorem Anf {x y:Int} (h:x=y):cmpZ x y=0:=by unfold cmpZ; rw [if_neg (by omega),if_neg (by omega)]
theorem He.valid {n d:Int} (h:He n d):Kb (decide (n<0)) (dig n.natAbs) (decide (d<0)) (dig d.natAbs)=true:=by
 unfold Kb R0
 rw [V9 _ h.ln,V9 _ h.ld,V_of _ h.ln,V_of _ h.ld]
 simp [h.pos,h.cop]
theorem He.nQ {n d:Int} (h:He n d):nQ (decide (n<0)) (dig n.natAbs) (decide (d<0)) (dig d.natAbs)=n:=by
 unfold Proofs.YtcandeobhlfkbaaGreat.nQ
 rw [if_pos h.valid,V_of _ h.ln]
theorem He.dQ {n d:Int} (h:He n d):dQ (decide (n<0)) (dig n.natAbs) (decide (d<0)) (dig d.natAbs)=d:=by
 unfold Proofs.YtcandeobhlfkbaaGreat.dQ
 rw [if_pos h.valid,V_of _ h.ld]
theorem He.neg {n d:Int} (h:He n d):He (-n) d:=by
 have e:(-n).natAbs=n.natAbs:=by omega
 exact ⟨h.pos,by rw [e]; exact h.cop,by rw [e]; exact h.ln,h.ld⟩
end
section
open Go Tryz
section
variable (S:List Ent) (tk:List Nat) (k:Nat)
theorem Pb (l:List Int) (c:Cap) (hlen:l.length<=1000000):cL prog 143 [.frz (l.map digC) c] S tk k=some (digA (B0 l),S,tk,k):=by
 refine opP func143 ntmps143 ?_
 simp (maxSteps:=10^6)+contextual(disch:=try exact dqd)only[ev1,simprocAttr,AV.int,AV.bool,AV.str,results143]
 refine loop1 (P:=prog) (fun x st=>st.T.length=22/\(x<=l.length)/\(∀ j,x<=j->∀ x,nth l j=some x->x=0)/\getT st.T 0=digA l/\getT st.T 3=.int (x:Nat)/\st.S=[]) (fun x=>x) (fun x=>digA (B0 l)) (l.length) ?_ ?_
 case refine_2=>exact ⟨rfl,Nat.le_refl _,Pf l,rfl,rfl,rfl⟩
 rintro n ⟨T,S',tk',n'⟩ ⟨hl,hn,hz,e0,e3,eS⟩ IH
 subst eS
 obtain ⟨g,hg,hT⟩:=Ap hl
 rw [hg] at e0 e3
 subst hT
 clear hg hl
 have hr:=Gv l
 by_cases h0:n=0
 ·have d1:decide ((n:Int) > 0)=false:=by simp; omega
  have ht:=Gb hn hz (.inl h0)
  simp (maxSteps:=10^6)+contextual(disch:=try exact dqd)only[ev1,simprocAttr,AV.int,AV.bool,AV.str,results143,e0,e3,d1,digA,Hd,hr,bound,intN_cast,hn,Nat.le_refl,Nat.zero_le]
  rw [ht]; simp [h0]
 ·have d1:decide ((n:Int) > 0)=true:=by simp; omega
  have hp:=Vu h0 (by omega)
  obtain ⟨x,hx⟩:=Ab (show n - 1<l.length by omega)
  have hx':=B9 hx
  by_cases fy:x=0
  ·have d2:(x == 0)=true:=by simpa using fy
   simp (maxSteps:=10^6)+contextual(disch:=try exact dqd)only[ev1,simprocAttr,AV.int,AV.bool,AV.str,results143,e0,e3,d1,d2,hp,hx',digA]
   exact IH (n - 1) _ (by first|omega|(simp only; omega)) ⟨rfl,by first|omega|(dsimp only; omega),Ve hz hx fy,(by first|rfl|simp only [getT,List.map_append,List.map_cons,List.map_nil,digC,digA]),(by first|rfl|simp only [getT,List.map_append,List.map_cons,List.map_nil,digC,digA]),(by first|rfl|simp only [getT,List.map_append,List.map_cons,List.map_nil,digC,digA])⟩
  ·have d2:(x == 0)=false:=by simpa using fy
   have ht:=Gb hn hz (.inr ⟨x,hx,fy⟩)
   simp (maxSteps:=10^6)+contextual(disch:=try exact dqd)only[ev1,simprocAttr,AV.int,AV.bool,AV.str,results143,e0,e3,d1,d2,hp,hx',digA,Hd,hr,bound,intN_cast,hn,Nat.le_refl,Nat.zero_le]
   rw [ht]; simp
theorem Uk (a b:Nat) (ha:(dig a).length<=1000000) (hb:(dig b).length<=1000000):cL prog 137 [digA (dig a),digA (dig b)] S tk k=some (.bool (decide (a<b)),S,tk,k):=by
 refine opP func137 ntmps137 ?_
 by_cases hl:(dig a).length=(dig b).length
 case neg =>
  have d1:(((dig a).length:Int) != ((dig b).length:Int))=true:=by simp; omega
  have d2:decide (((dig a).length:Int)<((dig b).length:Int))=decide (a<b):=by
   rw [decide_eq_decide]
   constructor
   ·intro h; exact Hz (by omega)
   ·intro h
    rcases Nat.lt_or_ge (dig a).length (dig b).length with h'|h'
    ·omega
    ·have:=Hz (a:=b) (b:=a) (by omega); omega
  simp (maxSteps:=10^6)+contextual(disch:=try exact dqd)only[ev1,simprocAttr,AV.int,AV.bool,AV.str,results137,digA,d1,d2]
 have d1:(((dig a).length:Int) != ((dig b).length:Int))=false:=by simp; omega
 have d3:=Hj ha
 simp (maxSteps:=10^6)+contextual(disch:=try exact dqd)only[ev1,simprocAttr,AV.int,AV.bool,AV.str,results137,digA,d1,d3]
 refine loop1 (P:=prog) (fun x st=>st.T.length=41/\(x<=(dig a).length)/\(∀ j,x<=j->nth (dig a) j=nth (dig b) j)/\getT st.T 0=digA (dig a)/\getT st.T 1=digA (dig b)/\getT st.T 5=.int ((x:Int) - 1)/\st.S=[]) (fun x=>x) (fun x=>.bool (decide (a<b))) ((dig a).length) ?_ ?_
 case refine_2=>exact ⟨rfl,Nat.le_refl _,fun j hj=>by rw [Ac,Ac,List.getElem?_eq_none hj,List.getElem?_eq_none (by omega)],rfl,rfl,rfl,rfl⟩
 rintro n ⟨T,S',tk',n'⟩ ⟨hl,hn,he,e0,e1,e5,eS⟩ IH
 subst eS
 obtain ⟨g,hg,hT⟩:=Ap hl
 rw [hg] at e0 e1 e5
 subst hT
 clear hg hl
 by_cases h0:n=0
 ·have d2:decide ((n:Int) - 1 >= 0)=false:=by simp; omega
  have:=Abf fun j=>he j (by omega)
  subst this
  simp (maxSteps:=10^6)+contextual(disch:=try exact dqd)only[ev1,simprocAttr,AV.int,AV.bool,AV.str,results137,e0,e1,e5,d2,digA]
  simp
 ·have d2:decide ((n:Int) - 1 >= 0)=true:=by simp; omega
  have hi:(n:Int) - 1=((n - 1:Nat):Int):=by omega
  obtain ⟨x,hx⟩:=Ab (show n - 1<(dig a).length by omega)
  obtain ⟨y,hy⟩:=Ab (show n - 1<(dig b).length by omega)
  have hx':=B9 hx
  have eh:=B9 hy
  have ja:∀ j,n - 1<j->nth (dig a) j=nth (dig b) j:=fun j hj=>he j (by omega)
  have hp:=Hj (n:=n - 1) (by omega)
  rw [hi] at e5 d2
  by_cases dz:x=y
  ·have d4:(x != y)=false:=by simpa using dz
   simp (maxSteps:=10^6)+contextual(disch:=try exact dqd)only[ev1,simprocAttr,AV.int,AV.bool,AV.str,results137,e0,e1,e5,d2,d4,digA,hx',eh,hp]
   exact IH (n - 1) _ (by first|omega|(simp only; omega)) ⟨rfl,by first|omega|(dsimp only; omega),fun j hj=>by by_cases e:j=n - 1; (· rw [e,hx,hy,dz]); exact ja j (by first|omega|(dsimp only; omega)),(by first|rfl|simp only [getT,List.map_append,List.map_cons,List.map_nil,digC,digA]),(by first|rfl|simp only [getT,List.map_append,List.map_cons,List.map_nil,digC,digA]),(by first|rfl|simp only [getT,List.map_append,List.map_cons,List.map_nil,digC,digA]),(by first|rfl|simp only [getT,List.map_append,List.map_cons,List.map_nil,digC,digA])⟩
  ·have d4:(x != y)=true:=by simpa using dz
   have d5:decide (x<y)=decide (a<b):=by
    rw [decide_eq_decide]
    constructor
    ·intro h1; exact Abe hl hx hy h1 ja
    ·intro h1
     by_cases h2:x<y
     ·exact h2
     ·have:=Abe hl.symm hy hx (by omega) fun j hj=>(ja j hj).symm
      omega
   simp (maxSteps:=10^6)+contextual(disch:=try exact dqd)only[ev1,simprocAttr,AV.int,AV.bool,AV.str,results137,e0,e1,e5,d2,d4,d5,digA,hx',eh,hp]
set_option maxRecDepth 100000 in
theorem Aay (a b:Nat) (ha:(dig a).length<=100000) (hb:(dig b).length<=100000):cL prog 136 [digA (dig a),digA (dig b)] S tk k=some (digA (dig (a+b)),S,tk,k):=by
 refine opP func136 ntmps136 ?_
 simp (maxSteps:=10^6)+contextual(disch:=try exact dqd)only[ev1,simprocAttr,AV.int,AV.bool,AV.str,results136,digA]
 refine loop1 (P:=prog) (fun x st=>st.T.length=53/\(Sum1 a b x.1 x.2.1 x.2.2.1)/\(x.1<=100001)/\(A9 st.tk x.2.2.2 1=true)/\(x.1=100001->x.2.1=0)/\getT st.T 0=digA (dig a)/\getT st.T 1=digA (dig b)/\getT st.T 5=.frz (x.2.2.1.map digC) x.2.2.2/\getT st.T 6=.int x.2.1/\getT st.T 7=.int (x.1:Nat)/\st.S=[]) (fun x=>2*(max (dig a).length (dig b).length - x.1)+x.2.1.toNat) (fun x=>digA (dig (a+b))) (0,0,[],.nilc) ?_ ?_
 case refine_2=>exact ⟨rfl,⟨rfl,by intro d hd; simp at hd,by simp,by rw [List.drop_zero,List.drop_zero,Bj,Bj]; simp [val]⟩,by omega,rfl,fun _=>rfl,rfl,rfl,rfl,rfl,rfl,rfl⟩
 rintro ⟨i,w,out,c⟩ ⟨T,S',tk',n'⟩ ⟨hl,hp,hi,hok,zj,e0,e1,e5,e6,e7,eS⟩ IH
 simp only at hp hi hok zj e0 e1 e5 e6 e7 eS
 subst eS
 obtain ⟨g,hg,hT⟩:=Ap hl
 rw [hg] at e0 e1 e5 e6 e7
 subst hT
 clear hg hl
 have hlen:=hp.len
 have hr:=Gv out
 have hn:(out.map digC).length+1<=1048576:=by simp; omega
 have bc:=D2 hok
 have a8:=Av (i:=i) (by omega)
 have ve:=hp.c0
 obtain ⟨n,hn0⟩:∃ n,n=(nth (dig a) i).getD 0+(nth (dig b) i).getD 0+w:=⟨_,rfl⟩
 obtain ⟨ai,bm,db,xk,hm2⟩:=hp.step hn0
 have g1:=Km a i
 have g2:=Km b i
 have mn:IntKind.i64.wrap (n.tdiv 10000)=n.tdiv 10000:=by
  have e1:n.tdiv 10000=n / 10000:=Int.tdiv_eq_ediv_of_nonneg (by omega)
  rw [e1,Ad (by unfold i64; omega)]
 have ez:¬ ((10000:Int)=0):=by omega
 have a0v:n.tdiv 10000=n / 10000:=Int.tdiv_eq_ediv_of_nonneg (by omega)
 by_cases ca:i<(dig a).length
 ·have d1:decide ((i:Int)<((dig a).length:Int))=true:=by simpa using ca
  obtain ⟨x,hx⟩:=Ab ca
  have hx':=B9 hx
  rw [hx,Option.getD_some] at hn0 g1
  have hw1:IntKind.i64.wrap (w+x)=w+x:=Ad (by unfold i64; omega)
  by_cases cb:i<(dig b).length
  ·have d2:decide ((i:Int)<((dig b).length:Int))=true:=by simpa using cb
   obtain ⟨y,hy⟩:=Ab cb
   have eh:=B9 hy
   rw [hy,Option.getD_some] at hn0 g2
   have hw2:IntKind.i64.wrap (w+x+y)=n:=by rw [Ad (by unfold i64; omega)]; omega
   simp (maxSteps:=10^6)+contextual(disch:=try exact dqd)only[ev1,simprocAttr,AV.int,AV.bool,AV.str,results136,digA,e0,e1,e5,e6,e7,d1,d2,hx',eh,hw1,hw2,mn,hr,a8,ez]
   exact IH (i+1,n.tdiv 10000,out++[n.tmod 10000],Bp tk' c 1) _ (by first|omega|(simp only; omega)) ⟨rfl,ai,by first|omega|(dsimp only; omega),bc,by first|omega|(dsimp only; omega),(by first|rfl|simp only [getT,List.map_append,List.map_cons,List.map_nil,digC,digA]),(by first|rfl|simp only [getT,List.map_append,List.map_cons,List.map_nil,digC,digA]),(by first|rfl|simp only [getT,List.map_append,List.map_cons,List.map_nil,digC,digA]),(by first|rfl|simp only [getT,List.map_append,List.map_cons,List.map_nil,digC,digA]),(by first|rfl|simp only [getT,List.map_append,List.map_cons,List.map_nil,digC,digA]),(by first|rfl|simp only [getT,List.map_append,List.map_cons,List.map_nil,digC,digA])⟩
  ·have d2:decide ((i:Int)<((dig b).length:Int))=false:=by simpa using cb
   have hb0:(nth (dig b) i).getD 0=0:=by rw [Ac,List.getElem?_eq_none (by omega)]; rfl
   have zk:IntKind.i64.wrap (w+x)=n:=by rw [hw1]; omega
   simp (maxSteps:=10^6)+contextual(disch:=try exact dqd)only[ev1,simprocAttr,AV.int,AV.bool,AV.str,results136,digA,e0,e1,e5,e6,e7,d1,d2,hx',zk,mn,hr,a8,ez]
   exact IH (i+1,n.tdiv 10000,out++[n.tmod 10000],Bp tk' c 1) _ (by first|omega|(simp only; omega)) ⟨rfl,ai,by first|omega|(dsimp only; omega),bc,by first|omega|(dsimp only; omega),(by first|rfl|simp only [getT,List.map_append,List.map_cons,List.map_nil,digC,digA]),(by first|rfl|simp only [getT,List.map_append,List.map_cons,List.map_nil,digC,digA]),(by first|rfl|simp only [getT,List.map_append,List.map_cons,List.map_nil,digC,digA]),(by first|rfl|simp only [getT,List.map_append,List.map_cons,List.map_nil,digC,digA]),(by first|rfl|simp only [getT,List.map_append,List.map_cons,List.map_nil,digC,digA]),(by first|rfl|simp only [getT,List.map_append,List.map_cons,List.map_nil,digC,digA])⟩
 ·have d1:decide ((i:Int)<((dig a).length:Int))=false:=by simpa using ca
  have nk:(nth (dig a) i).getD 0=0:=by rw [Ac,List.getElem?_eq_none (by omega)]; rfl
  by_cases cb:i<(dig b).length
  ·have d2:decide ((i:Int)<((dig b).length:Int))=true:=by simpa using cb
   obtain ⟨y,hy⟩:=Ab cb
   have eh:=B9 hy
   rw [hy,Option.getD_some] at hn0 g2
   have hw2:IntKind.i64.wrap (w+y)=n:=by rw [Ad (by unfold i64; omega)]; omega
   simp (maxSteps:=10^6)+contextual(disch:=try exact dqd)only[ev1,simprocAttr,AV.int,AV.bool,AV.str,results136,digA,e0,e1,e5,e6,e7,d1,d2,eh,hw2,mn,hr,a8,ez]
   exact IH (i+1,n.tdiv 10000,out++[n.tmod 10000],Bp tk' c 1) _ (by first|omega|(simp only; omega)) ⟨rfl,ai,by first|omega|(dsimp only; omega),bc,by first|omega|(dsimp only; omega),(by first|rfl|simp only [getT,List.map_append,List.map_cons,List.map_nil,digC,digA]),(by first|rfl|simp only [getT,List.map_append,List.map_cons,List.map_nil,digC,digA]),(by first|rfl|simp only [getT,List.map_append,List.map_cons,List.map_nil,digC,digA]),(by first|rfl|simp only [getT,List.map_append,List.map_cons,List.map_nil,digC,digA]),(by first|rfl|simp only [getT,List.map_append,List.map_cons,List.map_nil,digC,digA]),(by first|rfl|simp only [getT,List.map_append,List.map_cons,List.map_nil,digC,digA])⟩
  ·have d2:decide ((i:Int)<((dig b).length:Int))=false:=by simpa using cb
   have hb0:(nth (dig b) i).getD 0=0:=by rw [Ac,List.getElem?_eq_none (by omega)]; rfl
   by_cases cw:w > 0
   ·have d3:decide (w > 0)=true:=by simpa using cw
    have rj:n=w:=by omega
    subst rj
    simp (maxSteps:=10^6)+contextual(disch:=try exact dqd)only[ev1,simprocAttr,AV.int,AV.bool,AV.str,results136,digA,e0,e1,e5,e6,e7,d1,d2,d3,mn,hr,a8,ez]
    exact IH (i+1,n.tdiv 10000,out++[n.tmod 10000],Bp tk' c 1) _ (by first|omega|(simp only; omega)) ⟨rfl,ai,by first|omega|(dsimp only; omega),bc,by first|omega|(dsimp only; omega),(by first|rfl|simp only [getT,List.map_append,List.map_cons,List.map_nil,digC,digA]),(by first|rfl|simp only [getT,List.map_append,List.map_cons,List.map_nil,digC,digA]),(by first|rfl|simp only [getT,List.map_append,List.map_cons,List.map_nil,digC,digA]),(by first|rfl|simp only [getT,List.map_append,List.map_cons,List.map_nil,digC,digA]),(by first|rfl|simp only [getT,List.map_append,List.map_cons,List.map_nil,digC,digA]),(by first|rfl|simp only [getT,List.map_append,List.map_cons,List.map_nil,digC,digA])⟩
   ·have d3:decide (w > 0)=false:=by simpa using cw
    have fm:=hp.done (by omega) (by omega) (by omega)
    have hT:=fun S tk k=>Pb S tk k out c (by omega)
    simp only [digA,fm] at hT
    simp (maxSteps:=10^6)+contextual(disch:=try exact dqd)only[ev1,simprocAttr,AV.int,AV.bool,AV.str,results136,digA,e0,e1,e5,e6,e7,d1,d2,d3,hT]
end
section
variable (S:List Ent) (tk:List Nat) (k:Nat)
set_option maxRecDepth 100000 in
theorem Pv (a b:Nat) (hab:b<=a) (ha:(dig a).length<=100000):cL prog 138 [digA (dig a),digA (dig b)] S tk k=some (digA (dig (a - b)),S,tk,k):=by
 have hlb:(dig b).length<=(dig a).length:=Bf.2 (Nat.lt_of_le_of_lt hab (Bf.1 (Nat.le_refl _)))
 refine opP func138 ntmps138 ?_
 simp (maxSteps:=10^6)+contextual(disch:=try exact dqd)only[ev1,simprocAttr,AV.int,AV.bool,AV.str,results138,digA]
 refine loop1 (P:=prog) (fun x st=>st.T.length=41/\(x.1<=(dig a).length)/\(N6 (dig a) (dig b) x.1 x.2.1 x.2.2.1)/\(A9 st.tk x.2.2.2 1=true)/\getT st.T 0=digA (dig a)/\getT st.T 1=digA (dig b)/\getT st.T 5=.frz (x.2.1.map digC) x.2.2.2/\getT st.T 6=.int x.2.2.1/\getT st.T 7=.int (x.1:Nat)/\st.S=[]) (fun x=>(dig a).length - x.1) (fun x=>digA (dig (a - b))) (0,[],0,.nilc) ?_ ?_
 case refine_2=>exact ⟨rfl,Nat.zero_le _,N6.start _ _,rfl,rfl,rfl,rfl,rfl,rfl,rfl⟩
 rintro ⟨i,zs,c,cp⟩ ⟨T,S',tk',n'⟩ ⟨hl,hi,hI,hok,e0,e1,e5,e6,e7,eS⟩ IH
 simp only at hi hI hok e0 e1 e5 e6 e7 eS
 subst eS
 obtain ⟨g,hg,hT⟩:=Ap hl
 rw [hg] at e0 e1 e5 e6 e7
 subst hT
 clear hg hl
 have a8:=Av (i:=i) (by omega)
 have hzl:=hI.len
 have hr:=Gv zs
 have hc:=hI.c01
 have bc:=D2 hok
 have bm:(zs.map digC).length+1<=1048576:=by simp; omega
 by_cases hlt:i<(dig a).length
 ·have d2:decide ((i:Int)<((dig a).length:Int))=true:=by simpa using hlt
  obtain ⟨x,hx⟩:=Ab hlt
  have hx':=B9 hx
  have hxk:=D6 (Ba a) hx
  have hw1:IntKind.i64.wrap (x - c)=x - c:=Ad (by unfold i64; omega)
  by_cases hm:i<(dig b).length
  ·have d3:decide ((i:Int)<((dig b).length:Int))=true:=by simpa using hm
   obtain ⟨y,hy⟩:=Ab hm
   have eh:=B9 hy
   have hyk:=D6 (Ba b) hy
   have vf:y=(nth (dig b) i).getD 0:=by rw [hy]; rfl
   have hw2:IntKind.i64.wrap (x - c - y)=x - c - y:=Ad (by unfold i64; omega)
   by_cases hneg:x - c - y<0
   ·have d4:decide (x - c - y<0)=true:=by simpa using hneg
    have hw3:IntKind.i64.wrap (x - c - y+10000)=x - c - y+10000:=Ad (by unfold i64; omega)
    simp (maxSteps:=10^6)+contextual(disch:=try exact dqd)only[ev1,simprocAttr,AV.int,AV.bool,AV.str,results138,e0,e1,e5,e6,e7,digA,d2,d3,d4,hx',eh,a8,hw1,hw2,hw3,hr]
    exact IH (i+1,zs++[x - c - y+10000],1,Bp tk' cp 1) _ (by first|omega|(simp only; omega)) ⟨rfl,by first|omega|(dsimp only; omega),hI.step hx vf (by first|omega|(dsimp only; omega)) (.inr rfl) (by first|omega|(dsimp only; omega)),bc,(by first|rfl|simp only [getT,List.map_append,List.map_cons,List.map_nil,digC,digA]),(by first|rfl|simp only [getT,List.map_append,List.map_cons,List.map_nil,digC,digA]),(by first|rfl|simp only [getT,List.map_append,List.map_cons,List.map_nil,digC,digA]),(by first|rfl|simp only [getT,List.map_append,List.map_cons,List.map_nil,digC,digA]),(by first|rfl|simp only [getT,List.map_append,List.map_cons,List.map_nil,digC,digA]),(by first|rfl|simp only [getT,List.map_append,List.map_cons,List.map_nil,digC,digA])⟩
   ·have d4:decide (x - c - y<0)=false:=by simpa using hneg
    simp (maxSteps:=10^6)+contextual(disch:=try exact dqd)only[ev1,simprocAttr,AV.int,AV.bool,AV.str,results138,e0,e1,e5,e6,e7,digA,d2,d3,d4,hx',eh,a8,hw1,hw2,hr]
    exact IH (i+1,zs++[x - c - y],0,Bp tk' cp 1) _ (by first|omega|(simp only; omega)) ⟨rfl,by first|omega|(dsimp only; omega),hI.step hx vf (by first|omega|(dsimp only; omega)) (.inl rfl) (by first|omega|(dsimp only; omega)),bc,(by first|rfl|simp only [getT,List.map_append,List.map_cons,List.map_nil,digC,digA]),(by first|rfl|simp only [getT,List.map_append,List.map_cons,List.map_nil,digC,digA]),(by first|rfl|simp only [getT,List.map_append,List.map_cons,List.map_nil,digC,digA]),(by first|rfl|simp only [getT,List.map_append,List.map_cons,List.map_nil,digC,digA]),(by first|rfl|simp only [getT,List.map_append,List.map_cons,List.map_nil,digC,digA]),(by first|rfl|simp only [getT,List.map_append,List.map_cons,List.map_nil,digC,digA])⟩
  ·have d3:decide ((i:Int)<((dig b).length:Int))=false:=by simpa using hm
   have vf:(0:Int)=(nth (dig b) i).getD 0:=by rw [Ac,List.getElem?_eq_none (by omega)]; rfl
   by_cases hneg:x - c<0
   ·have d4:decide (x - c<0)=true:=by simpa using hneg
    have hw3:IntKind.i64.wrap (x - c+10000)=x - c+10000:=Ad (by unfold i64; omega)
    simp (maxSteps:=10^6)+contextual(disch:=try exact dqd)only[ev1,simprocAttr,AV.int,AV.bool,AV.str,results138,e0,e1,e5,e6,e7,digA,d2,d3,d4,hx',a8,hw1,hw3,hr]
    exact IH (i+1,zs++[x - c+10000],1,Bp tk' cp 1) _ (by first|omega|(simp only; omega)) ⟨rfl,by first|omega|(dsimp only; omega),hI.step hx vf (by first|omega|(dsimp only; omega)) (.inr rfl) (by first|omega|(dsimp only; omega)),bc,(by first|rfl|simp only [getT,List.map_append,List.map_cons,List.map_nil,digC,digA]),(by first|rfl|simp only [getT,List.map_append,List.map_cons,List.map_nil,digC,digA]),(by first|rfl|simp only [getT,List.map_append,List.map_cons,List.map_nil,digC,digA]),(by first|rfl|simp only [getT,List.map_append,List.map_cons,List.map_nil,digC,digA]),(by first|rfl|simp only [getT,List.map_append,List.map_cons,List.map_nil,digC,digA]),(by first|rfl|simp only [getT,List.map_append,List.map_cons,List.map_nil,digC,digA])⟩
   ·have d4:decide (x - c<0)=false:=by simpa using hneg
    simp (maxSteps:=10^6)+contextual(disch:=try exact dqd)only[ev1,simprocAttr,AV.int,AV.bool,AV.str,results138,e0,e1,e5,e6,e7,digA,d2,d3,d4,hx',a8,hw1,hr]
    exact IH (i+1,zs++[x - c],0,Bp tk' cp 1) _ (by first|omega|(simp only; omega)) ⟨rfl,by first|omega|(dsimp only; omega),hI.step hx vf (by first|omega|(dsimp only; omega)) (.inl rfl) (by first|omega|(dsimp only; omega)),bc,(by first|rfl|simp only [getT,List.map_append,List.map_cons,List.map_nil,digC,digA]),(by first|rfl|simp only [getT,List.map_append,List.map_cons,List.map_nil,digC,digA]),(by first|rfl|simp only [getT,List.map_append,List.map_cons,List.map_nil,digC,digA]),(by first|rfl|simp only [getT,List.map_append,List.map_cons,List.map_nil,digC,digA]),(by first|rfl|simp only [getT,List.map_append,List.map_cons,List.map_nil,digC,digA]),(by first|rfl|simp only [getT,List.map_append,List.map_cons,List.map_nil,digC,digA])⟩
 ·have d2:decide ((i:Int)<((dig a).length:Int))=false:=by simpa using hlt
  have bp:i=(dig a).length:=by omega
  subst bp
  have hT:=fun c' S tk k=>Pb S tk k zs c' (by omega)
  rw [hI.done hab] at hT
  simp only [digC,digA] at hT
  simp (maxSteps:=10^6)+contextual(disch:=try exact dqd)only[ev1,simprocAttr,AV.int,AV.bool,AV.str,results138,e0,e1,e5,e6,e7,digA,d2,hT]
end
theorem Ajb {p q:Bool} (h:p≠q) {X Y:Nat} (hl:Y<=X):bigA (p && !decide (dig (X - Y)=[])) (dig (X - Y))=zA (sg p X+sg q Y):=by
 rw [<- Apk h hl,Aqg (fun e=>by rw [e,Dc]; simp)]
 congr 1
 by_cases h0:X - Y=0
 ·rw [h0]; cases p <;> simp [sg]
 ·have:¬ dig (X - Y)=[]:=fun e=>h0 (Gc.1 e)
  simp [this]
section
variable (S:List Ent) (tk:List Nat) (k:Nat)
theorem Wo (x y:Int) (hx:(dig x.natAbs).length<=90000) (hy:(dig y.natAbs).length<=90000):cL prog 121 [zA x,zA y] S tk k=some (zA (x+y),S,tk,k):=by
 refine opP func121 ntmps121 (hp3:=rfl) ?_
 have hL:=fun S tk k=>Uk S tk k x.natAbs y.natAbs (by omega) (by omega)
 have hs:=Alj x
 have ht:=Alj y
 by_cases hpq:decide (x<0)=decide (y<0)
 ·obtain ⟨h1,h2⟩:=Yg hpq
  have hP:=fun S tk k=>Aay S tk k x.natAbs y.natAbs (by omega) (by omega)
  have d1:(decide (x<0) == decide (y<0))=true:=by simpa using hpq
  simp only [zA,h1,h2]
  simp only [digA] at hP
  simp (maxSteps:=10^6)+contextual(disch:=try exact dqd)only[ev1,simprocAttr,AV.int,AV.bool,AV.str,results121,bigA,digA,d1,hP]
 ·have d1:(decide (x<0) == decide (y<0))=false:=by simpa using hpq
  by_cases hlt:x.natAbs<y.natAbs
  ·have d2:decide (x.natAbs<y.natAbs)=true:=by simpa using hlt
   have hM:=fun S tk k=>Pv S tk k y.natAbs x.natAbs (by omega) (by omega)
   have hz:=Ajb (p:=decide (y<0)) (q:=decide (x<0)) (fun e=>hpq e.symm) (X:=y.natAbs) (Y:=x.natAbs) (by omega)
   have hp:=L6 (y.natAbs - x.natAbs)
   rw [hs,ht,Int.add_comm] at hz
   rw [<- hz]
   rw [d2] at hL
   simp only [digA] at hL hM
   cases d3:decide (y<0) with
   | true =>
    rw [d3] at d1
    simp (maxSteps:=10^6)+contextual(disch:=try exact dqd)only[ev1,simprocAttr,AV.int,AV.bool,AV.str,results121,zA,bigA,digA,d1,d3,hL,hM,hp,Bool.true_and,Bool.false_and]
   | false =>
    rw [d3] at d1
    simp (maxSteps:=10^6)+contextual(disch:=try exact dqd)only[ev1,simprocAttr,AV.int,AV.bool,AV.str,results121,zA,bigA,digA,d1,d3,hL,hM,hp,Bool.true_and,Bool.false_and]
  ·have d2:decide (x.natAbs<y.natAbs)=false:=by simpa using hlt
   have hM:=fun S tk k=>Pv S tk k x.natAbs y.natAbs (by omega) (by omega)
   have hz:=Ajb (p:=decide (x<0)) (q:=decide (y<0)) hpq (X:=x.natAbs) (Y:=y.natAbs) (by omega)
   have hp:=L6 (x.natAbs - y.natAbs)
   rw [hs,ht] at hz
   rw [<- hz]
   rw [d2] at hL
   simp only [digA] at hL hM
   cases d3:decide (x<0) with
   | true =>
    rw [d3] at d1
    simp (maxSteps:=10^6)+contextual(disch:=try exact dqd)only[ev1,simprocAttr,AV.int,AV.bool,AV.str,results121,zA,bigA,digA,d1,d3,hL,hM,hp,Bool.true_and,Bool.false_and]
   | false =>
    rw [d3] at d1
    simp (maxSteps:=10^6)+contextual(disch:=try exact dqd)only[ev1,simprocAttr,AV.int,AV.bool,AV.str,results121,zA,bigA,digA,d1,d3,hL,hM,hp,Bool.true_and,Bool.false_and]
theorem Aji:cL prog 133 [] S tk k=some (qA 0 1,S,tk,k):=by
 have jc:dig 1=[(1:Int)]:=Nf (d:=(1:Int)) (by omega) (by omega)
 refine opP func133 ntmps133 (hp3:=rfl) ?_
 simp (maxSteps:=10^6)+contextual(disch:=try exact dqd)only[ev1,simprocAttr,AV.int,AV.bool,AV.str,results133,qA,ratA,digA]
 simp [jc,Dc,digC]
theorem Amq (n:Int) (hn:i64 n):cL prog 56 [.int n] S tk k=some (qA n 1,S,tk,k):=by
 have jc:dig 1=[(1:Int)]:=Nf (d:=(1:Int)) (by omega) (by omega)
 refine opP func56 ntmps56 (hp3:=rfl) ?_
 have h1:=fun S tk k=>Lw S tk k n hn
 simp only [zA,bigA,digA] at h1
 simp (maxSteps:=10^6)+contextual(disch:=try exact dqd)only[ev1,simprocAttr,AV.int,AV.bool,AV.str,results56,qA,ratA,digA,h1]
 simp [jc,digC]
end
end
section
open Go
end
section
open Go Tryz
theorem Rz {l:List Int} {i:Nat} {x:Int} (h:i<l.length):(l.set i x).drop i=x :: l.drop (i+1):=by
 rw [Ar (Yi h)]
 congr 1
 rw [List.drop_set]; simp
theorem T3 (n:Nat):okD (List.replicate n 0):=fun d hd=>by
 have:=(List.mem_replicate.1 hd).2; omega
structure L4 (A:Nat) (b:Int) (m:Nat) (r:Int) (out:List Int):Prop where
 len:out.length=(dig A).length
 ok:okD out
 r0:0<=r/\r<b
 eqv:val ((dig A).drop m)=val (out.drop m)*b+r
theorem L4.start {A:Nat} {b:Int} (h:0<b):L4 A b (dig A).length 0 (List.replicate (dig A).length 0):=by
 refine ⟨by simp,T3 _,by omega,?_⟩
 rw [List.drop_length,List.drop_eq_nil_of_le (by simp)]; simp [val]
theorem L4.step {A:Nat} {b:Int} {m:Nat} {r x:Int} {out:List Int} (h:L4 A b m r out) (hm:m≠0) (sv:m<=(dig A).length) (hx:nth (dig A) (m - 1)=some x) :
  L4 A b (m - 1) ((r*10000+x).tmod b) (out.set (m - 1) ((r*10000+x).tdiv b))/\0<=(r*10000+x).tdiv b/\(r*10000+x).tdiv b<10000/\0<=(r*10000+x).tmod b/\(r*10000+x).tmod b<b:=by
 have hr:=h.r0
 have hxk:=D6 (Ba A) hx
 have hn:0<=r*10000+x:=by omega
 have e1:(r*10000+x).tdiv b=(r*10000+x) / b:=Int.tdiv_eq_ediv_of_nonneg hn
 have e2:(r*10000+x).tmod b=(r*10000+x) % b:=Int.tmod_eq_emod_of_nonneg hn
 have m0:=Int.emod_nonneg (r*10000+x) (show b≠0 by omega)
 have m1:=Int.emod_lt_of_pos (r*10000+x) (show 0<b by omega)
 have q0:0<=(r*10000+x) / b:=Int.ediv_nonneg hn (by omega)
 have q1:(r*10000+x) / b<10000:=Int.ediv_lt_of_lt_mul (by omega) (by omega)
 have xk:m - 1+1=m:=by omega
 have hlen:m - 1<out.length:=by have:=h.len; omega
 rw [e1,e2]
 refine ⟨⟨by rw [List.length_set]; exact h.len,Vp h.ok q0 q1,⟨m0,m1⟩,?_⟩,q0,q1,m0,m1⟩
 have hv:=h.eqv
 rw [Ar hx,Rz hlen,val,val,xk,hv]
 have hd:=Int.emod_add_mul_ediv (r*10000+x) b
 rw [Int.add_mul,Int.mul_add,<- Int.mul_assoc,Int.mul_comm ((r*10000+x) / b)]
 generalize b*((r*10000+x) / b)=t at *
 generalize (r*10000+x) % b=u at *
 rw [Int.mul_assoc]
 generalize val (out.drop m)*b=w at *
 omega
theorem Ank {A B Q R:Int} (h:A=Q*B+R) (h0:0<=R) (h1:R<B):A / B=Q/\A % B=R:=by
 have hb:0<B:=by omega
 subst h
 constructor
 ·rw [Int.add_comm,Int.add_mul_ediv_right _ _ (by omega),Int.ediv_eq_zero_of_lt h0 h1]; omega
 ·rw [Int.add_comm,Int.add_mul_emod_self_right,Int.emod_eq_of_lt h0 h1]
theorem Akh {A B:Nat} {Q R:Int} (h:(A:Int)=Q*B+R) (h0:0<=R) (h1:R<B):Q=((A / B:Nat):Int)/\R=((A % B:Nat):Int):=by
 obtain ⟨e1,e2⟩:=Ank h h0 h1
 rw [<- e1,<- e2]; exact ⟨rfl,rfl⟩
theorem L4.done {A B:Nat} {r:Int} {out:List Int} (h:L4 A B 0 r out):B0 out=dig (A / B)/\r.toNat=A % B:=by
 have hv:=h.eqv
 rw [List.drop_zero,List.drop_zero,Bj] at hv
 obtain ⟨e1,e2⟩:=Akh hv h.r0.1 h.r0.2
 rw [Dp h.ok,e1]
 exact ⟨by congr 1,by omega⟩
theorem Yl (n:Nat):((10000 ^ n:Nat):Int)=(10000:Int) ^ n:=Int.natCast_pow ..
structure Dg (a d z i:Nat) (c:Int) (out:List Int):Prop where
 len:out.length=z+i
 ok:okD out
 c0:0<=c/\c<=9999
 eqv:val out+10000 ^ (z+i)*(c+d*val ((dig a).drop i))=(a*d*10000 ^ z:Nat)
theorem Dg.start (a d z:Nat):Dg a d z 0 0 (List.replicate z 0):=by
 refine ⟨by simp,T3 _,by omega,?_⟩
 rw [Gs,List.drop_zero,Bj,Int.natCast_mul,Int.natCast_mul,Yl,Nat.add_zero,Int.zero_add,Int.zero_add,Int.mul_comm,Int.mul_comm (a:Int)]
theorem Ahv {x d:Int} (h0:0<=x) (h1:x<10000) (h2:0<=d) (h3:d<10000):0<=x*d/\x*d<=99980001:=by
 have a:=Int.mul_nonneg h0 h2
 have b:=Int.mul_le_mul (a:=x) (b:=d) (c:=9999) (d:=9999) (by omega) (by omega) h2 (by omega)
 omega
theorem Dg.step {a d z i:Nat} {c x n:Int} {out:List Int} (h:Dg a d z i c out) (hd:d<10000) (hx:nth (dig a) i=some x) (hn:n=c+x*d) :
  Dg a d z (i+1) (n.tdiv 10000) (out++[n.tmod 10000])/\0<=n/\n<=99990000:=by
 have hxk:=D6 (Ba a) hx
 have hm:=Ahv hxk.1 hxk.2 (Int.natCast_nonneg d) (by omega)
 have h3:=h.c0
 have e1:n.tdiv 10000=n / 10000:=Int.tdiv_eq_ediv_of_nonneg (by omega)
 have e2:n.tmod 10000=n % 10000:=Int.tmod_eq_emod_of_nonneg (by omega)
 refine ⟨⟨by simp [h.len]; omega,Ms h.ok (by omega) (by omega),by omega,?_⟩,by omega,by omega⟩
 have hv:=h.eqv
 rw [Ar hx,val] at hv
 have e3:(d:Int)*(x+10000*val ((dig a).drop (i+1)))=x*d+10000*(d*val ((dig a).drop (i+1))):=by
  rw [Int.mul_add,Int.mul_comm (d:Int) x,<- Int.mul_assoc,Int.mul_comm (d:Int) 10000,Int.mul_assoc]
 rw [e3] at hv
 have:n.tmod 10000+10000*(n.tdiv 10000+d*val ((dig a).drop (i+1)))=c+(x*d+10000*(d*val ((dig a).drop (i+1)))):=by omega
 rw [K0,h.len,Int.add_assoc,<- Nat.add_assoc,Hc,this]
 exact hv
theorem Dg.last {a d z i:Nat} {c:Int} {out:List Int} (h:Dg a d z i c out) (hi:(dig a).length<=i) :
  Dg a d z (i+1) (c.tdiv 10000) (out++[c.tmod 10000])/\c.tdiv 10000=0:=by
 have h3:=h.c0
 have e1:c.tdiv 10000=c / 10000:=Int.tdiv_eq_ediv_of_nonneg (by omega)
 have e2:c.tmod 10000=c % 10000:=Int.tmod_eq_emod_of_nonneg (by omega)
 refine ⟨⟨by simp [h.len]; omega,Ms h.ok (by omega) (by omega),by omega,?_⟩,by omega⟩
 have hv:=h.eqv
 rw [List.drop_eq_nil_of_le hi,val] at hv
 rw [List.drop_eq_nil_of_le (by omega),val,K0,h.len,Int.add_assoc,<- Nat.add_assoc,Hc]
 rw [show c.tmod 10000+10000*(c.tdiv 10000+d*0)=c+d*0 by omega]
 exact hv
theorem Dg.done {a d z i:Nat} {c:Int} {out:List Int} (h:Dg a d z i c out) (hi:(dig a).length<=i) (hc:c=0):B0 out=dig (a*d*10000 ^ z):=by
 have hv:=h.eqv
 rw [List.drop_eq_nil_of_le hi,val,hc] at hv
 rw [Dp h.ok]
 congr 1
 have e:(10000:Int) ^ (z+i)*(0+d*0)=0:=by rw [Int.mul_zero,Int.add_zero,Int.mul_zero]
 rw [e] at hv
 omega
theorem Aqh (id z:Nat):tokA id 1 (J8 (Gi 1 z (Aov z)))=.frz ((List.replicate z (0:Int)).map digC) (.tok id 0 1):=by
 unfold Aov
 rw [Np (by simp),List.take_of_length_le (by simp),Nq]
 rfl
def lowV (b i:Nat):Nat:=(val ((dig b).take i)).toNat
theorem Q1 (b i:Nat):((lowV b i:Nat):Int)=val ((dig b).take i):=by
 have:=Dv (l:=(dig b).take i) fun d hd=>Ba b d (List.mem_of_mem_take hd)
 unfold lowV; omega
theorem Ahr (b:Nat):lowV b 0=0:=rfl
theorem Ahq {b i:Nat} {x:Int} (hx:nth (dig b) i=some x):lowV b (i+1)=lowV b i+x.toNat*10000 ^ i:=by
 have hxk:=D6 (Ba b) hx
 have hl:i<(dig b).length:=Bb hx
 have h1:=Q1 b (i+1)
 rw [List.take_add_one,show (dig b)[i]?=some x by rw [<- Ac]; exact hx,Option.toList_some,K0,List.length_take,Nat.min_eq_left (by omega),<- Q1 b i] at h1
 have h2:((x.toNat*10000 ^ i:Nat):Int)=10000 ^ i*x:=by
  rw [Int.natCast_mul,Yl,Int.mul_comm,Int.toNat_of_nonneg hxk.1]
 omega
theorem Akz (b:Nat):lowV b (dig b).length=b:=by
 unfold lowV; rw [List.take_length,Bj]; rfl
theorem Ahp (b i:Nat):lowV b i<=b:=by
 have h1:val ((dig b).take i)+10000 ^ ((dig b).take i).length*val ((dig b).drop i)=b:=by
  rw [<- D5,List.take_append_drop,Bj]
 have h3:=Dv (l:=(dig b).drop i) fun d hd=>Ba b d (List.mem_of_mem_drop hd)
 have h4:=Int.mul_nonneg (Int.le_of_lt (Pk ((dig b).take i).length)) h3
 have:=Q1 b i
 omega
section
variable (S:List Ent) (tk:List Nat) (k:Nat)
set_option maxRecDepth 100000 in
theorem Wm (a d z:Nat) (hd:d<10000) (ha:(dig a).length<=100000) (hz:z<=100000):cL prog 144 [digA (dig a),.int (d:Nat),.int (z:Nat)] S tk k=some (digA (dig (a*d*10000 ^ z)),S,tk,k):=by
 refine opP func144 ntmps144 ?_
 have uz:(A8 prog 45).bind (Nc prog)=some 8:=by kernel_rfl
 have je:=Ahu (P:=prog) (t:=45) (n:=z) (by simp only [tys,Option.bind_some]) (by simp only [tys,Option.bind_some]) uz (by omega)
 have hzf:=Aqh 0 z
 simp (maxSteps:=10^6)+contextual(disch:=try exact dqd)only[ev1,simprocAttr,AV.int,AV.bool,AV.str,results144,↓Uu,digA,je,hzf]
 refine loop1 (P:=prog) (fun x st=>st.T.length=43/\(Dg a d z x.1 x.2.1 x.2.2.1)/\(x.1<=(dig a).length+1)/\(A9 st.tk x.2.2.2 1=true)/\(x.1=(dig a).length+1->x.2.1=0)/\getT st.T 0=digA (dig a)/\getT st.T 1=.int (d:Nat)/\getT st.T 7=.frz (x.2.2.1.map digC) x.2.2.2/\getT st.T 8=.int x.2.1/\getT st.T 9=.int (x.1:Nat)/\st.S=[]) (fun x=>(dig a).length+1 - x.1) (fun x=>digA (dig (a*d*10000 ^ z))) (0,0,List.replicate z 0,.tok 0 0 1) ?_ ?_
 case refine_2=>exact ⟨rfl,Dg.start a d z,by omega,rfl,fun _=>rfl,rfl,rfl,rfl,rfl,rfl,rfl⟩
 rintro ⟨i,w,out,c⟩ ⟨T,S',tk',n'⟩ ⟨hl,hp,hi,hok,zj,e0,e1,e7,e8,e9,eS⟩ IH
 simp only at hp hi hok zj e0 e1 e7 e8 e9 eS
 subst eS
 obtain ⟨g,hg,hT⟩:=Ap hl
 rw [hg] at e0 e1 e7 e8 e9
 subst hT
 clear hg hl
 have hlen:=hp.len
 have hr:=Gv out
 have hn:(out.map digC).length+1<=1048576:=by simp; omega
 have bc:=D2 hok
 have a8:=Av (i:=i) (by omega)
 have ve:=hp.c0
 have ez:¬ ((10000:Int)=0):=by omega
 by_cases ca:i<(dig a).length
 ·have d1:decide ((i:Int)<((dig a).length:Int))=true:=by simpa using ca
  obtain ⟨x,hx⟩:=Ab ca
  have hx':=B9 hx
  have hxk:=D6 (Ba a) hx
  have hm:=Ahv hxk.1 hxk.2 (Int.natCast_nonneg d) (by omega)
  obtain ⟨n,hn0⟩:∃ n,n=w+x*d:=⟨_,rfl⟩
  obtain ⟨ai,bm,db⟩:=hp.step hd hx hn0
  have hw1:IntKind.i64.wrap (x*d)=x*d:=Ad (by unfold i64; omega)
  have hw2:IntKind.i64.wrap (w+x*d)=n:=by rw [Ad (by unfold i64; omega)]; exact hn0.symm
  have mn:IntKind.i64.wrap (n.tdiv 10000)=n.tdiv 10000:=by
   have e1:n.tdiv 10000=n / 10000:=Int.tdiv_eq_ediv_of_nonneg (by omega)
   rw [e1,Ad (by unfold i64; omega)]
  simp (maxSteps:=10^6)+contextual(disch:=try exact dqd)only[ev1,simprocAttr,AV.int,AV.bool,AV.str,results144,digA,e0,e1,e7,e8,e9,d1,hx',hw1,hw2,mn,hr,a8,ez]
  exact IH (i+1,n.tdiv 10000,out++[n.tmod 10000],Bp tk' c 1) _ (by first|omega|(simp only; omega)) ⟨rfl,ai,by first|omega|(dsimp only; omega),bc,by first|omega|(dsimp only; omega),(by first|rfl|simp only [getT,List.map_append,List.map_cons,List.map_nil,digC,digA]),(by first|rfl|simp only [getT,List.map_append,List.map_cons,List.map_nil,digC,digA]),(by first|rfl|simp only [getT,List.map_append,List.map_cons,List.map_nil,digC,digA]),(by first|rfl|simp only [getT,List.map_append,List.map_cons,List.map_nil,digC,digA]),(by first|rfl|simp only [getT,List.map_append,List.map_cons,List.map_nil,digC,digA]),(by first|rfl|simp only [getT,List.map_append,List.map_cons,List.map_nil,digC,digA])⟩
 ·have d1:decide ((i:Int)<((dig a).length:Int))=false:=by simpa using ca
  by_cases cw:w > 0
  ·have d3:decide (w > 0)=true:=by simpa using cw
   obtain ⟨ai,ke⟩:=hp.last (by omega)
   have mn:IntKind.i64.wrap (w.tdiv 10000)=w.tdiv 10000:=by
    rw [ke,Ad (by unfold i64; omega)]
   simp (maxSteps:=10^6)+contextual(disch:=try exact dqd)only[ev1,simprocAttr,AV.int,AV.bool,AV.str,results144,digA,e0,e1,e7,e8,e9,d1,d3,mn,hr,a8,ez]
   exact IH (i+1,w.tdiv 10000,out++[w.tmod 10000],Bp tk' c 1) _ (by first|omega|(simp only; omega)) ⟨rfl,ai,by first|omega|(dsimp only; omega),bc,fun _=>ke,(by first|rfl|simp only [getT,List.map_append,List.map_cons,List.map_nil,digC,digA]),(by first|rfl|simp only [getT,List.map_append,List.map_cons,List.map_nil,digC,digA]),(by first|rfl|simp only [getT,List.map_append,List.map_cons,List.map_nil,digC,digA]),(by first|rfl|simp only [getT,List.map_append,List.map_cons,List.map_nil,digC,digA]),(by first|rfl|simp only [getT,List.map_append,List.map_cons,List.map_nil,digC,digA]),(by first|rfl|simp only [getT,List.map_append,List.map_cons,List.map_nil,digC,digA])⟩
  ·have d3:decide (w > 0)=false:=by simpa using cw
   have fm:=hp.done (by omega) (by omega)
   have hT:=fun S tk k=>Pb S tk k out c (by omega)
   simp only [digA,fm] at hT
   simp (maxSteps:=10^6)+contextual(disch:=try exact dqd)only[ev1,simprocAttr,AV.int,AV.bool,AV.str,results144,digA,e0,e1,e7,e8,e9,d1,d3,hT]
theorem Ti (a d:Nat) (hd:d<10000) (ha:(dig a).length<=100000):cL prog 144 [digA (dig a),.int (d:Nat),.int 0] S tk k=some (digA (dig (a*d)),S,tk,k):=by
 have:=Wm S tk k a d 0 hd ha (by omega)
 rw [Nat.pow_zero,Nat.mul_one] at this
 exact this
theorem Ac9 (a b:Nat) (ca:Cap) (ha:(dig a).length<=100000) (hb:(dig b).length<=100000):cL prog 136 [.frz ((dig a).map digC) ca,digA (dig b)] S tk k=some (digA (dig (a+b)),S,tk,k) :=
 (Anb (args:=[.frz ((dig a).map digC) ca,digA (dig b)]) (args':=[digA (dig a),digA (dig b)]) rfl rfl rfl).trans (Aay S tk k a b ha hb)
set_option maxRecDepth 100000 in
theorem Ae8 (a b:Nat) (ha:(dig a).length<=45000) (hb:(dig b).length<=45000):cL prog 139 [digA (dig a),digA (dig b)] S tk k=some (digA (dig (a*b)),S,tk,k):=by
 refine opP func139 ntmps139 ?_
 simp (maxSteps:=10^6)+contextual(disch:=try exact dqd)only[ev1,simprocAttr,AV.int,AV.bool,AV.str,results139,digA]
 refine loop1 (P:=prog) (fun x st=>st.T.length=23/\(x.1<=(dig b).length)/\(x.2.1=a*lowV b x.1)/\getT st.T 0=digA (dig a)/\getT st.T 1=digA (dig b)/\getT st.T 5=.frz ((dig x.2.1).map digC) x.2.2/\getT st.T 6=.int (x.1:Nat)/\st.S=[]) (fun x=>(dig b).length - x.1) (fun x=>digA (dig (a*b))) (0,0,.nilc) ?_ ?_
 case refine_2=>exact ⟨rfl,Nat.zero_le _,by rw [Ahr,Nat.mul_zero],rfl,rfl,rfl,rfl,rfl⟩
 rintro ⟨i,v,c⟩ ⟨T,S',tk',n'⟩ ⟨hl,hi,hv,e0,e1,e5,e6,eS⟩ IH
 simp only at hi hv e0 e1 e5 e6 eS
 subst eS
 obtain ⟨g,hg,hT⟩:=Ap hl
 rw [hg] at e0 e1 e5 e6
 subst hT
 clear hg hl
 subst hv
 by_cases hlt:i<(dig b).length
 ·have d1:decide ((i:Int)<((dig b).length:Int))=true:=by simpa using hlt
  obtain ⟨x,hx⟩:=Ab hlt
  have hx':=B9 hx
  have hxk:=D6 (Ba b) hx
  have a8:=Av (i:=i) (by omega)
  have hD:=fun S tk k=>Wm S tk k a x.toNat i (by omega) (by omega) (by omega)
  rw [Int.toNat_of_nonneg hxk.1] at hD
  have e:a*lowV b i+a*x.toNat*10000 ^ i=a*lowV b (i+1):=by rw [Ahq hx,Nat.mul_add,Nat.mul_assoc]
  have m1:(dig (a*lowV b i)).length<=90000:=Nat.le_trans (Mj (Nat.mul_le_mul_left a (Ahp b i))) (Ld ha hb)
  have m2:(dig (a*lowV b (i+1))).length<=90000:=Nat.le_trans (Mj (Nat.mul_le_mul_left a (Ahp b (i+1)))) (Ld ha hb)
  have m3:(dig (a*x.toNat*10000 ^ i)).length<=90000:=Nat.le_trans (Mj (by omega)) m2
  have hP:=fun S tk k=>Ac9 S tk k (a*lowV b i) (a*x.toNat*10000 ^ i) c (by omega) (by omega)
  rw [e] at hP
  simp only [digA] at hD hP
  simp (maxSteps:=10^6)+contextual(disch:=try exact dqd)only[ev1,simprocAttr,AV.int,AV.bool,AV.str,results139,digA,e0,e1,e5,e6,d1,hx',hD,hP,a8]
  exact IH (i+1,a*lowV b (i+1),.unk) _ (by first|omega|(simp only; omega)) ⟨rfl,by first|omega|(dsimp only; omega),rfl,(by first|rfl|simp only [getT,List.map_append,List.map_cons,List.map_nil,digC,digA]),(by first|rfl|simp only [getT,List.map_append,List.map_cons,List.map_nil,digC,digA]),(by first|rfl|simp only [getT,List.map_append,List.map_cons,List.map_nil,digC,digA]),(by first|rfl|simp only [getT,List.map_append,List.map_cons,List.map_nil,digC,digA]),(by first|rfl|simp only [getT,List.map_append,List.map_cons,List.map_nil,digC,digA])⟩
 ·have d1:decide ((i:Int)<((dig b).length:Int))=false:=by simpa using hlt
  have bp:i=(dig b).length:=by omega
  subst bp
  rw [Akz] at e5
  simp (maxSteps:=10^6)+contextual(disch:=try exact dqd)only[ev1,simprocAttr,AV.int,AV.bool,AV.str,results139,digA,e0,e1,e5,e6,d1]
end
theorem Aaf:∀ {l:List Int} {i:Nat} {x:Int},nth l i=some x->l.set i x=l
 | _ :: _,0,_,h=>by simp only [nth,Option.some.injEq] at h; subst h; rfl
 | _ :: l,i+1,_,h=>by simp only [nth] at h; simp only [List.set_cons_succ,Aaf h]
 | [],_,_,h=>by simp [nth] at h
section
variable (S:List Ent) (tk:List Nat) (k:Nat)
theorem Wn (l:List Int) (id ep:Nat) (hlen:l.length<=1000000) (h:entAt S id ep=some (l.map numC)):cL prog 143 [.sref id ep 0 l.length 1] S tk k=some (.sref id ep 0 (B0 l).length 1,S,tk,k):=by
 refine opS func143 ntmps143 ?_
 have hid:id<S.length:=by
  obtain ⟨e,h1,-⟩:=B7 h
  exact Bb h1
 simp (maxSteps:=10^6)+contextual(disch:=try exact dqd)only[evs1,simprocAttr,AV.int,AV.bool,AV.str,results143]
 refine An6 (P:=prog) (fun x st=>st.T.length=22/\(x<=l.length)/\(∀ j,x<=j->∀ x,nth l j=some x->x=0)/\getT st.T 0=.sref id ep 0 l.length 1/\getT st.T 3=.int (x:Nat)/\st.S=S/\st.tk=tk/\st.n=k) (fun x=>x) (fun x=>(.sref id ep 0 (B0 l).length 1,S,tk,k)) (l.length) ?_ ?_
 case refine_2=>exact ⟨rfl,Nat.le_refl _,Pf l,rfl,rfl,rfl,rfl,rfl⟩
 rintro n ⟨T,S',tk',n'⟩ ⟨hl,hn,hz,e0,e3,eS,eT,eN⟩ IH
 subst eS eT eN
 obtain ⟨g,hg,hT⟩:=Ap hl
 rw [hg] at e0 e3
 subst hT
 clear hg hl
 by_cases h0:n=0
 ·have d1:decide ((n:Int) > 0)=false:=by simp; omega
  have ht:=Gb hn hz (.inl h0)
  simp (maxSteps:=10^6)+contextual(disch:=try exact dqd)only[evs1,simprocAttr,AV.int,AV.bool,AV.str,results143,e0,e3,d1,Hd,bound,intN_cast,hn,Nat.le_refl,Nat.zero_le,Nat.zero_mul,Nat.sub_zero,Nat.add_zero]
  rw [ht]; simp [h0]
 ·have d1:decide ((n:Int) > 0)=true:=by simp; omega
  have hp:=Vu h0 (by omega)
  have bm:n - 1<l.length:=by omega
  obtain ⟨x,hx⟩:=Ab bm
  have hx':=Z1 hx
  by_cases fy:x=0
  ·have d2:(x == 0)=true:=by simpa using fy
   simp (maxSteps:=10^6)+contextual(disch:=try exact dqd)only[evs1,simprocAttr,AV.int,AV.bool,AV.str,results143,e0,e3,d1,d2,hp,hx',h,bm,Nat.mul_one,Nat.zero_add]
   exact IH (n - 1) _ (by first|omega|(simp only; omega)) ⟨rfl,by first|omega|(dsimp only; omega),Ve hz hx fy,by and_intros <;> first|rfl|simp only [getT,List.map_append,List.map_cons,List.map_nil,digC,digA]⟩
  ·have d2:(x == 0)=false:=by simpa using fy
   have ht:=Gb hn hz (.inr ⟨x,hx,fy⟩)
   simp (maxSteps:=10^6)+contextual(disch:=try exact dqd)only[evs1,simprocAttr,AV.int,AV.bool,AV.str,results143,e0,e3,d1,d2,hp,hx',h,bm,Nat.mul_one,Nat.zero_add,Hd,bound,intN_cast,hn,Nat.le_refl,Nat.zero_le,Nat.zero_mul,Nat.sub_zero,Nat.add_zero]
   rw [ht]; simp; omega
theorem stepX {r X n:Nat} (hr:(dig r).length<=n) (hX:X<10000*r+10000):(dig X).length<=n+1:=by
 rw [Bf] at hr ⊢
 rw [Nat.pow_succ]; omega
theorem Ak1 {lo hi:Nat} (h:lo<hi) (hh:hi<10000):(((lo:Int)+(hi:Int))+1).tdiv 2=(((lo+hi+1) / 2:Nat):Int):=by
 rw [Int.tdiv_eq_ediv_of_nonneg (by omega)]; omega
set_option maxRecDepth 100000 in
set_option maxHeartbeats 1000000 in
theorem Ul (A B:Nat) (ha:(dig A).length<=90000) (vg:(dig B).length<=90000) (hB:0<B):cL prog 135 [digA (dig A),digA (dig B)] S tk k=some (.tup [digA (dig (A / B)),digA (dig (A % B))],S,tk,k):=by
 refine opP func135 ntmps135 (hp3:=rfl) ?_
 have uz:(A8 prog 45).bind (Nc prog)=some 8:=by kernel_rfl
 have je:=Ahu (P:=prog) (t:=45) (n:=(dig A).length) (by simp only [tys,Option.bind_some]) (by simp only [tys,Option.bind_some]) uz (by omega)
 have d3:=Hj (n:=(dig A).length) (by omega)
 have ai:=L4.start (A:=A) (b:=(B:Int)) (by omega)
 simp (maxSteps:=10^6)+contextual(disch:=try exact dqd)only[ev1,simprocAttr,AV.int,AV.bool,AV.str,results135,digA,je,d3]
 refine loop1 (P:=prog) (fun x st=>st.T.length=61/\(x.1<=(dig A).length)/\(L4 A B x.1 ((x.2.1:Nat):Int) x.2.2.1)/\(∀ j,j<x.1->nth x.2.2.1 j=some 0)/\getT st.T 0=digA (dig A)/\getT st.T 1=digA (dig B)/\getT st.T 6=.sref 0 0 0 (dig A).length 1/\getT st.T 7=.frz ((dig x.2.1).map digC) x.2.2.2/\getT st.T 8=.int ((x.1:Int) - 1)/\st.S=[⟨0,x.2.2.1.map numC⟩]) (fun x=>x.1) (fun x=>.tup [digA (dig (A / B)),digA (dig (A % B))]) ((dig A).length,0,List.replicate (dig A).length 0,.nilc) ?_ ?_
 case refine_2=>exact ⟨rfl,Nat.le_refl _,ai,fun j hj=>by rw [Ac,List.getElem?_replicate,if_pos hj],rfl,rfl,rfl,rfl,rfl,rfl⟩
 rintro ⟨m,r,out,c⟩ ⟨T,S',tk',n'⟩ ⟨hl,hm,hp,hz,e0,e1,e6,e7,e8,eS⟩ IH
 simp only at hm hp hz e0 e1 e6 e7 e8 eS
 subst eS
 obtain ⟨g,hg,hT⟩:=Ap hl
 rw [hg] at e0 e1 e6 e7 e8
 subst hT
 clear hg hl
 have OUT:=IH
 clear IH
 have hlen:=hp.len
 by_cases h0:m=0
 ·have d2:decide ((m:Int) - 1 >= 0)=false:=by simp; omega
  subst h0
  obtain ⟨q1,q2⟩:=hp.done
  have hT:=fun tk k=>Wn [⟨0,out.map numC⟩] tk k out 0 0 (by omega) rfl
  have pp:=Apv (m:=0) (id:=0) (ep:=0) (S:=[⟨0,out.map numC⟩]) (Nat.zero_le _) rfl (M1 out)
  rw [<- Ga,q1] at pp
  rw [hlen,q1] at hT
  have q3:r=A % B:=by simpa using q2
  rw [q3] at e7
  simp (maxSteps:=10^6)+contextual(disch:=try exact dqd)only[ev1,simprocAttr,AV.int,AV.bool,AV.str,results135,digA,e0,e1,e6,e7,e8,d2,hT,pp]
 have d2:decide ((m:Int) - 1 >= 0)=true:=by simp; omega
 have hi:(m:Int) - 1=((m - 1:Nat):Int):=by omega
 obtain ⟨x,hx⟩:=Ab (show m - 1<(dig A).length by omega)
 have hx':=B9 hx
 have hxk:=D6 (Ba A) hx
 have ho:=hz (m - 1) (by omega)
 have hrB:r<B:=by have:=hp.r0; omega
 have ji:(dig r).length<=90000:=Nat.le_trans (Mj (Nat.le_of_lt hrB)) vg
 obtain ⟨hq,g1,g2,g3,g4⟩:=hp.step h0 hm hx
 obtain ⟨X,hX⟩:∃ X:Nat,X=r*10000+x.toNat:=⟨_,rfl⟩
 have hXi:((r:Nat):Int)*10000+x=(X:Int):=by omega
 rw [hXi] at hq g1 g2 g3 g4
 have np:((X:Nat):Int).tdiv (B:Int)=((X / B:Nat):Int):=by
  rw [Int.tdiv_eq_ediv_of_nonneg (Int.natCast_nonneg _),<- Int.natCast_ediv]
 have pr:((X:Nat):Int).tmod (B:Int)=((X % B:Nat):Int):=by
  rw [Int.tmod_eq_emod_of_nonneg (Int.natCast_nonneg _),<- Int.natCast_emod]
 rw [np,pr] at hq
 rw [np] at g1 g2
 have hQ9:X / B<10000:=by have:=Int.ofNat_lt.1 g2; exact this
 clear g1 g2 g3 g4 np pr
 have mb:X - B*(X / B)=X % B:=by have:=Nat.div_add_mod X B; omega
 have hXl:(dig X).length<=90000+1:=stepX ji (by omega)
 obtain ⟨Q,vj⟩:∃ Q,Q=X / B:=⟨_,rfl⟩
 rw [<- vj] at hq hQ9 mb
 have htr:B0 (x :: dig r)=dig X:=by
  have hk:okD (x :: dig r):=fun d hd=>by
   rcases List.mem_cons.1 hd with rfl|hd
   ·exact hxk
   ·exact Ba r d hd
  rw [Dp hk,val,Bj]
  congr 1; omega
 have hT:=fun c S tk k=>Pb S tk k (x :: dig r) c (by simp; omega)
 rw [htr] at hT
 simp only [List.map_cons,digC,digA] at hT
 have aw:Bl 1 ((dig r).map digC)=true:=Gv _
 have ah:([[(.prim (.int .i64 x):AV)]]).length+((dig r).map digC).length<=1048576:=by simp; omega
 have hok1:A9 tk' .tight 1=true:=rfl
 have xl:=Hj (n:=m - 1) (by omega)
 have hL:=fun S tk k=>Uk S tk k X B (by omega) (by omega)
 have ez:∀ (v:Int) j,j<m - 1->nth (out.set (m - 1) v) j=some 0:=fun v j hj=>by
  have:=hz j (by omega)
  rw [Ac] at this ⊢
  rw [List.getElem?_set_ne (by omega)]; exact this
 simp only [digA] at hL
 rw [hi] at e8 d2
 by_cases j2:X<B
 ·have c8:decide (X<B)=true:=by simpa using j2
  rw [c8] at hL
  have hQ0:Q=0:=by rw [vj,Nat.div_eq_of_lt j2]
  subst hQ0
  have hXm:X % B=X:=Nat.mod_eq_of_lt j2
  have hz0:=ez 0
  rw [show ((0:Nat):Int)=0 from rfl,Aaf ho,hXm] at hq
  rw [Aaf ho] at hz0
  simp (maxSteps:=10^6)+contextual(disch:=try exact dqd)only[ev1,simprocAttr,AV.int,AV.bool,AV.str,results135,digA,e0,e1,e6,e7,e8,d2,hx',hT,aw,hL,xl,Ab8]
  exact OUT (m - 1,X,out,.unk) _ (by first|omega|(simp only; omega)) ⟨rfl,by first|omega|(dsimp only; omega),hq,hz0,(by first|rfl|simp only [getT,List.map_append,List.map_cons,List.map_nil,digC,digA]),(by first|rfl|simp only [getT,List.map_append,List.map_cons,List.map_nil,digC,digA]),(by first|rfl|simp only [getT,List.map_append,List.map_cons,List.map_nil,digC,digA]),(by first|rfl|simp only [getT,List.map_append,List.map_cons,List.map_nil,digC,digA]),(by first|rfl|simp only [getT,List.map_append,List.map_cons,List.map_nil,digC,digA]),(by first|rfl|simp only [getT,List.map_append,List.map_cons,List.map_nil,digC,digA])⟩
 have c8:decide (X<B)=false:=by simpa using j2
 rw [c8] at hL
 simp (maxSteps:=10^6)+contextual(disch:=try exact dqd)only[ev1,simprocAttr,AV.int,AV.bool,AV.str,results135,digA,e0,e1,e6,e7,e8,d2,hx',hT,aw,hL,Ab8]
 clear hT aw ah d3 htr ai
 refine loop1 (P:=prog) (fun x st=>st.T.length=61/\(x.1<=Q)/\(Q<=x.2)/\(x.2<10000)/\getT st.T 0=digA (dig A)/\getT st.T 1=digA (dig B)/\getT st.T 6=.sref 0 0 0 (dig A).length 1/\getT st.T 7=digA (dig X)/\getT st.T 8=.int ((m - 1:Nat):Int)/\getT st.T 9=.int ((x.1:Nat):Int)/\getT st.T 10=.int ((x.2:Nat):Int)/\st.S=[⟨0,out.map numC⟩]) (fun x=>x.2 - x.1) (fun x=>.tup [digA (dig (A / B)),digA (dig (A % B))]) (0,9999) ?_ ?_
 case refine_2=>exact ⟨rfl,Nat.zero_le _,by omega,by omega,rfl,rfl,rfl,rfl,rfl,rfl,rfl,rfl⟩
 rintro ⟨lo,hi⟩ ⟨T,S',tk',n'⟩ ⟨hl,gt,hhi,h9,e0,e1,e6,e7,e8,e9,e10,eS⟩ IH
 simp only at gt hhi h9 e0 e1 e6 e7 e8 e9 e10 eS
 subst eS
 obtain ⟨g,hg,hT⟩:=Ap hl
 rw [hg] at e0 e1 e6 e7 e8 e9 e10
 subst hT
 clear hg hl
 have vk:(dig B).length<=100000:=by omega
 by_cases hlt:lo<hi
 ·have d3:decide (((lo:Nat):Int)<((hi:Nat):Int))=true:=by simpa using hlt
  have f1:IntKind.i64.wrap ((lo:Int)+(hi:Int))=(lo:Int)+(hi:Int):=Ad (by unfold i64; omega)
  have f2:IntKind.i64.wrap ((lo:Int)+(hi:Int)+1)=(lo:Int)+(hi:Int)+1:=Ad (by unfold i64; omega)
  have f3:=Ak1 hlt h9
  obtain ⟨mid,zl⟩:∃ mid,mid=(lo+hi+1) / 2:=⟨_,rfl⟩
  rw [<- zl] at f3
  have f4:IntKind.i64.wrap ((mid:Nat):Int)=(mid:Int):=Ad (by unfold i64; omega)
  have f5:IntKind.i64.wrap ((mid:Int) - 1)=((mid - 1:Nat):Int):=by rw [Ad (by unfold i64; omega)]; omega
  have ez:¬ ((2:Int)=0):=by omega
  have tf:=fun S tk k=>Ti S tk k B mid (by omega) vk
  have hBm:(dig (B*mid)).length<=100000:=by
   have h9:=Ld (X:=B) (Y:=mid) vg (n:=1) (Bf.2 (by omega)); omega
  have hC:=fun S tk k=>Uk S tk k X (B*mid) (by omega) (by omega)
  simp only [digA] at tf hC
  by_cases hle:B*mid<=X
  ·have d4:decide (X<B*mid)=false:=by simp; omega
   rw [d4] at hC
   have hmQ:mid<=Q:=by rw [vj,Nat.le_div_iff_mul_le hB,Nat.mul_comm]; exact hle
   simp (maxSteps:=10^6)+contextual(disch:=try exact dqd)only[ev1,simprocAttr,AV.int,AV.bool,AV.str,results135,digA,e0,e1,e6,e7,e8,e9,e10,d3,f1,f2,f3,f4,ez,tf,hC]
   exact IH (mid,hi) _ (by first|omega|(simp only; omega)) ⟨rfl,hmQ,hhi,h9,(by first|rfl|simp only [getT,List.map_append,List.map_cons,List.map_nil,digC,digA]),(by first|rfl|simp only [getT,List.map_append,List.map_cons,List.map_nil,digC,digA]),(by first|rfl|simp only [getT,List.map_append,List.map_cons,List.map_nil,digC,digA]),(by first|rfl|simp only [getT,List.map_append,List.map_cons,List.map_nil,digC,digA]),(by first|rfl|simp only [getT,List.map_append,List.map_cons,List.map_nil,digC,digA]),(by first|rfl|simp only [getT,List.map_append,List.map_cons,List.map_nil,digC,digA]),(by first|rfl|simp only [getT,List.map_append,List.map_cons,List.map_nil,digC,digA]),(by first|rfl|simp only [getT,List.map_append,List.map_cons,List.map_nil,digC,digA])⟩
  ·have d4:decide (X<B*mid)=true:=by simp; omega
   rw [d4] at hC
   have hmQ:Q<mid:=by
    rw [vj,Nat.div_lt_iff_lt_mul hB,Nat.mul_comm]; omega
   simp (maxSteps:=10^6)+contextual(disch:=try exact dqd)only[ev1,simprocAttr,AV.int,AV.bool,AV.str,results135,digA,e0,e1,e6,e7,e8,e9,e10,d3,f1,f2,f3,f4,f5,ez,tf,hC]
   exact IH (lo,mid - 1) _ (by first|omega|(simp only; omega)) ⟨rfl,gt,by first|omega|(dsimp only; omega),by first|omega|(dsimp only; omega),(by first|rfl|simp only [getT,List.map_append,List.map_cons,List.map_nil,digC,digA]),(by first|rfl|simp only [getT,List.map_append,List.map_cons,List.map_nil,digC,digA]),(by first|rfl|simp only [getT,List.map_append,List.map_cons,List.map_nil,digC,digA]),(by first|rfl|simp only [getT,List.map_append,List.map_cons,List.map_nil,digC,digA]),(by first|rfl|simp only [getT,List.map_append,List.map_cons,List.map_nil,digC,digA]),(by first|rfl|simp only [getT,List.map_append,List.map_cons,List.map_nil,digC,digA]),(by first|rfl|simp only [getT,List.map_append,List.map_cons,List.map_nil,digC,digA]),(by first|rfl|simp only [getT,List.map_append,List.map_cons,List.map_nil,digC,digA])⟩
 ·have d3:decide (((lo:Nat):Int)<((hi:Nat):Int))=false:=by simpa using hlt
  have zm:lo=Q:=by omega
  subst zm
  have tf:=fun S tk k=>Ti S tk k B lo (by omega) vk
  have hBQ:B*lo<=X:=by rw [vj]; exact Nat.mul_div_le _ _
  have hM:=fun S tk k=>Pv S tk k X (B*lo) hBQ (by omega)
  rw [mb] at hM
  simp only [digA] at tf hM
  have jv:=Vr (v:=(lo:Int)) ho
  have c7:m - 1<(dig A).length:=by omega
  simp (maxSteps:=10^6)+contextual(disch:=try exact dqd)only[ev1,simprocAttr,AV.int,AV.bool,AV.str,results135,digA,e0,e1,e6,e7,e8,e9,e10,d3,tf,hM,jv,c7,xl,Nat.mul_one]
  exact OUT (m - 1,X % B,out.set (m - 1) (lo:Int),.unk) _ (by first|omega|(simp only; omega)) ⟨rfl,by first|omega|(dsimp only; omega),hq,ez (lo:Int),(by first|rfl|simp only [getT,List.map_append,List.map_cons,List.map_nil,digC,digA]),(by first|rfl|simp only [getT,List.map_append,List.map_cons,List.map_nil,digC,digA]),(by first|rfl|simp only [getT,List.map_append,List.map_cons,List.map_nil,digC,digA]),(by first|rfl|simp only [getT,List.map_append,List.map_cons,List.map_nil,digC,digA]),(by first|rfl|simp only [getT,List.map_append,List.map_cons,List.map_nil,digC,digA]),(by first|rfl|simp only [getT,List.map_append,List.map_cons,List.map_nil,digC,digA])⟩
set_option maxRecDepth 100000 in
theorem Th (a b:Nat) (ha:(dig a).length<=90000) (hb:(dig b).length<=90000):cL prog 134 [digA (dig a),digA (dig b)] S tk k=some (digA (dig (a.gcd b)),S,tk,k):=by
 refine opP func134 ntmps134 ?_
 simp (maxSteps:=10^6)+contextual(disch:=try exact dqd)only[ev1,simprocAttr,AV.int,AV.bool,AV.str,results134,digA]
 refine loop1 (P:=prog) (fun x st=>st.T.length=19/\(x.1.gcd x.2=a.gcd b)/\((dig x.1).length<=90000)/\((dig x.2).length<=90000)/\getT st.T 0=digA (dig x.1)/\getT st.T 1=digA (dig x.2)/\st.S=[]) (fun x=>x.2) (fun x=>digA (dig (a.gcd b))) (a,b) ?_ ?_
 case refine_2=>exact ⟨rfl,rfl,ha,hb,rfl,rfl,rfl⟩
 rintro ⟨x,y⟩ ⟨T,S',tk',n'⟩ ⟨hl,hg,hx,hy,e0,e1,eS⟩ IH
 simp only at hg hx hy e0 e1 eS
 subst eS
 obtain ⟨g,hg,hT⟩:=Ap hl
 rw [hg] at e0 e1
 subst hT
 clear hg hl
 by_cases h0:y=0
 ·subst h0
  have d1:decide ((((dig 0).length:Nat):Int) > 0)=false:=rfl
  rw [Nat.gcd_zero_right] at hg
  simp (maxSteps:=10^6)+contextual(disch:=try exact dqd)only[ev1,simprocAttr,AV.int,AV.bool,AV.str,results134,e0,e1,d1,digA]
  rw [hg]
 ·have hyl:0<(dig y).length:=List.length_pos_iff.2 fun h=>h0 (Gc.1 h)
  have d1:decide (((dig y).length:Int) > 0)=true:=by simp; omega
  have hQ:=fun S tk k=>Ul S tk k x y hx hy (by omega)
  simp only [digA] at hQ
  have hlt:=Nat.mod_lt x (by omega:0<y)
  have hym:(dig (x % y)).length<=90000:=Nat.le_trans (Bf.2 (Nat.lt_trans hlt (Bf.1 (Nat.le_refl _)))) hy
  have hgn:y.gcd (x % y)=a.gcd b:=by rw [<- hg,Nat.gcd_comm x y]; exact (Nat.gcd_rec y x).symm ▸ Nat.gcd_comm y (x % y)
  simp (maxSteps:=10^6)+contextual(disch:=try exact dqd)only[ev1,simprocAttr,AV.int,AV.bool,AV.str,results134,e0,e1,d1,digA,hQ]
  exact IH (y,x % y) _ (by first|omega|(simp only; omega)) ⟨rfl,hgn,hy,hym,(by first|rfl|simp only [getT,List.map_append,List.map_cons,List.map_nil,digC,digA]),(by first|rfl|simp only [getT,List.map_append,List.map_cons,List.map_nil,digC,digA]),(by first|rfl|simp only [getT,List.map_append,List.map_cons,List.map_nil,digC,digA])⟩
end
theorem An5 {n:Nat} : (decide ((dig n).length=1) && ((nth (dig n) 0).getD 0 == 1))=decide (n=1):=by
 rw [Bool.eq_iff_iff]
 simp only [Bool.and_eq_true,decide_eq_true_eq,beq_iff_eq]
 constructor
 ·rintro ⟨h1,h2⟩
  have h3:val (dig n)=n:=Bj n
  match hd:dig n,h1 with
  | [x],_ =>
   rw [hd] at h2 h3
   simp only [nth,Option.getD_some] at h2
   simp only [val] at h3
   omega
 ·rintro rfl
  have jc:dig 1=[(1:Int)]:=Nf (d:=(1:Int)) (by omega) (by omega)
  rw [jc]; exact ⟨rfl,rfl⟩
section
variable (S:List Ent) (tk:List Nat) (k:Nat)
set_option maxRecDepth 100000 in
theorem Dm (x y:Int) (hx:(dig x.natAbs).length<=45000) (hy:(dig y.natAbs).length<=45000):cL prog 122 [zA x,zA y] S tk k=some (zA (x*y),S,tk,k):=by
 refine opP func122 ntmps122 (hp3:=rfl) ?_
 have hT:=fun S tk k=>Ae8 S tk k x.natAbs y.natAbs hx hy
 have hs:=Aom x y
 have hp:=L6 (x.natAbs*y.natAbs)
 simp only [digA] at hT
 rw [<- hs]
 have rk:(decide (x<0) != decide (y<0))=!(decide (x<0) == decide (y<0)):=rfl
 rw [rk]
 cases d3:decide (x<0) == decide (y<0) with
 | true=>simp (maxSteps:=10^6)+contextual(disch:=try exact dqd)only[ev1,simprocAttr,AV.int,AV.bool,AV.str,results122,zA,bigA,digA,hT,d3,rk,hp,Bool.not_true,Bool.not_false,Bool.true_and,Bool.false_and]
 | false=>simp (maxSteps:=10^6)+contextual(disch:=try exact dqd)only[ev1,simprocAttr,AV.int,AV.bool,AV.str,results122,zA,bigA,digA,hT,d3,rk,hp,Bool.not_true,Bool.not_false,Bool.true_and,Bool.false_and]
theorem Ae7 (p:Bool) (l:List Int) (q:Bool) (r:List Int) (hl:l.length<=1000000) (hr:r.length<=1000000):cL prog 132 [ratA p l q r] S tk k=some (.bool (Kb p l q r),S,tk,k):=by
 have pu:=fun S tk k=>told (E:=E1) (Wl S tk k p l .unk hl)
 have pw:=fun S tk k=>told (E:=E1) (Wl S tk k q r .unk hr)
 refine opP func132 ntmps132 (hp3:=rfl) ?_
 unfold Kb
 cases h1:Ej p l with
 | false =>
  rw [h1] at pu
  simp (maxSteps:=10^6)+contextual(disch:=try exact dqd)only[ev1,simprocAttr,AV.int,AV.bool,AV.str,results132,ratA,digA,pu,Bool.false_and]
 | true =>
 rw [h1] at pu
 cases h2:Ej q r with
 | false =>
  rw [h2] at pw
  simp (maxSteps:=10^6)+contextual(disch:=try exact dqd)only[ev1,simprocAttr,AV.int,AV.bool,AV.str,results132,ratA,digA,pu,pw,Bool.false_and,Bool.true_and]
 | true =>
 rw [h2] at pw
 obtain ⟨hp,hpl⟩:=K2 h1
 obtain ⟨hq,xm⟩:=K2 h2
 have rm:=(Kc h1).2.2
 have ji:=(Kc h2).2.2
 by_cases ke:q=true
 ·subst ke
  have hg:R0 (V p l) (V true r)=false:=by
   have:V true r<0:=by simpa using hq.symm
   have h3:¬ 0<V true r:=by omega
   simp [R0,h3]
  rw [hg]
  simp (maxSteps:=10^6)+contextual(disch:=try exact dqd)only[ev1,simprocAttr,AV.int,AV.bool,AV.str,results132,ratA,digA,pu,pw,Bool.true_and]
 ·have hqf:q=false:=by simpa using ke
  subst hqf
  have cu:0<=V false r:=by
   have:¬ V false r<0:=by simpa using hq.symm
   omega
  by_cases mq:r=[]
  ·subst mq
   have hg:R0 (V p l) (V false [])=false:=by
    have:V false []=0:=by have:=Gc.1 xm.symm; omega
    simp [R0,this]
   rw [hg]
   simp only [List.map_nil] at pw
   have iz:(((0:Nat):Int) == 0)=true:=rfl
   simp (maxSteps:=10^6)+contextual(disch:=try exact dqd)only[ev1,simprocAttr,AV.int,AV.bool,AV.str,results132,ratA,digA,pu,pw,iz,Bool.true_and]
  ·have vn:(((r.length:Nat):Int) == 0)=false:=by
    have:=List.length_pos_iff.2 mq
    simp; omega
   have hd1:0<V false r:=by
    have:(V false r).natAbs≠0:=fun e=>mq (by rw [xm,e,Dc])
    omega
   have hgd:R0 (V p l) (V false r)=decide ((V p l).natAbs.gcd (V false r).natAbs=1):=by simp [R0,hd1]
   rw [hgd,<- An5]
   have hD:=fun S tk k=>Th S tk k (V p l).natAbs (V false r).natAbs (by rw [<- hpl]; omega) (by rw [<- xm]; omega)
   rw [<- hpl,<- xm] at hD
   simp only [digA] at hD
   obtain ⟨g,hg⟩:∃ g,g=(V p l).natAbs.gcd (V false r).natAbs:=⟨_,rfl⟩
   rw [<- hg] at hD ⊢
   by_cases hg1:(dig g).length=1
   ·have g1:(((dig g).length:Int) == 1)=true:=by rw [hg1]; rfl
    obtain ⟨x,hx⟩:=Ab (show 0<(dig g).length by omega)
    have hx':=B9 hx
    rw [hx,Option.getD_some]
    have g2:decide ((dig g).length=1)=true:=by simpa using hg1
    rw [g2]
    simp (maxSteps:=10^6)+contextual(disch:=try exact dqd)only[ev1,simprocAttr,AV.int,AV.bool,AV.str,results132,ratA,digA,pu,pw,vn,hD,g1,hx',Bool.true_and]
   ·have g1:(((dig g).length:Int) == 1)=false:=by simp; omega
    have g2:decide ((dig g).length=1)=false:=by simpa using hg1
    rw [g2]
    simp (maxSteps:=10^6)+contextual(disch:=try exact dqd)only[ev1,simprocAttr,AV.int,AV.bool,AV.str,results132,ratA,digA,pu,pw,vn,hD,g1,Bool.false_and,Bool.true_and]
theorem Ez (p:Bool) (l:List Int) (q:Bool) (r:List Int) (hl:l.length<=1000000) (hr:r.length<=1000000):cL prog 119 [ratA p l q r] S tk k=some (qA (nQ p l q r) (dQ p l q r),S,tk,k):=by
 have hV:=fun S tk k=>Ae7 S tk k p l q r hl hr
 have hZ:=fun S tk k=>Aji S tk k
 refine opP func119 ntmps119 (hp3:=rfl) ?_
 unfold nQ dQ
 cases h:Kb p l q r with
 | true =>
  rw [h] at hV
  have e:=Ael h
  simp only [if_true]
  rw [<- e]
  simp only [ratA,digA] at hV
  simp (maxSteps:=10^6)+contextual(disch:=try exact dqd)only[ev1,simprocAttr,AV.int,AV.bool,AV.str,results119,ratA,digA,hV]
 | false =>
  rw [h] at hV
  simp only [Bool.false_eq_true,if_false]
  simp only [ratA,qA,digA] at hV hZ
  simp (maxSteps:=10^6)+contextual(disch:=try exact dqd)only[ev1,simprocAttr,AV.int,AV.bool,AV.str,results119,ratA,qA,digA,hV,hZ]
theorem M7 (n d:Int) (hn:(dig n.natAbs).length<=90000) (hd:(dig d.natAbs).length<=90000):cL prog 120 [zA n,zA d] S tk k=some (resQ n d,S,tk,k):=by
 refine opP func120 ntmps120 (hp3:=rfl) ?_
 have hz:dig 0=[]:=Dc
 have hnz:decide ((0:Int)<0)=false:=by decide
 by_cases cu:d=0
 ·subst cu
  rw [Ale]
  have iz:(((0:Nat):Int) == 0)=true:=rfl
  simp (maxSteps:=10^6)+contextual(disch:=try exact dqd)only[ev1,simprocAttr,AV.int,AV.bool,AV.str,results120,zA,bigA,qA,ratA,digA,hz,hnz,iz]
 have i0:(((dig d.natAbs).length:Int) == 0)=false:=by
  have:dig d.natAbs≠[]:=fun e=>by have:=Gc.1 e; omega
  have:=List.length_pos_iff.2 this
  simp; omega
 have nh:0<n.natAbs.gcd d.natAbs:=Nat.gcd_pos_of_pos_right _ (by omega)
 have hD:=fun S tk k=>Th S tk k n.natAbs d.natAbs hn hd
 have hgl:(dig (n.natAbs.gcd d.natAbs)).length<=90000:=by
  have h3:n.natAbs.gcd d.natAbs<=d.natAbs:=Nat.gcd_le_right _ (by omega)
  exact Nat.le_trans (Bf.2 (Nat.lt_of_le_of_lt h3 (Bf.1 (Nat.le_refl _)))) hd
 have np:=fun S tk k=>Ul S tk k n.natAbs (n.natAbs.gcd d.natAbs) hn hgl nh
 have pr:=fun S tk k=>Ul S tk k d.natAbs (n.natAbs.gcd d.natAbs) hd hgl nh
 have hla:=Q2 n d
 have hlb:(lowD n d).natAbs=d.natAbs / n.natAbs.gcd d.natAbs:=rfl
 have hs:=Ak0 n d cu
 have hp:=L6 (n.natAbs / n.natAbs.gcd d.natAbs)
 have hdn:decide (lowD n d<0)=false:=by
  have:¬ lowD n d<0:=by unfold lowD; omega
  simp [this]
 unfold resQ resN resD
 simp only [digA] at hD np pr
 by_cases h1:(dig (n.natAbs / n.natAbs.gcd d.natAbs)).length<=200
 ·have d1:decide (((dig (n.natAbs / n.natAbs.gcd d.natAbs)).length:Int) > 200)=false:=by simp; omega
  by_cases h2:(dig (d.natAbs / n.natAbs.gcd d.natAbs)).length<=200
  ·have d2:decide (((dig (d.natAbs / n.natAbs.gcd d.natAbs)).length:Int) > 200)=false:=by simp; omega
   have hf:Eh n d=true:=by simp only [Eh,okZ,hla,hlb]; simp [cu]; omega
   rw [hf]
   simp only [if_true,qA,hla,hlb,<- hs,hdn]
   have rk:(decide (n<0) != decide (d<0))=!(decide (n<0) == decide (d<0)):=rfl
   rw [rk]
   cases d3:decide (n<0) == decide (d<0) with
   | true=>simp (maxSteps:=10^6)+contextual(disch:=try exact dqd)only[ev1,simprocAttr,AV.int,AV.bool,AV.str,results120,zA,bigA,ratA,digA,hD,np,pr,i0,d1,d2,d3,rk,hp,Bool.not_true,Bool.not_false,Bool.true_and,Bool.false_and]
   | false=>simp (maxSteps:=10^6)+contextual(disch:=try exact dqd)only[ev1,simprocAttr,AV.int,AV.bool,AV.str,results120,zA,bigA,ratA,digA,hD,np,pr,i0,d1,d2,d3,rk,hp,Bool.not_true,Bool.not_false,Bool.true_and,Bool.false_and]
  ·have d2:decide (((dig (d.natAbs / n.natAbs.gcd d.natAbs)).length:Int) > 200)=true:=by simp; omega
   have hf:Eh n d=false:=by simp only [Eh,okZ,hla,hlb]; simp [cu]; omega
   rw [hf]
   simp only [Bool.false_eq_true,if_false]
   simp (maxSteps:=10^6)+contextual(disch:=try exact dqd)only[ev1,simprocAttr,AV.int,AV.bool,AV.str,results120,zA,bigA,qA,ratA,digA,hz,hD,np,pr,i0,d1,d2]
 ·have d1:decide (((dig (n.natAbs / n.natAbs.gcd d.natAbs)).length:Int) > 200)=true:=by simp; omega
  have hf:Eh n d=false:=by simp only [Eh,okZ,hla,hlb]; simp [cu]; omega
  rw [hf]
  simp only [Bool.false_eq_true,if_false]
  simp (maxSteps:=10^6)+contextual(disch:=try exact dqd)only[ev1,simprocAttr,AV.int,AV.bool,AV.str,results120,zA,bigA,qA,ratA,digA,hz,hD,np,pr,i0,d1]
theorem Amp (p1:Bool) (l1:List Int) (q1:Bool) (r1:List Int) (p2:Bool) (l2:List Int) (q2:Bool) (r2:List Int) (h1:l1.length<=1000000) (h2:r1.length<=1000000) (h3:l2.length<=1000000) (h4:r2.length<=1000000) :
  cL prog 100 [ratA p1 l1 q1 r1,ratA p2 l2 q2 r2] S tk k=some (resQ (nQ p1 l1 q1 r1*dQ p2 l2 q2 r2+nQ p2 l2 q2 r2*dQ p1 l1 q1 r1) (dQ p1 l1 q1 r1*dQ p2 l2 q2 r2),S,tk,k):=by
 have hA:=fun S tk k=>Ez S tk k p1 l1 q1 r1 h1 h2
 have hB:=fun S tk k=>Ez S tk k p2 l2 q2 r2 h3 h4
 have gA:=H2 p1 l1 q1 r1
 have gB:=H2 p2 l2 q2 r2
 generalize nQ p1 l1 q1 r1=a at *
 generalize dQ p1 l1 q1 r1=b at *
 generalize nQ p2 l2 q2 r2=c at *
 generalize dQ p2 l2 q2 r2=d at *
 refine opP func100 ntmps100 (hp3:=rfl) ?_
 have l1:=gA.ln
 have l2:=gA.ld
 have l3:=gB.ln
 have l4:=gB.ld
 have az:=fun S tk k=>Dm S tk k a d (by omega) (by omega)
 have ao:=fun S tk k=>Dm S tk k b d (by omega) (by omega)
 have iv:=fun S tk k=>Dm S tk k c b (by omega) (by omega)
 have m1:=Gp l1 l4
 have m2:=Gp l2 l4
 have m3:=Gp l3 l2
 have hP:=fun S tk k=>Wo S tk k (a*d) (c*b) (by omega) (by omega)
 have m4:=Akw (x:=a*d) (y:=c*b) (a:=45000) (by omega) (by omega)
 have hR:=fun S tk k=>M7 S tk k (a*d+c*b) (b*d) (by omega) (by omega)
 simp only [zA,bigA,digA] at az ao iv hP hR
 simp only [resQ,qA,ratA,digA] at hA hB hR ⊢
 simp (maxSteps:=10^6)+contextual(disch:=try exact dqd)only[ev1,simprocAttr,AV.int,AV.bool,AV.str,results100,ratA,digA,hA,hB,az,ao,iv,hP,hR]
theorem Ae5 (p1:Bool) (l1:List Int) (q1:Bool) (r1:List Int) (p2:Bool) (l2:List Int) (q2:Bool) (r2:List Int) (h1:l1.length<=1000000) (h2:r1.length<=1000000) (h3:l2.length<=1000000) (h4:r2.length<=1000000) :
  cL prog 140 [ratA p1 l1 q1 r1,ratA p2 l2 q2 r2] S tk k=some (resQ (nQ p1 l1 q1 r1*nQ p2 l2 q2 r2) (dQ p1 l1 q1 r1*dQ p2 l2 q2 r2),S,tk,k):=by
 have hA:=fun S tk k=>Ez S tk k p1 l1 q1 r1 h1 h2
 have hB:=fun S tk k=>Ez S tk k p2 l2 q2 r2 h3 h4
 have gA:=H2 p1 l1 q1 r1
 have gB:=H2 p2 l2 q2 r2
 generalize nQ p1 l1 q1 r1=a at *
 generalize dQ p1 l1 q1 r1=b at *
 generalize nQ p2 l2 q2 r2=c at *
 generalize dQ p2 l2 q2 r2=d at *
 refine opP func140 ntmps140 (hp3:=rfl) ?_
 have l1:=gA.ln
 have l2:=gA.ld
 have l3:=gB.ln
 have l4:=gB.ld
 have az:=fun S tk k=>Dm S tk k a c (by omega) (by omega)
 have ao:=fun S tk k=>Dm S tk k b d (by omega) (by omega)
 have m1:=Gp l1 l3
 have m2:=Gp l2 l4
 have hR:=fun S tk k=>M7 S tk k (a*c) (b*d) (by omega) (by omega)
 simp only [zA,bigA,digA] at az ao hR
 simp only [resQ,qA,ratA,digA] at hA hB hR ⊢
 simp (maxSteps:=10^6)+contextual(disch:=try exact dqd)only[ev1,simprocAttr,AV.int,AV.bool,AV.str,results140,ratA,digA,hA,hB,az,ao,hR]
theorem Y5 (p1:Bool) (l1:List Int) (q1:Bool) (r1:List Int) (p2:Bool) (l2:List Int) (q2:Bool) (r2:List Int) (h1:l1.length<=1000000) (h2:r1.length<=1000000) (h3:l2.length<=1000000) (h4:r2.length<=1000000) :
  cL prog 124 [ratA p1 l1 q1 r1,ratA p2 l2 q2 r2] S tk k=some (resQ (nQ p1 l1 q1 r1*dQ p2 l2 q2 r2) (dQ p1 l1 q1 r1*nQ p2 l2 q2 r2),S,tk,k):=by
 have hA:=fun S tk k=>Ez S tk k p1 l1 q1 r1 h1 h2
 have hB:=fun S tk k=>Ez S tk k p2 l2 q2 r2 h3 h4
 have gA:=H2 p1 l1 q1 r1
 have gB:=H2 p2 l2 q2 r2
 generalize nQ p1 l1 q1 r1=a at *
 generalize dQ p1 l1 q1 r1=b at *
 generalize nQ p2 l2 q2 r2=c at *
 generalize dQ p2 l2 q2 r2=d at *
 refine opP func124 ntmps124 (hp3:=rfl) ?_
 have l1:=gA.ln
 have l2:=gA.ld
 have l3:=gB.ln
 have l4:=gB.ld
 have az:=fun S tk k=>Dm S tk k a d (by omega) (by omega)
 have ao:=fun S tk k=>Dm S tk k b c (by omega) (by omega)
 have m1:=Gp l1 l4
 have m2:=Gp l2 l3
 have hR:=fun S tk k=>M7 S tk k (a*d) (b*c) (by omega) (by omega)
 simp only [zA,bigA,digA] at az ao hR
 simp only [resQ,qA,ratA,digA] at hA hB hR ⊢
 simp (maxSteps:=10^6)+contextual(disch:=try exact dqd)only[ev1,simprocAttr,AV.int,AV.bool,AV.str,results124,ratA,digA,hA,hB,az,ao,hR]
theorem Nt (p:Bool) (l:List Int) (q:Bool) (r:List Int) (hl:l.length<=1000000) (hr:r.length<=1000000):cL prog 101 [ratA p l q r] S tk k=some (qA (-nQ p l q r) (dQ p l q r),S,tk,k):=by
 have hA:=fun S tk k=>Ez S tk k p l q r hl hr
 generalize nQ p l q r=a at *
 generalize dQ p l q r=b at *
 refine opP func101 ntmps101 (hp3:=rfl) ?_
 have hz:=zneg a
 have hp:=L6 a.natAbs
 simp only [qA,ratA,digA] at hA ⊢
 rw [<- hz,Int.natAbs_neg]
 by_cases ha:a<0
 ·have d1:decide (a<0)=true:=by simpa using ha
  rw [d1] at hA ⊢
  simp (maxSteps:=10^6)+contextual(disch:=try exact dqd)only[ev1,simprocAttr,AV.int,AV.bool,AV.str,results101,hA,hp,Bool.not_true,Bool.false_and]
 ·have d1:decide (a<0)=false:=by simpa using ha
  rw [d1] at hA ⊢
  simp (maxSteps:=10^6)+contextual(disch:=try exact dqd)only[ev1,simprocAttr,AV.int,AV.bool,AV.str,results101,hA,hp,Bool.not_false,Bool.true_and]
theorem Ae6 (p1:Bool) (l1:List Int) (q1:Bool) (r1:List Int) (p2:Bool) (l2:List Int) (q2:Bool) (r2:List Int) (h1:l1.length<=1000000) (h2:r1.length<=1000000) (h3:l2.length<=1000000) (h4:r2.length<=1000000) :
  cL prog 80 [ratA p1 l1 q1 r1,ratA p2 l2 q2 r2] S tk k=some (resQ (nQ p1 l1 q1 r1*dQ p2 l2 q2 r2+-nQ p2 l2 q2 r2*dQ p1 l1 q1 r1) (dQ p1 l1 q1 r1*dQ p2 l2 q2 r2),S,tk,k):=by
 have hO:=fun S tk k=>Nt S tk k p2 l2 q2 r2 h3 h4
 have gB:=(H2 p2 l2 q2 r2).neg
 generalize nQ p2 l2 q2 r2=c at *
 generalize dQ p2 l2 q2 r2=d at *
 have hA:=fun S tk k=>Amp S tk k p1 l1 q1 r1 (decide (-c<0)) (dig (-c).natAbs) (decide (d<0)) (dig d.natAbs) h1 h2 (by have:=gB.ln; omega) (by have:=gB.ld; omega)
 rw [gB.nQ,gB.dQ] at hA
 refine opP func80 ntmps80 (hp3:=rfl) ?_
 simp only [resQ,qA,ratA,digA] at hO hA ⊢
 simp (maxSteps:=10^6)+contextual(disch:=try exact dqd)only[ev1,simprocAttr,AV.int,AV.bool,AV.str,results80,hO,hA]
theorem Ae4 (p1:Bool) (l1:List Int) (q1:Bool) (r1:List Int) (p2:Bool) (l2:List Int) (q2:Bool) (r2:List Int) (h1:l1.length<=1000000) (h2:r1.length<=1000000) (h3:l2.length<=1000000) (h4:r2.length<=1000000) :
  cL prog 123 [ratA p1 l1 q1 r1,ratA p2 l2 q2 r2] S tk k=some (.int (cmpZ (nQ p1 l1 q1 r1*dQ p2 l2 q2 r2) (nQ p2 l2 q2 r2*dQ p1 l1 q1 r1)),S,tk,k):=by
 have hA:=fun S tk k=>Ez S tk k p1 l1 q1 r1 h1 h2
 have hB:=fun S tk k=>Nt S tk k p2 l2 q2 r2 h3 h4
 have gA:=H2 p1 l1 q1 r1
 have gB:=(H2 p2 l2 q2 r2).neg
 generalize nQ p1 l1 q1 r1=a at *
 generalize dQ p1 l1 q1 r1=b at *
 generalize nQ p2 l2 q2 r2=c at *
 generalize dQ p2 l2 q2 r2=d at *
 refine opP func123 ntmps123 (hp3:=rfl) ?_
 have l1:=gA.ln
 have l2:=gA.ld
 have l3:=gB.ln
 have l4:=gB.ld
 have az:=fun S tk k=>Dm S tk k a d (by omega) (by omega)
 have ao:=fun S tk k=>Dm S tk k (-c) b (by omega) (by omega)
 have m1:=Gp l1 l4
 have m2:=Gp l3 l2
 have hP:=fun S tk k=>Wo S tk k (a*d) (-c*b) (by omega) (by omega)
 have e:a*d+-c*b=a*d - c*b:=by rw [Int.neg_mul]; omega
 rw [e] at hP
 simp only [zA,bigA,digA] at az ao hP
 simp only [qA,ratA,digA] at hA hB
 generalize a*d=x at *
 generalize c*b=y at *
 by_cases g1:x=y
 ·have d0:dig (x - y).natAbs=[]:=by rw [g1]; simp [Dc]
  have d1:(((dig (x - y).natAbs).length:Int) == 0)=true:=by rw [d0]; rfl
  rw [Anf g1]
  simp (maxSteps:=10^6)+contextual(disch:=try exact dqd)only[ev1,simprocAttr,AV.int,AV.bool,AV.str,results123,ratA,digA,hA,hB,az,ao,hP,d1]
 ·have d1:(((dig (x - y).natAbs).length:Int) == 0)=false:=by
   have:dig (x - y).natAbs≠[]:=fun e=>by have:=Gc.1 e; omega
   have:=List.length_pos_iff.2 this
   simp; omega
  by_cases g2:x<y
  ·have d2:decide (x - y<0)=true:=by simp; omega
   rw [d2] at hP
   rw [Anh g2]
   simp (maxSteps:=10^6)+contextual(disch:=try exact dqd)only[ev1,simprocAttr,AV.int,AV.bool,AV.str,results123,ratA,digA,hA,hB,az,ao,hP,d1]
  ·have d2:decide (x - y<0)=false:=by simp; omega
   rw [d2] at hP
   rw [Ang (by omega)]
   simp (maxSteps:=10^6)+contextual(disch:=try exact dqd)only[ev1,simprocAttr,AV.int,AV.bool,AV.str,results123,ratA,digA,hA,hB,az,ao,hP,d1]
end
end
section
open Go
theorem Pe {n d:Int} (hd:d≠0):(lowN n d).natAbs.gcd (lowD n d).natAbs=1:=by
 rw [Q2,show (lowD n d).natAbs=d.natAbs / n.natAbs.gcd d.natAbs from rfl]
 have hg:0<n.natAbs.gcd d.natAbs:=Nat.gcd_pos_of_pos_right _ (by omega)
 rw [Nat.gcd_div (Nat.gcd_dvd_left _ _) (Nat.gcd_dvd_right _ _)]
 exact Nat.div_self hg
theorem Pj {n d:Int} (hd:d≠0):0<lowD n d:=by
 have hg:0<n.natAbs.gcd d.natAbs:=Nat.gcd_pos_of_pos_right _ (by omega)
 have h2:n.natAbs.gcd d.natAbs<=d.natAbs:=Nat.gcd_le_right _ (by omega)
 have:=Nat.div_pos h2 hg
 unfold lowD; omega
theorem Mo {n d:Int} (hd:d≠0):lowN n d*d=n*lowD n d:=by
 have hg:0<n.natAbs.gcd d.natAbs:=Nat.gcd_pos_of_pos_right _ (by omega)
 obtain ⟨g,hgd⟩:∃ g:Nat,g=n.natAbs.gcd d.natAbs:=⟨_,rfl⟩
 have h1:(g:Int) ∣ n:=by rw [hgd]; exact Int.ofNat_dvd_left.2 (Nat.gcd_dvd_left _ _)
 have h2:(g:Int) ∣ d:=by rw [hgd]; exact Int.ofNat_dvd_left.2 (Nat.gcd_dvd_right _ _)
 obtain ⟨a,ha⟩:=h1
 obtain ⟨b,hb⟩:=h2
 have nh:(g:Int)≠0:=by omega
 have hN:lowN n d=if d<0 then -a else a:=by
  unfold lowN
  rw [<- hgd]
  split
  ·rw [ha,Int.neg_tdiv,Int.mul_tdiv_cancel_left _ nh]
  ·rw [ha,Int.mul_tdiv_cancel_left _ nh]
 have hD:lowD n d=if d<0 then -b else b:=by
  unfold lowD
  rw [<- hgd]
  have:d.natAbs=g*b.natAbs:=by rw [hb,Int.natAbs_mul]; simp
  rw [this,Nat.mul_div_cancel_left _ (by omega)]
  have hs:d<0↔b<0:=by
   rw [hb]
   constructor
   ·intro h
    rcases Int.lt_or_le b 0 with h'|h'
    ·exact h'
    ·have:=Int.mul_nonneg (show (0:Int)<=g by omega) h'; omega
   ·intro h
    exact Int.mul_neg_of_pos_of_neg (by omega) h
  split <;> omega
 rw [hN,hD]
 generalize (g:Int)=G at *
 subst ha hb
 split
 ·rw [Int.neg_mul,Int.mul_neg,<- Int.mul_assoc,Int.mul_comm a G]
 ·rw [<- Int.mul_assoc,Int.mul_comm a G]
theorem Mp {a b c d:Int} (hb:0<b) (hd:0<d) (h1:a.natAbs.gcd b.natAbs=1) (h2:c.natAbs.gcd d.natAbs=1) (h:a*d=c*b):a=c/\b=d:=by
 have e:=congrArg Int.natAbs h
 rw [Int.natAbs_mul,Int.natAbs_mul] at e
 have k1:d.natAbs ∣ b.natAbs:=(Nat.Coprime.dvd_of_dvd_mul_left (Nat.Coprime.symm h2) ⟨a.natAbs,by rw [<- e,Nat.mul_comm]⟩)
 have k2:b.natAbs ∣ d.natAbs:=(Nat.Coprime.dvd_of_dvd_mul_left (Nat.Coprime.symm h1) ⟨c.natAbs,by rw [e,Nat.mul_comm]⟩)
 have zn:b.natAbs=d.natAbs:=Nat.dvd_antisymm k2 k1
 have zo:b=d:=by omega
 subst zo
 exact ⟨Int.eq_of_mul_eq_mul_right (by omega) h,rfl⟩
theorem He.low {n d:Int} (h:He n d):lowN n d=n/\lowD n d=d:=by
 have hd:=h.pos
 exact Mp (Pj (by omega)) hd (Pe (by omega)) h.cop (Mo (by omega))
theorem Ap1 {n d n' d':Int} (hd:d≠0) (bj:d'≠0) (h:n*d'=n'*d):lowN n d=lowN n' d'/\lowD n d=lowD n' d':=by
 refine Mp (Pj hd) (Pj bj) (Pe hd) (Pe bj) ?_
 have h1:=Mo (n:=n) hd
 have h2:=Mo (n:=n') bj
 have h3:(lowN n d*lowD n' d')*(d*d')=(lowN n' d'*lowD n d)*(d*d'):=by
  generalize lowN n d=a at *
  generalize lowD n d=b at *
  generalize lowN n' d'=a' at *
  generalize lowD n' d'=b' at *
  have e1:(a*b')*(d*d')=(n*d')*(b*b'):=by
   have:(a*b')*(d*d')=(a*d)*(b'*d'):=by grind
   rw [this,h1]; grind
  have e2:(a'*b)*(d*d')=(n'*d)*(b*b'):=by
   have:(a'*b)*(d*d')=(a'*d')*(b*d):=by grind
   rw [this,h2]; grind
  rw [e1,e2,h]
 exact Int.eq_of_mul_eq_mul_right (Int.mul_ne_zero hd bj) h3
theorem Anz {n d n' d':Int} (hd:d≠0) (bj:d'≠0) (h:n*d'=n'*d):Eh n d=Eh n' d'/\resN n d=resN n' d'/\resD n d=resD n' d':=by
 obtain ⟨h1,h2⟩:=Ap1 hd bj h
 have hf:Eh n d=Eh n' d':=by
  unfold Eh
  rw [h1,h2]
  simp [hd,bj]
 exact ⟨hf,by unfold resN; rw [hf,h1],by unfold resD; rw [hf,h2]⟩
theorem Zm {n d:Int} (h:Eh n d=true):d≠0:=by
 unfold Eh at h
 simp at h
 exact h.1.1
theorem Acn {n d:Int} (h:Eh n d=true):He (resN n d) (resD n d):=by
 have hd:=Zm h
 unfold resN resD
 rw [h]
 simp only [if_true]
 refine ⟨Pj hd,Pe hd,?_,?_⟩
 ·unfold Eh okZ at h; simp at h; exact h.1.2
 ·unfold Eh okZ at h; simp at h; exact h.2
theorem Aii {n d:Int} (h:Eh n d=true):resN n d*d=n*resD n d:=by
 have hd:=Zm h
 unfold resN resD
 rw [h]
 exact Mo hd
theorem He.fits {n d:Int} (h:He n d):Eh n d=true/\resN n d=n/\resD n d=d:=by
 obtain ⟨h1,h2⟩:=h.low
 have hf:Eh n d=true:=by
  unfold Eh okZ
  rw [h1,h2]
  have:=h.pos
  simp only [Bool.and_eq_true,Bool.not_eq_true',decide_eq_false_iff_not,decide_eq_true_eq]
  have h8:=h.ln
  have h9:=h.ld
  exact ⟨⟨by omega,by omega⟩,by omega⟩
 exact ⟨hf,by unfold resN; rw [hf,h1]; rfl,by unfold resD; rw [hf,h2]; rfl⟩
theorem Ald {n d:Int} (h:Eh n d=false):resN n d=0/\resD n d=0:=by
 unfold resN resD; rw [h]; exact ⟨rfl,rfl⟩
abbrev Q:=Int × Int
structure Fld where
 whole:Int->Q × Bool
 minus:Q->Q->Q × Bool
 times:Q->Q->Q × Bool
 over:Q->Q->Q × Bool
 ok:Q->Prop
 rat:Q->Q
 stop:Bool
def sgn (a:Q):Int:=if a.1<0 then -1 else if 0<a.1 then 1 else 0
def bigF (n d:Int):Bool:=decide (n<=-2147483648) || decide (n >= 2147483648) || decide (d >= 2147483648) || decide (d=0)
def qn (n d:Int):Q × Bool:=if bigF (lowN n d) (lowD n d)=true then ((0,1),true) else ((lowN n d,lowD n d),false)
def okS (a:Q):Prop:=-2147483648<a.1/\a.1<2147483648/\0<a.2/\a.2<2147483648
def qF:Fld where
 whole n:=if n<=-2147483648\/n >= 2147483648 then ((0,1),true) else ((n,1),false)
 minus a b:=qn (a.1*b.2 - b.1*a.2) (a.2*b.2)
 times a b:=qn (a.1*b.1) (a.2*b.2)
 over a b:=if b.1=0 then ((0,1),true) else qn (a.1*b.2) (a.2*b.1)
 ok:=okS
 rat a:=(resN a.1 a.2,resD a.1 a.2)
 stop:=true
def wn (n d:Int):Q × Bool:=((resN n d,resD n d),!Eh n d)
def qz (a:Q):Q:=if a.2=0 then (0,1) else a
def okW (a:Q):Prop:=He a.1 a.2\/a=(0,0)
def wF:Fld where
 whole n:=((n,1),false)
 minus a b:=wn ((qz a).1*(qz b).2+-(qz b).1*(qz a).2) ((qz a).2*(qz b).2)
 times a b:=wn ((qz a).1*(qz b).1) ((qz a).2*(qz b).2)
 over a b:=wn ((qz a).1*(qz b).2) ((qz a).2*(qz b).1)
 ok:=okW
 rat a:=a
 stop:=false
theorem Ag8:He 0 1:=⟨by decide,rfl,by decide +kernel,by decide +kernel⟩
theorem qz_of {n d:Int} (h:He n d):qz (n,d)=(n,d):=by
 have:=h.pos
 unfold qz; rw [if_neg (by simp only; omega)]
theorem qz_n {a:Q} (h:okW a):nQ (decide (a.1<0)) (dig a.1.natAbs) (decide (a.2<0)) (dig a.2.natAbs)=(qz a).1/\dQ (decide (a.1<0)) (dig a.1.natAbs) (decide (a.2<0)) (dig a.2.natAbs)=(qz a).2:=by
 rcases h with h|rfl
 ·obtain ⟨n,d⟩:=a
  rw [qz_of h]
  exact ⟨h.nQ,h.dQ⟩
 ·refine ⟨?_,?_⟩ <;> decide +kernel
theorem Ja {a:Q} (h:okW a):(dig a.1.natAbs).length<=200/\(dig a.2.natAbs).length<=200:=by
 rcases h with h|rfl
 ·exact ⟨h.ln,h.ld⟩
 ·refine ⟨?_,?_⟩ <;> decide +kernel
theorem Aot (n d:Int):okW (wn n d).1:=by
 unfold wn
 cases h:Eh n d with
 | true=>exact .inl (Acn h)
 | false=>obtain ⟨h1,h2⟩:=Ald h; rw [h1,h2]; exact .inr rfl
structure Fld.Keeps (F:Fld):Prop where
 whole:∀ n,i64 n->F.ok (F.whole n).1
 minus:∀ a b,F.ok a->F.ok b->F.ok (F.minus a b).1
 times:∀ a b,F.ok a->F.ok b->F.ok (F.times a b).1
 over:∀ a b,F.ok a->F.ok b->F.ok (F.over a b).1
theorem Ee:wF.Keeps:=by
 refine ⟨fun n hn=>.inl ?_,fun a b _ _=>Aot _ _,fun a b _ _=>Aot _ _,fun a b _ _=>Aot _ _⟩
 simp only [wF]
 have h1:(dig (1:Int).natAbs).length<=200:=by decide +kernel
 refine ⟨by simp,by simp,?_,h1⟩
 refine Bf.2 ?_
 unfold i64 at hn
 have:n.natAbs<10000 ^ 5:=by omega
 exact Nat.lt_of_lt_of_le this (Nat.pow_le_pow_right (by omega) (by omega))
theorem Bd {S:List Ent} {i e:Nat} {cs:List AV} (h:entAt S i e=some cs):i<S.length:=by
 obtain ⟨x,h1,-⟩:=B7 h
 exact Bb h1
theorem Hr {α:Type} {l:List α} {i:Nat} {v:α} (h:i<l.length):nth (put l i v) i=some v:=by
 induction l generalizing i with
 | nil=>simp at h
 | cons x l ih=>cases i with
  | zero=>rfl
  | succ i=>exact ih (by simpa using h)
theorem Am {S:List Ent} {i e:Nat} {cs:List AV} (h:i<S.length):entAt (put S i ⟨e,cs⟩) i e=some cs:=by
 simp [entAt,Hr h]
theorem An {S:List Ent} {i j e:Nat} {x:Ent} (h:i≠j):entAt (put S i x) j e=entAt S j e:=by
 simp [entAt,Ah h]
theorem Ae {S S':List Ent} {j e:Nat} (h:nth S' j=nth S j):entAt S' j e=entAt S j e:=by simp [entAt,h]
theorem A2 {S:List Ent} {L:List Ent} {i e:Nat} {cs:List AV} (h:entAt S i e=some cs):entAt (S++L) i e=some cs:=by
 have hl:=Bd h
 unfold entAt at h ⊢
 rw [Ac] at h ⊢
 rw [List.getElem?_append_left hl]; exact h
theorem Z6 {S L:List Ent} {i:Nat} {x:Ent} (h:i<S.length):put (S++L) i x=put S i x++L:=by
 induction S generalizing i with
 | nil=>simp at h
 | cons y S ih=>cases i with
  | zero=>rfl
  | succ i=>simp only [List.cons_append,put,ih (by simpa using h)]
theorem Ko {S:List Ent} {n k:Nat} {cs:List AV} (h:S.length=n):entAt (S++[⟨k,cs⟩]) n k=some cs:=by subst h; exact Dr
theorem Pl {S:List Ent} {n:Nat} {e e':Ent} (h:S.length=n):put (S++[e]) n e'=S++[e']:=by subst h; exact put_new
theorem Bx (x:Int) (g:Nat):(x.tdiv g).natAbs<=x.natAbs:=by
 rw [Int.natAbs_tdiv]; exact Nat.div_le_self _ _
end
section
open Go
end
section
open Go
end
section
open Go
section
variable {P:Program} {fn:Func} {k:List Kont}
abbrev Rs:=AV × List Ent × List Nat × Nat
def Gd (fin:Option (AV × St)->Option Rs) (Φ:Rs->Prop) (x:Option (AV × St)):Prop:=∃ r,fin x=some r/\Φ r
theorem Alx {m:Nat} {Φ:Rs->Prop} {t:Bool} {a b:Option (AV × St)} {tg:Tag (a,b)} : Gd (finS m) Φ (BR (some t) a b tg)↔(t=true->Gd (finS m) Φ a)/\(t=false->Gd (finS m) Φ b):=by
 cases t <;> simp [BR,br]
theorem Alw {Φ:Rs->Prop} {t:Bool} {a b:Option (AV × St)} {tg:Tag (a,b)} : Gd finM Φ (BR (some t) a b tg)↔(t=true->Gd finM Φ a)/\(t=false->Gd finM Φ b):=by
 cases t <;> simp [BR,br]
theorem Aar {m:Nat} {Φ:Rs->Prop} {r:AV} {s:St} : Gd (finS m) Φ (some (r,s))↔Φ (fz3 m s.S r,s.S.take m,s.tk,s.n):=by simp [Gd,finS]
theorem Aaq {Φ:Rs->Prop} {r:AV} {s:St} : Gd finM Φ (some (r,s))↔Φ (r,s.S,s.tk,s.n):=by simp [Gd,finM]
theorem Q0 [Globs] [Ext P] {ι:Type} {c:Code} {fin:Option (AV × St)->Option Rs} {Φ:Rs->Prop} {tg:Tag (Code.loop c,k)} (I:ι->St->Prop) (μ:ι->Nat) (x:ι)
  (h:∀ x st,I x st->(∀ y st',μ y<μ x->I y st'->Gd fin Φ (KX P fn (.loop c) st' k .mk))->Gd fin Φ (KX P fn c st (.loop c st.S.length :: k) .mk)) {st:St} (h0:I x st):Gd fin Φ (KX P fn (.loop c) st k tg):=by
 have key:∀ n x st,μ x=n->I x st->Gd fin Φ (KX P fn (.loop c) st k .mk):=by
  intro n
  induction n using Nat.strongRecOn with
  | _ n ih =>
   intro x st hn hI
   show Gd fin Φ (RK P fn (.loop c) st k)
   rw [Uq]
   exact h x st hI fun y st' hlt hy=>ih (μ y) (hn ▸ hlt) y st' rfl hy
 exact key _ x st rfl h0
theorem Xc [Globs] [Ext P] {f : FuncId} {c : Code} (hf : P.funcs[f]? = some fn) (hx : (Ext.on P f || Ext.mv P f) = false) (hb : fn.body = some c) (ak : (fn.name == "runtime.NumGoroutine") = false) {args : List AV} {nt : Nat} (ff : fn.ntmps = nt) (hp : (args.map w2).all pure2 = false) {S : List Ent} {tk : List Nat} {n : Nat} {Φ : Rs → Prop}
  (h:Gd (finS S.length) Φ (RK P fn c ⟨args++bots (nt - args.length),S,tk,n⟩ [])):∃ r,cL P f args S tk n=some r/\Φ r:=by
 obtain ⟨r,h1,h2⟩:=h
 exact ⟨r,P3 hf hx hb ak ff hp h1,h2⟩
theorem Akc [Globs] [Ext P] {f : FuncId} {c : Code} (hf : P.funcs[f]? = some fn) (hx : (!Ext.on P f && Ext.mv P f) = true) (hb : fn.body = some c) (ak : (fn.name == "runtime.NumGoroutine") = false) {args : List AV} {nt : Nat} (ff : fn.ntmps = nt) {S : List Ent} {tk : List Nat} {n : Nat} {Φ : Rs → Prop}
  (h:Gd finM Φ (RK P fn c ⟨args++bots (nt - args.length),S,tk,n⟩ [])):∃ r,cL P f args S tk n=some r/\Φ r:=by
 obtain ⟨r,h1,h2⟩:=h
 exact ⟨r,Anc hf hx hb ak ff h1,h2⟩
end
section
variable {P:Program} {fn:Func} [Globs] [Ext P] {f:FuncId} {c:Code} {args:List AV} {nt:Nat} {S:List Ent} {tk:List Nat} {n:Nat} {Φ:Rs->Prop}
theorem opG (hf : P.funcs[f]? = some fn) (ff : fn.ntmps = nt) (h : Gd (finS S.length) Φ (KX P fn c ⟨args ++ bots (nt - args.length), S, tk, n⟩ [] .mk)) (hx : (Ext.on P f || Ext.mv P f) = false := by exact rfl) (hb : fn.body = some c := by exact rfl) (ak : (fn.name == "runtime.NumGoroutine") = false := by decide +kernel) (hp : (args.map w2).all pure2 = false := by exact rfl) : ∃ r, cL P f args S tk n = some r ∧ Φ r := Xc hf hx hb ak ff hp h
theorem opM (hf : P.funcs[f]? = some fn) (ff : fn.ntmps = nt) (h : Gd finM Φ (KX P fn c ⟨args ++ bots (nt - args.length), S, tk, n⟩ [] .mk)) (hx : (!Ext.on P f && Ext.mv P f) = true := by exact rfl) (hb : fn.body = some c := by exact rfl) (ak : (fn.name == "runtime.NumGoroutine") = false := by decide +kernel) : ∃ r, cL P f args S tk n = some r ∧ Φ r := Akc hf hx hb ak ff h
end
set_option linter.defProp false in
def evg1:=And.intro @Alx <| And.intro @Alw <| And.intro @Aar <| And.intro @Aaq evs1
/- rows of cells -/
theorem Ai1 {sz:Nat} : ∀ {e r:List AV},e.length=sz->takeN sz (e++r)=some e:=by
 induction sz with
 | zero=>intro e r h; rw [List.length_eq_zero_iff.1 h]; rfl
 | succ n ih =>
  intro e r h
  cases e with
  | nil=>simp at h
  | cons x e=>simp only [List.cons_append,takeN,ih (by simpa using h),Option.map_some]
theorem Ak8 {e':List AV} : ∀ {e r:List AV},e.length=e'.length->over (e++r) 0 e'=some (e'++r):=by
 induction e' with
 | nil=>intro e r h; rw [List.length_eq_zero_iff.1 h]; simp [over]
 | cons x e' ih =>
  intro e r h
  cases e with
  | nil=>simp at h
  | cons y e=>simp only [List.cons_append,over,ih (by simpa using h),Option.map_some]
section
variable {sz:Nat}
theorem Xu:∀ {es:List (List AV)} {k:Nat} {e:List AV},(∀ e ∈ es,e.length=sz)->nth es k=some e->takeN sz (es.flatten.drop (k*sz))=some e
 | x :: es,0,e,h,hk=>by
  simp only [nth,Option.some.injEq] at hk
  subst hk
  simp only [Nat.zero_mul,List.drop_zero,List.flatten_cons]
  exact Ai1 (h _ (by simp))
 | x :: es,k+1,e,h,hk=>by
  have hx:=h x (by simp)
  have e1:(k+1)*sz=x.length+k*sz:=by rw [hx,Nat.succ_mul,Nat.add_comm]
  rw [e1,List.flatten_cons,List.drop_append]
  simp only [Nat.add_sub_cancel_left]
  rw [List.drop_eq_nil_of_le (by omega),List.nil_append]
  exact Xu (fun e he=>h e (by simp [he])) hk
 | [],_,_,_,hk=>by simp [nth] at hk
theorem Xt:∀ {es:List (List AV)} {k:Nat} {e e':List AV},(∀ e ∈ es,e.length=sz)->nth es k=some e->e'.length=sz->over es.flatten (k*sz) e'=some (put es k e').flatten
 | x :: es,0,e,e',h,_,he=>by
  simp only [Nat.zero_mul,List.flatten_cons,put]
  exact Ak8 (by rw [h x (by simp),he])
 | x :: es,k+1,e,e',h,hk,he=>by
  have hx:=h x (by simp)
  have e1:(k+1)*sz=x.length+k*sz:=by rw [hx,Nat.succ_mul,Nat.add_comm]
  have ih:=Xt (es:=es) (k:=k) (fun e he=>h e (by simp [he])) hk he
  have gen:∀ (p cs:List AV) (o:Nat) (r:List AV),over cs o e'=some r->over (p++cs) (p.length+o) e'=some (p++r):=by
   intro p
   induction p with
   | nil=>intro cs o r h; simpa using h
   | cons y p ih =>
    intro cs o r h
    have:=ih cs o r h
    have e2:(y :: p).length+o=(p.length+o)+1:=by simp; omega
    rw [e2]
    cases e' <;> simp only [List.cons_append,over,this,Option.map_some]
  rw [e1,List.flatten_cons]
  simp only [put,List.flatten_cons]
  exact gen x _ _ _ ih
 | [],_,_,_,_,hk,_=>by simp [nth] at hk
end
def flat (ce:Q->List AV) (l:List Q):List AV:=(l.map ce).flatten
section
variable {ce:Q->List AV} {sz:Nat} (oo:∀ q,(ce q).length=sz)
include oo
theorem Br {l:List Q} {k:Nat} {q:Q} (h:nth l k=some q):takeN sz ((flat ce l).drop (k*sz))=some (ce q):=by
 unfold flat
 refine Xu (fun e he=>?_) ?_
 ·obtain ⟨x,-,rfl⟩:=List.mem_map.1 he
  exact oo x
 ·rw [Ac] at h ⊢; rw [List.getElem?_map,h]; rfl
theorem Ady {l:List Q} {k:Nat} {q':Q} (h:k<l.length):over (flat ce l) (k*sz) (ce q')=some (flat ce (put l k q')):=by
 unfold flat
 rw [<- Rc]
 refine Xt (e:=ce l[k]) (fun e he=>?_) ?_ (oo q')
 ·obtain ⟨x,-,rfl⟩:=List.mem_map.1 he
  exact oo x
 ·rw [Ac,List.getElem?_map,List.getElem?_eq_getElem h]; rfl
theorem Ql {l:List Q} : (flat ce l).length=l.length*sz:=by
 unfold flat
 induction l with
 | nil=>simp
 | cons x l ih=>rw [List.map_cons,List.flatten_cons,List.length_append,ih,oo x,List.length_cons,Nat.succ_mul,Nat.add_comm]
end
abbrev rcvQ (i e:Nat):AV:=.ref i e 0
abbrev rcvW (_ _:Nat):AV:=.agg []
def ceQ (a:Q):List AV:=[.int a.1,.int a.2]
def ceW (a:Q):List AV:=[.prim (.bool (decide (a.1<0))),digA (dig a.1.natAbs),.prim (.bool (decide (a.2<0))),digA (dig a.2.natAbs)]
theorem Aq (a:Q):(ceW a).length=4:=rfl
theorem A3 (a:Q):(ceW a).all leafOk=true:=rfl
theorem ovW (a:Q):over [.prim (.bool false),.frz [] .nilc,.prim (.bool false),.frz [] .nilc] 0 (ceW a)=some (ceW a):=rfl
theorem ovW2 (a b:Q):over (ceW b) 0 (ceW a)=some (ceW a):=rfl
theorem tkW (a:Q):takeN 4 (ceW a)=some (ceW a):=rfl
theorem puW (a:Q):((ceW a).map w1).all pure1=true:=rfl
theorem Dw (a:Q):(ceW a).all pure1=true:=rfl
theorem Dx (a:Q):(ceW a).map w1=ceW a:=rfl
def FAq (S:List Ent) (iq eq:Nat) (b:Bool):Prop:=entAt S iq eq=some [.prim (.bool b)]
structure FAw (_:List Ent) (_ _:Nat) (_:Bool):Prop where
theorem FAq.app {S L:List Ent} {iq eq:Nat} {b:Bool} (h:FAq S iq eq b):FAq (S++L) iq eq b:=A2 h
theorem FAw.app {S L:List Ent} {iq eq:Nat} {b:Bool} (_:FAw S iq eq b):FAw (S++L) iq eq b:=⟨⟩
theorem FAq.put {S:List Ent} {iq eq i:Nat} {b:Bool} {x:Ent} (h:FAq S iq eq b) (hne:i≠iq):FAq (put S i x) iq eq b:=by unfold FAq; rw [An hne]; exact h
theorem FAw.put {S:List Ent} {iq eq i:Nat} {b:Bool} {x:Ent} (_:FAw S iq eq b) (_:i≠iq):FAw (put S i x) iq eq b:=⟨⟩
theorem FAq.of {S S':List Ent} {iq eq:Nat} {b:Bool} (h:FAq S iq eq b) (hne:nth S' iq=nth S iq):FAq S' iq eq b:=by unfold FAq; rw [Ae hne]; exact h
theorem FAw.of {S S':List Ent} {iq eq:Nat} {b:Bool} (_:FAw S iq eq b) (_:nth S' iq=nth S iq):FAw S' iq eq b:=⟨⟩
theorem Z0 {α:Type} {p u:List α} {x:α} : nth (p++x :: u) p.length=some x:=by
 rw [Ac,List.getElem?_append_right (Nat.le_refl _),Nat.sub_self]; rfl
theorem Z7 {α:Type} {p u:List α} {x y:α} : put (p++x :: u) p.length y=p++y :: u:=by
 rw [Re,List.set_append_right _ _ (Nat.le_refl _),Nat.sub_self]; rfl
def okL (F:Fld) (l:List Q):Prop:=∀ q ∈ l,F.ok q
theorem xfs:xF 161=true/\xF 162=true/\xF 163=true/\xF 164=true/\xF 165=true/\xF 166=true/\xF 167=true/\xF 89=true/\xF 95=true/\xF 55=true/\xF 54=true/\xF 104=true/\xF 82=true/\xF 58=true/\xF 160=true/\xF 91=true/\xF 97=true:=⟨rfl,rfl,rfl,rfl,rfl,rfl,rfl,rfl,rfl,rfl,rfl,rfl,rfl,rfl,rfl,rfl,rfl⟩
structure Tb where
 vars:Nat
 real:Nat
 rows:List (List Q)
 cost:List Q
 basis:List Nat
 flip:List Bool
 fl:Bool
def at_ {α:Type} (d:α) (l:List α) (k:Nat):α:=(nth l k).getD d
def q0:Q:=(0,1)
def Ei (t:Tb) (i:Nat):List Q:=at_ [] t.rows i
def colF (cost:List Q):Nat->Nat->Option Nat
 | 0,_=>none
 | n+1,k=>if sgn (at_ q0 cost k)<0 then some k else colF cost n (k+1)
def Zl (t:Tb):Bool:=sgn (at_ q0 t.cost (t.cost.length - 1)) == 0
structure TI where
 it:Nat
 et:Nat
 ir:Nat
 er:Nat
 ic:Nat
 ec:Nat
 ib:Nat
 eb:Nat
 ids:List (Nat × Nat)
structure Apart (I:TI) (iq:Nat):Prop where
 tr:I.it≠I.ir
 tc:I.it≠I.ic
 tb:I.it≠I.ib
 rc:I.ir≠I.ic
 rb:I.ir≠I.ib
 cb:I.ic≠I.ib
 qt:iq≠I.it
 qr:iq≠I.ir
 qc:iq≠I.ic
 qb:iq≠I.ib
 row:∀ p ∈ I.ids,p.1≠I.it/\p.1≠I.ir/\p.1≠I.ic/\p.1≠I.ib/\p.1≠iq
 rows:∀ i j p q,nth I.ids i=some p->nth I.ids j=some q->i≠j->p.1≠q.1
def cd (W sz:Nat) (x:Nat × Nat):AV:=.sref x.1 x.2 0 W sz
def cu (id ep sz:Nat):Nat->AV
 | 0=>.frz [] .nilc
 | n+1=>.sref id ep 0 (n+1) sz
def Hm (b:Bool):List AV:=[.bool b]
def intA (n:Nat):AV:=.int (n:Int)
theorem Ak {α:Type} {l:List α} {i:Nat} {x:α} (h:nth l i=some x):x ∈ l:=by rw [Ac] at h; exact List.mem_of_getElem? h
theorem Dd {α:Type} {d:α} {l:List α} {k:Nat} {x:α} (h:nth l k=some x):at_ d l k=x:=by unfold at_; rw [h]; rfl
theorem Jy {α:Type} {l:List α} {i j:Nat} {x:α} (h:i<l.length):nth (put l i x) j=if j=i then some x else nth l j:=by
 by_cases e:j=i
 ·subst e; rw [if_pos rfl,Hr h]
 ·rw [if_neg e,Ah (Ne.symm e)]
theorem Ai {α:Type} {l:List α} {i:Nat} {x:α} : (put l i x).length=l.length:=Au
theorem Ah9 {α:Type} {l:List α} {i:Nat} {x y:α} : put (put l i x) i y=put l i y:=by
 induction l generalizing i with
 | nil=>rfl
 | cons z l ih=>cases i with
  | zero=>rfl
  | succ i=>simp only [put,ih]
theorem Aia {α:Type} {l:List α} {i:Nat} {x:α} (h:nth l i=some x):put l i x=l:=by
 induction l generalizing i with
 | nil=>rfl
 | cons z l ih=>cases i with
  | zero=>simp only [nth,Option.some.injEq] at h; subst h; rfl
  | succ i=>simp only [nth] at h; simp only [put,ih h]
theorem Ea {α:Type} {l:List α} {i:Nat} {x y:α} (h:y ∈ put l i x):y=x\/y ∈ l:=by
 rw [Re] at h
 rcases List.mem_or_eq_of_mem_set h with h|h
 ·exact .inr h
 ·exact .inl h
theorem De {S:List Ent} {n i e:Nat} (h:i<n):entAt (S.take n) i e=entAt S i e:=by
 unfold entAt
 rw [Ac,Ac,List.getElem?_take]; simp [h]
theorem FAq.take {S:List Ent} {n iq eq:Nat} {b:Bool} (h:FAq S iq eq b) (hi:iq<n):FAq (S.take n) iq eq b:=by unfold FAq; rw [De hi]; exact h
theorem FAw.take {S:List Ent} {n iq eq:Nat} {b:Bool} (_:FAw S iq eq b) (_:True):FAw (S.take n) iq eq b:=⟨⟩
theorem Eu {α:Type} {l m:List α} {j:Nat} (h:j<l.length):nth (l++m) j=nth l j:=by
 rw [Ac,Ac,List.getElem?_append_left h]
theorem Aib {α:Type} {l:List α} {i:Nat} {x:α} : put l i x=[]↔l=[]:=by
 cases l with
 | nil=>simp [put]
 | cons y l=>cases i <;> simp [put]
end
section
open Go Tryz
def A1 (c:ByteArray × Int):List AV:=[.prim (.string c.1),.prim (.int .i64 c.2)]
def Aa (cs:List (ByteArray × Int)):AV:=.frz (cs.map A1) .unk
def linA (cs:List (ByteArray × Int)) (n:Int):AV:=.agg [Aa cs,.prim (.int .i64 n)]
def rowA (cs:List (ByteArray × Int)) (n:Int) (eq:Bool):AV:=.agg [Aa cs,.prim (.int .i64 n),.prim (.bool eq)]
def B2 (s:ByteArray):Bool:=sEq s ⟨#[]⟩ || decide ((s.size:Int) > 400)
def Hb:Option ByteArray->ByteArray->Bool
 | none,_=>false
 | some p,s=>sLt s p || sEq s p
def A0 (n:Int):Option ByteArray->List (ByteArray × Int)->Int
 | _,[]=>if inB n then 0 else 2
 | p,c :: cs=>if B2 c.1 then 3 else if c.2 == 0 || !inB c.2 then 2 else if Hb p c.1 then 9 else A0 n (some c.1) cs
def Bo (cs:List (ByteArray × Int)) (n:Int):Int:=if 24<cs.length then 7 else A0 n none cs
def Ec (cs:List (ByteArray × Int)):Nat->Option ByteArray
 | 0=>none
 | j+1=>(nth cs j).map (·.1)
section
variable (S:List Ent) (tk:List Nat) (k:Nat)
theorem Z2 (n:Int):cL prog 49 [.int n] S tk k=some (.bool (inB n),S,tk,k):=by
 refine opP func49 ntmps49 ?_
 simp +contextual only [ev0,reduceIte,reduceCtorEq,Nat.reduceAdd,Nat.reduceSub,Nat.reduceBEq,Nat.reduceEqDiff,Nat.reduceMul,Nat.reduceLT,Nat.reduceLeDiff,Int.reduceNeg,AV.int,AV.bool,AV.str,results49]
 unfold inB
 exact ⟨fun h=>by simp at h ⊢; omega,fun h=>by simp at h ⊢; omega⟩
theorem Tg (n:Int):cL prog 12 [.int n] S tk k=some (.bool (inB n),S,tk,k):=by
 refine opP func12 ntmps12 ?_
 simp +contextual only [ev0,reduceIte,reduceCtorEq,Nat.reduceAdd,Nat.reduceSub,Nat.reduceBEq,Nat.reduceEqDiff,Nat.reduceMul,Nat.reduceLT,Nat.reduceLeDiff,Int.reduceNeg,AV.int,AV.bool,AV.str,results12]
 unfold inB
 exact ⟨fun h=>by simp at h ⊢; omega,fun h=>by simp at h ⊢; omega⟩
theorem N0 (cs:List (ByteArray × Int)) (n:Int) (hlen:cs.length<=1048576):cL prog 28 [linA cs n] S tk k=some (.int (Bo cs n),S,tk,k):=by
 refine opP func28 ntmps28 ?_
 simp (maxSteps:=10^6)+contextual(disch:=try exact dqd)only[ev1,reduceIte,reduceCtorEq,Nat.reduceAdd,Nat.reduceSub,Nat.reduceBEq,Nat.reduceEqDiff,Nat.reduceMul,Nat.reduceLT,Nat.reduceLeDiff,Int.reduceNeg,AV.int,AV.bool,AV.str,results28,linA,Aa]
 refine ⟨fun h=>?_,fun h=>?_⟩
 ·unfold Bo; rw [if_pos (by simp at h; omega)]
 have hc:Bo cs n=A0 n none cs:=by unfold Bo; rw [if_neg (by simp at h; omega)]
 rw [hc]
 refine loop1 (fun i st=>st.T.length=57/\i<=cs.length/\getT st.T 1=.ref 0 0 0/\getT st.T 10=Aa cs/\getT st.T 11=.int cs.length/\getT st.T 12=.int (i:Nat)/\st.S=[⟨0,[Aa cs,.int n]⟩]) (fun i=>cs.length - i) (fun i=>.int (A0 n (Ec cs i) (cs.drop i))) 0 ?_ ?_
 case refine_2=>exact ⟨rfl,Nat.zero_le _,rfl,rfl,rfl,rfl,rfl⟩
 rintro i ⟨T,S',tk',n'⟩ ⟨hl,hi,e1,e10,e11,e12,rfl⟩ IH
 obtain ⟨g,hg,hT⟩:=Ap hl
 rw [hg] at e1 e10 e11 e12
 subst hT
 clear hg hl h hc
 by_cases hlt:i<cs.length
 ·have d1:decide ((i:Int)<(cs.length:Int))=true:=by simpa using hlt
  obtain ⟨c,hc⟩:=Ab hlt
  have a7:nth (cs.map A1) i=some (A1 c):=by rw [Bt,hc]; rfl
  have hw:=Av (i:=i) (by omega)
  have hp:Ec cs (i+1)=some c.1:=by simp [Ec,hc]
  rw [Ar hc]
  rcases i with _|j
  ·have d2:decide (((0:Nat):Int) > 0)=false:=rfl
   simp (maxSteps:=10^6)+contextual(disch:=try exact dqd)only[ev1,reduceIte,reduceCtorEq,Nat.reduceAdd,Nat.reduceSub,Nat.reduceBEq,Nat.reduceEqDiff,Nat.reduceMul,Nat.reduceLT,Nat.reduceLeDiff,Int.reduceNeg,AV.int,AV.bool,AV.str,results28,e1,e10,e11,e12,d1,d2,Aa,a7,hw,A1,Z2]
   refine ⟨fun h1=>?_,fun h1=>⟨fun h2=>?_,fun h2=>⟨fun h3=>?_,fun h3=>⟨fun h4=>?_,fun h4=>?_⟩⟩⟩⟩
   ·simp [A0,B2,h1]
   ·simp only [A0,B2,h1,h2]; rfl
   ·simp only [A0,B2,h1,h2,h3]; rfl
   ·rw [IH 1 _ (by omega) ⟨rfl,by omega,rfl,rfl,rfl,rfl,rfl⟩,hp]
    simp only [A0,B2,h1,h2,h3,h4,Ec,Hb]; rfl
   ·simp only [A0,B2,h1,h2,h3,h4]; rfl
  ·have d2:decide (((j+1:Nat):Int) > 0)=true:=decide_eq_true (by omega)
   obtain ⟨p,j8⟩:=Ab (show j<cs.length by omega)
   have b7:nth (cs.map A1) j=some (A1 p):=by rw [Bt,j8]; rfl
   have zp:=Y2 (j:=j) (by omega)
   have ql:Ec cs (j+1)=some p.1:=by simp [Ec,j8]
   simp (maxSteps:=10^6)+contextual(disch:=try exact dqd)only[ev1,reduceIte,reduceCtorEq,Nat.reduceAdd,Nat.reduceSub,Nat.reduceBEq,Nat.reduceEqDiff,Nat.reduceMul,Nat.reduceLT,Nat.reduceLeDiff,Int.reduceNeg,AV.int,AV.bool,AV.str,results28,e1,e10,e11,e12,d1,d2,Aa,a7,hw,A1,Z2,b7,zp]
   refine ⟨fun h1=>?_,fun h1=>⟨fun h2=>?_,fun h2=>⟨fun h3=>?_,fun h3=>⟨fun h4=>?_,fun h4=>?_⟩⟩⟩⟩
   ·simp [A0,B2,h1]
   ·simp only [A0,B2,h1,h2]; rfl
   ·simp only [A0,B2,h1,h2,h3]; rfl
   ·refine ⟨fun h5=>?_,fun h5=>?_⟩
    ·simp only [A0,B2,h1,h2,h3,h4,ql,Hb,h5]; rfl
    ·rw [IH (j+1+1) _ (by omega) ⟨rfl,by omega,rfl,rfl,rfl,rfl,rfl⟩,hp]
     simp only [A0,B2,h1,h2,h3,h4,ql,Hb,h5]; rfl
   ·simp only [A0,B2,h1,h2,h3,h4]; rfl
 ·have d1:decide ((i:Int)<(cs.length:Int))=false:=by simpa using hlt
  have he:i=cs.length:=by omega
  simp (maxSteps:=10^6)+contextual(disch:=try exact dqd)only[ev1,reduceIte,reduceCtorEq,Nat.reduceAdd,Nat.reduceSub,Nat.reduceBEq,Nat.reduceEqDiff,Nat.reduceMul,Nat.reduceLT,Nat.reduceLeDiff,Int.reduceNeg,AV.int,AV.bool,AV.str,results28,e1,e10,e11,e12,d1,Aa,Z2]
  rw [he,List.drop_length]
  exact ⟨fun h=>by simp [A0,h],fun h=>by simp [A0,h]⟩
theorem Pw (cs:List (ByteArray × Int)) (n:Int) (hlen:cs.length<=1048576):cL prog 13 [linA cs n] S tk k=some (.int (Bo cs n),S,tk,k):=by
 refine opP func13 ntmps13 ?_
 simp (maxSteps:=10^6)+contextual(disch:=try exact dqd)only[ev1,reduceIte,reduceCtorEq,Nat.reduceAdd,Nat.reduceSub,Nat.reduceBEq,Nat.reduceEqDiff,Nat.reduceMul,Nat.reduceLT,Nat.reduceLeDiff,Int.reduceNeg,AV.int,AV.bool,AV.str,results13,linA,Aa]
 refine ⟨fun h=>?_,fun h=>?_⟩
 ·unfold Bo; rw [if_pos (by simp at h; omega)]
 have hc:Bo cs n=A0 n none cs:=by unfold Bo; rw [if_neg (by simp at h; omega)]
 rw [hc]
 refine loop1 (fun i st=>st.T.length=60/\i<=cs.length/\getT st.T 1=.ref 0 0 0/\getT st.T 3=.int (i:Nat)/\st.S=[⟨0,[Aa cs,.int n]⟩]) (fun i=>cs.length - i) (fun i=>.int (A0 n (Ec cs i) (cs.drop i))) 0 ?_ ?_
 case refine_2=>exact ⟨rfl,Nat.zero_le _,rfl,rfl,rfl⟩
 rintro i ⟨T,S',tk',n'⟩ ⟨hl,hi,e1,e3,rfl⟩ IH
 obtain ⟨g,hg,hT⟩:=Ap hl
 rw [hg] at e1 e3
 subst hT
 clear hg hl h hc
 by_cases hlt:i<cs.length
 ·have d1:decide ((i:Int)<(cs.length:Int))=true:=by simpa using hlt
  obtain ⟨c,hc⟩:=Ab hlt
  have a7:nth (cs.map A1) i=some (A1 c):=by rw [Bt,hc]; rfl
  have hw:=Av (i:=i) (by omega)
  have hp:Ec cs (i+1)=some c.1:=by simp [Ec,hc]
  rw [Ar hc]
  rcases i with _|j
  ·have d2:decide (((0:Nat):Int) > 0)=false:=rfl
   simp (maxSteps:=10^6)+contextual(disch:=try exact dqd)only[ev1,reduceIte,reduceCtorEq,Nat.reduceAdd,Nat.reduceSub,Nat.reduceBEq,Nat.reduceEqDiff,Nat.reduceMul,Nat.reduceLT,Nat.reduceLeDiff,Int.reduceNeg,AV.int,AV.bool,AV.str,results13,e1,e3,d1,d2,Aa,a7,hw,A1,Tg]
   refine ⟨fun h1=>?_,fun h1=>⟨fun h2=>?_,fun h2=>⟨fun h3=>?_,fun h3=>⟨fun h4=>?_,fun h4=>?_⟩⟩⟩⟩
   ·simp [A0,B2,h1]
   ·simp only [A0,B2,h1,h2]; rfl
   ·simp only [A0,B2,h1,h2,h3]; rfl
   ·rw [IH 1 _ (by omega) ⟨rfl,by omega,rfl,rfl,rfl⟩,hp]
    simp only [A0,B2,h1,h2,h3,h4,Ec,Hb]; rfl
   ·simp only [A0,B2,h1,h2,h3,h4]; rfl
  ·have d2:decide (((j+1:Nat):Int) > 0)=true:=decide_eq_true (by omega)
   obtain ⟨p,j8⟩:=Ab (show j<cs.length by omega)
   have b7:nth (cs.map A1) j=some (A1 p):=by rw [Bt,j8]; rfl
   have zp:=Y2 (j:=j) (by omega)
   have ql:Ec cs (j+1)=some p.1:=by simp [Ec,j8]
   simp (maxSteps:=10^6)+contextual(disch:=try exact dqd)only[ev1,reduceIte,reduceCtorEq,Nat.reduceAdd,Nat.reduceSub,Nat.reduceBEq,Nat.reduceEqDiff,Nat.reduceMul,Nat.reduceLT,Nat.reduceLeDiff,Int.reduceNeg,AV.int,AV.bool,AV.str,results13,e1,e3,d1,d2,Aa,a7,hw,A1,Tg,b7,zp]
   refine ⟨fun h1=>?_,fun h1=>⟨fun h2=>?_,fun h2=>⟨fun h3=>?_,fun h3=>⟨fun h4=>?_,fun h4=>?_⟩⟩⟩⟩
   ·simp [A0,B2,h1]
   ·simp only [A0,B2,h1,h2]; rfl
   ·simp only [A0,B2,h1,h2,h3]; rfl
   ·refine ⟨fun h5=>?_,fun h5=>?_⟩
    ·simp only [A0,B2,h1,h2,h3,h4,ql,Hb,h5]; rfl
    ·rw [IH (j+1+1) _ (by omega) ⟨rfl,by omega,rfl,rfl,rfl⟩,hp]
     simp only [A0,B2,h1,h2,h3,h4,ql,Hb,h5]; rfl
   ·simp only [A0,B2,h1,h2,h3,h4]; rfl
 ·have d1:decide ((i:Int)<(cs.length:Int))=false:=by simpa using hlt
  have he:i=cs.length:=by omega
  simp (maxSteps:=10^6)+contextual(disch:=try exact dqd)only[ev1,reduceIte,reduceCtorEq,Nat.reduceAdd,Nat.reduceSub,Nat.reduceBEq,Nat.reduceEqDiff,Nat.reduceMul,Nat.reduceLT,Nat.reduceLeDiff,Int.reduceNeg,AV.int,AV.bool,AV.str,results13,e1,e3,d1,Aa,Tg]
  rw [he,List.drop_length]
  exact ⟨fun h=>by simp [A0,h],fun h=>by simp [A0,h]⟩
end
theorem Aks {n:Int} (h:inB n=true):i64 n:=by rw [H3] at h; unfold i64; omega
section
variable (S:List Ent) (tk:List Nat) (k:Nat)
theorem Z3 (n:Int):cL prog 49 [.int n] S tk k=some (.bool (inB n),S,tk,k):=by
 refine opP func49 ntmps49 ?_
 simp (maxSteps:=10^6)+contextual(disch:=try exact dqd)only[ev1,simprocAttr,AV.int,AV.bool,AV.str,results49]
 unfold inB
 exact ⟨fun h=>by simp at h ⊢; omega,fun h=>by simp at h ⊢; omega⟩
theorem Q6 (n:Int) (ok:Bool):cL prog 51 [.int n,.bool ok] S tk k=some (.tup [.int (chk ok n).1,.bool (chk ok n).2],S,tk,k):=by
 refine opP func51 ntmps51 ?_
 simp (maxSteps:=10^6)+contextual(disch:=try exact dqd)only[ev1,simprocAttr,AV.int,AV.bool,AV.str,results51,Z3]
 simp +contextual [chk]
theorem Ac8 (n:Int) (ok:Bool):cL prog 105 [.int n,.bool ok] S tk k=some (.tup [.int (chk ok n).1,.bool (chk ok n).2],S,tk,k):=by
 refine opP func105 ntmps105 ?_
 simp (maxSteps:=10^6)+contextual(disch:=try exact dqd)only[ev1,simprocAttr,AV.int,AV.bool,AV.str,results105,Tg]
 simp +contextual [chk]
theorem Aa7 {a b:Int} (ha:inB a=true) (hb:inB b=true):IntKind.i64.wrap (a+b)=a+b:=by
 rw [H3] at ha hb; exact Ad (by unfold i64; omega)
theorem Ahx (a b:Int):cL prog 32 [.int a,.int b] S tk k=some (.tup [.int (addS a b).1,.bool (addS a b).2],S,tk,k):=by
 refine opP func32 ntmps32 ?_
 simp (maxSteps:=10^6)+contextual(disch:=try exact dqd)only[ev1,simprocAttr,AV.int,AV.bool,AV.str,results32,Z3,Q6,Aa7]
 simp +contextual [addS,chk]
theorem Amn (a b:Int):cL prog 85 [.int a,.int b] S tk k=some (.tup [.int (addS a b).1,.bool (addS a b).2],S,tk,k):=by
 refine opP func85 ntmps85 ?_
 simp (maxSteps:=10^6)+contextual(disch:=try exact dqd)only[ev1,simprocAttr,AV.int,AV.bool,AV.str,results85,Tg,Ac8]
 refine ⟨fun h=>?_,fun h=>?_⟩
 ·cases hb:inB b with
  | true=>simp [addS,chk,h,hb,Aa7]
  | false=>simp [addS,chk,h,hb]
 ·simp [addS,chk,h]
theorem An9 (n:Int) (h:i64 n):cL prog 50 [.int n] S tk k=some (.int (absS n),S,tk,k):=by
 refine opP func50 ntmps50 ?_
 simp (maxSteps:=10^6)+contextual(disch:=try exact dqd)only[ev1,simprocAttr,AV.int,AV.bool,AV.str,results50]
 simp only [IntKind.wrap_i64,absS,AV.prim.injEq,Value.int.injEq,Option.some.injEq,true_and,decide_eq_true_eq,decide_eq_false_iff_not]
 unfold i64 at h
 refine ⟨fun h1=>?_,fun h1=>⟨fun h2=>?_,fun h2=>?_⟩⟩ <;> (split <;> try split) <;> omega
theorem Ak4 {n:Int} (h:inB n=true):cL prog 50 [.int n] S tk k=some (.int n.natAbs,S,tk,k):=by rw [An9 S tk k n (Aks h),Am6 h]
theorem Aca {a b:Int} (ha:inB a=true) (hb:inB b=true) (h0:¬ a=0) (v:Int) (hv:v=(a.natAbs:Int)) :
  (decide ((b.natAbs:Int) > IntKind.i64.wrap (Int.tdiv 1000000000000 v))=false->IntKind.i64.wrap (a*b)=a*b/\inB (a*b)=true)/\(decide ((b.natAbs:Int) > IntKind.i64.wrap (Int.tdiv 1000000000000 v))=true->inB (a*b)=false):=by
 subst hv
 have hp:0<(a.natAbs:Int):=by omega
 have e:Int.tdiv 1000000000000 (a.natAbs:Int)=1000000000000 / (a.natAbs:Int):=Int.tdiv_eq_ediv_of_nonneg (by omega)
 have h1:0<=1000000000000 / (a.natAbs:Int):=Int.ediv_nonneg (by omega) (by omega)
 have h2:1000000000000 / (a.natAbs:Int)<=1000000000000:=Int.ediv_le_self _ (by omega)
 rw [e,Ad (by unfold i64; omega)]
 rcases Ak2 a b h0 with ⟨h3,h4,h5,h6⟩|⟨h3,h4⟩
 ·exact ⟨fun _=>⟨Ad (by unfold i64; omega),h6⟩,fun h=>by simp only [gt_iff_lt] at h; rw [h3] at h; simp at h⟩
 ·exact ⟨fun h=>by simp only [gt_iff_lt] at h; rw [h3] at h; simp at h,fun _=>h4⟩
theorem Ahy (a b:Int):cL prog 31 [.int a,.int b] S tk k=some (.tup [.int (mulS a b).1,.bool (mulS a b).2],S,tk,k):=by
 refine opP func31 ntmps31 ?_
 simp (maxSteps:=10^6)+contextual(disch:=try exact dqd)only[ev1,simprocAttr,AV.int,AV.bool,AV.str,results31,Z3,Q6,Ak4]
 refine ⟨fun ha=>⟨fun hb=>⟨fun h0=>?_,fun h0=>⟨fun h1=>?_,fun h1=>?_⟩⟩,fun hb=>?_⟩,fun ha=>?_⟩
 ·simp at h0; subst h0; simp [mulS,chk,hb]; decide
 ·simp at h1; subst h1; simp [mulS,chk,ha]; decide
 ·have h0':¬ a=0:=by simpa using h0
  obtain ⟨c1,c2⟩:=Aca ha hb h0' _ rfl
  refine ⟨by omega,fun h=>?_,fun h=>?_⟩
  ·simp [mulS,chk,ha,hb,c2 h]
  ·simp [mulS,chk,ha,hb,(c1 h).1,(c1 h).2]
 ·simp [mulS,chk,hb]
 ·simp [mulS,chk,ha]
theorem Amo (a b:Int):cL prog 83 [.int a,.int b] S tk k=some (.tup [.int (mulS a b).1,.bool (mulS a b).2],S,tk,k):=by
 refine opP func83 ntmps83 ?_
 simp (maxSteps:=10^6)+contextual(disch:=try exact dqd)only[ev1,simprocAttr,AV.int,AV.bool,AV.str,results83,Tg]
 have wn:∀ {x:Int},inB x=true->IntKind.i64.wrap (0 - x)=0 - x:=fun h=>Ad (by rw [H3] at h; unfold i64; omega)
 have comm:∀ x y:Int,mulS x y=mulS y x:=fun x y=>by simp [mulS,Int.mul_comm,Bool.and_comm]
 refine ⟨fun ha=>⟨fun hb=>⟨fun h0=>?_,fun h0=>⟨fun h1=>?_,fun h1=>?_⟩⟩,fun hb=>?_⟩,fun ha=>?_⟩
 ·simp at h0; subst h0; simp [mulS,chk,hb]; decide
 ·simp at h1; subst h1; simp [mulS,chk,ha]; decide
 ·have h0':¬ a=0:=by simpa using h0
  have jc:¬ b=0:=by simpa using h1
  rw [wn ha,wn hb,comm a b]
  obtain ⟨c1,c2⟩:=Aca hb ha jc _ rfl
  rw [Int.mul_comm] at c1 c2
  simp only [decide_eq_true_eq,decide_eq_false_iff_not] at c1 c2 ⊢
  have fin1:∀ x y:Int,x=(a.natAbs:Int)->y=(b.natAbs:Int)->¬ y=0/\(x > IntKind.i64.wrap (Int.tdiv 1000000000000 y)->0=(mulS b a).1/\false=(mulS b a).2)/\(¬ x > IntKind.i64.wrap (Int.tdiv 1000000000000 y)->IntKind.i64.wrap (a*b)=(mulS b a).1/\true=(mulS b a).2):=by
   intro x y hx hy
   subst hx hy
   refine ⟨by omega,fun h=>?_,fun h=>?_⟩
   ·rw [Int.mul_comm] at c2; simp [mulS,chk,ha,hb,c2 h]
   ·rw [Int.mul_comm] at c1; simp [mulS,chk,ha,hb,(c1 h).2]; rw [Int.mul_comm]; exact (c1 h).1
  refine ⟨fun nk=>⟨fun hb0=>?_,fun hb0=>?_⟩,fun nk=>⟨fun hb0=>?_,fun hb0=>?_⟩⟩
  all_goals exact fin1 _ _ (by omega) (by omega)
 ·simp [mulS,chk,hb]
 ·simp [mulS,chk,ha]
end
end
end Go.Proofs.YtcandeobhlfkbaaGreat
