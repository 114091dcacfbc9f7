/- Shape P1 P2 P3 P4 P5 P6 P7 P8 P9 RExt R4 R5 R6 B11 R7 R8 R9 R10 R11 R12 S1 S2 S3 J1 S7 S8 S9 PQ Q0 -/
import Derived.Test.YtcjffhadclngmaaGreatZC8
import Derived.OpenShut
import Derived.ChangeArms
import Derived.Test.YtcjffhadclngmaaGreatZC13
import Derived.Test.YtcjffhadclngmaaGreatZC14
import Derived.Test.YtcjffhadclngmaaGreatZC12
namespace Go.Proofs.YtcjffhadclngmaaGreat
open Go
inductive Sh (P:Program):TypeId->List AV->Prop
 | bool {t b} : P.underlying t=some .bool->Sh P t [.prim (.bool b)]
 | int {t k n} : P.underlying t=some (.int k)->(Lit.int k n).wf=true->Sh P t [.prim (.int k n)]
 | str {t s} : P.underlying t=some .string->s.size<=maxLen->Sh P t [.prim (.string s)]
 | slice {t e es} : P.underlying t=some (.slice e)->(∀ x ∈ es,Sh P e x)->es.length<=maxLen->Sh P t [.frz es .unk]
 | struct {t fs} {pss:List (List AV)} : P.underlying t=some (.struct fs)->pss.length=fs.size->(∀ i f p,fs[i]?=some f->nth pss i=some p->Sh P f.type p)->Sh P t pss.flatten
 | array {t n e} {pss:List (List AV)} : P.underlying t=some (.array n e)->pss.length=n->(∀ p ∈ pss,Sh P e p)->Sh P t pss.flatten
def Xh (P:Program):List Field->Nat->Nat->Bool
 | [],o,n=>o == n
 | f :: fs,o,n=>f.offset == o && Xh P fs (o+P.cellsOf f.type) n
def Ag9 (P:Program) (F:List TypeId) (t:TypeId):Bool :=
 match P.underlying t with
 | some .bool=>true
 | some (.int k)=>k != .u64
 | some .string=>true
 | some (.slice e)=>F.contains e && decide (0<P.cellsOf e)
 | some (.struct fs)=>Xh P fs.toList 0 (P.cellsOf t) && fs.toList.all fun f=>F.contains f.type
 | some (.array n e)=>F.contains e && P.cellsOf t == n*P.cellsOf e
 | _=>false
def Y5 (P:Program) (F:List TypeId):Bool:=F.all (Ag9 P F)
def Ro:AV->Bool
 | .prim (.int k _)=>k != .u64
 | .prim _=>true
 | .frz _ _=>true
 | _=>false
theorem Akv {w:World} {A:Nat->Nat->Prop} {b:Nat} : ∀ (vs:List Value) (o:Nat),(∀ j v,nth vs j=some v->w.cell? ⟨b,o+j,none⟩=some v/\¬ A b (o+j))->Lie w A b o vs
 | [],_,_=>trivial
 | v :: vs,o,h=>by
  have h0:=h 0 v rfl
  refine ⟨h0.1,h0.2,Akv vs (o+1) fun j u hu=>?_⟩
  have:=h (j+1) u hu
  rwa [show o+(j+1)=o+1+j by omega] at this
theorem Ab7 {w:World} {A:Nat->Nat->Prop} {b sz:Nat} : ∀ (es:List (List AV)) (o:Nat),(∀ i e,nth es i=some e->e.length=sz/\∃ vs,Lie w A b (o+i*sz) vs/\PRs w A e vs)->Br w A b sz o es
 | [],_,_=>by simp only [Br]
 | e :: es,o,h=>by
  simp only [Br]
  have h0:=h 0 e rfl
  rw [Nat.zero_mul,Nat.add_zero] at h0
  refine ⟨h0.1,h0.2,Ab7 es (o+sz) fun i f hf=>?_⟩
  have:=h (i+1) f hf
  rwa [show o+(i+1)*sz=o+sz+i*sz by rw [Nat.add_mul]; omega] at this
theorem Zc {w:World} {A:Nat->Nat->Prop} : ∀ {cs ds:List AV} {us vs:List Value},PRs w A cs us->PRs w A ds vs->PRs w A (cs++ds) (us++vs)
 | [],_,[],_,_,h=>h
 | _ :: _,_,_ :: _,_,h1,h2=>by simp only [PRs,List.cons_append] at h1 ⊢; exact ⟨h1.1,Zc h1.2 h2⟩
 | [],_,_ :: _,_,h1,_=>by simp only [PRs] at h1
 | _ :: _,_,[],_,h1,_=>by simp only [PRs] at h1
theorem Abv {w:World} {A:Nat->Nat->Prop} : ∀ {cs:List AV} {vs:List Value},PRs w A cs vs->(∀ c ∈ cs,Ro c=true)->∀ v ∈ vs,∀ n,v≠.int .u64 n
 | [],[],_,_,v,hv=>by simp at hv
 | c :: cs,x :: vs,h,hg,v,hv=>by
  simp only [PRs] at h
  rcases List.mem_cons.1 hv with rfl|hv
  ·intro n e
   subst e
   have hc:=hg c (by simp)
   have hp:=h.1
   cases c with
   | prim y=>simp only [PR] at hp; rw [<- hp.1] at hc; simp [Ro] at hc
   | frz es q=>cases q <;> simp only [PR] at hp; obtain ⟨a,l,q,e,-⟩:=hp; cases e
   | _=>simp [Ro] at hc
  ·exact Abv h.2 (fun d hd=>hg d (by simp [hd])) v hv
 | [],_ :: _,h,_,_,_=>by simp only [PRs] at h
 | _ :: _,[],h,_,_,_=>by simp only [PRs] at h
theorem Zk {α β:Type} {f:α->Option β} : ∀ {l:List α} {ys:List β},l.mapM f=some ys->ys.length=l.length/\∀ i x y,nth l i=some x->nth ys i=some y->f x=some y
 | [],ys,h=>by simp at h; subst h; exact ⟨rfl,fun i x y hx=>by simp [nth] at hx⟩
 | a :: l,ys,h=>by
  rw [List.mapM_cons] at h
  simp only [Option.pure_def,Option.bind_eq_bind,Option.bind_eq_some_iff] at h
  obtain ⟨b,hb,bs,mh,e⟩:=h
  simp only [Option.some.injEq] at e
  subst e
  obtain ⟨h1,h2⟩:=Zk mh
  refine ⟨by simp [h1],fun i x y hx hy=>?_⟩
  cases i with
  | zero=>simp only [nth,Option.some.injEq] at hx hy; subst hx hy; exact hb
  | succ i=>exact h2 i x y hx hy
theorem Wm {n i:Nat} (h:i<n):nth (List.range n) i=some i:=by rw [Ae,List.getElem?_range h]
theorem Ajz {w:World} {b off n:Nat} {vs:List Value} (h:w.cells? 0 ⟨b,off,none⟩ n=some vs):vs.length=n/\∀ j v,nth vs j=some v->w.cell? ⟨b,off+j,none⟩=some v:=by
 unfold World.cells? at h
 rw [if_pos (Nat.zero_le _)] at h
 obtain ⟨h1,h2⟩:=Zk h
 rw [List.length_range] at h1
 refine ⟨h1,fun j v hv=>?_⟩
 have hj:j<n:=by have:=Bk hv; omega
 have:=h2 j j v (Wm hj) hv
 unfold Addr.add at this
 split at this
 ·rename_i h0; subst h0; exact this
 ·exact this
theorem spot0 {w:World} {a:Addr} {v:Value} (h:w.cell? a=some v):a.spot=none:=by
 unfold World.cell? at h
 split at h
 ·split at h
  ·cases h
  ·rename_i hs; simpa using hs
 ·cases h
section
variable {H:Type} {enc:TypeId × Value->H} {P:Program} {w:World} {sp:Nat->Bool} {gg:Bool} {A:Nat->Nat->Prop} {F:List TypeId}
def Rd (P:Program) (w:World) (A:Nat->Nat->Prop) (t:TypeId) (cs:List Value) (avs:List AV):Prop:=Sh P t avs/\PRs w A avs cs/\∀ c ∈ avs,Ro c=true
theorem Wx {n:Nat} {cs:List Value} (ih:∀ t ds x,t ∈ F->DataW.trod enc P w 0 sp gg n t ds=some x->∃ avs,Rd P w A t ds avs) :
  ∀ (fs:List Field) (o:Nat) (xs:List (DataW H × List MemPlace)),Xh P fs o cs.length=true->(∀ f ∈ fs,f.type ∈ F)->xs.length=fs.length ->
   (∀ i f,nth fs i=some f->DataW.trod enc P w 0 sp gg n f.type ((cs.drop f.offset).take (P.cellsOf f.type))=nth xs i) ->
   ∃ pss:List (List AV),pss.length=fs.length/\(∀ i f p,nth fs i=some f->nth pss i=some p->Sh P f.type p)/\PRs w A pss.flatten (cs.drop o)/\∀ c ∈ pss.flatten,Ro c=true
 | [],o,xs,hc,_,_,_=>by
  simp only [Xh,beq_iff_eq] at hc
  exact ⟨[],rfl,fun i f p hf=>by simp [nth] at hf,by rw [hc,List.drop_length]; simp only [List.flatten_nil,PRs],by simp⟩
 | f :: fs,o,xs,hc,hF,hl,h=>by
  simp only [Xh,Bool.and_eq_true,beq_iff_eq] at hc
  obtain ⟨ho,hc⟩:=hc
  cases xs with
  | nil=>simp at hl
  | cons x xs =>
  have h0:=h 0 f rfl
  obtain ⟨avs,s1,p1,g1⟩:=ih _ _ _ (hF f (by simp)) h0
  obtain ⟨pss,l2,s2,p2,g2⟩:=Wx ih fs (o+P.cellsOf f.type) xs hc (fun g hg=>hF g (by simp [hg])) (by simpa using hl) fun i g hg=>h (i+1) g hg
  refine ⟨avs :: pss,by simp [l2],fun i g p hg hp=>?_,?_,?_⟩
  ·cases i with
   | zero=>simp only [nth,Option.some.injEq] at hg hp; subst hg hp; exact s1
   | succ i=>exact s2 i g p hg hp
  ·rw [ho] at p1
   have e:cs.drop o=(cs.drop o).take (P.cellsOf f.type)++cs.drop (o+P.cellsOf f.type):=by
    rw [<- List.drop_drop,List.take_append_drop]
   rw [e,List.flatten_cons]
   exact Zc p1 p2
  ·intro c hc
   rw [List.flatten_cons] at hc
   rcases List.mem_append.1 hc with hc|hc
   ·exact g1 c hc
   ·exact g2 c hc
theorem Acb {n sz:Nat} {e:TypeId} {cs:List Value} (ih:∀ t ds x,t ∈ F->DataW.trod enc P w 0 sp gg n t ds=some x->∃ avs,Rd P w A t ds avs) (he:e ∈ F) :
  ∀ (k o:Nat),cs.length=o+k*sz->(∀ i,i<k->∃ x,DataW.trod enc P w 0 sp gg n e ((cs.drop (o+i*sz)).take sz)=some x) ->
   ∃ pss:List (List AV),pss.length=k/\(∀ p ∈ pss,Sh P e p)/\PRs w A pss.flatten (cs.drop o)/\∀ c ∈ pss.flatten,Ro c=true
 | 0,o,hl,_=>⟨[],rfl,by simp,by rw [List.drop_eq_nil_of_le (by omega)]; simp only [List.flatten_nil,PRs],by simp⟩
 | k+1,o,hl,h=>by
  obtain ⟨x,h0⟩:=h 0 (by omega)
  rw [Nat.zero_mul,Nat.add_zero] at h0
  obtain ⟨avs,s1,p1,g1⟩:=ih _ _ _ he h0
  obtain ⟨pss,l2,s2,p2,g2⟩:=Acb (sz:=sz) ih he k (o+sz) (by rw [hl,Nat.add_mul]; omega) fun i hi=>by
   have:=h (i+1) (by omega)
   rwa [show o+(i+1)*sz=o+sz+i*sz by rw [Nat.add_mul]; omega] at this
  refine ⟨avs :: pss,by simp [l2],fun p hp=>?_,?_,?_⟩
  ·rcases List.mem_cons.1 hp with rfl|hp
   ·exact s1
   ·exact s2 p hp
  ·have e:cs.drop o=(cs.drop o).take sz++cs.drop (o+sz):=by rw [<- List.drop_drop,List.take_append_drop]
   rw [e,List.flatten_cons]
   exact Zc p1 p2
  ·intro c hc
   rw [List.flatten_cons] at hc
   rcases List.mem_append.1 hc with hc|hc
   ·exact g1 c hc
   ·exact g2 c hc
theorem Ae5 (hF:Y5 P F=true) (hA:∀ b o v,A b o->w.cell? ⟨b,o,none⟩=some v->∃ n,v=.int .u64 n):∀ (fuel:Nat) (t:TypeId) (cs:List Value) (x:DataW H × List MemPlace),t ∈ F->DataW.trod enc P w 0 sp gg fuel t cs=some x->∃ avs,Rd P w A t cs avs
 | 0,_,_,_,_,h=>by simp [DataW.trod] at h
 | n+1,t,cs,x,ht,h=>by
  have gn:Ag9 P F t=true:=List.all_eq_true.1 hF t ht
  have ih:∀ t ds x,t ∈ F->DataW.trod enc P w 0 sp gg n t ds=some x->∃ avs,Rd P w A t ds avs:=fun t ds x ht h=>Ae5 hF hA n t ds x ht h
  unfold Ag9 at gn
  split at gn
  ·rename_i hu
   obtain ⟨b,rfl,-⟩:=DataW.trod_bool hu h
   exact ⟨[.prim (.bool b)],.bool hu,by simp [PRs,PR,Value.oneCell'],by simp [Ro]⟩
  ·rename_i k hu
   obtain ⟨q,rfl,-,hw⟩:=DataW.trod_int hu h
   exact ⟨[.prim (.int k q)],.int hu hw,by simp [PRs,PR,Value.oneCell'],by simpa [Ro] using gn⟩
  ·rename_i hu
   obtain ⟨s,rfl,-,hw⟩:=DataW.trod_string hu h
   exact ⟨[.prim (.string s)],.str hu hw,by simp [PRs,PR,Value.oneCell'],by simp [Ro]⟩
  ·rename_i e hu
   simp only [Bool.and_eq_true,decide_eq_true_eq] at gn
   obtain ⟨gn,hpos⟩:=gn
   have he:e ∈ F:=by simpa using gn
   rcases DataW.trod_slice hu h with ⟨rfl,-⟩|⟨a,len,cap,elems,rest,n',hn,rfl,-,-,hl,hcap,hel,hi,-,-⟩
   ·exact ⟨[.frz [] .unk],.slice hu (by simp) (by simp),by simp only [PRs,PR,and_true]; exact ⟨none,0,0,rfl,rfl,Nat.le_refl _,.inl trivial⟩,by simp [Ro]⟩
   ·simp only [Nat.add_right_cancel_iff] at hn
    subst hn
    have f8:∀ i,i<len->∃ vs avs,w.cells? 0 (a.add (i*P.cellsOf e)) (P.cellsOf e)=some vs/\Rd P w A e vs avs:=fun i bg=>by
     have h1:=hi i bg
     rw [List.getElem?_eq_getElem (by omega)] at h1
     obtain ⟨vs,h2,h3⟩:=Option.bind_eq_some_iff.1 h1
     obtain ⟨avs,h4⟩:=ih _ _ _ he h3
     exact ⟨vs,avs,h2,h4⟩
    have u9:∃ es:List (List AV),es.length=len/\∀ i av,nth es i=some av->∃ vs,w.cells? 0 (a.add (i*P.cellsOf e)) (P.cellsOf e)=some vs/\Rd P w A e vs av:=by
     clear hi hel hl hcap h
     induction len with
     | zero=>exact ⟨[],rfl,fun i av dp=>by simp [nth] at dp⟩
     | succ len ihl =>
      obtain ⟨es,l1,l2⟩:=ihl fun i bg=>f8 i (by omega)
      obtain ⟨vs,avs,h1,h2⟩:=f8 len (by omega)
      refine ⟨es++[avs],by simp [l1],fun i av dp=>?_⟩
      rw [Ae] at dp
      rcases Nat.lt_or_ge i len with hlt|mo
      ·rw [List.getElem?_append_left (by omega),<- Ae] at dp; exact l2 i av dp
      ·rw [List.getElem?_append_right (by omega),l1] at dp
       have:i - len=0:=by
        rcases Nat.eq_zero_or_pos (i - len) with h0|h0
        ·exact h0
        ·rw [List.getElem?_eq_none (by simp; omega)] at dp; cases dp
       rw [this] at dp
       have e1:i=len:=by omega
       simp only [List.getElem?_cons_zero,Option.some.injEq] at dp
       subst dp e1
       exact ⟨vs,h1,h2⟩
    obtain ⟨es,l1,l2⟩:=u9
    refine ⟨[.frz es .unk],.slice hu (fun x hx=>?_) (by omega),?_,by simp [Ro]⟩
    ·obtain ⟨i,hx⟩:=List.mem_iff_getElem?.1 hx
     obtain ⟨vs,-,h1,-⟩:=l2 i x (by rw [Ae]; exact hx)
     exact h1
    ·simp only [PRs,PR,and_true]
     refine ⟨some a,len,cap,rfl,l1,hl,?_⟩
     by_cases hlen:es=[]
     ·exact .inl hlen
     right
     have dt:0<len:=by
      rcases Nat.eq_zero_or_pos len with h0|h0
      ·rw [h0] at l1; exact absurd (List.length_eq_zero_iff.1 l1) hlen
      ·exact h0
     obtain ⟨b,off,spt⟩:=a
     have tp:spt=none:=by
      obtain ⟨vs,avs,h1,-⟩:=f8 0 dt
      rw [Nat.zero_mul] at h1
      unfold World.cells? at h1
      rw [if_pos (Nat.zero_le _)] at h1
      obtain ⟨h2,h3⟩:=Zk h1
      rw [List.length_range] at h2
      obtain ⟨v,hv⟩:=Ag (l:=vs) (i:=0) (by omega)
      have h4:=h3 0 0 v (Wm hpos) hv
      exact spot0 (a:=(⟨b,off,spt⟩:Addr)) h4
     subst tp
     have a0k:∀ i,(⟨b,off,none⟩:Addr).add i=⟨b,off+i,none⟩:=fun i=>by
      unfold Addr.add
      split
      ·rename_i h0; rw [h0]; rfl
      ·rfl
     refine ⟨b,off,P.cellsOf e,rfl,Ab7 es off fun i av dp=>?_⟩
     obtain ⟨vs,h1,qk,ny,hgd⟩:=l2 i av dp
     rw [a0k] at h1
     obtain ⟨h2,h3⟩:=Ajz h1
     refine ⟨by rw [K6 ny,h2],vs,Akv vs _ fun j v hv=>⟨h3 j v hv,fun ha=>?_⟩,ny⟩
     obtain ⟨q,hq⟩:=hA _ _ v ha (h3 j v hv)
     exact Abv ny hgd v (List.mem_of_getElem? (by rw [Ae] at hv; exact hv)) q hq
  ·rename_i fs hu
   simp only [Bool.and_eq_true] at gn
   obtain ⟨xs,n',hn,-,hlen,hxl,hi⟩:=DataW.trod_struct hu h
   simp only [Nat.add_right_cancel_iff] at hn
   subst hn
   rw [<- hlen] at gn
   obtain ⟨pss,l1,l2,l3,l4⟩:=Wx ih fs.toList 0 xs gn.1 (fun f hf=>by simpa using List.all_eq_true.1 gn.2 f hf) (by simpa using hxl) fun i f hf=>by
    rw [Ae] at hf ⊢
    exact hi i f (by simpa using hf)
   rw [List.drop_zero] at l3
   exact ⟨pss.flatten,.struct hu (by simpa using l1) (fun i f p hf hp=>l2 i f p (by rw [Ae]; simpa using hf) hp),l3,l4⟩
  ·rename_i k e hu
   simp only [Bool.and_eq_true,beq_iff_eq] at gn
   obtain ⟨gn,hsz⟩:=gn
   have he:e ∈ F:=by simpa using gn
   obtain ⟨xs,n',hn,-,hlen,hxl,hi⟩:=DataW.trod_array hu h
   simp only [Nat.add_right_cancel_iff] at hn
   subst hn
   obtain ⟨pss,l1,l2,l3,l4⟩:=Acb (sz:=P.cellsOf e) ih he k 0 (by rw [hlen,hsz]; omega) fun i zf=>by
    have:=hi i zf
    rw [List.getElem?_eq_getElem (by omega)] at this
    rw [Nat.zero_add]
    exact ⟨_,this⟩
   rw [List.drop_zero] at l3
   exact ⟨pss.flatten,.array hu l1 l2,l3,l4⟩
  ·cases gn
theorem Alt (hF:Y5 P F=true) (hA:∀ b o v,A b o->w.cell? ⟨b,o,none⟩=some v->∃ n,v=.int .u64 n) {t:TypeId} {v:Value} {d:DataW H} {p:List MemPlace} (ht:t ∈ F) (h:DataW.Trod enc P w 0 sp gg t v d p):∃ avs,Sh P t avs/\PRs w A avs v.cells.toList:=by
 obtain ⟨fuel,hf⟩:=h
 obtain ⟨avs,h1,h2,-⟩:=Ae5 hF hA fuel t _ _ ht hf
 exact ⟨avs,h1,h2⟩
theorem Amg {t:TypeId} {avs:List AV} (hu:P.underlying t=some .bool) (h:Sh P t avs):∃ b,avs=[.prim (.bool b)]:=by
 cases h <;> rename_i h <;> rw [hu] at h <;> cases h
 exact ⟨_,rfl⟩
theorem Apb {t:TypeId} {avs:List AV} (hu:P.underlying t=some .string) (h:Sh P t avs):∃ s:ByteArray,avs=[.prim (.string s)]/\s.size<=maxLen:=by
 cases h with
 | str _ h=>exact ⟨_,rfl,h⟩
 | bool h|int h|slice h|struct h|array h=>rw [hu] at h; cases h
theorem Ald {t:TypeId} {k:IntKind} {avs:List AV} (hu:P.underlying t=some (.int k)) (h:Sh P t avs):∃ n,avs=[.prim (.int k n)]/\(Lit.int k n).wf=true:=by
 cases h with
 | int h h'=>rw [hu] at h; cases h; exact ⟨_,rfl,h'⟩
 | bool h|str h|slice h|struct h|array h=>rw [hu] at h; cases h
theorem Abq {t e:TypeId} {avs:List AV} (hu:P.underlying t=some (.slice e)) (h:Sh P t avs):∃ es,avs=[.frz es .unk]/\(∀ x ∈ es,Sh P e x)/\es.length<=maxLen:=by
 cases h with
 | slice h h' hl=>rw [hu] at h; cases h; exact ⟨_,rfl,h',hl⟩
 | bool h|str h|int h|struct h|array h=>rw [hu] at h; cases h
theorem Afc {t:TypeId} {fs:Array Field} {avs:List AV} (hu:P.underlying t=some (.struct fs)) (h:Sh P t avs):∃ pss:List (List AV),avs=pss.flatten/\pss.length=fs.size/\∀ i f p,fs[i]?=some f->nth pss i=some p->Sh P f.type p:=by
 cases h with
 | struct h h1 h2=>rw [hu] at h; cases h; exact ⟨_,rfl,h1,h2⟩
 | bool h|str h|int h|slice h|array h=>rw [hu] at h; cases h
theorem Nu {t:TypeId} {f0 f1:Field} {avs:List AV} (hu:P.underlying t=some (.struct #[f0,f1])) (h:Sh P t avs):∃ p0 p1,avs=p0++p1/\Sh P f0.type p0/\Sh P f1.type p1:=by
 obtain ⟨pss,rfl,hl,hp⟩:=Afc hu h
 match pss,hl with
 | [p0,p1],_=>exact ⟨p0,p1,by simp,hp 0 f0 p0 rfl rfl,hp 1 f1 p1 rfl rfl⟩
theorem Ae3 {α:Type} {f:α->List AV} {Q:α->Prop} : ∀ {es:List (List AV)},(∀ x ∈ es,∃ c,x=f c/\Q c)->∃ cs:List α,es=cs.map f/\∀ c ∈ cs,Q c
 | [],_=>⟨[],rfl,by simp⟩
 | x :: es,h=>by
  obtain ⟨c,hc,hq⟩:=h x (by simp)
  obtain ⟨cs,h1,h2⟩:=Ae3 (es:=es) fun y hy=>h y (by simp [hy])
  exact ⟨c :: cs,by rw [h1,hc]; rfl,fun d hd=>by
   rcases List.mem_cons.1 hd with rfl|hd
   ·exact hq
   ·exact h2 d hd⟩
theorem Apj {C:Cx} {avs:List AV} {xs:Array Value} (h:PRs C.w C.Avoid avs (Value.agg xs).cells.toList):VR C (.agg avs) (.agg xs):=by
 simp only [VR]; exact ⟨xs,rfl,Jj h⟩
theorem Ao3 {C:Cx} {c:AV} {v:Value} (hv:v.cells.toList=[v]) (h:PRs C.w C.Avoid [c] v.cells.toList):VR C c v:=by
 rw [hv] at h; simp only [PRs,and_true] at h; exact Vh h
end
end Go.Proofs.YtcjffhadclngmaaGreat
namespace Go.Proofs.YtcjffhadclngmaaGreat.Simp
def sum:Nat->(Nat->Rat)->Rat
 | 0,_=>0
 | n+1,f=>sum n f+f n
theorem sum_congr {f g:Nat->Rat} : ∀ {n:Nat},(∀ j,j<n->f j=g j)->sum n f=sum n g
 | 0,_=>rfl
 | n+1,h=>by rw [sum,sum,sum_congr fun j hj=>h j (by omega),h n (by omega)]
theorem sum_zero {f:Nat->Rat} {n:Nat} (h:∀ j,j<n->f j=0):sum n f=0:=by
 induction n with
 | zero=>rfl
 | succ n ih=>rw [sum,ih fun j hj=>h j (by omega),h n (by omega)]; grind
theorem sum_add (f g:Nat->Rat):∀ n,sum n (fun j=>f j+g j)=sum n f+sum n g
 | 0=>by simp only [sum]; grind
 | n+1=>by simp only [sum,sum_add f g n]; grind
theorem H6 (a:Rat) (f:Nat->Rat):∀ n,sum n (fun j=>a*f j)=a*sum n f
 | 0=>by simp only [sum]; grind
 | n+1=>by simp only [sum,H6 a f n]; grind
theorem Zq (f g:Nat->Rat):∀ n,sum n (fun j=>f j - g j)=sum n f - sum n g
 | 0=>by simp only [sum]; grind
 | n+1=>by simp only [sum,Zq f g n]; grind
theorem P3 (f:Nat->Nat->Rat) (m:Nat):∀ n,sum n (fun j=>sum m fun k=>f j k)=sum m fun k=>sum n fun j=>f j k
 | 0=>by simp only [sum]; exact (sum_zero fun _ _=>rfl).symm
 | n+1=>by simp only [sum,P3 f m n,sum_add]
theorem sum_one {f:Nat->Rat} {s:Nat} : ∀ {n:Nat},s<n->sum n (fun j=>if j=s then f j else 0)=f s
 | 0,h=>by omega
 | n+1,h=>by
  rw [sum]
  by_cases e:n=s
  ·subst e
   rw [if_pos rfl,sum_zero fun j hj=>if_neg (by omega)]; grind
  ·rw [if_neg e,sum_one (by omega)]; grind
theorem sum_nonneg {f:Nat->Rat} : ∀ {n:Nat},(∀ j,j<n->0<=f j)->0<=sum n f
 | 0,_=>by simp only [sum]; grind
 | n+1,h=>by
  have h1:=sum_nonneg (f:=f) (n:=n) fun j hj=>h j (by omega)
  have h2:=h n (by omega)
  rw [sum]; grind
theorem N9 {f:Nat->Rat} : ∀ {n:Nat},0<sum n f->∃ j,j<n/\0<f j
 | 0,h=>by simp only [sum] at h; grind
 | n+1,h=>by
  rw [sum] at h
  by_cases h1:0<f n
  ·exact ⟨n,by omega,h1⟩
  ·have h2:0<sum n f:=by grind
   obtain ⟨j,hj,h3⟩:=N9 h2
   exact ⟨j,by omega,h3⟩
structure Tab where
 T:Nat->Nat->Rat
 c:Nat->Rat
 B:Nat->Nat
def dot (N:Nat) (a x:Nat->Rat):Rat:=sum (N+1) fun j=>a j*x j
def Ker (m N:Nat) (t:Tab) (x:Nat->Rat):Prop:=∀ i,i<m->dot N (t.T i) x=0
def pivT (t:Tab) (r s:Nat) (i j:Nat):Rat:=if i=r then t.T r j / t.T r s else t.T i j - t.T i s*(t.T r j / t.T r s)
def piv (t:Tab) (r s:Nat):Tab:=⟨pivT t r s,fun j=>t.c j - t.c s*(t.T r j / t.T r s),fun i=>if i=r then s else t.B i⟩
theorem Abs (N:Nat) (a:Rat) (f x:Nat->Rat):dot N (fun j=>a*f j) x=a*dot N f x:=by
 unfold dot
 rw [<- H6]
 exact sum_congr fun j _=>by grind
theorem Amv (N:Nat) (f g x:Nat->Rat):dot N (fun j=>f j - g j) x=dot N f x - dot N g x:=by
 unfold dot
 rw [<- Zq]
 exact sum_congr fun j _=>by grind
theorem Af7 (N:Nat) (a:Rat) (f x:Nat->Rat):dot N (fun j=>f j / a) x=dot N f x / a:=by
 have h:=Abs N a⁻¹ f x
 have e1:(fun j=>a⁻¹*f j)=fun j=>f j / a:=by funext j; grind
 rw [e1] at h
 rw [h]; grind
theorem Abf (N:Nat) (a:Rat) (p:Rat) (f g x:Nat->Rat):dot N (fun j=>f j - a*(g j / p)) x=dot N f x - a*(dot N g x / p):=by
 rw [Amv,Abs N a (fun j=>g j / p) x,Af7]
theorem Zm (t:Tab) (r s:Nat) (N:Nat) (x:Nat->Rat) (i:Nat):dot N ((piv t r s).T i) x=if i=r then dot N (t.T r) x / t.T r s else dot N (t.T i) x - t.T i s*(dot N (t.T r) x / t.T r s):=by
 by_cases h:i=r
 ·subst h
  rw [if_pos rfl]
  have e:(piv t i s).T i=fun j=>t.T i j / t.T i s:=by funext j; simp [piv,pivT]
  rw [e,Af7]
 ·rw [if_neg h]
  have e:(piv t r s).T i=fun j=>t.T i j - t.T i s*(t.T r j / t.T r s):=by funext j; simp [piv,pivT,h]
  rw [e,Abf]
theorem piv_ker {m N:Nat} {t:Tab} {r s:Nat} (hr:r<m) (hp:t.T r s≠0) (x:Nat->Rat):Ker m N (piv t r s) x↔Ker m N t x:=by
 constructor
 ·intro h
  have h0:=h r hr
  rw [Zm,if_pos rfl] at h0
  have bo:dot N (t.T r) x=0:=by
   have:dot N (t.T r) x=dot N (t.T r) x / t.T r s*t.T r s:=by grind
   rw [this,h0]; grind
  intro i hi
  have h1:=h i hi
  rw [Zm] at h1
  by_cases e:i=r
  ·subst e; exact bo
  ·rw [if_neg e,bo] at h1; grind
 ·intro h i hi
  rw [Zm,h r hr,h i hi]
  split <;> grind
theorem piv_cost {m N:Nat} {t:Tab} {r s:Nat} (hr:r<m) {x:Nat->Rat} (hx:Ker m N t x):dot N (piv t r s).c x=dot N t.c x:=by
 show dot N (fun j=>t.c j - t.c s*(t.T r j / t.T r s)) x=_
 rw [Abf,hx r hr]; grind
structure Fit (m N:Nat) (t:Tab):Prop where
 lt:∀ i,i<m->t.B i<N
 unit:∀ i k,i<m->k<m->t.T i (t.B k)=if i=k then 1 else 0
 free:∀ k,k<m->t.c (t.B k)=0
theorem Fit.inj {m N:Nat} {t:Tab} (h:Fit m N t) {i k:Nat} (hi:i<m) (hk:k<m) (e:t.B i=t.B k):i=k:=by
 have h1:=h.unit i i hi hi
 have h2:=h.unit i k hi hk
 rw [e,h2] at h1
 by_cases zf:i=k
 ·exact zf
 ·rw [if_neg zf,if_pos rfl] at h1; grind
theorem piv_fit {m N:Nat} {t:Tab} {r s:Nat} (h:Fit m N t) (hr:r<m) (hs:s<N) (hp:t.T r s≠0):Fit m N (piv t r s):=by
 refine ⟨fun i hi=>?_,fun i k hi hk=>?_,fun k hk=>?_⟩
 ·show (if i=r then s else t.B i)<N
  split
  ·exact hs
  ·exact h.lt i hi
 ·show pivT t r s i (if k=r then s else t.B k)=_
  unfold pivT
  by_cases hkr:k=r
  ·subst hkr
   simp only [if_pos]
   by_cases zf:i=k
   ·subst zf; rw [if_pos rfl,if_pos rfl]; grind
   ·rw [if_neg zf,if_neg zf]; grind
  ·rw [if_neg hkr]
   have h1:=h.unit r k hr hk
   rw [if_neg (Ne.symm hkr)] at h1
   have h2:=h.unit i k hi hk
   by_cases yo:i=r
   ·subst yo; rw [if_pos rfl,h1,if_neg (Ne.symm hkr)]; grind
   ·rw [if_neg yo,h1,h2]; grind
 ·show t.c (if k=r then s else t.B k) - t.c s*(t.T r (if k=r then s else t.B k) / t.T r s)=0
  by_cases hkr:k=r
  ·subst hkr; simp only [if_pos]; grind
  ·rw [if_neg hkr,h.free k hk]
   have h1:=h.unit r k hr hk
   rw [if_neg (Ne.symm hkr)] at h1
   rw [h1]; grind
def dir (m:Nat) (t:Tab) (s:Nat) (j:Nat):Rat:=(if j=s then 1 else 0) - sum m fun k=>if j=t.B k then t.T k s else 0
theorem Ue {m N:Nat} {t:Tab} (h:Fit m N t) {s:Nat} (hs:s<N+1) (a:Nat->Rat):dot N a (dir m t s)=a s - sum m fun k=>t.T k s*a (t.B k):=by
 unfold dot dir
 have e1:∀ j,a j*((if j=s then 1 else 0) - sum m fun k=>if j=t.B k then t.T k s else 0)=(if j=s then a j else 0) - sum m fun k=>if j=t.B k then t.T k s*a j else 0:=by
  intro j
  have e2:(sum m fun k=>if j=t.B k then t.T k s*a j else 0)=a j*sum m fun k=>if j=t.B k then t.T k s else 0:=by
   rw [<- H6]
   exact sum_congr fun k _=>by split <;> grind
  rw [e2]
  split <;> grind
 rw [sum_congr fun j _=>e1 j,Zq,sum_one hs,P3]
 congr 1
 exact sum_congr fun k hk=>by
  have hb:t.B k<N+1:=by have:=h.lt k hk; omega
  rw [sum_one (f:=fun j=>t.T k s*a j) hb]
theorem Rv {m N:Nat} {t:Tab} (h:Fit m N t) {s:Nat} (hs:s<N+1):Ker m N t (dir m t s):=by
 intro i hi
 rw [Ue h hs]
 have:(sum m fun k=>t.T k s*t.T i (t.B k))=t.T i s:=by
  rw [sum_congr (g:=fun k=>if k=i then t.T k s else 0) fun k hk=>?_,sum_one (f:=fun k=>t.T k s) hi]
  rw [h.unit i k hi hk]
  by_cases e:i=k
  ·subst e; rw [if_pos rfl,if_pos rfl]; grind
  ·rw [if_neg e,if_neg (Ne.symm e)]; grind
 rw [this]; grind
theorem Px {m N:Nat} {t:Tab} (h:Fit m N t) {s:Nat} (hs:s<N+1):dot N t.c (dir m t s)=t.c s:=by
 rw [Ue h hs,sum_zero fun k hk=>by rw [h.free k hk]; grind]; grind
theorem Aoa {m N:Nat} {t u:Tab} (ht:Fit m N t) (hu:Fit m N u) (hB:∀ i,i<m->t.B i=u.B i) (hk:∀ x,Ker m N t x->Ker m N u x) (hc:∀ x,Ker m N t x->dot N u.c x=dot N t.c x) :
  (∀ i j,i<m->j<N+1->t.T i j=u.T i j)/\∀ j,j<N+1->t.c j=u.c j:=by
 have key:∀ a j,j<N+1->dot N a (dir m t j)=a j - sum m fun k=>t.T k j*a (u.B k):=fun a j hj=>by
  rw [Ue ht hj]
  congr 1
  exact sum_congr fun k hk=>by rw [hB k hk]
 constructor
 ·intro i j hi hj
  have h1:=hk _ (Rv ht hj) i hi
  rw [key _ j hj] at h1
  have:(sum m fun k=>t.T k j*u.T i (u.B k))=t.T i j:=by
   rw [sum_congr (g:=fun k=>if k=i then t.T k j else 0) fun k hk=>?_,sum_one (f:=fun k=>t.T k j) hi]
   rw [hu.unit i k hi hk]
   by_cases e:i=k
   ·subst e; rw [if_pos rfl,if_pos rfl]; grind
   ·rw [if_neg e,if_neg (Ne.symm e)]; grind
  rw [this] at h1
  grind
 ·intro j hj
  have h1:=hc _ (Rv ht hj)
  rw [key _ j hj,Px ht hj,sum_zero fun k hk=>by rw [hu.free k hk]; grind] at h1
  grind
end Go.Proofs.YtcjffhadclngmaaGreat.Simp
namespace Go.Proofs.YtcjffhadclngmaaGreat.Simp
structure Step (m N L:Nat) (t:Tab) (r s:Nat):Prop where
 r_lt:r<m
 s_lt:s<L
 neg:t.c s<0
 first:∀ j,j<s->0<=t.c j
 pos:0<t.T r s
 least:∀ i,i<m->0<t.T i s->t.T r N / t.T r s<=t.T i N / t.T i s
 tie:∀ i,i<m->0<t.T i s->t.T r N / t.T r s=t.T i N / t.T i s->t.B r<=t.B i
structure Run (m N L K:Nat) where
 t:Nat->Tab
 r:Nat->Nat
 s:Nat->Nat
 step:∀ k,k<K->Step m N L (t k) (r k) (s k)
 next:∀ k,k<K->t (k+1)=piv (t k) (r k) (s k)
 fit:Fit m N (t 0)
 LN:L<=N
 right:∀ i,i<m->0<=(t 0).T i N
section
variable {m N L K:Nat} (R:Run m N L K)
theorem Run.fits (k:Nat) (h:k<=K):Fit m N (R.t k):=by
 induction k with
 | zero=>exact R.fit
 | succ k ih =>
  have hs:=R.step k (by omega)
  rw [R.next k (by omega)]
  exact piv_fit (ih (by omega)) hs.r_lt (by have:=hs.s_lt; have:=R.LN; omega) (by have:=hs.pos; grind)
theorem L2 {a b:Rat} (ha:0<=a) (hb:0<b):0<=a / b:=by
 rw [Rat.div_def]
 exact Rat.mul_nonneg ha (Rat.le_of_lt (Rat.inv_pos.mpr hb))
theorem Run.rights (k:Nat) (h:k<=K):∀ i,i<m->0<=(R.t k).T i N:=by
 induction k with
 | zero=>exact R.right
 | succ k ih0 =>
  intro i hi
  have hs:=R.step k (by omega)
  have ih:=ih0 (by omega)
  have hr:=ih (R.r k) hs.r_lt
  have hq:=L2 hr hs.pos
  rw [R.next k (by omega)]
  show 0<=pivT _ _ _ _ _
  unfold pivT
  split
  ·exact hq
  ·have au:=ih i hi
   by_cases hp:0<(R.t k).T i (R.s k)
   ·have hl:=hs.least i hi hp
    have h1:(R.t k).T i (R.s k)*((R.t k).T (R.r k) N / (R.t k).T (R.r k) (R.s k))<=(R.t k).T i (R.s k)*((R.t k).T i N / (R.t k).T i (R.s k)):=Rat.mul_le_mul_of_nonneg_left hl (Rat.le_of_lt hp)
    have h2:(R.t k).T i (R.s k)*((R.t k).T i N / (R.t k).T i (R.s k))=(R.t k).T i N:=by grind
    grind
   ·have h1:0<=(-(R.t k).T i (R.s k))*((R.t k).T (R.r k) N / (R.t k).T (R.r k) (R.s k)):=Rat.mul_nonneg (by grind) hq
    grind
theorem Run.ker {k l:Nat} (hkl:k<=l) (hl:l<=K) (x:Nat->Rat):Ker m N (R.t l) x↔Ker m N (R.t k) x:=by
 induction l with
 | zero =>
  have:k=0:=by omega
  subst this; exact Iff.rfl
 | succ l ih =>
  by_cases e:k=l+1
  ·subst e; exact Iff.rfl
  ·have hs:=R.step l (by omega)
   rw [R.next l (by omega),piv_ker hs.r_lt (by have:=hs.pos; grind)]
   exact ih (by omega) (by omega)
theorem Run.cost {k l:Nat} (hkl:k<=l) (hl:l<=K) {x:Nat->Rat} (hx:Ker m N (R.t k) x):dot N (R.t l).c x=dot N (R.t k).c x:=by
 induction l with
 | zero =>
  have:k=0:=by omega
  subst this; rfl
 | succ l ih =>
  by_cases e:k=l+1
  ·subst e; rfl
  ·have hs:=R.step l (by omega)
   rw [R.next l (by omega),piv_cost hs.r_lt ((R.ker (k:=k) (by omega) (by omega) x).2 hx)]
   exact ih (by omega) (by omega)
theorem Run.gain {k:Nat} (h:k<K):(R.t (k+1)).c N=(R.t k).c N+(-(R.t k).c (R.s k))*((R.t k).T (R.r k) N / (R.t k).T (R.r k) (R.s k)):=by
 rw [R.next k h]
 show (R.t k).c N - _=_
 grind
theorem Run.grow {k:Nat} (h:k<K):(R.t k).c N<=(R.t (k+1)).c N:=by
 have hs:=R.step k h
 have h1:0<=(-(R.t k).c (R.s k))*((R.t k).T (R.r k) N / (R.t k).T (R.r k) (R.s k)):=Rat.mul_nonneg (by have:=hs.neg; grind) (L2 (R.rights k (by omega) _ hs.r_lt) hs.pos)
 rw [R.gain h]; grind
theorem Run.mono {k l:Nat} (hkl:k<=l) (hl:l<=K):(R.t k).c N<=(R.t l).c N:=by
 induction l with
 | zero =>
  have:k=0:=by omega
  subst this; exact Rat.le_refl
 | succ l ih =>
  by_cases e:k=l+1
  ·subst e; exact Rat.le_refl
  ·exact Rat.le_trans (ih (by omega) (by omega)) (R.grow (by omega))
theorem Run.basis {k:Nat} (h:k<K) (i:Nat):(R.t (k+1)).B i=if i=R.r k then R.s k else (R.t k).B i:=by rw [R.next k h]; rfl
theorem Run.out {k l i y:Nat} (hkl:k<=l) (hl:l<=K) (h1:(R.t k).B i=y) (h2:(R.t l).B i≠y):∃ j,k<=j/\j<l/\R.r j=i/\(R.t j).B i=y:=by
 induction l with
 | zero =>
  have:k=0:=by omega
  subst this; exact absurd h1 h2
 | succ l ih =>
  by_cases e:k=l+1
  ·subst e; exact absurd h1 h2
  ·by_cases h3:(R.t l).B i=y
   ·refine ⟨l,by omega,by omega,?_,h3⟩
    rw [R.basis (by omega)] at h2
    by_cases e2:i=R.r l
    ·exact e2.symm
    ·rw [if_neg e2] at h2; exact absurd h3 h2
   ·obtain ⟨j,a,b,c⟩:=ih (by omega) (by omega) h3
    exact ⟨j,a,by omega,c⟩
theorem Run.into {k l i y:Nat} (hkl:k<=l) (hl:l<=K) (h1:(R.t k).B i≠y) (h2:(R.t l).B i=y):∃ j,k<=j/\j<l/\R.r j=i/\R.s j=y:=by
 induction l with
 | zero =>
  have:k=0:=by omega
  subst this; exact absurd h2 h1
 | succ l ih =>
  by_cases e:k=l+1
  ·subst e; exact absurd h2 h1
  ·by_cases h3:(R.t l).B i=y
   ·obtain ⟨j,a,b,c⟩:=ih (by omega) (by omega) h3
    exact ⟨j,a,by omega,c⟩
   ·rw [R.basis (by omega)] at h2
    by_cases e2:i=R.r l
    ·rw [if_pos e2] at h2; exact ⟨l,by omega,by omega,e2.symm,h2⟩
    ·rw [if_neg e2] at h2; exact absurd h2 h3
theorem Al1 {f:Nat->Nat} {p q:Nat} (h:p<q):∃ k,p<=k/\k<q/\∀ j,p<=j->j<q->f j<=f k:=by
 obtain ⟨d,rfl⟩:∃ d,q=p+d+1:=⟨q - p - 1,by omega⟩
 clear h
 induction d with
 | zero=>exact ⟨p,by omega,by omega,fun j h1 h2=>by
   have:j=p:=by omega
   subst this; exact Nat.le_refl _⟩
 | succ d ih =>
  obtain ⟨k,h1,h2,h3⟩:=ih
  by_cases h4:f k<=f (p+d+1)
  ·refine ⟨p+d+1,by omega,by omega,fun j h5 h6=>?_⟩
   by_cases e:j=p+d+1
   ·subst e; exact Nat.le_refl _
   ·exact Nat.le_trans (h3 j h5 (by omega)) h4
  ·refine ⟨k,h1,by omega,fun j h5 h6=>?_⟩
   by_cases e:j=p+d+1
   ·subst e; omega
   ·exact h3 j h5 (by omega)
theorem Run.bland {p q:Nat} (hpq:p<q) (hq:q<=K) (hB:∀ i,i<m->(R.t p).B i=(R.t q).B i):False:=by
 have hfp:=R.fits p (by omega)
 have hfq:=R.fits q hq
 obtain ⟨-,hc⟩:=Aoa hfp hfq hB (fun x hx=>(R.ker (by omega) hq x).2 hx) (fun x hx=>R.cost (by omega) hq hx)
 have hz:∀ k,p<=k->k<q->(R.t k).T (R.r k) N=0:=fun k h1 h2=>by
  have hs:=R.step k (by omega)
  have g0:=R.mono h1 (show k<=K by omega)
  have g1:=R.mono (show k+1<=q by omega) hq
  have g2:=R.grow (k:=k) (by omega)
  have g3:=hc N (by omega)
  have g4:=R.gain (k:=k) (by omega)
  have g5:(-(R.t k).c (R.s k))*((R.t k).T (R.r k) N / (R.t k).T (R.r k) (R.s k))=0:=by grind
  have hn:=hs.neg
  have hp:=hs.pos
  grind
 have hb:∀ k,p<=k->k<=q->∀ i,i<m->(R.t k).T i N=(R.t p).T i N:=by
  intro k h1 h2
  induction k with
  | zero =>
   have:p=0:=by omega
   subst this; exact fun _ _=>rfl
  | succ k ih =>
   by_cases e:p=k+1
   ·subst e; exact fun _ _=>rfl
   ·intro i hi
    have h0:=hz k (by omega) (by omega)
    rw [<- ih (by omega) (by omega) i hi,R.next k (by omega)]
    show pivT _ _ _ _ _=_
    unfold pivT
    by_cases e2:i=R.r k
    ·subst e2; rw [if_pos rfl,h0]; grind
    ·rw [if_neg e2,h0]; grind
 have cr:∀ k j,p<=k->k<q->p<=j->j<=q->(R.t j).T (R.r k) N=0:=fun k j h1 h2 h3 h4=>by
  have hs:=R.step k (by omega)
  rw [hb j h3 h4 _ hs.r_lt,<- hb k h1 (by omega) _ hs.r_lt]
  exact hz k h1 h2
 have gn:∀ {i y k l:Nat},i<m->p<=k->k<=q->p<=l->l<=q->(R.t k).B i=y->(R.t l).B i≠y->∃ j,p<=j/\j<q/\R.r j=i/\R.s j=y:=by
  intro i y k l hi h1 h2 h3 h4 h5 h6
  by_cases e:(R.t p).B i=y
  ·obtain ⟨j,a,b,c⟩:=R.into h4 hq h6 ((hB i hi).symm.trans e)
   exact ⟨j,by omega,b,c⟩
  ·obtain ⟨j,a,b,c⟩:=R.into h1 (by omega) e h5
   exact ⟨j,a,by omega,c⟩
 obtain ⟨k1,a1,a2,a3⟩:=Al1 (f:=R.s) hpq
 have jz:=R.step k1 (by omega)
 have mn:=R.fits k1 (by omega)
 obtain ⟨y,hy⟩:∃ y,y=R.s k1:=⟨_,rfl⟩
 have a0v:∃ k2,p<=k2/\k2<q/\(R.t k2).B (R.r k2)=y:=by
  have a2n:(R.t k1).B (R.r k1)≠y:=fun e=>by
   have:=mn.free _ jz.r_lt
   rw [e,hy] at this
   have:=jz.neg
   grind
  have jj:(R.t (k1+1)).B (R.r k1)=y:=by rw [R.basis (by omega),if_pos rfl,hy]
  by_cases e:(R.t q).B (R.r k1)=y
  ·obtain ⟨j,b1,b2,b3,b4⟩:=R.out a1 (by omega) ((hB _ jz.r_lt).trans e) a2n
   exact ⟨j,b1,by omega,by rw [b3]; exact b4⟩
  ·obtain ⟨j,b1,b2,b3,b4⟩:=R.out (show k1+1<=q by omega) hq jj e
   exact ⟨j,by omega,b2,by rw [b3]; exact b4⟩
 obtain ⟨k2,c1,c2,c3⟩:=a0v
 have d6:=R.step k2 (by omega)
 have b8:=R.fits k2 (by omega)
 have hsN:R.s k2<N+1:=by have:=d6.s_lt; have:=R.LN; omega
 have hd:=Rv b8 hsN
 have e1:=Px b8 hsN
 have e2:dot N (R.t k1).c (dir m (R.t k2) (R.s k2))=dot N (R.t k2).c (dir m (R.t k2) (R.s k2)):=by
  rcases Nat.le_total k1 k2 with h|h
  ·exact (R.cost h (by omega) ((R.ker h (by omega) _).1 hd)).symm
  ·exact R.cost h (by omega) hd
 rw [e1,Ue b8 hsN] at e2
 have hsy:R.s k2<y:=by
  have h1:=a3 k2 c1 c2
  rw [<- hy] at h1
  have h2:R.s k2≠y:=fun e=>by
   have h3:=b8.free _ d6.r_lt
   rw [c3,<- e] at h3
   have:=d6.neg
   grind
  omega
 have h0:=jz.first (R.s k2) (by rw [<- hy]; exact hsy)
 have a3r:=d6.neg
 obtain ⟨i,hi,hip⟩:=N9 (n:=m) (f:=fun k=>(R.t k2).T k (R.s k2)*(R.t k1).c ((R.t k2).B k)) (by grind)
 have hx:∀ i',i'<m->(R.t k1).B i'≠(R.t k2).B i:=fun i' au e=>by
  have:=mn.free i' au
  rw [e] at this
  rw [this] at hip
  grind
 obtain ⟨j,d1,d2,d3,d4⟩:=gn hi c1 (by omega) a1 (by omega) rfl (hx i hi)
 have hle:(R.t k2).B i<=y:=by rw [<- d4,hy]; exact a3 j d1 d2
 have hbi:(R.t k2).T i N=0:=by rw [<- d3]; exact cr j k2 d1 d2 c1 (by omega)
 have hne:(R.t k2).B i≠y:=fun e=>by
  have yo:i=R.r k2:=b8.inj hi d6.r_lt (e.trans c3.symm)
  subst yo
  rw [c3,hy] at hip
  have h1:=jz.neg
  have h2:=d6.pos
  have h3:0<(R.t k2).T (R.r k2) (R.s k2)*(-(R.t k1).c (R.s k1)):=Rat.mul_pos h2 (by grind)
  grind
 have h5:=jz.first ((R.t k2).B i) (by rw [<- hy]; omega)
 have h6:0<(R.t k2).T i (R.s k2):=by
  refine Classical.byContradiction fun h=>?_
  have h7:0<=(-(R.t k2).T i (R.s k2))*(R.t k1).c ((R.t k2).B i):=Rat.mul_nonneg (by grind) h5
  grind
 have h8:=d6.tie i hi h6 (by rw [hbi,hz k2 c1 c2]; grind)
 rw [c3] at h8
 omega
end
end Go.Proofs.YtcjffhadclngmaaGreat.Simp
namespace Go.Proofs.YtcjffhadclngmaaGreat.Simp
theorem Ae4:∀ (M:Nat) (f:Nat->Nat),(∀ k,k<=M->f k<M)->∃ p q,p<q/\q<=M/\f p=f q
 | 0,f,h=>absurd (h 0 (Nat.le_refl _)) (by omega)
 | M+1,f,h=>by
  by_cases hx:∃ k,k<=M/\f k=f (M+1)
  ·obtain ⟨k,h1,h2⟩:=hx
   exact ⟨k,M+1,by omega,Nat.le_refl _,h2⟩
  ·have hne:∀ k,k<=M->f k≠f (M+1):=fun k hk e=>hx ⟨k,hk,e⟩
   obtain ⟨p,q,h1,h2,h3⟩:=Ae4 M (fun k=>if f k > f (M+1) then f k - 1 else f k) fun k hk=>by
    have a:=h k (by omega)
    have b:=h (M+1) (Nat.le_refl _)
    have c:=hne k hk
    split <;> omega
   have a:=hne p (by omega)
   have b:=hne q h2
   refine ⟨p,q,h1,by omega,?_⟩
   split at h3 <;> split at h3 <;> omega
def code (N:Nat) (B:Nat->Nat):Nat->Nat
 | 0=>0
 | m+1=>code N B m*N+B m
theorem Za {N:Nat} {B:Nat->Nat} : ∀ {m:Nat},(∀ i,i<m->B i<N)->code N B m<N ^ m
 | 0,_=>by simp [code]
 | m+1,h=>by
  have h1:=Za (m:=m) fun i hi=>h i (by omega)
  have h2:=h m (by omega)
  rw [code,Nat.pow_succ]
  have h3:(code N B m+1)*N<=N ^ m*N:=Nat.mul_le_mul_right _ h1
  rw [Nat.add_mul] at h3
  omega
theorem Ui {N:Nat} {B C:Nat->Nat} : ∀ {m:Nat},(∀ i,i<m->B i<N)->(∀ i,i<m->C i<N)->code N B m=code N C m->∀ i,i<m->B i=C i
 | 0,_,_,_,i,hi=>by omega
 | m+1,hb,hc,h,i,hi=>by
  have h1:=hb m (by omega)
  have h2:=hc m (by omega)
  rw [code,code] at h
  have e1:B m=C m:=by
   have a:(code N B m*N+B m) % N=B m:=by rw [Nat.mul_comm,Nat.mul_add_mod]; exact Nat.mod_eq_of_lt h1
   have b:(code N C m*N+C m) % N=C m:=by rw [Nat.mul_comm,Nat.mul_add_mod]; exact Nat.mod_eq_of_lt h2
   rw [h] at a
   exact a.symm.trans b
  have e2:code N B m=code N C m:=by
   rw [e1] at h
   have h3:code N B m*N=code N C m*N:=by omega
   exact Nat.eq_of_mul_eq_mul_right (by omega) h3
  by_cases e:i=m
  ·subst e; exact e1
  ·exact Ui (fun i hi=>hb i (by omega)) (fun i hi=>hc i (by omega)) e2 i (by omega)
theorem Run.short {m N L K:Nat} (R:Run m N L K):K<N ^ m:=by
 refine Classical.byContradiction fun hk=>?_
 have hk:N ^ m<=K:=by omega
 obtain ⟨p,q,h1,h2,h3⟩:=Ae4 (N ^ m) (fun k=>code N (R.t k).B m) fun k hk'=>Za (R.fits k (by omega)).lt
 exact R.bland h1 (by omega) (Ui (R.fits p (by omega)).lt (R.fits q (by omega)).lt h3)
def Run.none {m N L:Nat} {t:Tab} (h:Fit m N t) (hL:L<=N) (hr:∀ i,i<m->0<=t.T i N):Run m N L 0:=⟨fun _=>t,fun _=>0,fun _=>0,fun k hk=>by omega,fun k hk=>by omega,h,hL,hr⟩
def Run.more {m N L K:Nat} (R:Run m N L K) {r s:Nat} (h:Step m N L (R.t K) r s):Run m N L (K+1) where
 t:=fun k=>if k=K+1 then piv (R.t K) r s else R.t k
 r:=fun k=>if k=K then r else R.r k
 s:=fun k=>if k=K then s else R.s k
 step:=fun k hk=>by
  rw [if_neg (show ¬ k=K+1 by omega)]
  by_cases e:k=K
  ·subst e; rw [if_pos rfl,if_pos rfl]; exact h
  ·rw [if_neg e,if_neg e]; exact R.step k (by omega)
 next:=fun k hk=>by
  rw [if_neg (show ¬ k=K+1 by omega)]
  by_cases e:k=K
  ·subst e; rw [if_pos rfl,if_pos rfl,if_pos rfl]
  ·rw [if_neg e,if_neg e,if_neg (by omega)]; exact R.next k (by omega)
 fit:=by rw [if_neg (by omega)]; exact R.fit
 LN:=R.LN
 right:=by rw [if_neg (by omega)]; exact R.right
theorem Run.more_last {m N L K:Nat} (R:Run m N L K) {r s:Nat} (h:Step m N L (R.t K) r s):(R.more h).t (K+1)=piv (R.t K) r s:=if_pos rfl
theorem Run.more_old {m N L K:Nat} (R:Run m N L K) {r s:Nat} (h:Step m N L (R.t K) r s) {k:Nat} (hk:k<=K):(R.more h).t k=R.t k:=if_neg (by omega)
structure Sol (m N:Nat) (t:Tab) (x:Nat->Rat):Prop where
 ker:Ker m N t x
 pos:∀ j,j<N->0<=x j
 one:x N=-1
def base (m N:Nat) (t:Tab) (j:Nat):Rat:=- dir m t N j
theorem Aho (N:Nat) (a x:Nat->Rat):dot N a (fun j=>- x j)=- dot N a x:=by
 unfold dot
 have h:=H6 (-1) (fun j=>a j*x j) (N+1)
 rw [sum_congr (g:=fun j=>-1*(a j*x j)) fun j _=>by grind,h]; grind
theorem Aa9 {m N:Nat} {t:Tab} (h:Fit m N t) (hr:∀ i,i<m->0<=t.T i N):Sol m N t (base m N t):=by
 refine ⟨fun i hi=>?_,fun j hj=>?_,?_⟩
 ·have:=Rv h (s:=N) (by omega) i hi
  show dot N (t.T i) (fun j=>- dir m t N j)=0
  rw [Aho,this]; grind
 ·show 0<=- dir m t N j
  unfold dir
  rw [if_neg (by omega)]
  have:0<=sum m fun k=>if j=t.B k then t.T k N else 0:=sum_nonneg fun k hk=>by
   split
   ·exact hr k hk
   ·exact Rat.le_refl
  grind
 ·show - dir m t N N=-1
  unfold dir
  rw [if_pos rfl,sum_zero fun k hk=>if_neg (by have:=h.lt k hk; omega)]; grind
theorem Wz {m N:Nat} {t:Tab} (h:Fit m N t):dot N t.c (base m N t)=- t.c N:=by
 show dot N t.c (fun j=>- dir m t N j)=_
 rw [Aho,Px h (by omega)]
theorem V8 {f:Nat->Rat} {L:Nat} : ∀ {N:Nat},L<=N->(∀ j,L<=j->j<N->f j=0)->sum N f=sum L f
 | 0,h,_=>by
  have:L=0:=by omega
  subst this; rfl
 | N+1,h,hz=>by
  by_cases e:L=N+1
  ·subst e; rfl
  ·rw [sum,hz N (by omega) (by omega),V8 (by omega) fun j h1 h2=>hz j h1 (by omega)]; grind
theorem Ai5 {m N L:Nat} {t:Tab} (hL:L<=N) (hc:∀ j,j<L->0<=t.c j) {x:Nat->Rat} (hx:Sol m N t x) (h0:∀ j,L<=j->j<N->x j=0) : - t.c N<=dot N t.c x:=by
 have h1:0<=sum N fun j=>t.c j*x j:=by
  rw [V8 hL fun j h1 h2=>by rw [h0 j h1 h2]; grind]
  exact sum_nonneg fun j hj=>Rat.mul_nonneg (hc j hj) (hx.pos j (by omega))
 unfold dot
 rw [sum,hx.one]; grind
end Go.Proofs.YtcjffhadclngmaaGreat.Simp
namespace Go.Proofs.YtcjffhadclngmaaGreat.Simp
def isum:Nat->(Nat->Int)->Int
 | 0,_=>0
 | n+1,f=>isum n f+f n
theorem Abd (f g:Nat->Int):∀ n,isum n (fun j=>f j - g j)=isum n f - isum n g
 | 0=>rfl
 | n+1=>by simp only [isum,Abd f g n]; omega
theorem Nh {f:Nat->Int} {b:Nat} : ∀ {n:Nat},(∀ j,j<n->(f j).natAbs<=b)->(isum n f).natAbs<=n*b
 | 0,_=>by simp [isum]
 | n+1,h=>by
  have h1:=Nh (f:=f) (b:=b) (n:=n) fun j hj=>h j (by omega)
  have h2:=h n (by omega)
  rw [isum,Nat.add_mul]; omega
theorem Rt (f:Nat->Int):∀ n,((isum n f:Int):Rat)=sum n fun j=>((f j:Int):Rat)
 | 0=>by simp [isum,sum]
 | n+1=>by rw [isum,sum,Rat.intCast_add,Rt f n]
def dg (b n k:Nat):Nat:=k / b ^ n % b
theorem An9 {b:Nat} (hb:0<b):∀ {d p q:Nat},p<b ^ d->q<b ^ d->(∀ n,n<d->dg b n p=dg b n q)->p=q
 | 0,p,q,hp,hq,_=>by simp at hp hq; omega
 | d+1,p,q,hp,hq,h=>by
  have h0:=h 0 (by omega)
  simp only [dg,Nat.pow_zero,Nat.div_one] at h0
  have h1:p / b=q / b:=by
   refine An9 hb (d:=d) ?_ ?_ fun n hn=>?_
   ·rw [Nat.div_lt_iff_lt_mul hb,<- Nat.pow_succ]; exact hp
   ·rw [Nat.div_lt_iff_lt_mul hb,<- Nat.pow_succ]; exact hq
   ·have:=h (n+1) (by omega)
    simpa only [dg,Nat.pow_succ,Nat.mul_comm,Nat.div_div_eq_div_mul] using this
  have e1:=Nat.div_add_mod p b
  have e2:=Nat.div_add_mod q b
  rw [h1,h0] at e1
  omega
theorem Apx (m M:Nat) (hM:1<=M) (a:Nat->Nat->Int) (ha:∀ i k,i<m->k<m+1->(a i k).natAbs<=M) :
  ∃ u:Nat->Int,(∃ k,k<m+1/\u k≠0)/\(∀ k,(u k).natAbs<=(2*((m+1)*M)) ^ m)/\∀ i,i<m->isum (m+1) (fun k=>a i k*u k)=0:=by
 obtain ⟨S,hS⟩:∃ S,S=(m+1)*M:=⟨_,rfl⟩
 obtain ⟨H,hH⟩:∃ H,H=(2*S) ^ m:=⟨_,rfl⟩
 have cj:1<=S:=by rw [hS]; exact Nat.le_trans hM (Nat.le_mul_of_pos_left M (by omega))
 obtain ⟨W,hW⟩:∃ W,W=2*(H*S)+1:=⟨_,rfl⟩
 have a2o:W ^ m<(H+1) ^ (m+1):=by
  have h1:W<=(H+1)*(2*S):=by
   have:(H+1)*(2*S)=2*(H*S)+2*S:=by rw [Nat.add_mul,Nat.mul_left_comm]; omega
   omega
  have h2:W ^ m<=((H+1)*(2*S)) ^ m:=Nat.pow_le_pow_left h1 m
  rw [Nat.mul_pow,<- hH] at h2
  have h3:(H+1) ^ (m+1)=(H+1) ^ m*(H+1):=Nat.pow_succ _ _
  have h4:0<(H+1) ^ m:=Nat.pow_pos (by omega)
  rw [h3,Nat.mul_add,Nat.mul_one]
  omega
 obtain ⟨im,him⟩:∃ im:Nat->Nat->Int,im=fun p i=>isum (m+1) fun k=>a i k*(dg (H+1) k p:Int):=⟨_,rfl⟩
 have hdg:∀ k p,dg (H+1) k p<=H:=fun k p=>by
  have:=Nat.mod_lt (p / (H+1) ^ k) (show 0<H+1 by omega)
  unfold dg; omega
 have hb:∀ p i,i<m->(im p i).natAbs<=H*S:=fun p i hi=>by
  have h1:=Nh (f:=fun k=>a i k*(dg (H+1) k p:Int)) (b:=M*H) (n:=m+1) fun k hk=>by
   rw [Int.natAbs_mul]
   exact Nat.mul_le_mul (ha i k hi hk) (by have:=hdg k p; omega)
  rw [him,hS]
  refine Nat.le_trans h1 (Nat.le_of_eq ?_)
  rw [<- Nat.mul_assoc,Nat.mul_comm]
 obtain ⟨p,q,h1,h2,h3⟩:=Ae4 (W ^ m) (fun p=>code W (fun i=>(im p i+(H*S:Nat)).toNat) m) fun p _=>Za fun i hi=>by
  have:=hb p i hi
  omega
 have heq:=Ui (N:=W) (m:=m) (fun i hi=>by have:=hb p i hi; omega) (fun i hi=>by have:=hb q i hi; omega) h3
 refine ⟨fun k=>(dg (H+1) k q:Int) - (dg (H+1) k p:Int),?_,fun k=>?_,fun i hi=>?_⟩
 ·refine Classical.byContradiction fun hx=>?_
  have:p=q:=An9 (b:=H+1) (d:=m+1) (by omega) (by omega) (by omega) fun n hn=>by
   have jk:¬ ((dg (H+1) n q:Int) - (dg (H+1) n p:Int)≠0):=fun h=>hx ⟨n,hn,h⟩
   omega
  omega
 ·rw [<- hS,<- hH]
  have:=hdg k p
  have:=hdg k q
  dsimp only
  omega
 ·have e:isum (m+1) (fun k=>a i k*((dg (H+1) k q:Int) - (dg (H+1) k p:Int)))=im q i - im p i:=by
   rw [him]
   show _=isum (m+1) _ - isum (m+1) _
   rw [<- Abd]
   congr 1
   funext k
   rw [Int.mul_sub]
  rw [e]
  have h4:=heq i hi
  have h5:=hb p i hi
  have h6:=hb q i hi
  omega
end Go.Proofs.YtcjffhadclngmaaGreat.Simp
namespace Go.Proofs.YtcjffhadclngmaaGreat.Simp
theorem Up (f:Nat->Rat):∀ n,sum (n+1) f=f 0+sum n fun k=>f (k+1)
 | 0=>by simp only [sum]; grind
 | n+1=>by
  rw [sum,Up f n,sum]; grind
def Afe (d:Nat) (col:Nat->Nat) (u:Nat->Int) (c:Nat):Rat:=sum d fun k=>if c=col k then ((u k:Int):Rat) else 0
theorem Ld {N d:Nat} {col:Nat->Nat} {u:Nat->Int} (hc:∀ k,k<d->col k<N+1) (a:Nat->Rat):dot N a (Afe d col u)=sum d fun k=>a (col k)*((u k:Int):Rat):=by
 unfold dot Afe
 have e1:∀ j,a j*(sum d fun k=>if j=col k then ((u k:Int):Rat) else 0)=sum d fun k=>if j=col k then a j*((u k:Int):Rat) else 0:=by
  intro j
  rw [<- H6]
  exact sum_congr fun k _=>by split <;> grind
 rw [sum_congr fun j _=>e1 j,P3]
 exact sum_congr fun k hk=>by
  have h:=sum_one (f:=fun j=>a j*((u k:Int):Rat)) (s:=col k) (hc k hk)
  exact h
theorem small {m N M Mc:Nat} (hM:1<=M) {t0 t:Tab} {a:Nat->Nat->Int} {a0:Nat->Int} (ha:∀ i j,i<m->j<N+1->t0.T i j=((a i j:Int):Rat)/\(a i j).natAbs<=M) (td:∀ j,j<N+1->t0.c j=((a0 j:Int):Rat)/\(a0 j).natAbs<=Mc)
  (ht:Fit m N t) (hk:∀ x,Ker m N t0 x->Ker m N t x) (hc:∀ x,Ker m N t0 x->dot N t.c x=dot N t0.c x) {j:Nat} (hj:j<N+1) :
  ∃ y0:Int,y0≠0/\y0.natAbs<=(2*((m+1)*M)) ^ m/\(∀ i,i<m->∃ y:Int,t.T i j=((y:Int):Rat) / ((y0:Int):Rat)/\y.natAbs<=(2*((m+1)*M)) ^ m)/\∃ w:Int,t.c j=((w:Int):Rat) / ((y0:Int):Rat)/\w.natAbs<=(m+1)*(Mc*(2*((m+1)*M)) ^ m):=by
 obtain ⟨col,ey⟩:∃ col:Nat->Nat,col=fun k=>if k=0 then j else t.B (k - 1):=⟨_,rfl⟩
 have hlt:∀ k,k<m+1->col k<N+1:=fun k hk=>by
  rw [ey]; dsimp only
  split
  ·exact hj
  ·have:=ht.lt (k - 1) (by omega); omega
 have kr:∀ k,col (k+1)=t.B k:=fun k=>by rw [ey]; simp
 have hc0:col 0=j:=by rw [ey]; simp
 obtain ⟨u,⟨k0,hk0,yp⟩,hub,hu⟩:=Apx m M hM (fun i k=>a i (col k)) fun i k hi hk=>(ha i (col k) hi (hlt k hk)).2
 have hx:Ker m N t0 (Afe (m+1) col u):=by
  intro i hi
  rw [Ld hlt]
  have h1:=congrArg (fun z:Int=>(z:Rat)) (hu i hi)
  rw [Rt] at h1
  rw [sum_congr (g:=fun k=>((a i (col k)*u k:Int):Rat)) fun k hk=>by rw [(ha i (col k) hi (hlt k hk)).1,Rat.intCast_mul]]
  rw [h1]; rfl
 have cr:∀ i,i<m->t.T i j*((u 0:Int):Rat)+((u (i+1):Int):Rat)=0:=fun i hi=>by
  have h1:=hk _ hx i hi
  rw [Ld hlt,Up,hc0] at h1
  rw [sum_congr (g:=fun k=>if k=i then ((u (k+1):Int):Rat) else 0) fun k hk=>by
   rw [kr,ht.unit i k hi hk]
   by_cases e:i=k
   ·subst e; rw [if_pos rfl,if_pos rfl]; grind
   ·rw [if_neg e,if_neg (Ne.symm e)]; grind] at h1
  rw [sum_one (f:=fun k=>((u (k+1):Int):Rat)) hi] at h1
  exact h1
 have hy:u 0≠0:=fun h0=>by
  rw [h0] at cr
  cases k0 with
  | zero=>exact yp h0
  | succ i =>
   have h1:=cr i (by omega)
   have h2:((u (i+1):Int):Rat)=((0:Int):Rat):=by
    have:((0:Int):Rat)=0:=rfl
    rw [this] at h1 ⊢
    grind
   exact yp (Rat.intCast_inj.mp h2)
 have hyr:((u 0:Int):Rat)≠0:=fun h=>hy (Rat.intCast_inj.mp (h.trans rfl))
 refine ⟨u 0,hy,hub 0,fun i hi=>⟨-(u (i+1)),?_,by have:=hub (i+1); omega⟩,?_⟩
 ·have h1:=cr i hi
  rw [Rat.intCast_neg]
  grind
 ·have h1:=hc _ hx
  rw [Ld hlt,Ld hlt,Up,hc0,sum_zero fun k hk=>by rw [kr,ht.free k hk]; grind] at h1
  refine ⟨isum (m+1) fun k=>a0 (col k)*u k,?_,?_⟩
  ·rw [Rt]
   rw [sum_congr (g:=fun k=>((a0 (col k)*u k:Int):Rat)) fun k hk=>by rw [(td (col k) (hlt k hk)).1,Rat.intCast_mul]] at h1
   rw [<- h1]; grind
  ·exact Nh fun k hk=>by
    rw [Int.natAbs_mul]
    exact Nat.mul_le_mul (td (col k) (hlt k hk)).2 (hub k)
end Go.Proofs.YtcjffhadclngmaaGreat.Simp
namespace Go.Proofs.YtcjffhadclngmaaGreat.Simp
theorem Vl (f:Nat->Rat) (L:Nat):∀ m,sum (L+m) f=sum L f+sum m fun k=>f (L+k)
 | 0=>by simp only [sum,Nat.add_zero]; grind
 | m+1=>by
  rw [<- Nat.add_assoc,sum,Vl f L m,sum]; grind
theorem Aa0 {f:Nat->Rat} : ∀ {n:Nat},(∀ j,j<n->0<=f j)->sum n f=0->∀ j,j<n->f j=0
 | 0,_,_,j,hj=>by omega
 | n+1,h,h0,j,hj=>by
  rw [sum] at h0
  have h1:=sum_nonneg (f:=f) (n:=n) fun j hj=>h j (by omega)
  have h2:=h n (by omega)
  by_cases e:j=n
  ·subst e; grind
  ·exact Aa0 (n:=n) (fun j hj=>h j (by omega)) (show sum n f=0 by grind) j (by omega)
theorem Nt (f:Nat->Rat) (n:Nat):sum n (fun j=>- f j)=- sum n f:=by
 have h:=H6 (-1) f n
 rw [sum_congr (g:=fun j=>-1*f j) fun j _=>by grind,h]; grind
def first (m L:Nat) (R:Nat->Nat->Rat) (b:Nat->Rat):Tab where
 T:=fun i j=>if j<L then R i j else if j<L+m then (if j=L+i then 1 else 0) else b i
 c:=fun j=>if j<L then - sum m (fun i=>R i j) else if j<L+m then 0 else - sum m b
 B:=fun i=>L+i
theorem first_fit (m L:Nat) (R:Nat->Nat->Rat) (b:Nat->Rat):Fit m (L+m) (first m L R b):=by
 refine ⟨fun i hi=>by show L+i<L+m; omega,fun i k hi hk=>?_,fun k hk=>?_⟩
 ·show (if L+k<L then R i (L+k) else if L+k<L+m then (if L+k=L+i then 1 else 0) else b i)=_
  rw [if_neg (by omega),if_pos (by omega)]
  by_cases e:i=k
  ·subst e; rw [if_pos rfl,if_pos rfl]
  ·rw [if_neg (by omega),if_neg e]
 ·show (if L+k<L then - sum m (fun i=>R i (L+k)) else if L+k<L+m then 0 else - sum m b)=0
  rw [if_neg (by omega),if_pos (by omega)]
theorem Rp {m L:Nat} {R:Nat->Nat->Rat} {b:Nat->Rat} {i:Nat} (hi:i<m) (x:Nat->Rat):dot (L+m) ((first m L R b).T i) x=sum L (fun j=>R i j*x j)+x (L+i)+b i*x (L+m):=by
 unfold dot
 rw [sum,Vl]
 have e1:sum L (fun j=>(first m L R b).T i j*x j)=sum L fun j=>R i j*x j:=sum_congr fun j hj=>by simp only [first]; rw [if_pos hj]
 have e2:(sum m fun k=>(first m L R b).T i (L+k)*x (L+k))=x (L+i):=by
  rw [sum_congr (g:=fun k=>if k=i then x (L+k) else 0) fun k hk=>?_,sum_one (f:=fun k=>x (L+k)) hi]
  simp only [first]
  rw [if_neg (by omega),if_pos (by omega)]
  by_cases e:k=i
  ·subst e; rw [if_pos rfl,if_pos rfl]; grind
  ·rw [if_neg (by omega),if_neg e]; grind
 have e3:(first m L R b).T i (L+m)=b i:=by simp only [first]; rw [if_neg (by omega),if_neg (by omega)]
 rw [e1,e2,e3]
theorem first_cost {m L:Nat} {R:Nat->Nat->Rat} {b:Nat->Rat} {x:Nat->Rat} (h:Ker m (L+m) (first m L R b) x):dot (L+m) (first m L R b).c x=sum m fun i=>x (L+i):=by
 have h1:∀ i,i<m->x (L+i)=- (sum L (fun j=>R i j*x j)+b i*x (L+m)):=fun i hi=>by
  have:=h i hi
  rw [Rp hi] at this
  grind
 rw [sum_congr h1]
 unfold dot
 rw [sum,Vl]
 have e1:sum L (fun j=>(first m L R b).c j*x j)=- sum m (fun i=>sum L fun j=>R i j*x j):=by
  rw [<- P3,<- Nt]
  refine sum_congr fun j hj=>?_
  have e0:(first m L R b).c j=- sum m (fun i=>R i j):=by simp only [first]; rw [if_pos hj]
  rw [e0]
  have e2:=H6 (x j) (fun i=>R i j) m
  rw [sum_congr (g:=fun i=>R i j*x j) fun i _=>by grind] at e2
  rw [e2]; grind
 have e2:(sum m fun k=>(first m L R b).c (L+k)*x (L+k))=0:=sum_zero fun k hk=>by
  simp only [first]
  rw [if_neg (by omega),if_pos (by omega)]; grind
 have e3:(first m L R b).c (L+m)=- sum m b:=by simp only [first]; rw [if_neg (by omega),if_neg (by omega)]
 rw [e1,e2,e3]
 have e4:=H6 (x (L+m)) b m
 rw [sum_congr (g:=fun i=>b i*x (L+m)) fun i _=>by grind] at e4
 rw [Nt,sum_add,e4]
 grind
theorem phase {m L:Nat} {R:Nat->Nat->Rat} {b:Nat->Rat} {t:Tab} (ht:Fit m (L+m) t) (hr:∀ i,i<m->0<=t.T i (L+m)) (hk:∀ x,Ker m (L+m) t x↔Ker m (L+m) (first m L R b) x)
  (hc:∀ x,Ker m (L+m) (first m L R b) x->dot (L+m) t.c x=dot (L+m) (first m L R b).c x) (a2p:∀ j,j<L->0<=t.c j) :
  t.c (L+m)=0↔∃ x:Nat->Rat,(∀ j,j<L->0<=x j)/\∀ i,i<m->sum L (fun j=>R i j*x j)=b i:=by
 have hs:=Aa9 ht hr
 have hk0:=(hk _).1 hs.ker
 have e1:=hc _ hk0
 rw [Wz ht,first_cost hk0] at e1
 have hn:∀ i,i<m->0<=base m (L+m) t (L+i):=fun i hi=>hs.pos _ (by omega)
 constructor
 ·intro h0
  rw [h0] at e1
  have hz:=Aa0 hn (by grind)
  refine ⟨base m (L+m) t,fun j hj=>hs.pos j (by omega),fun i hi=>?_⟩
  have h1:=hk0 i hi
  rw [Rp hi,hz i hi,hs.one] at h1
  grind
 ·rintro ⟨x,hx,hb⟩
  obtain ⟨x',hx'⟩:∃ x':Nat->Rat,x'=fun j=>if j<L then x j else if j<L+m then 0 else -1:=⟨_,rfl⟩
  have p1:∀ j,j<L->x' j=x j:=fun j hj=>by rw [hx']; exact if_pos hj
  have p2:∀ j,L<=j->j<L+m->x' j=0:=fun j h1 h2=>by
   rw [hx']; dsimp only; rw [if_neg (by omega),if_pos h2]
  have p3:x' (L+m)=-1:=by rw [hx']; dsimp only; rw [if_neg (by omega),if_neg (by omega)]
  have a0w:Ker m (L+m) (first m L R b) x':=fun i hi=>by
   rw [Rp hi,p2 _ (by omega) (by omega),p3,sum_congr (g:=fun j=>R i j*x j) fun j hj=>by rw [p1 j hj],hb i hi]
   grind
  have a2q:Sol m (L+m) t x':=⟨(hk _).2 a0w,fun j hj=>by
   by_cases h:j<L
   ·rw [p1 j h]; exact hx j h
   ·rw [p2 j (by omega) hj]; exact Rat.le_refl,p3⟩
  have h2:=Ai5 (by omega) a2p a2q p2
  rw [hc _ a0w,first_cost a0w,sum_zero fun k hk=>p2 _ (by omega) (by omega)] at h2
  have h3:=sum_nonneg hn
  grind
end Go.Proofs.YtcjffhadclngmaaGreat.Simp
namespace Go.Proofs.YtcjffhadclngmaaGreat.Simp
theorem Ad8 (N:Nat) (a x y:Nat->Rat):dot N a (fun j=>x j+y j)=dot N a x+dot N a y:=by
 unfold dot
 rw [<- sum_add]
 exact sum_congr fun j _=>by grind
theorem Xx (N:Nat) (k:Rat) (a x:Nat->Rat):dot N a (fun j=>k*x j)=k*dot N a x:=by
 unfold dot
 rw [<- H6]
 exact sum_congr fun j _=>by grind
structure Real (m N L:Nat) (t:Tab) (x:Nat->Rat):Prop where
 sol:Sol m N t x
 zero:∀ j,L<=j->j<N->x j=0
theorem Ad3 {m N L:Nat} {t:Tab} (h:Fit m N t) (hr:∀ i,i<m->0<=t.T i N) (ha:∀ i,i<m->L<=t.B i->t.T i N=0):Real m N L t (base m N t):=by
 refine ⟨Aa9 h hr,fun j h1 h2=>?_⟩
 show - dir m t N j=0
 unfold dir
 rw [if_neg (by omega),sum_zero fun k hk=>?_]
 ·grind
 ·split
  ·rename_i e
   exact ha k hk (by omega)
  ·rfl
theorem least_none {m N L s:Nat} {t:Tab} {f:Nat->Rat} (h:Fit m N t) (hL:L<=N) (hr:∀ i,i<m->0<=t.T i N) (ha:∀ i,i<m->L<=t.B i->t.T i N=0) (hs:s<L) (hn:t.c s<0) (hp:∀ i,i<m->t.T i s<=0) (has:∀ i,i<m->L<=t.B i->t.T i s=0)
  (hf:∀ x,Ker m N t x->dot N t.c x=dot N f x) (V:Rat):∃ x,Real m N L t x/\dot N f x<V:=by
 have hb:=Ad3 h hr ha
 obtain ⟨d,hd⟩:∃ d,d=dir m t s:=⟨_,rfl⟩
 have wl:=Rv h (s:=s) (by omega)
 have k7:=Px h (s:=s) (by omega)
 rw [<- hd] at wl k7
 have cw:∀ j,0<=d j:=fun j=>by
  rw [hd]
  unfold dir
  have h1:0<=sum m fun k=>if j=t.B k then - t.T k s else 0:=sum_nonneg fun k hk=>by
   split
   ·have:=hp k hk; grind
   ·exact Rat.le_refl
  have h2:=Nt (fun k=>if j=t.B k then t.T k s else 0) m
  rw [sum_congr (g:=fun k=>if j=t.B k then - t.T k s else 0) fun k _=>by split <;> grind] at h2
  rw [h2] at h1
  split <;> grind
 have hdz:∀ j,L<=j->d j=0:=fun j hj=>by
  rw [hd]
  unfold dir
  rw [if_neg (by omega),sum_zero fun k hk=>?_]
  ·grind
  ·split
   ·rename_i e
    exact has k hk (by omega)
   ·rfl
 obtain ⟨l,dt,hl⟩:∃ l:Rat,0<=l/\- t.c N+l*t.c s<V:=by
  by_cases hv : - t.c N<V
  ·exact ⟨0,Rat.le_refl,by grind⟩
  ·refine ⟨(- t.c N - V+1) / (- t.c s),L2 (by grind) (by grind),?_⟩
   have:(- t.c N - V+1) / (- t.c s)*t.c s=- (- t.c N - V+1):=by grind
   rw [this]; grind
 refine ⟨fun j=>base m N t j+l*d j,⟨⟨fun i hi=>?_,fun j hj=>?_,?_⟩,fun j h1 h2=>?_⟩,?_⟩
 ·rw [Ad8,Xx,hb.sol.ker i hi,wl i hi]; grind
 ·have h1:=hb.sol.pos j hj
  have h2:=Rat.mul_nonneg dt (cw j)
  grind
 ·rw [hb.sol.one,hdz N hL]; grind
 ·rw [hb.zero j h1 h2,hdz j h1]; grind
 ·rw [Ad8,Xx,<- hf _ hb.sol.ker,Wz h,<- hf _ wl,k7]
  exact hl
end Go.Proofs.YtcjffhadclngmaaGreat.Simp
namespace Go.Proofs.YtcjffhadclngmaaGreat.Simp
theorem V7 (f:Nat->Rat):∀ n,sum (2*n) f=sum n fun k=>f (2*k)+f (2*k+1)
 | 0=>rfl
 | n+1=>by
  rw [show 2*(n+1)=2*n+1+1 by omega,sum,sum,V7 f n,sum]; grind
structure Sys where
 m:Nat
 n:Nat
 A:Nat->Nat->Rat
 c:Nat->Rat
 eq:Nat->Bool
def Sys.val (y:Sys) (v:Nat->Rat) (i:Nat):Rat:=sum y.n (fun k=>y.A i k*v k)+y.c i
def Sys.holds (y:Sys) (v:Nat->Rat):Prop:=∀ i,i<y.m->y.val v i<=0/\(y.eq i=true->y.val v i=0)
structure Cols (y:Sys) (L:Nat) (sg:Nat->Rat) (sl:Nat->Nat) (R:Nat->Nat->Rat) (b:Nat->Rat):Prop where
 sq:∀ i,i<y.m->sg i*sg i=1
 lt:2*y.n<=L
 even:∀ i k,i<y.m->k<y.n->R i (2*k)=sg i*y.A i k
 odd:∀ i k,i<y.m->k<y.n->R i (2*k+1)=- (sg i*y.A i k)
 slack:∀ i j,i<y.m->2*y.n<=j->j<L->R i j=if y.eq i=false/\j=sl i then sg i else 0
 slot:∀ i,i<y.m->y.eq i=false->2*y.n<=sl i/\sl i<L
 apart:∀ i k,i<y.m->k<y.m->y.eq i=false->y.eq k=false->sl i=sl k->i=k
 right:∀ i,i<y.m->b i=- (sg i*y.c i)
theorem Cols.row {y:Sys} {L:Nat} {sg:Nat->Rat} {sl:Nat->Nat} {R:Nat->Nat->Rat} {b:Nat->Rat} (h:Cols y L sg sl R b) {i:Nat} (hi:i<y.m) (x:Nat->Rat) :
  sum L (fun j=>R i j*x j)=sg i*(sum y.n fun k=>y.A i k*(x (2*k) - x (2*k+1)))+if y.eq i=false then sg i*x (sl i) else 0:=by
 obtain ⟨d,hd⟩:∃ d,L=2*y.n+d:=⟨L - 2*y.n,by have:=h.lt; omega⟩
 rw [hd,Vl,V7]
 have e1:(sum y.n fun k=>R i (2*k)*x (2*k)+R i (2*k+1)*x (2*k+1))=sg i*sum y.n fun k=>y.A i k*(x (2*k) - x (2*k+1)):=by
  rw [<- H6]
  exact sum_congr fun k hk=>by rw [h.even i k hi hk,h.odd i k hi hk]; grind
 rw [e1]
 congr 1
 cases he:y.eq i with
 | true =>
  rw [if_neg (by simp)]
  exact sum_zero fun k hk=>by
   rw [h.slack i _ hi (by omega) (by omega),if_neg (by rw [he]; simp)]; grind
 | false =>
  rw [if_pos rfl]
  obtain ⟨h1,h2⟩:=h.slot i hi he
  obtain ⟨q,hq⟩:∃ q,sl i=2*y.n+q:=⟨sl i - 2*y.n,by omega⟩
  rw [sum_congr (g:=fun k=>if k=q then sg i*x (2*y.n+k) else 0) fun k hk=>?_,sum_one (f:=fun k=>sg i*x (2*y.n+k)) (by omega),<- hq]
  rw [h.slack i _ hi (by omega) (by omega)]
  by_cases e:k=q
  ·subst e; rw [if_pos ⟨he,hq.symm⟩,if_pos rfl]
  ·rw [if_neg (fun h=>e (by omega)),if_neg e]; grind
theorem Cols.solve {y:Sys} {L:Nat} {sg:Nat->Rat} {sl:Nat->Nat} {R:Nat->Nat->Rat} {b:Nat->Rat} (h:Cols y L sg sl R b) :
  (∃ x:Nat->Rat,(∀ j,j<L->0<=x j)/\∀ i,i<y.m->sum L (fun j=>R i j*x j)=b i)↔∃ v,y.holds v:=by
 constructor
 ·rintro ⟨x,hx,hr⟩
  refine ⟨fun k=>x (2*k) - x (2*k+1),fun i hi=>?_⟩
  have h1:=hr i hi
  have h2:=h.sq i hi
  rw [h.row hi,h.right i hi] at h1
  unfold Sys.val
  generalize (sum y.n fun k=>y.A i k*(x (2*k) - x (2*k+1)))=z at *
  cases he:y.eq i with
  | true =>
   rw [he,if_neg (by simp)] at h1
   have h3:z+y.c i=0:=by
    have:sg i*(sg i*z+0)=sg i*(-(sg i*y.c i)):=by rw [h1]
    grind
   exact ⟨by grind,fun _=>h3⟩
  | false =>
   rw [he,if_pos rfl] at h1
   have h4:=hx (sl i) (h.slot i hi he).2
   have h3:z+y.c i=- x (sl i):=by
    have:sg i*(sg i*z+sg i*x (sl i))=sg i*(-(sg i*y.c i)):=by rw [h1]
    grind
   exact ⟨by grind,fun h=>by cases h⟩
 ·rintro ⟨v,hv⟩
  obtain ⟨x,hx⟩:∃ x:Nat->Rat,(∀ k,k<y.n->x (2*k)=if 0<=v k then v k else 0)/\(∀ k,k<y.n->x (2*k+1)=if 0<=v k then 0 else - v k)/\(∀ i,i<y.m->y.eq i=false->x (sl i)=- y.val v i)/\∀ j,j<L->0<=x j:=by
   classical
   refine ⟨fun j=>if j<2*y.n then (if j % 2=0 then (if 0<=v (j / 2) then v (j / 2) else 0) else (if 0<=v (j / 2) then 0 else - v (j / 2))) else if hq:∃ i,i<y.m/\y.eq i=false/\sl i=j then - y.val v hq.choose else 0,fun k hk=>?_,fun k hk=>?_,fun i hi he=>?_,fun j hj=>?_⟩
   ·simp only []
    rw [if_pos (by omega),if_pos (by omega),show 2*k / 2=k by omega]
   ·simp only []
    rw [if_pos (by omega),if_neg (by omega),show (2*k+1) / 2=k by omega]
   ·have hq:∃ i',i'<y.m/\y.eq i'=false/\sl i'=sl i:=⟨i,hi,he,rfl⟩
    simp only []
    rw [if_neg (by have:=(h.slot i hi he).1; omega),dif_pos hq]
    have:=h.apart _ _ hq.choose_spec.1 hi hq.choose_spec.2.1 he hq.choose_spec.2.2
    rw [this]
   ·simp only []
    split
    ·split <;> split <;> grind
    ·split
     ·rename_i hq
      have:=(hv _ hq.choose_spec.1).1
      grind
     ·exact Rat.le_refl
  obtain ⟨x1,x2,x3,x4⟩:=hx
  refine ⟨x,x4,fun i hi=>?_⟩
  rw [h.row hi,h.right i hi]
  have e1:(sum y.n fun k=>y.A i k*(x (2*k) - x (2*k+1)))=sum y.n fun k=>y.A i k*v k:=sum_congr fun k hk=>by
   rw [x1 k hk,x2 k hk]
   split <;> grind
  rw [e1]
  obtain ⟨g1,g2⟩:=hv i hi
  cases he:y.eq i with
  | true =>
   rw [if_neg (by simp)]
   have:=g2 he
   unfold Sys.val at this
   grind
  | false =>
   rw [if_pos rfl,x3 i hi he]
   unfold Sys.val
   grind
end Go.Proofs.YtcjffhadclngmaaGreat.Simp
namespace Go.Proofs.YtcjffhadclngmaaGreat.Simp
def red (t:Tab) (f:Nat->Rat):Nat->Nat->Rat
 | 0=>f
 | k+1=>fun j=>red t f k j - red t f k (t.B k)*t.T k j
def Aku (m:Nat) (t:Tab) (f:Nat->Rat):Tab:=⟨t.T,red t f m,t.B⟩
end Go.Proofs.YtcjffhadclngmaaGreat.Simp
namespace Go.Proofs.YtcjffhadclngmaaGreat
open Go Tryz Go.RowKit
theorem Lie.other {w:World} {A A':Nat->Nat->Prop} {b:Nat} (h:∀ o,¬ A' b o):∀ {vs:List Value} {o:Nat},Lie w A b o vs->Lie w A' b o vs
 | [],_,_=>trivial
 | _ :: _,_,⟨h1,_,h3⟩=>⟨h1,h _,Lie.other h h3⟩
theorem Br.other {w:World} {A A':Nat->Nat->Prop} {b:Nat} (h:∀ o,¬ A' b o):∀ (l:List Int) (o:Nat),Br w A b 1 o (l.map digC)->Br w A' b 1 o (l.map digC)
 | [],_,_=>by simp only [List.map_nil,Br]
 | x :: l,o,hr=>by
  simp only [List.map_cons,Br] at hr ⊢
  obtain ⟨h1,⟨vs,h2,h3⟩,h4⟩:=hr
  refine ⟨h1,⟨vs,h2.other h,?_⟩,Br.other h l _ h4⟩
  match vs,h3 with
  | [v],h3 =>
   simp only [digC,PRs,PR,and_true] at h3 ⊢
   exact h3
theorem Ao9 {C:Cx} (hs:SR C) {l:List Int} {c:Cap} {v:Value} (h:VR C (.frz (l.map digC) c) v):RD C.w v l:=by
 simp only [VR] at h
 obtain ⟨a,len,cap,rfl,h1,h2,-,h4⟩:=h
 simp only [RD,digA,VR]
 refine ⟨a,len,cap,rfl,h1,h2,trivial,h4.imp id ?_⟩
 rintro ⟨b,o,sz,ea,hr⟩
 exact ⟨b,o,sz,ea,Br.stays (A:=C.Avoid) (fun b' o' v hv ha=>⟨hv,Vt⟩) b sz o _ hr⟩
theorem Xi {C:Cx} (hs:SR C) {w':World} {v:Value} {l:List Int} (h:RD w' v l) (hn:NewB C.w.heap.size v):VR (C.at w') (digA l) v:=by
 obtain ⟨a,cap,rfl,h2,hc⟩:=La h
 by_cases hl:l=[]
 ·subst hl
  simp only [digA,List.map_nil,VR]
  exact ⟨a,0,cap,rfl,rfl,Nat.zero_le _,trivial,.inl trivial⟩
 ·simp only [RD,digA,VR] at h ⊢
  obtain ⟨a',len,cap',e,h1,h3,-,h4⟩:=h
  refine ⟨a',len,cap',e,h1,h3,trivial,.inr ?_⟩
  rcases h4 with h4|⟨b,o,sz,ea,hr⟩
  ·exact absurd (by simpa using h4) hl
  ·have hsz:sz=1:=by
    cases l with
    | nil=>exact absurd rfl hl
    | cons y l=>simp only [List.map_cons,Br,digC] at hr; exact hr.1.symm
   subst hsz
   subst ea
   have hb:=hn b o _ _ e
   exact ⟨b,o,1,rfl,Br.other (fun o' ha=>by
    rcases ha with ha|ha
    ·have:=hs.avlt b o' ha; omega
    ·have:=Afu hs (show C.Mut b o' from ha); omega) l o hr⟩
theorem Alv {C:Cx} {vs:Array Value} (hs:SR C) (l r:List Int) (c d:Cap) (hl:l=dig (val l).toNat) (hr:r=dig (val r).toNat) (bo:r≠[]) (h1:l.length<=90000) (h2:r.length<=90000) (hv:VRs C [.frz (l.map digC) c,.frz (r.map digC) d] vs.toList) :
  Calls prog 169 vs C.w fun e w'=>∃ v C',e=.returned v/\C'.w=w'/\Le C C'/\SR C'/\C'.S=C.S/\C'.tk=C.tk/\C'.n=C.n/\VR C' (.tup [digA (dig ((val l).toNat / (val r).toNat)),digA (dig ((val l).toNat % (val r).toNat))]) v:=by
 obtain ⟨vl⟩:=vs
 match vl,hv with
 | [x,y],hv =>
 simp only [VRs,and_true] at hv
 obtain ⟨hx,hy⟩:=hv
 have hb0:0<(val r).toNat:=by
  rcases Nat.eq_zero_or_pos (val r).toNat with h|h
  ·rw [h,Ds] at hr; exact absurd hr bo
  ·exact h
 have np:0<C.w.heap.size:=by
  simp only [VR] at hy
  obtain ⟨a,len,cap,rfl,h1,h2,-,h4⟩:=hy
  rcases h4 with h4|⟨b,o,sz,rfl,hr⟩
  ·exact absurd (by simpa using h4) bo
  ·cases r with
   | nil=>exact absurd rfl bo
   | cons z r =>
    simp only [List.map_cons,Br,digC] at hr
    obtain ⟨-,⟨vs,o8,hp⟩,-⟩:=hr
    match vs,hp with
    | [u],_=>exact Nat.lt_of_le_of_lt (Nat.zero_le _) (E9 o8.1)
 refine (Xo C.w x y (val l).toNat (val r).toNat np (by rw [<- hl]; exact Ao9 hs hx) (by rw [<- hr]; exact Ao9 hs hy) hb0 (by rw [<- hl]; exact h1) (by rw [<- hr]; exact h2)).mono ?_
 rintro e w' ⟨v1,v2,rfl,g1,g2,hb,n1,n2⟩
 refine ⟨_,C.at w',rfl,rfl,Le.of_below hb,SR.of_below hs hb,rfl,rfl,rfl,?_⟩
 unfold VR
 refine ⟨_,rfl,?_⟩
 simp only [VRs,and_true]
 refine ⟨Xi hs g1 n1,?_⟩
 rcases n2 with ⟨rfl,e2⟩|n2
 ·rw [e2,<- hl]
  have yk:=VR.mono (Le.of_below hb) _ _ hx
  simp only [digA,VR] at yk ⊢
  obtain ⟨a,len,cap,q1,q2,q3,-,q4⟩:=yk
  exact ⟨a,len,cap,q1,q2,q3,trivial,q4⟩
 ·exact Xi hs g2 n2
theorem Ly:∀ {es:List (List AV)} {l:List Int},N3 es=some l->es=l.map digC
 | [],l,h=>by simp only [N3,Option.some.injEq] at h; subst h; rfl
 | e :: es,l,h=>by
  unfold N3 at h
  split at h
  ·rename_i he; simp at he
  ·rename_i x r he
   simp only [List.cons.injEq] at he
   obtain ⟨rfl,rfl⟩:=he
   simp only [Option.map_eq_some_iff] at h
   obtain ⟨l',h1,rfl⟩:=h
   rw [Ly h1]; rfl
  ·simp at h
theorem Akl {l r:List Int} {v:AV} (h:quoF l r=some v):l=dig (val l).toNat/\r=dig (val r).toNat/\r≠[]/\l.length<=90000/\r.length<=90000/\v=.tup [digA (dig ((val l).toNat / (val r).toNat)),digA (dig ((val l).toNat % (val r).toNat))]:=by
 unfold quoF at h
 split at h
 ·rename_i hh
  simp only [Option.some.injEq] at h
  exact ⟨hh.1,hh.2.1,hh.2.2.1,hh.2.2.2.1,hh.2.2.2.2,h.symm⟩
 ·simp at h
theorem Aal {args:List AV} {S:List Ent} {tk:List Nat} {n:Nat} {r:AV} {S':List Ent} {tk':List Nat} {n':Nat} (h:quoC args S tk n=some (r,S',tk',n')):∃ l y c d,args=[.frz (l.map digC) c,.frz (y.map digC) d]/\quoF l y=some r/\S'=S/\tk'=tk/\n'=n:=by
 unfold quoC at h
 split at h
 ·rename_i es c ys d
  split at h
  ·rename_i l y hl hy
   split at h
   ·rename_i v hv
    simp only [Option.some.injEq,Prod.mk.injEq] at h
    obtain ⟨rfl,rfl,rfl,rfl⟩:=h
    exact ⟨l,y,c,d,by rw [Ly hl,Ly hy],hv,rfl,rfl,rfl⟩
   ·simp at h
  ·simp at h
 ·simp at h
theorem Aa2 {args:List AV} {S:List Ent} {tk:List Nat} {n:Nat} {r:AV} {S':List Ent} {tk':List Nat} {n':Nat} (h:uniC args S tk n=some (r,S',tk',n')):∃ l c,args=[.frz (l.map strC) c,.frz [] .nilc]/\l.length<=1000000/\(!l.isEmpty || Qd c)=true/\r=Am (uniS l)/\S'=S/\tk'=tk/\n'=n:=by
 unfold uniC at h
 split at h
 ·rename_i es c
  split at h
  ·rename_i l hl
   split at h
   ·rename_i hlen
    simp only [Bool.and_eq_true,decide_eq_true_eq] at hlen
    simp only [Option.some.injEq,Prod.mk.injEq] at h
    obtain ⟨rfl,rfl,rfl,rfl⟩:=h
    exact ⟨l,c,by rw [Q5 hl],hlen.1,hlen.2,rfl,rfl,rfl,rfl⟩
   ·simp at h
  ·simp at h
 ·simp at h
theorem Ao7 {l y:List Int} {c d:Cap} {r:AV} (hq:quoF l y=some r) (S:List Ent) (tk:List Nat) (n:Nat):quoC [.frz (l.map digC) c,.frz (y.map digC) d] S tk n=some (r,S,tk,n):=by simp [quoC,Ns,hq]
theorem Akx {l:List ByteArray} {c:Cap} (hlen:l.length<=1000000) (hc:(!l.isEmpty || Qd c)=true) (S:List Ent) (tk:List Nat) (n:Nat):uniC [.frz (l.map strC) c,.frz [] .nilc] S tk n=some (Am (uniS l),S,tk,n):=by
 simp only [uniC,T7]
 rw [if_pos (by rw [hc]; simpa using hlen)]
theorem W7 {f:FuncId} {args:List AV} {S:List Ent} {tk:List Nat} {n:Nat} {r:AV} {S':List Ent} {tk':List Nat} {n':Nat} (h:@extC prog E1 f args S tk n=some (r,S',tk',n')) :
  (f=55/\uniC args S tk n=some (r,S',tk',n'))\/(f=169/\quoC args S tk n=some (r,S',tk',n')):=by
 unfold extC at h
 split at h
 ·simp only [Ext.call] at h
  split at h
  ·rename_i hf; exact .inl ⟨by simpa using hf,h⟩
  ·split at h
   ·rename_i hf; exact .inr ⟨by simpa using hf,h⟩
   ·simp at h
 ·simp at h
theorem Ajv (args:List AV) (S:List Ent) (tk:List Nat) (n:Nat):@extC prog E1 55 args S tk n=uniC args S tk n:=by
 simp [extC,Ext.on,Ext.call]
theorem Akh (args:List AV) (S:List Ent) (tk:List Nat) (n:Nat):@extC prog E1 169 args S tk n=quoC args S tk n:=by
 simp [extC,Ext.on,Ext.call]
@[reducible] noncomputable instance E1i:Ext prog:=E1
instance ok1:Acg prog:={
 ok:=fun f args S tk n r S' tk' n' h=>by
  rcases W7 h with ⟨rfl,hh⟩|⟨rfl,hh⟩
  ·obtain ⟨l,c,rfl,hlen,hc,rfl,rfl,rfl,rfl⟩:=Aa2 hh
   refine ⟨⟨_,func55,by decide +kernel,by decide +kernel⟩,fun C vs h1 h2 h3 hs hv=>?_⟩
   subst h1 h2 h3
   refine Aeg hs l c hlen (fun e=>?_) hv
   subst e
   cases c <;> simp [Qd] at hc
   rfl
  ·obtain ⟨l,y,c,d,rfl,hq,rfl,rfl,rfl⟩:=Aal hh
   refine ⟨⟨_,func169,by decide +kernel,by decide +kernel⟩,fun C vs h1 h2 h3 hs hv=>?_⟩
   subst h1 h2 h3
   obtain ⟨q1,q2,q3,q4,q5,rfl⟩:=Akl hq
   exact Alv hs l y c d q1 q2 q3 q4 q5 hv
 indep:=fun M f args S tk n r S' tk' n' h=>by
  unfold Ep at h
  split at h
  ·rename_i hp
   rcases W7 h with ⟨rfl,hh⟩|⟨rfl,hh⟩
   ·obtain ⟨l,c,rfl,hlen,hc,rfl,rfl,rfl,rfl⟩:=Aa2 hh
    refine ⟨rfl,rfl,.inr ⟨rfl,fun S2 tk2 n2=>?_⟩⟩
    unfold Ep
    rw [if_pos hp,Ajv]
    exact Akx hlen hc S2 tk2 n2
   ·obtain ⟨l,y,c,d,rfl,hq,rfl,rfl,rfl⟩:=Aal hh
    refine ⟨rfl,rfl,.inr ⟨rfl,fun S2 tk2 n2=>?_⟩⟩
    unfold Ep
    rw [if_pos hp,Akh]
    exact Ao7 hq S2 tk2 n2
  ·simp at h }
section
variable (S:List Ent) (tk:List Nat) (k:Nat)
theorem Zx (l:List ByteArray) (c:Cap) (hlen:l.length<=1000000) (hc:(!l.isEmpty || Qd c)=true):cL prog 55 [.frz (l.map strC) c,.frz [] .nilc] S tk k=some (Am (uniS l),S,tk,k):=by
 refine Abh rfl ?_
 simp only [Ext.call,beq_self_eq_true,if_true]
 exact Akx hlen hc S tk k
theorem Km (a b:Nat) (c d:Cap) (hb:0<b) (ha:(dig a).length<=90000) (hb2:(dig b).length<=90000):cL prog 169 [.frz ((dig a).map digC) c,.frz ((dig b).map digC) d] S tk k=some (.tup [digA (dig (a / b)),digA (dig (a % b))],S,tk,k):=by
 refine Abh rfl ?_
 have e1:(val (dig a)).toNat=a:=by rw [Dk]; rfl
 have e2:(val (dig b)).toNat=b:=by rw [Dk]; rfl
 have hq:quoF (dig a) (dig b)=some (.tup [digA (dig (a / b)),digA (dig (a % b))]):=by
  unfold quoF
  rw [e1,e2,if_pos ⟨rfl,rfl,fun h=>by have:=Hs.1 h; omega,ha,hb2⟩]
 simp [Ext.call,quoC,Ns,hq]
end
end Go.Proofs.YtcjffhadclngmaaGreat
namespace Go.Proofs.YtcjffhadclngmaaGreat
open Go Tryz
theorem M3 {a n:Nat} (h:(dig a).length<=n):a<10000 ^ n:=Bo.1 h
theorem Ahe {a k:Nat} : topV (dig a) k<=a:=by
 have h1:val ((dig a).take k)+10000 ^ ((dig a).take k).length*val ((dig a).drop k)=a:=by
  rw [<- G0,List.take_append_drop,Dk]
 have h2:=Gg (l:=(dig a).take k) fun d hd=>B4 a d (List.mem_of_mem_take hd)
 have h3:=Gg (l:=(dig a).drop k) fun d hd=>B4 a d (List.mem_of_mem_drop hd)
 have h4:val ((dig a).drop k)<=10000 ^ ((dig a).take k).length*val ((dig a).drop k):=by
  have hp:(1:Int)<=10000 ^ ((dig a).take k).length:=by
   have:=Aa1 ((dig a).take k).length; omega
  have:=Int.mul_le_mul_of_nonneg_right hp h3
  omega
 unfold topV
 omega
theorem Aj2 (A:List Int):topV A A.length=0:=by unfold topV; rw [List.drop_length]; rfl
section
variable (S:List Ent) (tk:List Nat) (k:Nat)
theorem Nk (a:Nat) (ha:(dig a).length<=4):cL prog 173 [digA (dig a)] S tk k=some (.int (a:Nat),S,tk,k):=by
 have hsm:a<10000000000000000:=M3 ha
 have d3:=Us (n:=(dig a).length) (by omega)
 refine opP func173 ntmps173 ?_
 simp (maxSteps:=10^6)+contextual(disch:=try exact dqd)only[ev0,simprocAttr,AV.int,AV.bool,AV.str,results173,digA,d3]
 refine loop1 (P:=prog) (fun x st=>st.T.length=20/\(x.1<=(dig a).length)/\(x.2=((topV (dig a) x.1:Nat):Int))/\getT st.T 0=digA (dig a)/\getT st.T 3=.int x.2/\getT st.T 4=.int ((x.1:Int) - 1)/\st.S=[]) (fun x=>x.1) (fun x=>.int (a:Nat)) ((dig a).length,(0:Int)) ?_ ?_
 case refine_2=>exact ⟨rfl,Nat.le_refl _,by rw [Aj2]; rfl,rfl,rfl,rfl,rfl⟩
 rintro ⟨n,v⟩ ⟨T,S',tk',n'⟩ ⟨hl,hn,hv,e0,e3,e4,eS⟩ IH
 simp only at hn hv e0 e3 e4 eS
 subst eS
 obtain ⟨g,hg,hT⟩:=Av hl
 rw [hg] at e0 e3 e4
 subst hT
 clear hg hl
 subst hv
 by_cases h0:n=0
 ·subst h0
  have d2:decide (((0:Nat):Int) - 1 >= 0)=false:=rfl
  have ht:topV (dig a) 0=a:=by unfold topV; rw [List.drop_zero,Dk]; rfl
  rw [ht] at e3
  simp (maxSteps:=10^6)+contextual(disch:=try exact dqd)only[ev0,simprocAttr,AV.int,AV.bool,AV.str,results173,e0,e3,e4,d2,digA]
 ·have d2:decide ((n:Int) - 1 >= 0)=true:=by simp; omega
  have hi:(n:Int) - 1=((n - 1:Nat):Int):=by omega
  obtain ⟨x,hx⟩:=Ag (show n - 1<(dig a).length by omega)
  have hx':=Ga hx
  have hxk:=E2 (B4 a) hx
  have aj:=Yd (B4 a) hx
  rw [show n - 1+1=n by omega] at aj
  have hb1:=Ahe (a:=a) (k:=n)
  have hb2:=Ahe (a:=a) (k:=n - 1)
  have hp:=Us (n:=n - 1) (by omega)
  have hw1:IntKind.i64.wrap ((topV (dig a) n:Int)*10000)=(topV (dig a) n:Int)*10000:=Ad (by unfold i64; omega)
  have hw2:IntKind.i64.wrap ((topV (dig a) n:Int)*10000+x)=((topV (dig a) (n - 1):Nat):Int):=by
   rw [Ad (by unfold i64; omega)]; omega
  rw [hi] at e4 d2
  simp (maxSteps:=10^6)+contextual(disch:=try exact dqd)only[ev0,simprocAttr,AV.int,AV.bool,AV.str,results173,e0,e3,e4,d2,digA,hx',hp,hw1,hw2]
  exact IH (n - 1,((topV (dig a) (n - 1):Nat):Int)) _ (by first|omega|(simp only; omega)) ⟨rfl,by first|omega|(dsimp only; omega),rfl,(by first|rfl|simp only [getT,List.map_append,List.map_cons,List.map_nil,digC,digA]),(by first|rfl|simp only [getT,List.map_append,List.map_cons,List.map_nil,digC,digA]),(by first|rfl|simp only [getT,List.map_append,List.map_cons,List.map_nil,digC,digA]),(by first|rfl|simp only [getT,List.map_append,List.map_cons,List.map_nil,digC,digA])⟩
theorem Ach (a:Nat) (ha:a<10000000000000000):cL prog 171 [.int (a:Nat)] S tk k=some (digA (dig a),S,tk,k):=by
 refine opP func171 ntmps171 ?_
 simp (maxSteps:=10^6)+contextual(disch:=try exact dqd)only[ev0,simprocAttr,AV.int,AV.bool,AV.str,results171]
 refine loop1 (P:=prog) (fun x st=>st.T.length=14/\(x.1<=a)/\(x.2.1++dig x.1=dig a)/\(Be st.tk x.2.2 1=true)/\getT st.T 0=.int (x.1:Nat)/\getT st.T 3=.frz (x.2.1.map digC) x.2.2/\st.S=[]) (fun x=>x.1) (fun x=>digA (dig a)) (a,[],.nilc) ?_ ?_
 case refine_2=>exact ⟨rfl,Nat.le_refl _,rfl,rfl,rfl,rfl,rfl⟩
 rintro ⟨m,zs,cp⟩ ⟨T,S',tk',n'⟩ ⟨hl,hm,he,ab,e0,e3,eS⟩ IH
 simp only at hm he ab e0 e3 eS
 subst eS
 obtain ⟨g,hg,hT⟩:=Av hl
 rw [hg] at e0 e3
 subst hT
 clear hg hl
 have hr:=Gv zs
 have dc:=Bv ab
 have hla:(dig a).length<=4:=Bo.2 ha
 have hzl:zs.length<=4:=by
  have:=congrArg List.length he
  simp at this; omega
 have bl:(zs.map digC).length+1<=1048576:=by simp; omega
 by_cases h0:m=0
 ·subst h0
  have d1:decide (((0:Nat):Int) > 0)=false:=rfl
  rw [Ds,List.append_nil] at he
  subst he
  simp (maxSteps:=10^6)+contextual(disch:=try exact dqd)only[ev0,simprocAttr,AV.int,AV.bool,AV.str,results171,e0,e3,d1]
  rfl
 ·have d1:decide ((m:Int) > 0)=true:=by simp; omega
  have ml:¬ ((10000:Int)=0):=by omega
  have hq:IntKind.i64.wrap ((m:Int).tdiv 10000)=((m / 10000:Nat):Int):=by
   rw [Int.tdiv_eq_ediv_of_nonneg (by omega),Ad (by unfold i64; omega)]; rfl
  have ed:(m:Int).tmod 10000=((m % 10000:Nat):Int):=by rw [Int.tmod_eq_emod_of_nonneg (by omega)]; rfl
  simp (maxSteps:=10^6)+contextual(disch:=try exact dqd)only[ev0,simprocAttr,AV.int,AV.bool,AV.str,results171,e0,e3,d1,ml,hq,ed,hr]
  exact IH (m / 10000,zs++[((m % 10000:Nat):Int)],Bb tk' cp 1) _ (by first|omega|(simp only; omega)) ⟨rfl,by first|omega|(dsimp only; omega),by rw [<- he,Hx h0]; simp,dc,(by first|rfl|simp only [getT,List.map_append,List.map_cons,List.map_nil,digC,digA]),(by first|rfl|simp only [getT,List.map_append,List.map_cons,List.map_nil,digC,digA]),(by first|rfl|simp only [getT,List.map_append,List.map_cons,List.map_nil,digC,digA])⟩
set_option maxRecDepth 100000 in
theorem Qq (a b:Nat) (ha:(dig a).length<=90000) (hb:(dig b).length<=90000):cL prog 168 [digA (dig a),digA (dig b)] S tk k=some (digA (dig (a.gcd b)),S,tk,k):=by
 refine opP func168 ntmps168 ?_
 simp (maxSteps:=10^6)+contextual(disch:=try exact dqd)only[ev0,simprocAttr,AV.int,AV.bool,AV.str,results168,digA]
 refine loop1 (P:=prog) (fun x st=>st.T.length=33/\(x.1.gcd x.2=a.gcd b)/\((dig x.1).length<=90000)/\((dig x.2).length<=90000)/\getT st.T 0=digA (dig x.1)/\getT st.T 1=digA (dig x.2)/\st.S=[]) (fun x=>x.2) (fun x=>digA (dig (a.gcd b))) (a,b) ?_ ?_
 case refine_2=>exact ⟨rfl,rfl,ha,hb,rfl,rfl,rfl⟩
 rintro ⟨x,y⟩ ⟨T,S',tk',n'⟩ ⟨hl,hg,hx,hy,e0,e1,eS⟩ IH
 simp only at hg hx hy e0 e1 eS
 subst eS
 obtain ⟨g,hg,hT⟩:=Av hl
 rw [hg] at e0 e1
 subst hT
 clear hg hl
 by_cases h0:y=0
 ·subst h0
  have d1:decide ((((dig 0).length:Nat):Int) > 0)=false:=rfl
  rw [Nat.gcd_zero_right] at hg
  simp (maxSteps:=10^6)+contextual(disch:=try exact dqd)only[ev0,simprocAttr,AV.int,AV.bool,AV.str,results168,e0,e1,d1,digA]
  rw [hg]
 ·have hyl:0<(dig y).length:=List.length_pos_iff.2 fun h=>h0 (Hs.1 h)
  have d1:decide (((dig y).length:Int) > 0)=true:=by simp; omega
  have hQ:=fun c d S tk k=>Km S tk k x y c d (by omega) hx hy
  simp only [digA] at hQ
  have hlt:=Nat.mod_lt x (by omega:0<y)
  have hym:(dig (x % y)).length<=90000:=Nat.le_trans (Bo.2 (Nat.lt_trans hlt (Bo.1 (Nat.le_refl _)))) hy
  have hgn:y.gcd (x % y)=a.gcd b:=by rw [<- hg,Nat.gcd_comm x y]; exact (Nat.gcd_rec y x).symm ▸ Nat.gcd_comm y (x % y)
  by_cases h4:(dig x).length<=4
  ·have d2:decide (((dig x).length:Int)<=4)=true:=by simp; omega
   by_cases h5:(dig y).length<=4
   ·have d3:decide (((dig y).length:Int)<=4)=true:=by simp; omega
    have mj:x<10000000000000000:=M3 h4
    have hy1:y<10000000000000000:=M3 h5
    have hN1:=fun S tk k=>Nk S tk k x h4
    have hN2:=fun S tk k=>Nk S tk k y h5
    have hC:=fun S tk k=>told (E:=E1) (Ni S tk k x y (by omega) (by omega))
    have hD:=fun S tk k=>Ach S tk k (x.gcd y) (Nat.lt_of_le_of_lt (Nat.gcd_le_right x (by omega)) hy1)
    simp only [digA] at hN1 hN2 hD
    simp (maxSteps:=10^6)+contextual(disch:=try exact dqd)only[ev0,simprocAttr,AV.int,AV.bool,AV.str,results168,e0,e1,d1,d2,d3,digA,hN1,hN2,hC,hD]
    rw [hg]
   ·have d3:decide (((dig y).length:Int)<=4)=false:=by simp; omega
    simp (maxSteps:=10^6)+contextual(disch:=try exact dqd)only[ev0,simprocAttr,AV.int,AV.bool,AV.str,results168,e0,e1,d1,d2,d3,digA,hQ]
    exact IH (y,x % y) _ (by first|omega|(simp only; omega)) ⟨rfl,hgn,hy,hym,(by first|rfl|simp only [getT,List.map_append,List.map_cons,List.map_nil,digC,digA]),(by first|rfl|simp only [getT,List.map_append,List.map_cons,List.map_nil,digC,digA]),(by first|rfl|simp only [getT,List.map_append,List.map_cons,List.map_nil,digC,digA])⟩
  ·have d2:decide (((dig x).length:Int)<=4)=false:=by simp; omega
   simp (maxSteps:=10^6)+contextual(disch:=try exact dqd)only[ev0,simprocAttr,AV.int,AV.bool,AV.str,results168,e0,e1,d1,d2,digA,hQ]
   exact IH (y,x % y) _ (by first|omega|(simp only; omega)) ⟨rfl,hgn,hy,hym,(by first|rfl|simp only [getT,List.map_append,List.map_cons,List.map_nil,digC,digA]),(by first|rfl|simp only [getT,List.map_append,List.map_cons,List.map_nil,digC,digA]),(by first|rfl|simp only [getT,List.map_append,List.map_cons,List.map_nil,digC,digA])⟩
end
end Go.Proofs.YtcjffhadclngmaaGreat
namespace Go.Proofs.YtcjffhadclngmaaGreat
open Go Tryz
def smB (z:Int):Bool:=!decide (2<(dig z.natAbs).length)
def smN (z:Int):Int:=if smB z=true then z else 0
theorem Tt {z:Int} (h:smB z=true):z.natAbs<100000000:=by
 have h2:(dig z.natAbs).length<=2:=by simpa [smB] using h
 exact M3 h2
theorem zneg (z:Int):(!decide (z<0) && !decide (dig z.natAbs=[]))=decide (-z<0):=by
 have h1:dig z.natAbs=[]↔z.natAbs=0:=Hs
 by_cases h:z<0
 ·have h2:¬ (-z<0):=by omega
  simp [h]; omega
 ·by_cases h0:z=0
  ·subst h0; rfl
  ·have h2 : -z<0:=by omega
   have h3:¬ dig z.natAbs=[]:=fun e=>by have:=h1.1 e; omega
   simp [h,h3]; omega
theorem Vu (n:Nat):decide (((dig n).length:Int) > 0)=!decide (dig n=[]):=by
 cases h:dig n with
 | nil=>rfl
 | cons x l=>simp
theorem Akn (z:Int):sg (decide (z<0)) z.natAbs=z:=by
 by_cases h:z<0 <;> simp [sg,h] <;> omega
theorem Wh {x y:Int} (h:decide (x<0)=decide (y<0)):decide (x+y<0)=decide (x<0)/\(x+y).natAbs=x.natAbs+y.natAbs:=by
 have h':(x<0)↔(y<0):=by simpa using h
 constructor
 ·rw [decide_eq_decide]; omega
 ·omega
section
variable (S:List Ent) (tk:List Nat) (k:Nat)
theorem Qh (z:Int):cL prog 204 [zA z] S tk k=some (.tup [.int (smN z),.bool (smB z)],S,tk,k):=by
 refine opP func204 ntmps204 (hp3:=rfl) ?_
 by_cases h:(dig z.natAbs).length<=2
 ·have hN:=fun S tk k=>Nk S tk k z.natAbs (by omega)
  have hb:smB z=true:=by simp [smB]; omega
  have hlt:=Tt hb
  have d1:decide (((dig z.natAbs).length:Int) > 2)=false:=by simp; omega
  have e1:smN z=z:=by simp [smN,hb]
  rw [e1,hb]
  simp only [digA] at hN
  by_cases hn:z<0
  ·have d2:decide (z<0)=true:=by simpa using hn
   have hw:IntKind.i64.wrap (0 - (z.natAbs:Int))=z:=by rw [Ad (by unfold i64; omega)]; omega
   have hw2:IntKind.i64.wrap (-(z.natAbs:Int))=z:=by rw [Ad (by unfold i64; omega)]; omega
   simp (maxSteps:=10^6)+contextual(disch:=try exact dqd)only[ev0,simprocAttr,AV.int,AV.bool,AV.str,results204,zA,bigA,digA,d1,d2,hN,hw,hw2]
  ·have d2:decide (z<0)=false:=by simpa using hn
   have hz:(z.natAbs:Int)=z:=by omega
   rw [hz] at hN
   simp (maxSteps:=10^6)+contextual(disch:=try exact dqd)only[ev0,simprocAttr,AV.int,AV.bool,AV.str,results204,zA,bigA,digA,d1,d2,hN]
 ·have hb:smB z=false:=by simp [smB]; omega
  have d1:decide (((dig z.natAbs).length:Int) > 2)=true:=by simp; omega
  have e1:smN z=0:=by simp [smN,hb]
  rw [e1,hb]
  simp (maxSteps:=10^6)+contextual(disch:=try exact dqd)only[ev0,simprocAttr,AV.int,AV.bool,AV.str,results204,zA,bigA,digA,d1]
theorem Gt (z:Int):cL prog 167 [zA z] S tk k=some (zA z,S,tk,k):=by
 refine opP func167 ntmps167 (hp3:=rfl) ?_
 simp (maxSteps:=10^6)+contextual(disch:=try exact dqd)only[ev0,simprocAttr,AV.int,AV.bool,AV.str,results167,zA,bigA,digA]
theorem Tf (z:Int):cL prog 205 [zA z] S tk k=some (zA (-z),S,tk,k):=by
 refine opP func205 ntmps205 (hp3:=rfl) ?_
 have hz:=zneg z
 have hp:=Vu z.natAbs
 have ha:(-z).natAbs=z.natAbs:=by omega
 simp only [zA,ha]
 rw [<- hz]
 cases d1:decide (z<0) with
 | true=>simp (maxSteps:=10^6)+contextual(disch:=try exact dqd)only[ev0,simprocAttr,AV.int,AV.bool,AV.str,results205,bigA,digA,d1]
 | false=>simp (maxSteps:=10^6)+contextual(disch:=try exact dqd)only[ev0,simprocAttr,AV.int,AV.bool,AV.str,results205,bigA,digA,d1,hp]
end
end Go.Proofs.YtcjffhadclngmaaGreat
namespace Go.Proofs.YtcjffhadclngmaaGreat
open Go Tryz
theorem ext_mv1 (f:FuncId) (h:mvF0 f=false):Ext.mv prog f=false:=h
set_option linter.defProp false in
def ev1:=And.intro ext_mv1 ev0
set_option linter.defProp false in
def evs1:=And.intro ext_mv1 evs0
theorem iq1:((-1:Int) == 1)=false:=rfl
theorem iq2:((0:Int) == 1)=false:=rfl
theorem iq3:((0:Int) == -1)=false:=rfl
theorem iq4:((1:Int) == 1)=true:=rfl
theorem iq5:((-1:Int) == -1)=true:=rfl
theorem Amb {p:Bool} {n:Nat} (h:n=0->p=false):bigA p (dig n)=zA (sg p n):=by
 unfold zA
 rw [Apk]
 cases p with
 | false =>
  have:¬ ((n:Int)<0):=by omega
  simp [sg,this]
 | true =>
  have h0:n≠0:=fun e=>by simpa using h e
  have:(sg true n<0):=by simp [sg]; omega
  simp [this]
theorem Ao6 {p q:Bool} (h:p≠q) {X Y:Nat} (hl:Y<X):bigA p (dig (X - Y))=zA (sg p X+sg q Y):=by
 rw [<- Apt h (by omega)]
 exact Amb (fun e=>by omega)
theorem Aof {p q:Bool} (h:p≠q) {X Y:Nat} (hl:X<Y):bigA q (dig (Y - X))=zA (sg p X+sg q Y):=by
 rw [<- An4 h (by omega)]
 exact Amb (fun e=>by omega)
theorem Anr (x y:Int):bigA (decide (x<0) != decide (y<0) && !decide (dig (x.natAbs*y.natAbs)=[])) (dig (x.natAbs*y.natAbs))=zA (x*y):=by
 rw [Amb (fun e=>by rw [e,Ds]; simp)]
 congr 1
 have h:=Aow (decide (x<0)) (decide (y<0)) x.natAbs y.natAbs
 rw [Akn,Akn] at h
 rw [<- h]
 by_cases h0:x.natAbs*y.natAbs=0
 ·rw [h0]; simp [sg]
 ·have:¬ dig (x.natAbs*y.natAbs)=[]:=fun e=>h0 (Hs.1 e)
  simp [this]
section
variable (S:List Ent) (tk:List Nat) (k:Nat)
theorem Ado (x y:Int) (hx:(dig x.natAbs).length<=90000) (hy:(dig y.natAbs).length<=90000):cL prog 201 [zA x,zA y] S tk k=some (zA (x+y),S,tk,k):=by
 refine opP func201 ntmps201 (hp3:=rfl) ?_
 by_cases hpq:decide (x<0)=decide (y<0)
 ·obtain ⟨h1,h2⟩:=Wh hpq
  have hP:=fun S tk k=>told (E:=E1) (Anj S tk k x.natAbs y.natAbs (by omega) (by omega))
  have d1:(decide (x<0) == decide (y<0))=true:=by simpa using hpq
  simp only [zA,h1,h2]
  simp only [digA] at hP
  simp (maxSteps:=10^6)+contextual(disch:=try exact dqd)only[ev1,simprocAttr,AV.int,AV.bool,AV.str,results201,iq1,iq2,iq3,iq4,iq5,bigA,digA,d1,hP]
 ·have d1:(decide (x<0) == decide (y<0))=false:=by simpa using hpq
  have hC:=fun S tk k=>told (E:=E1) (L9 S tk k x.natAbs y.natAbs (by omega) (by omega))
  have hs:=Akn x
  have ht:=Akn y
  by_cases ym:y.natAbs<x.natAbs
  ·have hM:=fun S tk k=>told (E:=E1) (Ab3 S tk k x.natAbs y.natAbs (by omega) (by omega))
   have hz:=Ao6 hpq ym
   rw [hs,ht] at hz
   rw [<- hz]
   have hc:cmpN x.natAbs y.natAbs=1:=by unfold cmpN; rw [if_neg (by omega),if_pos ym]
   rw [hc] at hC
   simp only [digA] at hC hM
   simp (maxSteps:=10^6)+contextual(disch:=try exact dqd)only[ev1,simprocAttr,AV.int,AV.bool,AV.str,results201,iq1,iq2,iq3,iq4,iq5,zA,bigA,digA,d1,hC,hM]
  ·by_cases hlt:x.natAbs<y.natAbs
   ·have hM:=fun S tk k=>told (E:=E1) (Ab3 S tk k y.natAbs x.natAbs (by omega) (by omega))
    have hz:=Aof hpq hlt
    rw [hs,ht] at hz
    rw [<- hz]
    have hc:cmpN x.natAbs y.natAbs=-1:=by unfold cmpN; rw [if_pos hlt]
    rw [hc] at hC
    simp only [digA] at hC hM
    simp (maxSteps:=10^6)+contextual(disch:=try exact dqd)only[ev1,simprocAttr,AV.int,AV.bool,AV.str,results201,iq1,iq2,iq3,iq4,iq5,zA,bigA,digA,d1,hC,hM]
   ·have hc:cmpN x.natAbs y.natAbs=0:=by unfold cmpN; rw [if_neg hlt,if_neg ym]
    have h0:x+y=0:=by
     have h5:¬ ((x<0)↔(y<0)):=by simpa using hpq
     omega
    rw [hc] at hC
    rw [h0]
    simp only [digA] at hC
    simp (maxSteps:=10^6)+contextual(disch:=try exact dqd)only[ev1,simprocAttr,AV.int,AV.bool,AV.str,results201,iq1,iq2,iq3,iq4,iq5,zA,bigA,digA,d1,hC]
    first|rfl|(rw [show Int.natAbs 0=0 from rfl,Ds]; rfl)|(rw [Ds]; rfl)
theorem D8 (x y:Int) (hx:(dig x.natAbs).length<=90000) (hy:(dig y.natAbs).length<=90000):cL prog 198 [zA x,zA y] S tk k=some (zA (x*y),S,tk,k):=by
 refine opP func198 ntmps198 (hp3:=rfl) ?_
 have hP:=fun S tk k=>told (E:=E1) (P9 S tk k x.natAbs y.natAbs (by omega) (by omega))
 have hz:=Anr x y
 have hp:=Vu (x.natAbs*y.natAbs)
 simp only [digA] at hP
 rw [<- hz]
 have hbn:(decide (x<0) != decide (y<0))=!(decide (x<0) == decide (y<0)):=rfl
 rw [hbn]
 cases d1:decide (x<0) == decide (y<0) with
 | true=>simp (maxSteps:=10^6)+contextual(disch:=try exact dqd)only[ev1,simprocAttr,AV.int,AV.bool,AV.str,results198,iq1,iq2,iq3,iq4,iq5,zA,bigA,digA,d1,hbn,hp,hP,Bool.not_true,Bool.not_false,Bool.true_and,Bool.false_and]
 | false=>simp (maxSteps:=10^6)+contextual(disch:=try exact dqd)only[ev1,simprocAttr,AV.int,AV.bool,AV.str,results198,iq1,iq2,iq3,iq4,iq5,zA,bigA,digA,d1,hbn,hp,hP,Bool.not_true,Bool.not_false,Bool.true_and,Bool.false_and]
theorem Ry (x y:Int) (hx:(dig x.natAbs).length<=90000) (hy:(dig y.natAbs).length<=90000):cL prog 200 [zA x,zA y] S tk k=some (zA (x - y),S,tk,k):=by
 refine opP func200 ntmps200 (hp3:=rfl) ?_
 have hO:=fun S tk k=>Tf S tk k y
 have hP:=fun S tk k=>Ado S tk k x (-y) hx (by rw [show (-y).natAbs=y.natAbs by omega]; exact hy)
 rw [show x+-y=x - y by omega] at hP
 simp only [zA,bigA,digA] at hO hP
 simp (maxSteps:=10^6)+contextual(disch:=try exact dqd)only[ev1,simprocAttr,AV.int,AV.bool,AV.str,results200,iq1,iq2,iq3,iq4,iq5,zA,bigA,digA,hO,hP]
theorem Ul (l:List Int) (c:Cap) (hlen:l.length<=1048576):cL prog 170 [.frz (l.map digC) c] S tk k=some (digA l,S,tk,k):=by
 have hr:=fun cs=>Gx (f:=digC) (sz:=1) (fun _=>rfl) cs
 cases l with
 | nil =>
  simp only [List.map_nil]
  refine Yg func170 rfl rfl (by decide +kernel) (by decide +kernel) ntmps170 rfl rfl _ _ _ ?_ ?_ <;> rw [Apc]
  ·simp (maxSteps:=10^6)+contextual(disch:=try exact dqd)only[ev1,simprocAttr,AV.int,AV.bool,AV.str,results170,iq1,iq2,iq3,iq4,iq5,Vq,digA]
  ·simp (maxSteps:=10^6)+contextual(disch:=try exact dqd)only[ev1,simprocAttr,AV.int,AV.bool,AV.str,results170,iq1,iq2,iq3,iq4,iq5,Vq,digA]
 | cons x l =>
  simp only [List.map_cons]
  refine Uz func170 rfl rfl (by decide +kernel) (by decide +kernel) ntmps170 rfl rfl _ _ _ rfl ?_; rw [Apc]
  have je:=hr (x :: l)
  simp only [List.map_cons] at je
  have hl:([]:List (List AV)).length+(digC x :: l.map digC).length<=1048576:=by simp at hlen ⊢; omega
  simp (maxSteps:=10^6)+contextual(disch:=try exact dqd)only[ev1,simprocAttr,AV.int,AV.bool,AV.str,results170,iq1,iq2,iq3,iq4,iq5,Vq,digA,je]
end
end Go.Proofs.YtcjffhadclngmaaGreat
namespace Go.Proofs.YtcjffhadclngmaaGreat
open Go Tryz
theorem Uu {n:Int} (h0:0<=n) (h1:n<18446744073709551616):IntKind.u64.wrap n=n:=by
 have e:(n.toNat:Int)=n:=by omega
 rw [<- e]
 exact Go.IntWalk.u64_in _ (by omega)
theorem uwrap (n:Int):IntKind.u64.wrap n=n % 18446744073709551616:=by
 simp [IntKind.wrap,IntKind.bits,IntKind.signed]
theorem Ah5 {n:Nat} (h:n<10000000000000000000):(dig n).length<=5:=Bo.2 (Nat.lt_of_lt_of_le h (by decide))
theorem Afj {u N:Nat} {out:List Int} (he:out++dig u=dig N) (h:u≠0):(out++[((u % 10000:Nat):Int)])++dig (u / 10000)=dig N:=by
 rw [<- he,Hx h]; simp
theorem Ale {u N:Nat} {out:List Int} (he:out++dig u=dig N) (hN:N<10000000000000000000):out.length<=5:=by
 have:=Ah5 hN
 rw [<- he] at this; simp at this; omega
theorem Ag5 {N:Nat} {out:List Int} (he:out++dig 0=dig N):out=dig N:=by rw [<- he,Ds,List.append_nil]
section
variable (S:List Ent) (tk:List Nat) (k:Nat)
set_option maxRecDepth 100000 in
theorem Qk (n:Int) (hn:i64 n):cL prog 62 [.int n] S tk k=some (zA n,S,tk,k):=by
 refine opP func62 ntmps62 (hp3:=rfl) ?_
 have hn':=hn
 unfold i64 at hn'
 have hN:n.natAbs<10000000000000000000:=by omega
 cases d0:decide (n<0) with
 | true =>
  simp only [decide_eq_true_eq] at d0
  have d0':decide (n<0)=true:=by simpa using d0
  have q0:IntKind.u64.wrap (0 - IntKind.u64.wrap n)=((n.natAbs:Nat):Int):=by rw [uwrap,uwrap]; omega
  simp (maxSteps:=10^6)+contextual(disch:=try exact dqd)only[ev0,simprocAttr,AV.int,AV.bool,AV.str,results62,d0',q0]
  refine loop1 (P:=prog) (fun x st=>st.T.length=25/\(x.1<=n.natAbs)/\(x.2.1++dig x.1=dig n.natAbs)/\(Be st.tk x.2.2 1=true)/\getT st.T 0=.int n/\getT st.T 2=.ref 0 0 0/\getT st.T 3=.prim (.int .u64 (x.1:Nat))/\getT st.T 4=.frz (x.2.1.map digC) x.2.2/\st.S=[⟨0,[.bool false,.frz [] .nilc]⟩]) (fun x=>x.1) (fun x=>zA n) (n.natAbs,[],.nilc) ?_ ?_
  case refine_2=>exact ⟨rfl,Nat.le_refl _,rfl,rfl,rfl,rfl,rfl,rfl,rfl⟩
  rintro ⟨u,out,c⟩ ⟨T,S',tk',n'⟩ ⟨hl,hu,he,ab,e0,e2,e3,e4,eS⟩ IH
  simp only at hu he ab e0 e2 e3 e4 eS
  subst eS
  obtain ⟨g,hg,hT⟩:=Av hl
  rw [hg] at e0 e2 e3 e4
  subst hT
  clear hg hl
  have hlen:=Ale he hN
  have hr:=Gv out
  have dc:=Bv ab
  by_cases h0:u=0
  ·have d1:decide ((u:Int) > 0)=false:=by simp; omega
   subst h0
   have hd:=Ag5 he
   subst hd
   cases d2:decide (n<0) with
   | true =>
    simp (maxSteps:=10^6)+contextual(disch:=try exact dqd)only[ev0,simprocAttr,AV.int,AV.bool,AV.str,results62,e0,e2,e3,e4,d1,d2]
    simp [zA,bigA,digA,d2]
   | false =>
    simp (maxSteps:=10^6)+contextual(disch:=try exact dqd)only[ev0,simprocAttr,AV.int,AV.bool,AV.str,results62,e0,e2,e3,e4,d1,d2]
    simp [zA,bigA,digA,d2]
  ·have d1:decide ((u:Int) > 0)=true:=by simp; omega
   have ml:¬ ((10000:Int)=0):=by omega
   have bl:(out.map digC).length+1<=1048576:=by simp; omega
   have q1:(u:Int).tmod 10000=((u % 10000:Nat):Int):=by
    rw [Int.tmod_eq_emod_of_nonneg (by omega)]; omega
   have q2:IntKind.i64.wrap ((u % 10000:Nat):Int)=((u % 10000:Nat):Int):=Ad (by unfold i64; omega)
   have q3:IntKind.u64.wrap ((u:Int).tdiv 10000)=((u / 10000:Nat):Int):=by
    rw [Int.tdiv_eq_ediv_of_nonneg (by omega),Uu (by omega) (by omega)]; omega
   have hs:=Afj he h0
   simp (maxSteps:=10^6)+contextual(disch:=try exact dqd)only[ev0,simprocAttr,AV.int,AV.bool,AV.str,results62,e0,e2,e3,e4,d1,ml,q1,q2,q3,hr]
   exact IH (u / 10000,out++[((u % 10000:Nat):Int)],Bb tk' c 1) _ (by first|omega|(simp only; omega)) ⟨rfl,by first|omega|(dsimp only; omega),hs,dc,(by first|rfl|simp only [getT,List.map_append,List.map_cons,List.map_nil,digC,digA]),(by first|rfl|simp only [getT,List.map_append,List.map_cons,List.map_nil,digC,digA]),(by first|rfl|simp only [getT,List.map_append,List.map_cons,List.map_nil,digC,digA]),(by first|rfl|simp only [getT,List.map_append,List.map_cons,List.map_nil,digC,digA]),(by first|rfl|simp only [getT,List.map_append,List.map_cons,List.map_nil,digC,digA])⟩
 | false =>
  simp only [decide_eq_false_iff_not] at d0
  have d0':decide (n<0)=false:=by simpa using d0
  have q0:IntKind.u64.wrap n=((n.natAbs:Nat):Int):=by rw [Uu (by omega) (by omega)]; omega
  simp (maxSteps:=10^6)+contextual(disch:=try exact dqd)only[ev0,simprocAttr,AV.int,AV.bool,AV.str,results62,d0',q0]
  refine loop1 (P:=prog) (fun x st=>st.T.length=25/\(x.1<=n.natAbs)/\(x.2.1++dig x.1=dig n.natAbs)/\(Be st.tk x.2.2 1=true)/\getT st.T 0=.int n/\getT st.T 2=.ref 0 0 0/\getT st.T 3=.prim (.int .u64 (x.1:Nat))/\getT st.T 4=.frz (x.2.1.map digC) x.2.2/\st.S=[⟨0,[.bool false,.frz [] .nilc]⟩]) (fun x=>x.1) (fun x=>zA n) (n.natAbs,[],.nilc) ?_ ?_
  case refine_2=>exact ⟨rfl,Nat.le_refl _,rfl,rfl,rfl,rfl,rfl,rfl,rfl⟩
  rintro ⟨u,out,c⟩ ⟨T,S',tk',n'⟩ ⟨hl,hu,he,ab,e0,e2,e3,e4,eS⟩ IH
  simp only at hu he ab e0 e2 e3 e4 eS
  subst eS
  obtain ⟨g,hg,hT⟩:=Av hl
  rw [hg] at e0 e2 e3 e4
  subst hT
  clear hg hl
  have hlen:=Ale he hN
  have hr:=Gv out
  have dc:=Bv ab
  by_cases h0:u=0
  ·have d1:decide ((u:Int) > 0)=false:=by simp; omega
   subst h0
   have hd:=Ag5 he
   subst hd
   cases d2:decide (n<0) with
   | true =>
    simp (maxSteps:=10^6)+contextual(disch:=try exact dqd)only[ev0,simprocAttr,AV.int,AV.bool,AV.str,results62,e0,e2,e3,e4,d1,d2]
    simp [zA,bigA,digA,d2]
   | false =>
    simp (maxSteps:=10^6)+contextual(disch:=try exact dqd)only[ev0,simprocAttr,AV.int,AV.bool,AV.str,results62,e0,e2,e3,e4,d1,d2]
    simp [zA,bigA,digA,d2]
  ·have d1:decide ((u:Int) > 0)=true:=by simp; omega
   have ml:¬ ((10000:Int)=0):=by omega
   have bl:(out.map digC).length+1<=1048576:=by simp; omega
   have q1:(u:Int).tmod 10000=((u % 10000:Nat):Int):=by
    rw [Int.tmod_eq_emod_of_nonneg (by omega)]; omega
   have q2:IntKind.i64.wrap ((u % 10000:Nat):Int)=((u % 10000:Nat):Int):=Ad (by unfold i64; omega)
   have q3:IntKind.u64.wrap ((u:Int).tdiv 10000)=((u / 10000:Nat):Int):=by
    rw [Int.tdiv_eq_ediv_of_nonneg (by omega),Uu (by omega) (by omega)]; omega
   have hs:=Afj he h0
   simp (maxSteps:=10^6)+contextual(disch:=try exact dqd)only[ev0,simprocAttr,AV.int,AV.bool,AV.str,results62,e0,e2,e3,e4,d1,ml,q1,q2,q3,hr]
   exact IH (u / 10000,out++[((u % 10000:Nat):Int)],Bb tk' c 1) _ (by first|omega|(simp only; omega)) ⟨rfl,by first|omega|(dsimp only; omega),hs,dc,(by first|rfl|simp only [getT,List.map_append,List.map_cons,List.map_nil,digC,digA]),(by first|rfl|simp only [getT,List.map_append,List.map_cons,List.map_nil,digC,digA]),(by first|rfl|simp only [getT,List.map_append,List.map_cons,List.map_nil,digC,digA]),(by first|rfl|simp only [getT,List.map_append,List.map_cons,List.map_nil,digC,digA]),(by first|rfl|simp only [getT,List.map_append,List.map_cons,List.map_nil,digC,digA])⟩
end
end Go.Proofs.YtcjffhadclngmaaGreat
namespace Go.Proofs.YtcjffhadclngmaaGreat
open Go Tryz
def ratA (p:Bool) (l:List Int) (q:Bool) (r:List Int):AV:=.agg [.prim (.bool p),digA l,.prim (.bool q),digA r]
def qA (n d:Int):AV:=ratA (decide (n<0)) (dig n.natAbs) (decide (d<0)) (dig d.natAbs)
def lowN (n d:Int):Int:=(if d<0 then -n else n).tdiv ((n.natAbs.gcd d.natAbs:Nat):Int)
def lowD (n d:Int):Int:=((d.natAbs / n.natAbs.gcd d.natAbs:Nat):Int)
section
variable (S:List Ent) (tk:List Nat) (k:Nat)
theorem Rm (n:Int) (hn:i64 n):cL prog 34 [.int n] S tk k=some (qA n 1,S,tk,k):=by
 refine opP func34 ntmps34 (hp3:=rfl) ?_
 have h1:=fun S tk k=>Qk S tk k n hn
 have h2:=fun S tk k=>Qk S tk k 1 (by unfold i64; omega)
 simp only [zA,bigA,digA] at h1 h2
 simp (maxSteps:=10^6)+contextual(disch:=try exact dqd)only[ev1,simprocAttr,AV.int,AV.bool,AV.str,results34,qA,ratA,digA,h1,h2]
theorem Ajs:cL prog 203 [] S tk k=some (qA 0 1,S,tk,k):=by
 refine opP func203 ntmps203 (hp3:=rfl) ?_
 have h1:=fun S tk k=>Rm S tk k 0 (by unfold i64; omega)
 simp only [qA,ratA,digA] at h1
 simp (maxSteps:=10^6)+contextual(disch:=try exact dqd)only[ev1,simprocAttr,AV.int,AV.bool,AV.str,results203,qA,ratA,digA,h1]
theorem Me (a b c d:Int):cL prog 196 [qA a b,qA c d] S tk k=some (.tup [.agg [.int (smN a),.int (smN b),.int (smN c),.int (smN d)],.bool (smB a && smB b && smB c && smB d)],S,tk,k):=by
 refine opP func196 ntmps196 (hp3:=rfl) ?_
 have h:=fun z S tk k=>Qh S tk k z
 simp only [zA,bigA,digA] at h
 cases d1:smB a with
 | false=>simp (maxSteps:=10^6)+contextual(disch:=try exact dqd)only[ev1,simprocAttr,AV.int,AV.bool,AV.str,results196,qA,ratA,digA,h,d1,Bool.false_and]
 | true =>
  cases d2:smB b with
  | false=>simp (maxSteps:=10^6)+contextual(disch:=try exact dqd)only[ev1,simprocAttr,AV.int,AV.bool,AV.str,results196,qA,ratA,digA,h,d1,d2,Bool.false_and,Bool.true_and]
  | true =>
   cases d3:smB c with
   | false=>simp (maxSteps:=10^6)+contextual(disch:=try exact dqd)only[ev1,simprocAttr,AV.int,AV.bool,AV.str,results196,qA,ratA,digA,h,d1,d2,d3,Bool.false_and,Bool.true_and]
   | true=>simp (maxSteps:=10^6)+contextual(disch:=try exact dqd)only[ev1,simprocAttr,AV.int,AV.bool,AV.str,results196,qA,ratA,digA,h,d1,d2,d3,Bool.false_and,Bool.true_and]
theorem Kp (n d:Int) (hn:n.natAbs<=100000000000000000) (hd:d.natAbs<=100000000000000000) (cw:d≠0):cL prog 197 [.int n,.int d] S tk k=some (qA (lowN n d) (lowD n d),S,tk,k):=by
 refine opP func197 ntmps197 (hp3:=rfl) ?_
 have hC:=fun S tk k=>told (E:=E1) (Ni S tk k n.natAbs d.natAbs (by omega) (by omega))
 have my:0<n.natAbs.gcd d.natAbs:=Nat.gcd_pos_of_pos_right _ (by omega)
 have hgz:¬ (((n.natAbs.gcd d.natAbs:Nat):Int)=0):=by omega
 have hm:∀ x:Int,x.natAbs=n.natAbs->(if -x > x then -x else x)=(n.natAbs:Int):=fun x hx=>by split <;> omega
 have hwn:∀ x:Int,x.natAbs=n.natAbs->IntKind.i64.wrap (0 - x)=-x:=fun x hx=>by rw [Ad (by unfold i64; omega)]; omega
 have gh:IntKind.i64.wrap (0 - d)=-d:=by rw [Ad (by unfold i64; omega)]; omega
 have hq:∀ x:Int,x.natAbs=n.natAbs->i64 (x.tdiv ((n.natAbs.gcd d.natAbs:Nat):Int)):=fun x hx=>by
  have h1:(x.tdiv ((n.natAbs.gcd d.natAbs:Nat):Int)).natAbs<=x.natAbs:=by
   rw [Int.natAbs_tdiv]; exact Nat.div_le_self _ _
  unfold i64; omega
 have zg:i64 (lowD n d):=by
  have:=Nat.div_le_self d.natAbs (n.natAbs.gcd d.natAbs)
  unfold i64 lowD
  generalize d.natAbs / n.natAbs.gcd d.natAbs=z at *
  omega
 have hdq:∀ x:Int,x=(d.natAbs:Int)->x.tdiv ((n.natAbs.gcd d.natAbs:Nat):Int)=lowD n d:=fun x hx=>by
  subst hx
  rw [Int.tdiv_eq_ediv_of_nonneg (by omega)]; rfl
 have hB:=fun S tk k=>Qk S tk k (lowD n d) zg
 by_cases h:d<0
 ·have d1:decide (d<0)=true:=by simpa using h
  have hN:lowN n d=(-n).tdiv ((n.natAbs.gcd d.natAbs:Nat):Int):=by unfold lowN; rw [if_pos h]
  have hA:=fun S tk k=>Qk S tk k (lowN n d) (by rw [hN]; exact hq _ (by omega))
  have ed:=hm (-n) (by omega)
  have hw1:=hwn n rfl
  have hw2:=hwn (-n) (by omega)
  have hw3:IntKind.i64.wrap ((-n).tdiv ((n.natAbs.gcd d.natAbs:Nat):Int))=lowN n d:=by
   rw [hN]; have:=hq (-n) (by omega); exact Ad this
  have ze:IntKind.i64.wrap ((-d).tdiv ((n.natAbs.gcd d.natAbs:Nat):Int))=lowD n d:=by
   rw [hdq (-d) (by omega)]; exact Ad zg
  have hda:(-d)=(d.natAbs:Int):=by omega
  have hC':∀ S tk k,cL prog 172 [.int (n.natAbs:Int),.int (-d)] S tk k=some (.int ((n.natAbs.gcd d.natAbs:Nat):Int),S,tk,k):=fun S tk k=>by
   have:=hC S tk k
   rwa [<- hda] at this
  simp only [zA,bigA,digA] at hA hB
  simp (maxSteps:=10^6)+contextual(disch:=try exact dqd)only[ev1,simprocAttr,AV.int,AV.bool,AV.str,results197,maxA_int,qA,ratA,digA,d1,hw1,hw2,gh,ed,hC',hgz,hw3,ze,hA,hB]
 ·have d1:decide (d<0)=false:=by simpa using h
  have hN:lowN n d=n.tdiv ((n.natAbs.gcd d.natAbs:Nat):Int):=by unfold lowN; rw [if_neg h]
  have hA:=fun S tk k=>Qk S tk k (lowN n d) (by rw [hN]; exact hq _ (by omega))
  have ed:=hm n (by omega)
  have hw1:=hwn n rfl
  have hw3:IntKind.i64.wrap (n.tdiv ((n.natAbs.gcd d.natAbs:Nat):Int))=lowN n d:=by
   rw [hN]; have:=hq n (by omega); exact Ad this
  have ze:IntKind.i64.wrap (d.tdiv ((n.natAbs.gcd d.natAbs:Nat):Int))=lowD n d:=by
   rw [hdq d (by omega)]; exact Ad zg
  have hda:d=(d.natAbs:Int):=by omega
  have hC2:∀ S tk k,cL prog 172 [.int (n.natAbs:Int),.int d] S tk k=some (.int ((n.natAbs.gcd d.natAbs:Nat):Int),S,tk,k):=fun S tk k=>by
   have:=hC S tk k
   rwa [<- hda] at this
  simp only [zA,bigA,digA] at hA hB
  simp (maxSteps:=10^6)+contextual(disch:=try exact dqd)only[ev1,simprocAttr,AV.int,AV.bool,AV.str,results197,maxA_int,qA,ratA,digA,d1,hw1,ed,hC2,hgz,hw3,ze,hA,hB]
end
end Go.Proofs.YtcjffhadclngmaaGreat
namespace Go.Proofs.YtcjffhadclngmaaGreat
open Go Tryz
theorem Hk {p:Bool} {l:List Int} (h:Eb p l=true):p=decide (V p l<0)/\l=dig (V p l).natAbs:=by
 have ha:=Aoi p l
 rw [if_pos h] at ha
 refine ⟨?_,ha.symm⟩
 have hs:=V_sg p l
 cases p with
 | false =>
  have:¬ V false l<0:=by rw [hs]; simp [sg]
  simp [this]
 | true =>
  have hl:l≠[]:=fun e=>by subst e; simp [Eb] at h
  have h0:(V true l).natAbs≠0:=fun e=>by rw [e,Ds] at ha; exact hl ha.symm
  have:V true l<0:=by rw [hs]; simp only [sg,if_true]; omega
  simp [this]
def Td (n d:Int):Bool:=decide (0<d) && decide (n.natAbs.gcd d.natAbs=1)
def Kv (p:Bool) (l:List Int) (q:Bool) (r:List Int):Bool:=Eb p l && Eb q r && Td (V p l) (V q r)
def nQ (p:Bool) (l:List Int) (q:Bool) (r:List Int):Int:=if Kv p l q r=true then V p l else 0
def dQ (p:Bool) (l:List Int) (q:Bool) (r:List Int):Int:=if Kv p l q r=true then V q r else 1
theorem Am6 (g:Nat):decide (cmpN g 1=0)=decide (g=1):=by
 rw [decide_eq_decide]
 unfold cmpN
 split
 ·omega
 ·split <;> omega
section
variable (S:List Ent) (tk:List Nat) (k:Nat)
theorem Ux (a:Nat) (ha:(dig a).length<=1000000):cL prog 174 [digA (dig a),.frz [[.prim (.int .i64 1)]] .tight] S tk k=some (.int (cmpN a 1),S,tk,k):=by
 have y6:dig 1=[(1:Int)]:=Vi (d:=(1:Int)) (by omega) (by omega)
 have h2:=told (E:=E1) (L9 S tk k a 1 ha (by rw [y6]; simp))
 rw [y6] at h2
 exact (Q0 (args:=[digA (dig a),.frz [[.prim (.int .i64 1)]] .tight]) (args':=[digA (dig a),digA [(1:Int)]]) rfl rfl rfl).trans h2
theorem Ae8 (p:Bool) (l:List Int) (q:Bool) (r:List Int) (hl:l.length<=1000000) (hr:r.length<=1000000):cL prog 202 [ratA p l q r] S tk k=some (.bool (Kv p l q r),S,tk,k):=by
 have ql:=fun S tk k=>told (E:=E1) (M6 S tk k p l .unk hl)
 have qo:=fun S tk k=>told (E:=E1) (M6 S tk k q r .unk hr)
 refine opP func202 ntmps202 (hp3:=rfl) ?_
 unfold Kv
 cases h1:Eb p l with
 | false =>
  rw [h1] at ql
  simp (maxSteps:=10^6)+contextual(disch:=try exact dqd)only[ev1,simprocAttr,AV.int,AV.bool,AV.str,results202,ratA,digA,ql,Bool.false_and]
 | true =>
 rw [h1] at ql
 cases h2:Eb q r with
 | false =>
  rw [h2] at qo
  simp (maxSteps:=10^6)+contextual(disch:=try exact dqd)only[ev1,simprocAttr,AV.int,AV.bool,AV.str,results202,ratA,digA,ql,qo,Bool.false_and,Bool.true_and]
 | true =>
 rw [h2] at qo
 obtain ⟨hp,di⟩:=Hk h1
 obtain ⟨hq,t8⟩:=Hk h2
 have pu:=(Kl h1).2.2
 have j7:=(Kl h2).2.2
 by_cases hq0:q=true
 ·subst hq0
  have hg:Td (V p l) (V true r)=false:=by
   have:V true r<0:=by simpa using hq.symm
   have h3:¬ 0<V true r:=by omega
   simp [Td,h3]
  rw [hg]
  simp (maxSteps:=10^6)+contextual(disch:=try exact dqd)only[ev1,simprocAttr,AV.int,AV.bool,AV.str,results202,ratA,digA,ql,qo,Bool.true_and]
 ·have hqf:q=false:=by simpa using hq0
  subst hqf
  have cw:0<=V false r:=by
   have:¬ V false r<0:=by simpa using hq.symm
   omega
  by_cases bo:r=[]
  ·subst bo
   have hg:Td (V p l) (V false [])=false:=by
    have:V false []=0:=by have:=Hs.1 t8.symm; omega
    simp [Td,this]
   rw [hg]
   simp only [List.map_nil] at qo
   have iz:(((0:Nat):Int) == 0)=true:=rfl
   simp (maxSteps:=10^6)+contextual(disch:=try exact dqd)only[ev1,simprocAttr,AV.int,AV.bool,AV.str,results202,ratA,digA,ql,qo,iz,Bool.true_and]
  ·have a0x:(((r.length:Nat):Int) == 0)=false:=by
    have:=List.length_pos_iff.2 bo
    simp; omega
   have hd1:0<V false r:=by
    have:(V false r).natAbs≠0:=fun e=>bo (by rw [t8,e,Ds])
    omega
   have hgd:Td (V p l) (V false r)=decide ((V p l).natAbs.gcd (V false r).natAbs=1):=by simp [Td,hd1]
   rw [hgd]
   have cj:=fun S tk k=>Qh S tk k (V p l)
   have a8:=fun S tk k=>Qh S tk k (V false r)
   simp only [zA,bigA,digA,<- hp,<- di,<- hq,<- t8] at cj a8
   by_cases hs:smB (V p l)=true/\smB (V false r)=true
   ·obtain ⟨s1,s2⟩:=hs
    have e1:smN (V p l)=V p l:=by simp [smN,s1]
    have e2:smN (V false r)=V false r:=by simp [smN,s2]
    have b1:=Tt s1
    have b2:=Tt s2
    rw [e1,s1] at cj
    rw [e2,s2] at a8
    have hw:IntKind.i64.wrap (0 - V p l)=- V p l:=by rw [Ad (by unfold i64; omega)]; omega
    have hm:(if - V p l > V p l then - V p l else V p l)=((V p l).natAbs:Int):=by split <;> omega
    have hC:=fun S tk k=>told (E:=E1) (Ni S tk k (V p l).natAbs (V false r).natAbs (by omega) (by omega))
    have hda:((V false r).natAbs:Int)=V false r:=by omega
    rw [hda] at hC
    have mo:((((V p l).natAbs.gcd (V false r).natAbs:Nat):Int) == 1)=decide ((V p l).natAbs.gcd (V false r).natAbs=1):=by
     rw [Bool.eq_iff_iff]; simp; omega
    simp (maxSteps:=10^6)+contextual(disch:=try exact dqd)only[ev1,simprocAttr,AV.int,AV.bool,AV.str,results202,maxA_int,ratA,digA,ql,qo,a0x,cj,a8,hw,hm,hC,mo,Bool.true_and]
   ·have hD:=fun S tk k=>Qq S tk k (V p l).natAbs (V false r).natAbs (by rw [<- di]; omega) (by rw [<- t8]; omega)
    rw [<- di,<- t8] at hD
    have hgl:(dig ((V p l).natAbs.gcd (V false r).natAbs)).length<=200:=by
     have h3:(V p l).natAbs.gcd (V false r).natAbs<=(V false r).natAbs:=Nat.gcd_le_right _ (by omega)
     have h4:(dig (V false r).natAbs).length<=200:=by rw [<- t8]; exact j7
     exact Bo.2 (Nat.lt_of_le_of_lt h3 (Bo.1 h4))
    have hO:=fun S tk k=>Ux S tk k ((V p l).natAbs.gcd (V false r).natAbs) (by omega)
    have b7:(cmpN ((V p l).natAbs.gcd (V false r).natAbs) 1 == 0)=decide ((V p l).natAbs.gcd (V false r).natAbs=1):=by
     rw [<- Am6]; rfl
    simp only [digA] at hD hO
    cases s1:smB (V p l) with
    | false =>
     rw [s1] at cj
     simp (maxSteps:=10^6)+contextual(disch:=try exact dqd)only[ev1,simprocAttr,AV.int,AV.bool,AV.str,results202,ratA,digA,ql,qo,a0x,cj,a8,hD,hO,b7,Bool.true_and,Bool.false_and]
    | true =>
     have s2:smB (V false r)=false:=by simpa [s1] using hs
     rw [s1] at cj
     rw [s2] at a8
     simp (maxSteps:=10^6)+contextual(disch:=try exact dqd)only[ev1,simprocAttr,AV.int,AV.bool,AV.str,results202,ratA,digA,ql,qo,a0x,cj,a8,hD,hO,b7,Bool.true_and,Bool.false_and]
end
end Go.Proofs.YtcjffhadclngmaaGreat
namespace Go.Proofs.YtcjffhadclngmaaGreat
open Go Tryz
theorem Re {p:Bool} {l:List Int} {q:Bool} {r:List Int} (h:Kv p l q r=true):Eb p l=true/\Eb q r=true/\Td (V p l) (V q r)=true:=by
 unfold Kv at h
 simp only [Bool.and_eq_true] at h
 exact ⟨h.1.1,h.1.2,h.2⟩
theorem Acu {p:Bool} {l:List Int} {q:Bool} {r:List Int} (h:Kv p l q r=true):ratA p l q r=qA (V p l) (V q r):=by
 obtain ⟨h1,h2,-⟩:=Re h
 obtain ⟨a1,a2⟩:=Hk h1
 obtain ⟨b1,b2⟩:=Hk h2
 unfold qA
 rw [<- a1,<- a2,<- b1,<- b2]
structure H4 (n d:Int):Prop where
 pos:0<d
 cop:n.natAbs.gcd d.natAbs=1
 ln:(dig n.natAbs).length<=200
 ld:(dig d.natAbs).length<=200
theorem Kq (p:Bool) (l:List Int) (q:Bool) (r:List Int):H4 (nQ p l q r) (dQ p l q r):=by
 unfold nQ dQ
 cases h:Kv p l q r with
 | false =>
  simp only [Bool.false_eq_true,if_false]
  exact ⟨by omega,rfl,by decide +kernel,by decide +kernel⟩
 | true =>
  obtain ⟨h1,h2,h3⟩:=Re h
  simp only [Td,Bool.and_eq_true,decide_eq_true_eq] at h3
  exact ⟨h3.1,h3.2,Ajb p l,Ajb q r⟩
def Gb (n d:Int):Bool:=!decide (d=0) && okZ (lowN n d) && okZ (lowD n d)
def resN (n d:Int):Int:=if Gb n d=true then lowN n d else 0
def resD (n d:Int):Int:=if Gb n d=true then lowD n d else 0
def resQ (n d:Int):AV:=.tup [qA (resN n d) (resD n d),.bool (Gb n d)]
theorem Rf (n d:Int):(lowN n d).natAbs=n.natAbs / n.natAbs.gcd d.natAbs:=by
 unfold lowN
 rw [Int.natAbs_tdiv]
 split <;> simp <;> rfl
theorem Ake (n d:Int) (hd:d≠0):(decide (n<0) != decide (d<0) && !decide (dig (n.natAbs / n.natAbs.gcd d.natAbs)=[]))=decide (lowN n d<0):=by
 have ha:=Rf n d
 have my:0<n.natAbs.gcd d.natAbs:=Nat.gcd_pos_of_pos_right _ (by omega)
 have hz:dig (n.natAbs / n.natAbs.gcd d.natAbs)=[]↔lowN n d=0:=by rw [Hs,<- ha]; omega
 have hsg:∀ x:Int,0<=x->0<=x.tdiv ((n.natAbs.gcd d.natAbs:Nat):Int):=fun x hx=>Int.tdiv_nonneg hx (by omega)
 have hneg:∀ x:Int,x<=0->x.tdiv ((n.natAbs.gcd d.natAbs:Nat):Int)<=0:=fun x hx=>by
  have h1:=hsg (-x) (by omega)
  rw [Int.neg_tdiv] at h1
  omega
 rw [Bool.eq_iff_iff]
 simp only [Bool.and_eq_true,bne_iff_ne,ne_eq,decide_eq_decide,Bool.not_eq_true',decide_eq_false_iff_not,decide_eq_true_eq,hz]
 by_cases h:d<0
 ·have e:lowN n d=(-n).tdiv ((n.natAbs.gcd d.natAbs:Nat):Int):=by unfold lowN; rw [if_pos h]
  have h1:=hsg (-n)
  have h2:=hneg (-n)
  rw [<- e] at h1 h2
  constructor
  ·rintro ⟨h3,h4⟩; have:0<=n:=by omega
   have:=h2 (by omega); omega
  ·intro h3
   have:¬ 0<=-n:=fun h4=>by have:=h1 h4; omega
   omega
 ·have e:lowN n d=n.tdiv ((n.natAbs.gcd d.natAbs:Nat):Int):=by unfold lowN; rw [if_neg h]
  have h1:=hsg n
  have h2:=hneg n
  rw [<- e] at h1 h2
  constructor
  ·rintro ⟨h3,h4⟩; have:n<0:=by omega
   have:=h2 (by omega); omega
  ·intro h3
   have:¬ 0<=n:=fun h4=>by have:=h1 h4; omega
   omega
section
variable (S:List Ent) (tk:List Nat) (k:Nat)
theorem G7 (p:Bool) (l:List Int) (q:Bool) (r:List Int) (hl:l.length<=1000000) (hr:r.length<=1000000):cL prog 195 [ratA p l q r] S tk k=some (qA (nQ p l q r) (dQ p l q r),S,tk,k):=by
 have hV:=fun S tk k=>Ae8 S tk k p l q r hl hr
 have hZ:=fun S tk k=>Ajs S tk k
 refine opP func195 ntmps195 (hp3:=rfl) ?_
 unfold nQ dQ
 cases h:Kv p l q r with
 | true =>
  rw [h] at hV
  have e:=Acu h
  simp only [if_true]
  rw [<- e]
  simp only [ratA,digA] at hV
  simp (maxSteps:=10^6)+contextual(disch:=try exact dqd)only[ev1,simprocAttr,AV.int,AV.bool,AV.str,results195,ratA,digA,hV]
 | false =>
  rw [h] at hV
  simp only [Bool.false_eq_true,if_false]
  simp only [ratA,qA,digA] at hV hZ
  simp (maxSteps:=10^6)+contextual(disch:=try exact dqd)only[ev1,simprocAttr,AV.int,AV.bool,AV.str,results195,ratA,qA,digA,hV,hZ]
theorem K3 (n d:Int) (hn:(dig n.natAbs).length<=90000) (hd:(dig d.natAbs).length<=90000) (cw:d≠0):cL prog 166 [zA n,zA d] S tk k=some (resQ n d,S,tk,k):=by
 refine opP func166 ntmps166 (hp3:=rfl) ?_
 have my:0<n.natAbs.gcd d.natAbs:=Nat.gcd_pos_of_pos_right _ (by omega)
 have hD:=fun S tk k=>Qq S tk k n.natAbs d.natAbs hn hd
 have hgl:(dig (n.natAbs.gcd d.natAbs)).length<=90000:=by
  have h3:n.natAbs.gcd d.natAbs<=d.natAbs:=Nat.gcd_le_right _ (by omega)
  exact Nat.le_trans (Bo.2 (Nat.lt_of_le_of_lt h3 (Bo.1 (Nat.le_refl _)))) hd
 have hQ1:=fun S tk k=>Km S tk k n.natAbs (n.natAbs.gcd d.natAbs) .unk .unk my hn hgl
 have zh:=fun S tk k=>Km S tk k d.natAbs (n.natAbs.gcd d.natAbs) .unk .unk my hd hgl
 have hla:=Rf n d
 have hlb:(lowD n d).natAbs=d.natAbs / n.natAbs.gcd d.natAbs:=rfl
 have hs:=Ake n d cw
 have hp:=Vu (n.natAbs / n.natAbs.gcd d.natAbs)
 have hdn:decide (lowD n d<0)=false:=by
  have:¬ lowD n d<0:=by unfold lowD; omega
  simp [this]
 have hC:=fun (m:Nat) (h:(dig m).length<=200) S tk k=>Ul S tk k (dig m) .unk (by omega)
 unfold resQ resN resD
 simp only [digA] at hD hQ1 zh hC
 by_cases h1:(dig (n.natAbs / n.natAbs.gcd d.natAbs)).length<=200
 ·have d1:decide (((dig (n.natAbs / n.natAbs.gcd d.natAbs)).length:Int) > 200)=false:=by simp; omega
  by_cases h2:(dig (d.natAbs / n.natAbs.gcd d.natAbs)).length<=200
  ·have d2:decide (((dig (d.natAbs / n.natAbs.gcd d.natAbs)).length:Int) > 200)=false:=by simp; omega
   have hf:Gb n d=true:=by simp only [Gb,okZ,hla,hlb]; simp [cw]; omega
   have hC1:=hC _ h1
   have hC2:=hC _ h2
   rw [hf]
   simp only [if_true,qA,hla,hlb,<- hs,hdn]
   have hbn:(decide (n<0) != decide (d<0))=!(decide (n<0) == decide (d<0)):=rfl
   rw [hbn]
   cases d3:decide (n<0) == decide (d<0) with
   | true=>simp (maxSteps:=10^6)+contextual(disch:=try exact dqd)only[ev1,simprocAttr,AV.int,AV.bool,AV.str,results166,zA,bigA,ratA,digA,hD,hQ1,zh,d1,d2,d3,hbn,hp,hC1,hC2,Bool.not_true,Bool.not_false,Bool.true_and,Bool.false_and]
   | false=>simp (maxSteps:=10^6)+contextual(disch:=try exact dqd)only[ev1,simprocAttr,AV.int,AV.bool,AV.str,results166,zA,bigA,ratA,digA,hD,hQ1,zh,d1,d2,d3,hbn,hp,hC1,hC2,Bool.not_true,Bool.not_false,Bool.true_and,Bool.false_and]
  ·have d2:decide (((dig (d.natAbs / n.natAbs.gcd d.natAbs)).length:Int) > 200)=true:=by simp; omega
   have hf:Gb n d=false:=by simp only [Gb,okZ,hla,hlb]; simp [cw]; omega
   rw [hf]
   simp only [Bool.false_eq_true,if_false]
   have hz:dig 0=[]:=Ds
   simp (maxSteps:=10^6)+contextual(disch:=try exact dqd)only[ev1,simprocAttr,AV.int,AV.bool,AV.str,results166,zA,bigA,qA,ratA,digA,hz,hD,hQ1,zh,d1,d2]
 ·have d1:decide (((dig (n.natAbs / n.natAbs.gcd d.natAbs)).length:Int) > 200)=true:=by simp; omega
  have hf:Gb n d=false:=by simp only [Gb,okZ,hla,hlb]; simp [cw]; omega
  rw [hf]
  simp only [Bool.false_eq_true,if_false]
  have hz:dig 0=[]:=Ds
  simp (maxSteps:=10^6)+contextual(disch:=try exact dqd)only[ev1,simprocAttr,AV.int,AV.bool,AV.str,results166,zA,bigA,qA,ratA,digA,hz,hD,hQ1,zh,d1]
end
end Go.Proofs.YtcjffhadclngmaaGreat
namespace Go.Proofs.YtcjffhadclngmaaGreat
open Go Tryz
theorem Hg {x y:Int} {a b:Nat} (hx:(dig x.natAbs).length<=a) (hy:(dig y.natAbs).length<=b):(dig (x*y).natAbs).length<=a+b:=by
 rw [Bo] at hx hy ⊢
 rw [Int.natAbs_mul,Nat.pow_add]
 exact Nat.mul_lt_mul_of_lt_of_le hx (by omega) (Nat.pow_pos (by decide))
theorem Ajj {x y:Int} {a:Nat} (hx:(dig x.natAbs).length<=a) (hy:(dig y.natAbs).length<=a):(dig (x+y).natAbs).length<=a+1:=by
 rw [Bo] at hx hy ⊢
 rw [Nat.pow_succ]
 omega
theorem Akb {y:Int} {a:Nat} (hy:(dig y.natAbs).length<=a):(dig (-y).natAbs).length<=a:=by
 rw [show (-y).natAbs=y.natAbs by omega]; exact hy
theorem Adi {n d:Int} (hn:n.natAbs<=100000000000000000) (hd:d.natAbs<=100000000000000000) (cw:d≠0):Gb n d=true:=by
 have h1:(dig (lowN n d).natAbs).length<=5:=Bo.2 (by
  have:=Nat.div_le_self n.natAbs (n.natAbs.gcd d.natAbs)
  rw [<- Rf] at this
  omega)
 have h2:(dig (lowD n d).natAbs).length<=5:=Bo.2 (by
  have:=Nat.div_le_self d.natAbs (n.natAbs.gcd d.natAbs)
  have e:(lowD n d).natAbs=d.natAbs / n.natAbs.gcd d.natAbs:=rfl
  rw [e]
  omega)
 simp only [Gb,okZ]
 simp [cw]
 omega
theorem Ra {n d:Int} (hn:n.natAbs<=100000000000000000) (hd:d.natAbs<=100000000000000000) (cw:d≠0):resQ n d=.tup [qA (lowN n d) (lowD n d),.bool true]:=by
 have h:=Adi hn hd cw
 unfold resQ resN resD
 rw [h]; rfl
theorem Pp (n:Int):resQ n 0=.tup [qA 0 0,.bool false]:=rfl
theorem Gs {a b:Int} (ha:smB a=true) (hb:smB b=true):(a*b).natAbs<10000000000000000:=by
 have h1:=Tt ha
 have h2:=Tt hb
 rw [Int.natAbs_mul]
 have:=Nat.mul_lt_mul_of_lt_of_le h1 (Nat.le_of_lt h2) (by omega:0<100000000)
 omega
theorem Ll {z:Int} (h:smB z=true):smN z=z:=by simp [smN,h]
def ofQ (p:Bool) (l:List Int) (q:Bool) (r:List Int):AV:=resQ (V p l) (if Eb p l=true then V q r else 0)
section
variable (S:List Ent) (tk:List Nat) (k:Nat)
theorem Aox (p:Bool) (l:List Int) (q:Bool) (r:List Int) (hl:l.length<=1000000) (hr:r.length<=1000000):cL prog 165 [bigA p l,bigA q r] S tk k=some (ofQ p l q r,S,tk,k):=by
 have ql:=fun S tk k=>told (E:=E1) (M6 S tk k p l .unk hl)
 have qo:=fun S tk k=>told (E:=E1) (M6 S tk k q r .unk hr)
 refine opP func165 ntmps165 (hp3:=rfl) ?_
 have hz:dig 0=[]:=Ds
 have zi:decide ((0:Int)<0)=false:=by decide
 unfold ofQ
 cases h1:Eb p l with
 | false =>
  rw [h1] at ql
  rw [if_neg (by simp),Pp]
  simp (maxSteps:=10^6)+contextual(disch:=try exact dqd)only[ev1,simprocAttr,AV.int,AV.bool,AV.str,results165,qA,ratA,bigA,digA,hz,zi,ql]
 | true =>
 rw [h1] at ql
 rw [if_pos rfl]
 cases h2:Eb q r with
 | false =>
  rw [h2] at qo
  rw [V_bad h2,Pp]
  simp (maxSteps:=10^6)+contextual(disch:=try exact dqd)only[ev1,simprocAttr,AV.int,AV.bool,AV.str,results165,qA,ratA,bigA,digA,hz,zi,ql,qo]
 | true =>
 rw [h2] at qo
 obtain ⟨hp,di⟩:=Hk h1
 obtain ⟨hq,t8⟩:=Hk h2
 by_cases bo:r=[]
 ·subst bo
  have e0:V q []=0:=by have:=Hs.1 t8.symm; omega
  rw [e0,Pp]
  simp only [List.map_nil] at qo
  have iz:(((0:Nat):Int) == 0)=true:=rfl
  simp (maxSteps:=10^6)+contextual(disch:=try exact dqd)only[ev1,simprocAttr,AV.int,AV.bool,AV.str,results165,qA,ratA,bigA,digA,hz,zi,iz,ql,qo]
 ·have iz:(((r.length:Nat):Int) == 0)=false:=by
   have:=List.length_pos_iff.2 bo
   simp; omega
  have cw:V q r≠0:=fun e=>bo (by rw [t8,e]; rfl)
  have hR:=fun S tk k=>K3 S tk k (V p l) (V q r) (by have:=Ajb p l; omega) (by have:=Ajb q r; omega) cw
  have hO1:=fun S tk k=>Gt S tk k (V p l)
  have hO2:=fun S tk k=>Gt S tk k (V q r)
  simp only [zA,bigA,digA,<- hp,<- di,<- hq,<- t8] at hR hO1 hO2
  simp only [resQ,qA,ratA,digA] at hR ⊢
  simp (maxSteps:=10^6)+contextual(disch:=try exact dqd)only[ev1,simprocAttr,AV.int,AV.bool,AV.str,results165,qA,ratA,bigA,digA,iz,ql,qo,hO1,hO2,hR]
theorem Amk (p1:Bool) (l1:List Int) (q1:Bool) (r1:List Int) (p2:Bool) (l2:List Int) (q2:Bool) (r2:List Int) (h1:l1.length<=1000000) (h2:r1.length<=1000000) (h3:l2.length<=1000000) (h4:r2.length<=1000000) :
  cL prog 193 [ratA p1 l1 q1 r1,ratA p2 l2 q2 r2] S tk k=some (resQ (nQ p1 l1 q1 r1*nQ p2 l2 q2 r2) (dQ p1 l1 q1 r1*dQ p2 l2 q2 r2),S,tk,k):=by
 have hA:=fun S tk k=>G7 S tk k p1 l1 q1 r1 h1 h2
 have hB:=fun S tk k=>G7 S tk k p2 l2 q2 r2 h3 h4
 have gA:=Kq p1 l1 q1 r1
 have gB:=Kq p2 l2 q2 r2
 generalize nQ p1 l1 q1 r1=a at *
 generalize dQ p1 l1 q1 r1=b at *
 generalize nQ p2 l2 q2 r2=c at *
 generalize dQ p2 l2 q2 r2=d at *
 have te:b*d≠0:=Int.mul_ne_zero (by have:=gA.pos; omega) (by have:=gB.pos; omega)
 refine opP func193 ntmps193 (hp3:=rfl) ?_
 have hK:=fun S tk k=>Me S tk k a b c d
 cases hs:smB a && smB b && smB c && smB d with
 | true =>
  rw [hs] at hK
  simp only [Bool.and_eq_true] at hs
  obtain ⟨⟨⟨s1,s2⟩,s3⟩,s4⟩:=hs
  rw [Ll s1,Ll s2,Ll s3,Ll s4] at hK
  have b1:=Gs s1 s3
  have b2:=Gs s2 s4
  have hw1:IntKind.i64.wrap (a*c)=a*c:=Ad (by unfold i64; omega)
  have hw2:IntKind.i64.wrap (b*d)=b*d:=Ad (by unfold i64; omega)
  have hF:=fun S tk k=>Kp S tk k (a*c) (b*d) (by omega) (by omega) te
  rw [Ra (by omega) (by omega) te]
  simp only [qA,ratA,digA] at hA hB hK hF ⊢
  simp (maxSteps:=10^6)+contextual(disch:=try exact dqd)only[ev1,simprocAttr,AV.int,AV.bool,AV.str,results193,ratA,digA,hA,hB,hK,hF,hw1,hw2]
 | false =>
  rw [hs] at hK
  have hO1:=fun S tk k=>Gt S tk k a
  have hO2:=fun S tk k=>Gt S tk k b
  have ua:=fun S tk k=>Gt S tk k c
  have hO4:=fun S tk k=>Gt S tk k d
  have l1:=gA.ln
  have l2:=gA.ld
  have l3:=gB.ln
  have l4:=gB.ld
  have dy:=fun S tk k=>D8 S tk k a c (by omega) (by omega)
  have ar:=fun S tk k=>D8 S tk k b d (by omega) (by omega)
  have m1:=Hg l1 l3
  have m2:=Hg l2 l4
  have hR:=fun S tk k=>K3 S tk k (a*c) (b*d) (by omega) (by omega) te
  simp only [zA,bigA,digA] at hO1 hO2 ua hO4 dy ar hR
  simp only [resQ,qA,ratA,digA] at hA hB hK hR ⊢
  simp (maxSteps:=10^6)+contextual(disch:=try exact dqd)only[ev1,simprocAttr,AV.int,AV.bool,AV.str,results193,ratA,digA,hA,hB,hK,hO1,hO2,ua,hO4,dy,ar,hR]
end
end Go.Proofs.YtcjffhadclngmaaGreat
namespace Go.Proofs.YtcjffhadclngmaaGreat
open Go Tryz
theorem X0 {x y:Int} (hs:decide (x<0)=decide (y<0)):(cmpN x.natAbs y.natAbs == 0)=decide (x=y):=by
 have h1:(x<0)↔(y<0):=by simpa using hs
 rw [Bool.eq_iff_iff]
 simp only [beq_iff_eq,decide_eq_true_eq]
 unfold cmpN
 split
 ·omega
 ·split <;> omega
theorem Af2 {x y:Int} (h:x<y):cmpZ x y=-1:=by simp [cmpZ,h]
theorem Ad7 {x y:Int} (h:y<x):cmpZ x y=1:=by unfold cmpZ; rw [if_neg (by omega),if_pos h]
theorem Adw {x y:Int} (h:x=y):cmpZ x y=0:=by unfold cmpZ; rw [if_neg (by omega),if_neg (by omega)]
section
variable (S:List Ent) (tk:List Nat) (k:Nat)
theorem Aml (p1:Bool) (l1:List Int) (q1:Bool) (r1:List Int) (p2:Bool) (l2:List Int) (q2:Bool) (r2:List Int) (h1:l1.length<=1000000) (h2:r1.length<=1000000) (h3:l2.length<=1000000) (h4:r2.length<=1000000) :
  cL prog 191 [ratA p1 l1 q1 r1,ratA p2 l2 q2 r2] S tk k=some (resQ (nQ p1 l1 q1 r1*dQ p2 l2 q2 r2) (dQ p1 l1 q1 r1*nQ p2 l2 q2 r2),S,tk,k):=by
 have hA:=fun S tk k=>G7 S tk k p1 l1 q1 r1 h1 h2
 have hB:=fun S tk k=>G7 S tk k p2 l2 q2 r2 h3 h4
 have gA:=Kq p1 l1 q1 r1
 have gB:=Kq p2 l2 q2 r2
 generalize nQ p1 l1 q1 r1=a at *
 generalize dQ p1 l1 q1 r1=b at *
 generalize nQ p2 l2 q2 r2=c at *
 generalize dQ p2 l2 q2 r2=d at *
 refine opP func191 ntmps191 (hp3:=rfl) ?_
 have hz:dig 0=[]:=Ds
 have zi:decide ((0:Int)<0)=false:=by decide
 by_cases hc:c=0
 ·subst hc
  have iz:((((dig (Int.natAbs 0)).length:Nat):Int) == 0)=true:=rfl
  have iz2:(((0:Nat):Int) == 0)=true:=rfl
  rw [Int.mul_zero,Pp]
  simp only [qA,ratA,digA,hz,List.map_nil] at hA hB ⊢
  simp (maxSteps:=10^6)+contextual(disch:=try exact dqd)only[ev1,simprocAttr,AV.int,AV.bool,AV.str,results191,ratA,digA,hz,zi,hA,hB,iz,iz2]
 have iz:((((dig c.natAbs).length:Nat):Int) == 0)=false:=by
  have:(dig c.natAbs)≠[]:=fun e=>hc (by have:=Hs.1 e; omega)
  have:=List.length_pos_iff.2 this
  simp; omega
 have te:b*c≠0:=Int.mul_ne_zero (by have:=gA.pos; omega) hc
 have hK:=fun S tk k=>Me S tk k a b c d
 cases hs:smB a && smB b && smB c && smB d with
 | true =>
  rw [hs] at hK
  simp only [Bool.and_eq_true] at hs
  obtain ⟨⟨⟨s1,s2⟩,s3⟩,s4⟩:=hs
  rw [Ll s1,Ll s2,Ll s3,Ll s4] at hK
  have b1:=Gs s1 s4
  have b2:=Gs s2 s3
  have hw1:IntKind.i64.wrap (a*d)=a*d:=Ad (by unfold i64; omega)
  have hw2:IntKind.i64.wrap (b*c)=b*c:=Ad (by unfold i64; omega)
  have hF:=fun S tk k=>Kp S tk k (a*d) (b*c) (by omega) (by omega) te
  rw [Ra (by omega) (by omega) te]
  simp only [qA,ratA,digA] at hA hB hK hF ⊢
  simp (maxSteps:=10^6)+contextual(disch:=try exact dqd)only[ev1,simprocAttr,AV.int,AV.bool,AV.str,results191,ratA,digA,hA,hB,hK,hF,hw1,hw2,iz]
 | false =>
  rw [hs] at hK
  have hO1:=fun S tk k=>Gt S tk k a
  have hO2:=fun S tk k=>Gt S tk k b
  have ua:=fun S tk k=>Gt S tk k c
  have hO4:=fun S tk k=>Gt S tk k d
  have l1:=gA.ln
  have l2:=gA.ld
  have l3:=gB.ln
  have l4:=gB.ld
  have dy:=fun S tk k=>D8 S tk k a d (by omega) (by omega)
  have ar:=fun S tk k=>D8 S tk k b c (by omega) (by omega)
  have m1:=Hg l1 l4
  have m2:=Hg l2 l3
  have hR:=fun S tk k=>K3 S tk k (a*d) (b*c) (by omega) (by omega) te
  simp only [zA,bigA,digA] at hO1 hO2 ua hO4 dy ar hR
  simp only [resQ,qA,ratA,digA] at hA hB hK hR ⊢
  simp (maxSteps:=10^6)+contextual(disch:=try exact dqd)only[ev1,simprocAttr,AV.int,AV.bool,AV.str,results191,ratA,digA,hA,hB,hK,hO1,hO2,ua,hO4,dy,ar,hR,iz]
theorem Akk (x y:Int) (hx:(dig x.natAbs).length<=90000) (hy:(dig y.natAbs).length<=90000):cL prog 199 [zA x,zA y] S tk k=some (.bool (decide (x=y)),S,tk,k):=by
 refine opP func199 ntmps199 (hp3:=rfl) ?_
 have hO:=fun S tk k=>told (E:=E1) (L9 S tk k x.natAbs y.natAbs (by omega) (by omega))
 simp only [digA] at hO
 by_cases hs:decide (x<0)=decide (y<0)
 ·have d1:(decide (x<0) == decide (y<0))=true:=by simpa using hs
  by_cases hl:(dig x.natAbs).length=(dig y.natAbs).length
  ·have d2:(((dig x.natAbs).length:Int) == ((dig y.natAbs).length:Int))=true:=by rw [beq_iff_eq]; omega
   have hz:=X0 hs
   simp (maxSteps:=10^6)+contextual(disch:=try exact dqd)only[ev1,simprocAttr,AV.int,AV.bool,AV.str,results199,zA,bigA,digA,d1,d2,hO,hz]
  ·have d2:(((dig x.natAbs).length:Int) == ((dig y.natAbs).length:Int))=false:=by
    rw [Bool.eq_false_iff]; intro h; exact hl (by have:=beq_iff_eq.1 h; omega)
   have hne:decide (x=y)=false:=by
    have:x≠y:=fun e=>hl (by rw [e])
    simp [this]
   rw [hne]
   simp (maxSteps:=10^6)+contextual(disch:=try exact dqd)only[ev1,simprocAttr,AV.int,AV.bool,AV.str,results199,zA,bigA,digA,d1,d2]
 ·have d1:(decide (x<0) == decide (y<0))=false:=by simpa using hs
  have hne:decide (x=y)=false:=by
   have:x≠y:=fun e=>hs (by rw [e])
   simp [this]
  rw [hne]
  simp (maxSteps:=10^6)+contextual(disch:=try exact dqd)only[ev1,simprocAttr,AV.int,AV.bool,AV.str,results199,zA,bigA,digA,d1]
theorem Am2 (p1:Bool) (l1:List Int) (q1:Bool) (r1:List Int) (p2:Bool) (l2:List Int) (q2:Bool) (r2:List Int) (h1:l1.length<=1000000) (h2:r1.length<=1000000) (h3:l2.length<=1000000) (h4:r2.length<=1000000) :
  cL prog 192 [ratA p1 l1 q1 r1,ratA p2 l2 q2 r2] S tk k=some (.int (cmpZ (nQ p1 l1 q1 r1*dQ p2 l2 q2 r2) (nQ p2 l2 q2 r2*dQ p1 l1 q1 r1)),S,tk,k):=by
 have hA:=fun S tk k=>G7 S tk k p1 l1 q1 r1 h1 h2
 have hB:=fun S tk k=>G7 S tk k p2 l2 q2 r2 h3 h4
 have gA:=Kq p1 l1 q1 r1
 have gB:=Kq p2 l2 q2 r2
 generalize nQ p1 l1 q1 r1=a at *
 generalize dQ p1 l1 q1 r1=b at *
 generalize nQ p2 l2 q2 r2=c at *
 generalize dQ p2 l2 q2 r2=d at *
 refine opP func192 ntmps192 (hp3:=rfl) ?_
 have hK:=fun S tk k=>Me S tk k a b c d
 cases hs:smB a && smB b && smB c && smB d with
 | true =>
  rw [hs] at hK
  simp only [Bool.and_eq_true] at hs
  obtain ⟨⟨⟨s1,s2⟩,s3⟩,s4⟩:=hs
  rw [Ll s1,Ll s2,Ll s3,Ll s4] at hK
  have b1:=Gs s1 s4
  have b2:=Gs s3 s2
  have hw1:IntKind.i64.wrap (a*d)=a*d:=Ad (by unfold i64; omega)
  have hw2:IntKind.i64.wrap (c*b)=c*b:=Ad (by unfold i64; omega)
  simp only [qA,ratA,digA] at hA hB hK
  by_cases g1:a*d<c*b
  ·have d1:decide (a*d<c*b)=true:=by simpa using g1
   rw [Af2 g1]
   simp (maxSteps:=10^6)+contextual(disch:=try exact dqd)only[ev1,simprocAttr,AV.int,AV.bool,AV.str,results192,ratA,digA,hA,hB,hK,hw1,hw2,d1]
  ·have d1:decide (a*d<c*b)=false:=by simpa using g1
   by_cases g2:a*d > c*b
   ·have d2:decide (a*d > c*b)=true:=by simpa using g2
    rw [Ad7 g2]
    simp (maxSteps:=10^6)+contextual(disch:=try exact dqd)only[ev1,simprocAttr,AV.int,AV.bool,AV.str,results192,ratA,digA,hA,hB,hK,hw1,hw2,d1,d2]
   ·have d2:decide (a*d > c*b)=false:=by simpa using g2
    rw [Adw (by omega)]
    simp (maxSteps:=10^6)+contextual(disch:=try exact dqd)only[ev1,simprocAttr,AV.int,AV.bool,AV.str,results192,ratA,digA,hA,hB,hK,hw1,hw2,d1,d2]
 | false =>
  rw [hs] at hK
  have hO1:=fun S tk k=>Gt S tk k a
  have hO2:=fun S tk k=>Gt S tk k b
  have ua:=fun S tk k=>Gt S tk k c
  have hO4:=fun S tk k=>Gt S tk k d
  have l1:=gA.ln
  have l2:=gA.ld
  have l3:=gB.ln
  have l4:=gB.ld
  have dy:=fun S tk k=>D8 S tk k a d (by omega) (by omega)
  have ar:=fun S tk k=>D8 S tk k c b (by omega) (by omega)
  have m1:=Hg l1 l4
  have m2:=Hg l3 l2
  have hS:=fun S tk k=>Akk S tk k (a*d) (c*b) (by omega) (by omega)
  have hM:=fun S tk k=>Ry S tk k (a*d) (c*b) (by omega) (by omega)
  simp only [zA,bigA,digA] at hO1 hO2 ua hO4 dy ar hS hM
  simp only [qA,ratA,digA] at hA hB hK
  by_cases g1:a*d=c*b
  ·have d1:decide (a*d=c*b)=true:=by simpa using g1
   rw [d1] at hS
   rw [Adw g1]
   simp (maxSteps:=10^6)+contextual(disch:=try exact dqd)only[ev1,simprocAttr,AV.int,AV.bool,AV.str,results192,ratA,digA,hA,hB,hK,hO1,hO2,ua,hO4,dy,ar,hS]
  ·have d1:decide (a*d=c*b)=false:=by simpa using g1
   rw [d1] at hS
   by_cases g2:a*d<c*b
   ·have d2:decide (a*d - c*b<0)=true:=by simp; omega
    rw [d2] at hM
    rw [Af2 g2]
    simp (maxSteps:=10^6)+contextual(disch:=try exact dqd)only[ev1,simprocAttr,AV.int,AV.bool,AV.str,results192,ratA,digA,hA,hB,hK,hO1,hO2,ua,hO4,dy,ar,hS,hM]
   ·have d2:decide (a*d - c*b<0)=false:=by simp; omega
    rw [d2] at hM
    rw [Ad7 (by omega)]
    simp (maxSteps:=10^6)+contextual(disch:=try exact dqd)only[ev1,simprocAttr,AV.int,AV.bool,AV.str,results192,ratA,digA,hA,hB,hK,hO1,hO2,ua,hO4,dy,ar,hS,hM]
end
end Go.Proofs.YtcjffhadclngmaaGreat
namespace Go.Proofs.YtcjffhadclngmaaGreat
open Go
theorem H4.valid {n d:Int} (h:H4 n d):Kv (decide (n<0)) (dig n.natAbs) (decide (d<0)) (dig d.natAbs)=true:=by
 unfold Kv Td
 rw [Pq _ h.ln,Pq _ h.ld,V_of _ h.ln,V_of _ h.ld]
 simp [h.pos,h.cop]
theorem H4.nQ {n d:Int} (h:H4 n d):nQ (decide (n<0)) (dig n.natAbs) (decide (d<0)) (dig d.natAbs)=n:=by
 unfold Proofs.YtcjffhadclngmaaGreat.nQ
 rw [if_pos h.valid,V_of _ h.ln]
theorem H4.dQ {n d:Int} (h:H4 n d):dQ (decide (n<0)) (dig n.natAbs) (decide (d<0)) (dig d.natAbs)=d:=by
 unfold Proofs.YtcjffhadclngmaaGreat.dQ
 rw [if_pos h.valid,V_of _ h.ld]
theorem H4.neg {n d:Int} (h:H4 n d):H4 (-n) d:=by
 have e:(-n).natAbs=n.natAbs:=by omega
 exact ⟨h.pos,by rw [e]; exact h.cop,by rw [e]; exact h.ln,h.ld⟩
end Go.Proofs.YtcjffhadclngmaaGreat
namespace Go.Proofs.YtcjffhadclngmaaGreat
open Go
end Go.Proofs.YtcjffhadclngmaaGreat
namespace Go.Proofs.YtcjffhadclngmaaGreat
open Go
end Go.Proofs.YtcjffhadclngmaaGreat
namespace Go.Proofs.YtcjffhadclngmaaGreat
open Go
end Go.Proofs.YtcjffhadclngmaaGreat
namespace Go.Proofs.YtcjffhadclngmaaGreat
open Go Tryz
theorem Ahk {a:Int} (ha:smB a=true):smB (-a)=true:=by
 simp only [smB,Int.natAbs_neg] at ha ⊢; exact ha
section
variable (S:List Ent) (tk:List Nat) (k:Nat)
set_option maxHeartbeats 1000000 in
theorem Am1 (p1:Bool) (l1:List Int) (q1:Bool) (r1:List Int) (p2:Bool) (l2:List Int) (q2:Bool) (r2:List Int) (h1:l1.length<=1000000) (h2:r1.length<=1000000) (h3:l2.length<=1000000) (h4:r2.length<=1000000) :
  cL prog 194 [ratA p1 l1 q1 r1,ratA p2 l2 q2 r2,.bool true] S tk k=some (resQ (nQ p1 l1 q1 r1*dQ p2 l2 q2 r2+-nQ p2 l2 q2 r2*dQ p1 l1 q1 r1) (dQ p1 l1 q1 r1*dQ p2 l2 q2 r2),S,tk,k):=by
 have hA:=fun S tk k=>G7 S tk k p1 l1 q1 r1 h1 h2
 have hB:=fun S tk k=>G7 S tk k p2 l2 q2 r2 h3 h4
 have gA:=Kq p1 l1 q1 r1
 have gB:=Kq p2 l2 q2 r2
 generalize nQ p1 l1 q1 r1=a at *
 generalize dQ p1 l1 q1 r1=b at *
 generalize nQ p2 l2 q2 r2=c at *
 generalize dQ p2 l2 q2 r2=d at *
 have te:b*d≠0:=Int.mul_ne_zero (by have:=gA.pos; omega) (by have:=gB.pos; omega)
 refine opP func194 ntmps194 (hp3:=rfl) ?_
 have hK:=fun S tk k=>Me S tk k a b c d
 cases hs:smB a && smB b && smB c && smB d with
 | true =>
  rw [hs] at hK
  simp only [Bool.and_eq_true] at hs
  obtain ⟨⟨⟨s1,s2⟩,s3⟩,s4⟩:=hs
  rw [Ll s1,Ll s2,Ll s3,Ll s4] at hK
  have b0:=Tt s3
  have b1:=Gs s1 s4
  have b2:=Gs (Ahk s3) s2
  have b3:=Gs s2 s4
  have np:IntKind.i64.wrap (0 - c)=-c:=by rw [Ad (by unfold i64; omega)]; omega
  have hw1:IntKind.i64.wrap (a*d)=a*d:=Ad (by unfold i64; omega)
  have hw2:IntKind.i64.wrap (-c*b)=-c*b:=Ad (by unfold i64; omega)
  have hw3:IntKind.i64.wrap (b*d)=b*d:=Ad (by unfold i64; omega)
  have ze:IntKind.i64.wrap (a*d+-c*b)=a*d+-c*b:=Ad (by unfold i64; omega)
  have hF:=fun S tk k=>Kp S tk k (a*d+-c*b) (b*d) (by omega) (by omega) te
  rw [Ra (by omega) (by omega) te]
  simp only [qA,ratA,digA] at hA hB hK hF ⊢
  simp (maxSteps:=10^6)+contextual(disch:=try exact dqd)only[ev1,simprocAttr,AV.int,AV.bool,AV.str,results194,ratA,digA,hA,hB,hK,hF,np,hw1,hw2,hw3,ze]
 | false =>
  rw [hs] at hK
  have hO1:=fun S tk k=>Gt S tk k a
  have hO2:=fun S tk k=>Gt S tk k b
  have ua:=fun S tk k=>Gt S tk k c
  have hO4:=fun S tk k=>Gt S tk k d
  have l1:=gA.ln
  have l2:=gA.ld
  have l3:=gB.ln
  have l4:=gB.ld
  have dy:=fun S tk k=>D8 S tk k a d (by omega) (by omega)
  have ar:=fun S tk k=>D8 S tk k b d (by omega) (by omega)
  have co:=fun S tk k=>D8 S tk k c b (by omega) (by omega)
  have m1:=Hg l1 l4
  have m2:=Hg l2 l4
  have m3:=Hg l3 l2
  have m5:=Akb m3
  have hP:=fun S tk k=>Ry S tk k (a*d) (c*b) (by omega) (by omega)
  have e1:a*d - c*b=a*d+-c*b:=by rw [Int.neg_mul]; omega
  rw [e1] at hP
  rw [<- Int.neg_mul] at m5
  have m4:=Ajj (x:=a*d) (y:=-c*b) (a:=45000) (by omega) (by omega)
  have hR:=fun S tk k=>K3 S tk k (a*d+-c*b) (b*d) (by omega) (by omega) te
  simp only [zA,bigA,digA] at hO1 hO2 ua hO4 dy ar co hP hR
  simp only [resQ,qA,ratA,digA] at hA hB hK hR ⊢
  simp (maxSteps:=10^6)+contextual(disch:=try exact dqd)only[ev1,simprocAttr,AV.int,AV.bool,AV.str,results194,ratA,digA,hA,hB,hK,hO1,hO2,ua,hO4,dy,ar,co,hP,hR]
theorem Akm (p1:Bool) (l1:List Int) (q1:Bool) (r1:List Int) (p2:Bool) (l2:List Int) (q2:Bool) (r2:List Int) (h1:l1.length<=1000000) (h2:r1.length<=1000000) (h3:l2.length<=1000000) (h4:r2.length<=1000000) :
  cL prog 190 [ratA p1 l1 q1 r1,ratA p2 l2 q2 r2] S tk k=some (resQ (nQ p1 l1 q1 r1*dQ p2 l2 q2 r2+-nQ p2 l2 q2 r2*dQ p1 l1 q1 r1) (dQ p1 l1 q1 r1*dQ p2 l2 q2 r2),S,tk,k):=by
 have hJ:=fun S tk k=>Am1 S tk k p1 l1 q1 r1 p2 l2 q2 r2 h1 h2 h3 h4
 refine opP func190 ntmps190 (hp3:=rfl) ?_
 simp only [resQ,qA,ratA,digA] at hJ ⊢
 simp (maxSteps:=10^6)+contextual(disch:=try exact dqd)only[ev1,simprocAttr,AV.int,AV.bool,AV.str,results190,ratA,digA,hJ]
end
end Go.Proofs.YtcjffhadclngmaaGreat
namespace Go.Proofs.YtcjffhadclngmaaGreat
open Go
theorem Th {l:List Int} {i:Nat} {x:Int} (h:i<l.length):(l.set i x).drop i=x :: l.drop (i+1):=by
 rw [Bc (W3 h)]
 congr 1
 rw [List.drop_set]; simp
theorem Tk (n:Nat):okD (List.replicate n 0):=fun d hd=>by
 have:=(List.mem_replicate.1 hd).2; omega
structure Qs (A:Nat) (b:Int) (m:Nat) (r:Int) (out:List Int):Prop where
 len:out.length=(dig A).length
 ok:okD out
 r0:0<=r/\r<b
 eqv:val ((dig A).drop m)=val (out.drop m)*b+r
theorem Qs.start {A:Nat} {b:Int} (h:0<b):Qs A b (dig A).length 0 (List.replicate (dig A).length 0):=by
 refine ⟨by simp,Tk _,by omega,?_⟩
 rw [List.drop_length,List.drop_eq_nil_of_le (by simp)]; simp [val]
theorem Qs.step {A:Nat} {b:Int} {m:Nat} {r x:Int} {out:List Int} (h:Qs A b m r out) (hm:m≠0) (uq:m<=(dig A).length) (hx:nth (dig A) (m - 1)=some x) :
  Qs A b (m - 1) ((r*10000+x).tmod b) (out.set (m - 1) ((r*10000+x).tdiv b))/\0<=(r*10000+x).tdiv b/\(r*10000+x).tdiv b<10000/\0<=(r*10000+x).tmod b/\(r*10000+x).tmod b<b:=by
 have hr:=h.r0
 have hxk:=E2 (B4 A) hx
 have hn:0<=r*10000+x:=by omega
 have e1:(r*10000+x).tdiv b=(r*10000+x) / b:=Int.tdiv_eq_ediv_of_nonneg hn
 have e2:(r*10000+x).tmod b=(r*10000+x) % b:=Int.tmod_eq_emod_of_nonneg hn
 have m0:=Int.emod_nonneg (r*10000+x) (show b≠0 by omega)
 have m1:=Int.emod_lt_of_pos (r*10000+x) (show 0<b by omega)
 have q0:0<=(r*10000+x) / b:=Int.ediv_nonneg hn (by omega)
 have q1:(r*10000+x) / b<10000:=Int.ediv_lt_of_lt_mul (by omega) (by omega)
 have db:m - 1+1=m:=by omega
 have hlen:m - 1<out.length:=by have:=h.len; omega
 rw [e1,e2]
 refine ⟨⟨by rw [List.length_set]; exact h.len,U0 h.ok q0 q1,⟨m0,m1⟩,?_⟩,q0,q1,m0,m1⟩
 have hv:=h.eqv
 rw [Bc hx,Th hlen,val,val,db,hv]
 have hd:=Int.emod_add_mul_ediv (r*10000+x) b
 rw [Int.add_mul,Int.mul_add,<- Int.mul_assoc,Int.mul_comm ((r*10000+x) / b)]
 generalize b*((r*10000+x) / b)=t at *
 generalize (r*10000+x) % b=u at *
 rw [Int.mul_assoc]
 generalize val (out.drop m)*b=w at *
 omega
theorem Ant {A B Q R:Int} (h:A=Q*B+R) (h0:0<=R) (h1:R<B):A / B=Q/\A % B=R:=by
 have hb:0<B:=by omega
 subst h
 constructor
 ·rw [Int.add_comm,Int.add_mul_ediv_right _ _ (by omega),Int.ediv_eq_zero_of_lt h0 h1]; omega
 ·rw [Int.add_comm,Int.add_mul_emod_self_right,Int.emod_eq_of_lt h0 h1]
theorem Ajp {A B:Nat} {Q R:Int} (h:(A:Int)=Q*B+R) (h0:0<=R) (h1:R<B):Q=((A / B:Nat):Int)/\R=((A % B:Nat):Int):=by
 obtain ⟨e1,e2⟩:=Ant h h0 h1
 rw [<- e1,<- e2]; exact ⟨rfl,rfl⟩
theorem Qs.done {A B:Nat} {r:Int} {out:List Int} (h:Qs A B 0 r out):Dw out=dig (A / B)/\r.toNat=A % B:=by
 have hv:=h.eqv
 rw [List.drop_zero,List.drop_zero,Dk] at hv
 obtain ⟨e1,e2⟩:=Ajp hv h.r0.1 h.r0.2
 rw [Ei h.ok,e1]
 exact ⟨by congr 1,by omega⟩
theorem Ahp (n:Nat):((10000 ^ n:Nat):Int)=(10000:Int) ^ n:=Int.natCast_pow ..
structure Dg (a d z i:Nat) (c:Int) (out:List Int):Prop where
 len:out.length=z+i
 ok:okD out
 c0:0<=c/\c<=9999
 eqv:val out+10000 ^ (z+i)*(c+d*val ((dig a).drop i))=(a*d*10000 ^ z:Nat)
theorem Dg.start (a d z:Nat):Dg a d z 0 0 (List.replicate z 0):=by
 refine ⟨by simp,Tk _,by omega,?_⟩
 rw [Hc,List.drop_zero,Dk,Int.natCast_mul,Int.natCast_mul,Ahp,Nat.add_zero,Int.zero_add,Int.zero_add,Int.mul_comm,Int.mul_comm (a:Int)]
theorem Amt {x d:Int} (h0:0<=x) (h1:x<10000) (h2:0<=d) (h3:d<10000):0<=x*d/\x*d<=99980001:=by
 have a:=Int.mul_nonneg h0 h2
 have b:=Int.mul_le_mul (a:=x) (b:=d) (c:=9999) (d:=9999) (by omega) (by omega) h2 (by omega)
 omega
theorem Dg.step {a d z i:Nat} {c x n:Int} {out:List Int} (h:Dg a d z i c out) (hd:d<10000) (hx:nth (dig a) i=some x) (hn:n=c+x*d) :
  Dg a d z (i+1) (n.tdiv 10000) (out++[n.tmod 10000])/\0<=n/\n<=99990000:=by
 have hxk:=E2 (B4 a) hx
 have hm:=Amt hxk.1 hxk.2 (Int.natCast_nonneg d) (by omega)
 have h3:=h.c0
 have e1:n.tdiv 10000=n / 10000:=Int.tdiv_eq_ediv_of_nonneg (by omega)
 have e2:n.tmod 10000=n % 10000:=Int.tmod_eq_emod_of_nonneg (by omega)
 refine ⟨⟨by simp [h.len]; omega,Pw h.ok (by omega) (by omega),by omega,?_⟩,by omega,by omega⟩
 have hv:=h.eqv
 rw [Bc hx,val] at hv
 have e3:(d:Int)*(x+10000*val ((dig a).drop (i+1)))=x*d+10000*(d*val ((dig a).drop (i+1))):=by
  rw [Int.mul_add,Int.mul_comm (d:Int) x,<- Int.mul_assoc,Int.mul_comm (d:Int) 10000,Int.mul_assoc]
 rw [e3] at hv
 have:n.tmod 10000+10000*(n.tdiv 10000+d*val ((dig a).drop (i+1)))=c+(x*d+10000*(d*val ((dig a).drop (i+1)))):=by omega
 rw [Pu,h.len,Int.add_assoc,<- Nat.add_assoc,Lg,this]
 exact hv
theorem Dg.done {a d z i:Nat} {c:Int} {out:List Int} (h:Dg a d z i c out) (hi:(dig a).length<=i) (hc:c=0):Dw out=dig (a*d*10000 ^ z):=by
 have hv:=h.eqv
 rw [List.drop_eq_nil_of_le hi,val,hc] at hv
 rw [Ei h.ok]
 congr 1
 have e:(10000:Int) ^ (z+i)*(0+d*0)=0:=by rw [Int.mul_zero,Int.add_zero,Int.mul_zero]
 rw [e] at hv
 omega
end Go.Proofs.YtcjffhadclngmaaGreat
namespace Go.Proofs.YtcjffhadclngmaaGreat
open Go
end Go.Proofs.YtcjffhadclngmaaGreat
namespace Go.Proofs.YtcjffhadclngmaaGreat
open Go
end Go.Proofs.YtcjffhadclngmaaGreat
namespace Go.Proofs.YtcjffhadclngmaaGreat
open Go
theorem P4 {n d:Int} (hd:d≠0):(lowN n d).natAbs.gcd (lowD n d).natAbs=1:=by
 rw [Rf,show (lowD n d).natAbs=d.natAbs / n.natAbs.gcd d.natAbs from rfl]
 have hg:0<n.natAbs.gcd d.natAbs:=Nat.gcd_pos_of_pos_right _ (by omega)
 rw [Nat.gcd_div (Nat.gcd_dvd_left _ _) (Nat.gcd_dvd_right _ _)]
 exact Nat.div_self hg
theorem Nf {n d:Int} (hd:d≠0):0<lowD n d:=by
 have hg:0<n.natAbs.gcd d.natAbs:=Nat.gcd_pos_of_pos_right _ (by omega)
 have h2:n.natAbs.gcd d.natAbs<=d.natAbs:=Nat.gcd_le_right _ (by omega)
 have:=Nat.div_pos h2 hg
 unfold lowD; omega
theorem Ke {n d:Int} (hd:d≠0):lowN n d*d=n*lowD n d:=by
 have hg:0<n.natAbs.gcd d.natAbs:=Nat.gcd_pos_of_pos_right _ (by omega)
 obtain ⟨g,hgd⟩:∃ g:Nat,g=n.natAbs.gcd d.natAbs:=⟨_,rfl⟩
 have h1:(g:Int) ∣ n:=by rw [hgd]; exact Int.ofNat_dvd_left.2 (Nat.gcd_dvd_left _ _)
 have h2:(g:Int) ∣ d:=by rw [hgd]; exact Int.ofNat_dvd_left.2 (Nat.gcd_dvd_right _ _)
 obtain ⟨a,ha⟩:=h1
 obtain ⟨b,hb⟩:=h2
 have my:(g:Int)≠0:=by omega
 have hN:lowN n d=if d<0 then -a else a:=by
  unfold lowN
  rw [<- hgd]
  split
  ·rw [ha,Int.neg_tdiv,Int.mul_tdiv_cancel_left _ my]
  ·rw [ha,Int.mul_tdiv_cancel_left _ my]
 have hD:lowD n d=if d<0 then -b else b:=by
  unfold lowD
  rw [<- hgd]
  have:d.natAbs=g*b.natAbs:=by rw [hb,Int.natAbs_mul]; simp
  rw [this,Nat.mul_div_cancel_left _ (by omega)]
  have hs:d<0↔b<0:=by
   rw [hb]
   constructor
   ·intro h
    rcases Int.lt_or_le b 0 with h'|h'
    ·exact h'
    ·have:=Int.mul_nonneg (show (0:Int)<=g by omega) h'; omega
   ·intro h
    exact Int.mul_neg_of_pos_of_neg (by omega) h
  split <;> omega
 rw [hN,hD]
 generalize (g:Int)=G at *
 subst ha hb
 split
 ·rw [Int.neg_mul,Int.mul_neg,<- Int.mul_assoc,Int.mul_comm a G]
 ·rw [<- Int.mul_assoc,Int.mul_comm a G]
theorem Mx {a b c d:Int} (hb:0<b) (hd:0<d) (h1:a.natAbs.gcd b.natAbs=1) (h2:c.natAbs.gcd d.natAbs=1) (h:a*d=c*b):a=c/\b=d:=by
 have e:=congrArg Int.natAbs h
 rw [Int.natAbs_mul,Int.natAbs_mul] at e
 have k1:d.natAbs ∣ b.natAbs:=(Nat.Coprime.dvd_of_dvd_mul_left (Nat.Coprime.symm h2) ⟨a.natAbs,by rw [<- e,Nat.mul_comm]⟩)
 have k2:b.natAbs ∣ d.natAbs:=(Nat.Coprime.dvd_of_dvd_mul_left (Nat.Coprime.symm h1) ⟨c.natAbs,by rw [e,Nat.mul_comm]⟩)
 have te:b.natAbs=d.natAbs:=Nat.dvd_antisymm k2 k1
 have a2r:b=d:=by omega
 subst a2r
 exact ⟨Int.eq_of_mul_eq_mul_right (by omega) h,rfl⟩
theorem H4.low {n d:Int} (h:H4 n d):lowN n d=n/\lowD n d=d:=by
 have hd:=h.pos
 exact Mx (Nf (by omega)) hd (P4 (by omega)) h.cop (Ke (by omega))
theorem Ap0 {n d n' d':Int} (hd:d≠0) (ev:d'≠0) (h:n*d'=n'*d):lowN n d=lowN n' d'/\lowD n d=lowD n' d':=by
 refine Mx (Nf hd) (Nf ev) (P4 hd) (P4 ev) ?_
 have h1:=Ke (n:=n) hd
 have h2:=Ke (n:=n') ev
 have h3:(lowN n d*lowD n' d')*(d*d')=(lowN n' d'*lowD n d)*(d*d'):=by
  generalize lowN n d=a at *
  generalize lowD n d=b at *
  generalize lowN n' d'=a' at *
  generalize lowD n' d'=b' at *
  have e1:(a*b')*(d*d')=(n*d')*(b*b'):=by
   have:(a*b')*(d*d')=(a*d)*(b'*d'):=by grind
   rw [this,h1]; grind
  have e2:(a'*b)*(d*d')=(n'*d)*(b*b'):=by
   have:(a'*b)*(d*d')=(a'*d')*(b*d):=by grind
   rw [this,h2]; grind
  rw [e1,e2,h]
 exact Int.eq_of_mul_eq_mul_right (Int.mul_ne_zero hd ev) h3
theorem Al3 {n d n' d':Int} (hd:d≠0) (ev:d'≠0) (h:n*d'=n'*d):Gb n d=Gb n' d'/\resN n d=resN n' d'/\resD n d=resD n' d':=by
 obtain ⟨h1,h2⟩:=Ap0 hd ev h
 have hf:Gb n d=Gb n' d':=by
  unfold Gb
  rw [h1,h2]
  simp [hd,ev]
 exact ⟨hf,by unfold resN; rw [hf,h1],by unfold resD; rw [hf,h2]⟩
theorem Zj {n d:Int} (h:Gb n d=true):d≠0:=by
 unfold Gb at h
 simp at h
 exact h.1.1
theorem Aa3 {n d:Int} (h:Gb n d=true):H4 (resN n d) (resD n d):=by
 have hd:=Zj h
 unfold resN resD
 rw [h]
 simp only [if_true]
 refine ⟨Nf hd,P4 hd,?_,?_⟩
 ·unfold Gb okZ at h; simp at h; exact h.1.2
 ·unfold Gb okZ at h; simp at h; exact h.2
theorem Agl {n d:Int} (h:Gb n d=true):resN n d*d=n*resD n d:=by
 have hd:=Zj h
 unfold resN resD
 rw [h]
 exact Ke hd
theorem H4.fits {n d:Int} (h:H4 n d):Gb n d=true/\resN n d=n/\resD n d=d:=by
 obtain ⟨h1,h2⟩:=h.low
 have hf:Gb n d=true:=by
  unfold Gb okZ
  rw [h1,h2]
  have:=h.pos
  simp only [Bool.and_eq_true,Bool.not_eq_true',decide_eq_false_iff_not,decide_eq_true_eq]
  have h8:=h.ln
  have h9:=h.ld
  exact ⟨⟨by omega,by omega⟩,by omega⟩
 exact ⟨hf,by unfold resN; rw [hf,h1]; rfl,by unfold resD; rw [hf,h2]; rfl⟩
theorem Ait {n d:Int} (h:Gb n d=false):resN n d=0/\resD n d=0:=by
 unfold resN resD; rw [h]; exact ⟨rfl,rfl⟩
end Go.Proofs.YtcjffhadclngmaaGreat
namespace Go.Proofs.YtcjffhadclngmaaGreat
open Go
abbrev Q:=Int × Int
structure Fld where
 whole:Int->Q × Bool
 minus:Q->Q->Q × Bool
 times:Q->Q->Q × Bool
 over:Q->Q->Q × Bool
 ok:Q->Prop
 rat:Q->Q
 stop:Bool
def sgn (a:Q):Int:=if a.1<0 then -1 else if 0<a.1 then 1 else 0
def bigF (n d:Int):Bool:=decide (n<=-2147483648) || decide (n >= 2147483648) || decide (d >= 2147483648) || decide (d=0)
def qn (n d:Int):Q × Bool:=if bigF (lowN n d) (lowD n d)=true then ((0,1),true) else ((lowN n d,lowD n d),false)
def okS (a:Q):Prop:=-2147483648<a.1/\a.1<2147483648/\0<a.2/\a.2<2147483648
def qF:Fld where
 whole n:=if n<=-2147483648\/n >= 2147483648 then ((0,1),true) else ((n,1),false)
 minus a b:=qn (a.1*b.2 - b.1*a.2) (a.2*b.2)
 times a b:=qn (a.1*b.1) (a.2*b.2)
 over a b:=if b.1=0 then ((0,1),true) else qn (a.1*b.2) (a.2*b.1)
 ok:=okS
 rat a:=(resN a.1 a.2,resD a.1 a.2)
 stop:=true
def wn (n d:Int):Q × Bool:=((resN n d,resD n d),!Gb n d)
def qz (a:Q):Q:=if a.2=0 then (0,1) else a
def okW (a:Q):Prop:=H4 a.1 a.2\/a=(0,0)
def wF:Fld where
 whole n:=((n,1),false)
 minus a b:=wn ((qz a).1*(qz b).2+-(qz b).1*(qz a).2) ((qz a).2*(qz b).2)
 times a b:=wn ((qz a).1*(qz b).1) ((qz a).2*(qz b).2)
 over a b:=wn ((qz a).1*(qz b).2) ((qz a).2*(qz b).1)
 ok:=okW
 rat a:=a
 stop:=false
theorem Wj:H4 0 1:=⟨by decide,rfl,by decide +kernel,by decide +kernel⟩
theorem Aol {n d:Int} (h:H4 n d):qz (n,d)=(n,d):=by
 have:=h.pos
 unfold qz; rw [if_neg (by simp only; omega)]
theorem qz_n {a:Q} (h:okW a):nQ (decide (a.1<0)) (dig a.1.natAbs) (decide (a.2<0)) (dig a.2.natAbs)=(qz a).1/\dQ (decide (a.1<0)) (dig a.1.natAbs) (decide (a.2<0)) (dig a.2.natAbs)=(qz a).2:=by
 rcases h with h|rfl
 ·obtain ⟨n,d⟩:=a
  rw [Aol h]
  exact ⟨h.nQ,h.dQ⟩
 ·refine ⟨?_,?_⟩ <;> decide +kernel
theorem Lu {a:Q} (h:okW a):(dig a.1.natAbs).length<=200/\(dig a.2.natAbs).length<=200:=by
 rcases h with h|rfl
 ·exact ⟨h.ln,h.ld⟩
 ·refine ⟨?_,?_⟩ <;> decide +kernel
theorem Apl {a:Q} (h:okW a):sgn (qz a)=sgn a:=by
 rcases h with h|rfl
 ·obtain ⟨n,d⟩:=a
  rw [Aol h]
 ·rfl
theorem Am3 (n d:Int):okW (wn n d).1:=by
 unfold wn
 cases h:Gb n d with
 | true=>exact .inl (Aa3 h)
 | false=>obtain ⟨h1,h2⟩:=Ait h; rw [h1,h2]; exact .inr rfl
theorem Aci (n d:Int):0<=lowD n d:=Int.natCast_nonneg _
theorem Ajh (n d:Int):okS (qn n d).1:=by
 unfold qn bigF
 split
 ·exact ⟨by decide,by decide,by decide,by decide⟩
 ·rename_i h
  simp only [Bool.or_eq_true,decide_eq_true_eq] at h
  have:=Aci n d
  refine ⟨?_,?_,?_,?_⟩ <;> simp only <;> omega
structure Fld.Keeps (F:Fld):Prop where
 whole:∀ n,i64 n->F.ok (F.whole n).1
 minus:∀ a b,F.ok a->F.ok b->F.ok (F.minus a b).1
 times:∀ a b,F.ok a->F.ok b->F.ok (F.times a b).1
 over:∀ a b,F.ok a->F.ok b->F.ok (F.over a b).1
theorem Bz:qF.Keeps:=by
 refine ⟨fun n _=>?_,fun a b _ _=>Ajh _ _,fun a b _ _=>Ajh _ _,fun a b _ _=>?_⟩
 ·simp only [qF]
  split
  ·exact ⟨by decide,by decide,by decide,by decide⟩
  ·refine ⟨?_,?_,?_,?_⟩ <;> simp only <;> omega
 ·simp only [qF]
  split
  ·exact ⟨by decide,by decide,by decide,by decide⟩
  ·exact Ajh _ _
theorem B7:wF.Keeps:=by
 refine ⟨fun n hn=>.inl ?_,fun a b _ _=>Am3 _ _,fun a b _ _=>Am3 _ _,fun a b _ _=>Am3 _ _⟩
 simp only [wF]
 have h1:(dig (1:Int).natAbs).length<=200:=by decide +kernel
 refine ⟨by simp,by simp,?_,h1⟩
 refine Bo.2 ?_
 unfold i64 at hn
 have:n.natAbs<10000 ^ 5:=by omega
 exact Nat.lt_of_lt_of_le this (Nat.pow_le_pow_right (by omega) (by omega))
end Go.Proofs.YtcjffhadclngmaaGreat
