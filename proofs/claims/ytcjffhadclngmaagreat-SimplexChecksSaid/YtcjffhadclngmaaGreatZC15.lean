/- Shape RExt R4 R5 R6 B11 R7 R8 R9 R10 R11 R12 S1 S2 S3 J1 S7 S8 S9 PQ Q0 Q1 -/
import Derived.Test.YtcjffhadclngmaaGreatZC8
import Derived.OpenShut
import Derived.ChangeArms
import Derived.Test.YtcjffhadclngmaaGreatZC13
import Derived.Test.YtcjffhadclngmaaGreatZC14
import Derived.Test.YtcjffhadclngmaaGreatZC12
namespace Go.Proofs.YtcjffhadclngmaaGreat
open Go
inductive Sh (P:Program):TypeId→List AV→Prop
 | bool {t b} : P.underlying t=some .bool→Sh P t [.prim (.bool b)]
 | int {t k n} : P.underlying t=some (.int k)→(Lit.int k n).wf=true→Sh P t [.prim (.int k n)]
 | str {t s} : P.underlying t=some .string→s.size≤maxLen→Sh P t [.prim (.string s)]
 | slice {t e es} : P.underlying t=some (.slice e)→(∀ x ∈ es,Sh P e x)→es.length≤maxLen→Sh P t [.frz es .unk]
 | struct {t fs} {pss:List (List AV)} : P.underlying t=some (.struct fs)→pss.length=fs.size→(∀ i f p,fs[i]?=some f→nth pss i=some p→Sh P f.type p)→Sh P t pss.flatten
 | array {t n e} {pss:List (List AV)} : P.underlying t=some (.array n e)→pss.length=n→(∀ p ∈ pss,Sh P e p)→Sh P t pss.flatten
def Ti (P:Program):List Field→Nat→Nat→Bool
 | [],o,n=>o == n
 | f :: fs,o,n=>f.offset == o && Ti P fs (o+P.cellsOf f.type) n
def Aaz (P:Program) (F:List TypeId) (t:TypeId):Bool :=
 match P.underlying t with
 | some .bool=>true
 | some (.int k)=>k != .u64
 | some .string=>true
 | some (.slice e)=>F.contains e && decide (0<P.cellsOf e)
 | some (.struct fs)=>Ti P fs.toList 0 (P.cellsOf t) && fs.toList.all fun f=>F.contains f.type
 | some (.array n e)=>F.contains e && P.cellsOf t == n*P.cellsOf e
 | _=>false
def U8 (P:Program) (F:List TypeId):Bool:=F.all (Aaz P F)
def Nd:AV→Bool
 | .prim (.int k _)=>k != .u64
 | .prim _=>true
 | .frz _ _=>true
 | _=>false
theorem Ad2 {w:World} {A:Nat→Nat→Prop} {b:Nat} : ∀ (vs:List Value) (o:Nat),(∀ j v,nth vs j=some v→w.cell? ⟨b,o+j,none⟩=some v∧¬ A b (o+j))→Lie w A b o vs
 | [],_,_=>trivial
 | v :: vs,o,h=>by
  have h0:=h 0 v rfl
  refine ⟨h0.1,h0.2,Ad2 vs (o+1) fun j u hu=>?_⟩
  have:=h (j+1) u hu
  rwa [show o+(j+1)=o+1+j by omega] at this
theorem Wv {w:World} {A:Nat→Nat→Prop} {b sz:Nat} : ∀ (es:List (List AV)) (o:Nat),(∀ i e,nth es i=some e→e.length=sz∧∃ vs,Lie w A b (o+i*sz) vs∧PRs w A e vs)→B2 w A b sz o es
 | [],_,_=>by simp only [B2]
 | e :: es,o,h=>by
  simp only [B2]
  have h0:=h 0 e rfl
  rw [Nat.zero_mul,Nat.add_zero] at h0
  refine ⟨h0.1,h0.2,Wv es (o+sz) fun i f hf=>?_⟩
  have:=h (i+1) f hf
  rwa [show o+(i+1)*sz=o+sz+i*sz by rw [Nat.add_mul]; omega] at this
theorem Vx {w:World} {A:Nat→Nat→Prop} : ∀ {cs ds:List AV} {us vs:List Value},PRs w A cs us→PRs w A ds vs→PRs w A (cs++ds) (us++vs)
 | [],_,[],_,_,h=>h
 | _ :: _,_,_ :: _,_,h1,h2=>by simp only [PRs,List.cons_append] at h1 ⊢; exact ⟨h1.1,Vx h1.2 h2⟩
 | [],_,_ :: _,_,h1,_=>by simp only [PRs] at h1
 | _ :: _,_,[],_,h1,_=>by simp only [PRs] at h1
theorem Vy {w:World} {A:Nat→Nat→Prop} : ∀ {cs:List AV} {vs:List Value},PRs w A cs vs→(∀ c ∈ cs,Nd c=true)→∀ v ∈ vs,∀ n,v≠.int .u64 n
 | [],[],_,_,v,hv=>by simp at hv
 | c :: cs,x :: vs,h,hg,v,hv=>by
  simp only [PRs] at h
  rcases List.mem_cons.1 hv with rfl|hv
  ·intro n e
   subst e
   have hc:=hg c (by simp)
   have hp:=h.1
   cases c with
   | prim y=>simp only [PR] at hp; rw [← hp.1] at hc; simp [Nd] at hc
   | frz es q=>cases q <;> simp only [PR] at hp; obtain ⟨a,l,q,e,-⟩:=hp; cases e
   | _=>simp [Nd] at hc
  ·exact Vy h.2 (fun d hd=>hg d (by simp [hd])) v hv
 | [],_ :: _,h,_,_,_=>by simp only [PRs] at h
 | _ :: _,[],h,_,_,_=>by simp only [PRs] at h
theorem Vw {α β:Type} {f:α→Option β} : ∀ {l:List α} {ys:List β},l.mapM f=some ys→ys.length=l.length∧∀ i x y,nth l i=some x→nth ys i=some y→f x=some y
 | [],ys,h=>by simp at h; subst h; exact ⟨rfl,fun i x y hx=>by simp [nth] at hx⟩
 | a :: l,ys,h=>by
  rw [List.mapM_cons] at h
  simp only [Option.pure_def,Option.bind_eq_bind,Option.bind_eq_some_iff] at h
  obtain ⟨b,hb,bs,hbs,e⟩:=h
  simp only [Option.some.injEq] at e
  subst e
  obtain ⟨h1,h2⟩:=Vw hbs
  refine ⟨by simp [h1],fun i x y hx hy=>?_⟩
  cases i with
  | zero=>simp only [nth,Option.some.injEq] at hx hy; subst hx hy; exact hb
  | succ i=>exact h2 i x y hx hy
theorem Ua {n i:Nat} (h:i<n):nth (List.range n) i=some i:=by rw [Az,List.getElem?_range h]
theorem Ab6 {w:World} {b off n:Nat} {vs:List Value} (h:w.cells? 0 ⟨b,off,none⟩ n=some vs):vs.length=n∧∀ j v,nth vs j=some v→w.cell? ⟨b,off+j,none⟩=some v:=by
 unfold World.cells? at h
 rw [if_pos (Nat.zero_le _)] at h
 obtain ⟨h1,h2⟩:=Vw h
 rw [List.length_range] at h1
 refine ⟨h1,fun j v hv=>?_⟩
 have hj:j<n:=by have:=B5 hv; omega
 have:=h2 j j v (Ua hj) hv
 unfold Addr.add at this
 split at this
 ·rename_i h0; subst h0; exact this
 ·exact this
theorem spot0 {w:World} {a:Addr} {v:Value} (h:w.cell? a=some v):a.spot=none:=by
 unfold World.cell? at h
 split at h
 ·split at h
  ·cases h
  ·rename_i hs; simpa using hs
 ·cases h
section
variable {H:Type} {enc:TypeId × Value→H} {P:Program} {w:World} {sp:Nat→Bool} {held:Bool} {A:Nat→Nat→Prop} {F:List TypeId}
def Rd (P:Program) (w:World) (A:Nat→Nat→Prop) (t:TypeId) (cs:List Value) (avs:List AV):Prop:=Sh P t avs∧PRs w A avs cs∧∀ c ∈ avs,Nd c=true
theorem Rz {n:Nat} {cs:List Value} (ih:∀ t ds x,t ∈ F→DataW.trod enc P w 0 sp held n t ds=some x→∃ avs,Rd P w A t ds avs) :
  ∀ (fs:List Field) (o:Nat) (xs:List (DataW H × List MemPlace)),Ti P fs o cs.length=true→(∀ f ∈ fs,f.type ∈ F)→xs.length=fs.length →
   (∀ i f,nth fs i=some f→DataW.trod enc P w 0 sp held n f.type ((cs.drop f.offset).take (P.cellsOf f.type))=nth xs i) →
   ∃ pss:List (List AV),pss.length=fs.length∧(∀ i f p,nth fs i=some f→nth pss i=some p→Sh P f.type p)∧PRs w A pss.flatten (cs.drop o)∧∀ c ∈ pss.flatten,Nd c=true
 | [],o,xs,hc,_,_,_=>by
  simp only [Ti,beq_iff_eq] at hc
  exact ⟨[],rfl,fun i f p hf=>by simp [nth] at hf,by rw [hc,List.drop_length]; simp only [List.flatten_nil,PRs],by simp⟩
 | f :: fs,o,xs,hc,hF,hl,h=>by
  simp only [Ti,Bool.and_eq_true,beq_iff_eq] at hc
  obtain ⟨ho,hc⟩:=hc
  cases xs with
  | nil=>simp at hl
  | cons x xs =>
  have h0:=h 0 f rfl
  obtain ⟨avs,s1,p1,g1⟩:=ih _ _ _ (hF f (by simp)) h0
  obtain ⟨pss,l2,s2,p2,g2⟩:=Rz ih fs (o+P.cellsOf f.type) xs hc (fun g hg=>hF g (by simp [hg])) (by simpa using hl) fun i g hg=>h (i+1) g hg
  refine ⟨avs :: pss,by simp [l2],fun i g p hg hp=>?_,?_,?_⟩
  ·cases i with
   | zero=>simp only [nth,Option.some.injEq] at hg hp; subst hg hp; exact s1
   | succ i=>exact s2 i g p hg hp
  ·rw [ho] at p1
   have e:cs.drop o=(cs.drop o).take (P.cellsOf f.type)++cs.drop (o+P.cellsOf f.type):=by
    rw [← List.drop_drop,List.take_append_drop]
   rw [e,List.flatten_cons]
   exact Vx p1 p2
  ·intro c hc
   rw [List.flatten_cons] at hc
   rcases List.mem_append.1 hc with hc|hc
   ·exact g1 c hc
   ·exact g2 c hc
theorem W0 {n sz:Nat} {e:TypeId} {cs:List Value} (ih:∀ t ds x,t ∈ F→DataW.trod enc P w 0 sp held n t ds=some x→∃ avs,Rd P w A t ds avs) (he:e ∈ F) :
  ∀ (k o:Nat),cs.length=o+k*sz→(∀ i,i<k→∃ x,DataW.trod enc P w 0 sp held n e ((cs.drop (o+i*sz)).take sz)=some x) →
   ∃ pss:List (List AV),pss.length=k∧(∀ p ∈ pss,Sh P e p)∧PRs w A pss.flatten (cs.drop o)∧∀ c ∈ pss.flatten,Nd c=true
 | 0,o,hl,_=>⟨[],rfl,by simp,by rw [List.drop_eq_nil_of_le (by omega)]; simp only [List.flatten_nil,PRs],by simp⟩
 | k+1,o,hl,h=>by
  obtain ⟨x,h0⟩:=h 0 (by omega)
  rw [Nat.zero_mul,Nat.add_zero] at h0
  obtain ⟨avs,s1,p1,g1⟩:=ih _ _ _ he h0
  obtain ⟨pss,l2,s2,p2,g2⟩:=W0 (sz:=sz) ih he k (o+sz) (by rw [hl,Nat.add_mul]; omega) fun i hi=>by
   have:=h (i+1) (by omega)
   rwa [show o+(i+1)*sz=o+sz+i*sz by rw [Nat.add_mul]; omega] at this
  refine ⟨avs :: pss,by simp [l2],fun p hp=>?_,?_,?_⟩
  ·rcases List.mem_cons.1 hp with rfl|hp
   ·exact s1
   ·exact s2 p hp
  ·have e:cs.drop o=(cs.drop o).take sz++cs.drop (o+sz):=by rw [← List.drop_drop,List.take_append_drop]
   rw [e,List.flatten_cons]
   exact Vx p1 p2
  ·intro c hc
   rw [List.flatten_cons] at hc
   rcases List.mem_append.1 hc with hc|hc
   ·exact g1 c hc
   ·exact g2 c hc
theorem Yx (hF:U8 P F=true) (hA:∀ b o v,A b o→w.cell? ⟨b,o,none⟩=some v→∃ n,v=.int .u64 n):∀ (fuel:Nat) (t:TypeId) (cs:List Value) (x:DataW H × List MemPlace),t ∈ F→DataW.trod enc P w 0 sp held fuel t cs=some x→∃ avs,Rd P w A t cs avs
 | 0,_,_,_,_,h=>by simp [DataW.trod] at h
 | n+1,t,cs,x,ht,h=>by
  have hin:Aaz P F t=true:=List.all_eq_true.1 hF t ht
  have ih:∀ t ds x,t ∈ F→DataW.trod enc P w 0 sp held n t ds=some x→∃ avs,Rd P w A t ds avs:=fun t ds x ht h=>Yx hF hA n t ds x ht h
  unfold Aaz at hin
  split at hin
  ·rename_i hu
   obtain ⟨b,rfl,-⟩:=DataW.trod_bool hu h
   exact ⟨[.prim (.bool b)],.bool hu,by simp [PRs,PR,Value.oneCell'],by simp [Nd]⟩
  ·rename_i k hu
   obtain ⟨q,rfl,-,hw⟩:=DataW.trod_int hu h
   exact ⟨[.prim (.int k q)],.int hu hw,by simp [PRs,PR,Value.oneCell'],by simpa [Nd] using hin⟩
  ·rename_i hu
   obtain ⟨s,rfl,-,hw⟩:=DataW.trod_string hu h
   exact ⟨[.prim (.string s)],.str hu hw,by simp [PRs,PR,Value.oneCell'],by simp [Nd]⟩
  ·rename_i e hu
   simp only [Bool.and_eq_true,decide_eq_true_eq] at hin
   obtain ⟨hin,hpos⟩:=hin
   have he:e ∈ F:=by simpa using hin
   rcases DataW.trod_slice hu h with ⟨rfl,-⟩|⟨a,len,cap,elems,rest,n',hn,rfl,-,-,hl,hcap,hel,hi,-,-⟩
   ·exact ⟨[.frz [] .unk],.slice hu (by simp) (by simp),by simp only [PRs,PR,and_true]; exact ⟨none,0,0,rfl,rfl,Nat.le_refl _,.inl trivial⟩,by simp [Nd]⟩
   ·simp only [Nat.add_right_cancel_iff] at hn
    subst hn
    have hex:∀ i,i<len→∃ vs avs,w.cells? 0 (a.add (i*P.cellsOf e)) (P.cellsOf e)=some vs∧Rd P w A e vs avs:=fun i hil=>by
     have h1:=hi i hil
     rw [List.getElem?_eq_getElem (by omega)] at h1
     obtain ⟨vs,h2,h3⟩:=Option.bind_eq_some_iff.1 h1
     obtain ⟨avs,h4⟩:=ih _ _ _ he h3
     exact ⟨vs,avs,h2,h4⟩
    have hes:∃ es:List (List AV),es.length=len∧∀ i av,nth es i=some av→∃ vs,w.cells? 0 (a.add (i*P.cellsOf e)) (P.cellsOf e)=some vs∧Rd P w A e vs av:=by
     clear hi hel hl hcap h
     induction len with
     | zero=>exact ⟨[],rfl,fun i av hav=>by simp [nth] at hav⟩
     | succ len ihl =>
      obtain ⟨es,l1,l2⟩:=ihl fun i hil=>hex i (by omega)
      obtain ⟨vs,avs,h1,h2⟩:=hex len (by omega)
      refine ⟨es++[avs],by simp [l1],fun i av hav=>?_⟩
      rw [Az] at hav
      rcases Nat.lt_or_ge i len with hlt|hge
      ·rw [List.getElem?_append_left (by omega),← Az] at hav; exact l2 i av hav
      ·rw [List.getElem?_append_right (by omega),l1] at hav
       have:i - len=0:=by
        rcases Nat.eq_zero_or_pos (i - len) with h0|h0
        ·exact h0
        ·rw [List.getElem?_eq_none (by simp; omega)] at hav; cases hav
       rw [this] at hav
       have e1:i=len:=by omega
       simp only [List.getElem?_cons_zero,Option.some.injEq] at hav
       subst hav e1
       exact ⟨vs,h1,h2⟩
    obtain ⟨es,l1,l2⟩:=hes
    refine ⟨[.frz es .unk],.slice hu (fun x hx=>?_) (by omega),?_,by simp [Nd]⟩
    ·obtain ⟨i,hx⟩:=List.mem_iff_getElem?.1 hx
     obtain ⟨vs,-,h1,-⟩:=l2 i x (by rw [Az]; exact hx)
     exact h1
    ·simp only [PRs,PR,and_true]
     refine ⟨some a,len,cap,rfl,l1,hl,?_⟩
     by_cases hlen:es=[]
     ·exact .inl hlen
     right
     have hl0:0<len:=by
      rcases Nat.eq_zero_or_pos len with h0|h0
      ·rw [h0] at l1; exact absurd (List.length_eq_zero_iff.1 l1) hlen
      ·exact h0
     obtain ⟨b,off,spt⟩:=a
     have hsp:spt=none:=by
      obtain ⟨vs,avs,h1,-⟩:=hex 0 hl0
      rw [Nat.zero_mul] at h1
      unfold World.cells? at h1
      rw [if_pos (Nat.zero_le _)] at h1
      obtain ⟨h2,h3⟩:=Vw h1
      rw [List.length_range] at h2
      obtain ⟨v,hv⟩:=A6 (l:=vs) (i:=0) (by omega)
      have h4:=h3 0 0 v (Ua hpos) hv
      exact spot0 (a:=(⟨b,off,spt⟩:Addr)) h4
     subst hsp
     have hadd:∀ i,(⟨b,off,none⟩:Addr).add i=⟨b,off+i,none⟩:=fun i=>by
      unfold Addr.add
      split
      ·rename_i h0; rw [h0]; rfl
      ·rfl
     refine ⟨b,off,P.cellsOf e,rfl,Wv es off fun i av hav=>?_⟩
     obtain ⟨vs,h1,hsh,hpr,hgd⟩:=l2 i av hav
     rw [hadd] at h1
     obtain ⟨h2,h3⟩:=Ab6 h1
     refine ⟨by rw [J9 hpr,h2],vs,Ad2 vs _ fun j v hv=>⟨h3 j v hv,fun ha=>?_⟩,hpr⟩
     obtain ⟨q,hq⟩:=hA _ _ v ha (h3 j v hv)
     exact Vy hpr hgd v (List.mem_of_getElem? (by rw [Az] at hv; exact hv)) q hq
  ·rename_i fs hu
   simp only [Bool.and_eq_true] at hin
   obtain ⟨xs,n',hn,-,hlen,hxl,hi⟩:=DataW.trod_struct hu h
   simp only [Nat.add_right_cancel_iff] at hn
   subst hn
   rw [← hlen] at hin
   obtain ⟨pss,l1,l2,l3,l4⟩:=Rz ih fs.toList 0 xs hin.1 (fun f hf=>by simpa using List.all_eq_true.1 hin.2 f hf) (by simpa using hxl) fun i f hf=>by
    rw [Az] at hf ⊢
    exact hi i f (by simpa using hf)
   rw [List.drop_zero] at l3
   exact ⟨pss.flatten,.struct hu (by simpa using l1) (fun i f p hf hp=>l2 i f p (by rw [Az]; simpa using hf) hp),l3,l4⟩
  ·rename_i k e hu
   simp only [Bool.and_eq_true,beq_iff_eq] at hin
   obtain ⟨hin,hsz⟩:=hin
   have he:e ∈ F:=by simpa using hin
   obtain ⟨xs,n',hn,-,hlen,hxl,hi⟩:=DataW.trod_array hu h
   simp only [Nat.add_right_cancel_iff] at hn
   subst hn
   obtain ⟨pss,l1,l2,l3,l4⟩:=W0 (sz:=P.cellsOf e) ih he k 0 (by rw [hlen,hsz]; omega) fun i hik=>by
    have:=hi i hik
    rw [List.getElem?_eq_getElem (by omega)] at this
    rw [Nat.zero_add]
    exact ⟨_,this⟩
   rw [List.drop_zero] at l3
   exact ⟨pss.flatten,.array hu l1 l2,l3,l4⟩
  ·cases hin
theorem Afb (hF:U8 P F=true) (hA:∀ b o v,A b o→w.cell? ⟨b,o,none⟩=some v→∃ n,v=.int .u64 n) {t:TypeId} {v:Value} {d:DataW H} {p:List MemPlace} (ht:t ∈ F) (h:DataW.Trod enc P w 0 sp held t v d p):∃ avs,Sh P t avs∧PRs w A avs v.cells.toList:=by
 obtain ⟨fuel,hf⟩:=h
 obtain ⟨avs,h1,h2,-⟩:=Yx hF hA fuel t _ _ ht hf
 exact ⟨avs,h1,h2⟩
theorem Aeq {t:TypeId} {avs:List AV} (hu:P.underlying t=some .bool) (h:Sh P t avs):∃ b,avs=[.prim (.bool b)]:=by
 cases h <;> rename_i h <;> rw [hu] at h <;> cases h
 exact ⟨_,rfl⟩
theorem Ag1 {t:TypeId} {avs:List AV} (hu:P.underlying t=some .string) (h:Sh P t avs):∃ s:ByteArray,avs=[.prim (.string s)]∧s.size≤maxLen:=by
 cases h with
 | str _ h=>exact ⟨_,rfl,h⟩
 | bool h|int h|slice h|struct h|array h=>rw [hu] at h; cases h
theorem Ad1 {t:TypeId} {k:IntKind} {avs:List AV} (hu:P.underlying t=some (.int k)) (h:Sh P t avs):∃ n,avs=[.prim (.int k n)]∧(Lit.int k n).wf=true:=by
 cases h with
 | int h h'=>rw [hu] at h; cases h; exact ⟨_,rfl,h'⟩
 | bool h|str h|slice h|struct h|array h=>rw [hu] at h; cases h
theorem Wq {t e:TypeId} {avs:List AV} (hu:P.underlying t=some (.slice e)) (h:Sh P t avs):∃ es,avs=[.frz es .unk]∧(∀ x ∈ es,Sh P e x)∧es.length≤maxLen:=by
 cases h with
 | slice h h' hl=>rw [hu] at h; cases h; exact ⟨_,rfl,h',hl⟩
 | bool h|str h|int h|struct h|array h=>rw [hu] at h; cases h
theorem Yp {t:TypeId} {fs:Array Field} {avs:List AV} (hu:P.underlying t=some (.struct fs)) (h:Sh P t avs):∃ pss:List (List AV),avs=pss.flatten∧pss.length=fs.size∧∀ i f p,fs[i]?=some f→nth pss i=some p→Sh P f.type p:=by
 cases h with
 | struct h h1 h2=>rw [hu] at h; cases h; exact ⟨_,rfl,h1,h2⟩
 | bool h|str h|int h|slice h|array h=>rw [hu] at h; cases h
theorem L5 {t:TypeId} {f0 f1:Field} {avs:List AV} (hu:P.underlying t=some (.struct #[f0,f1])) (h:Sh P t avs):∃ p0 p1,avs=p0++p1∧Sh P f0.type p0∧Sh P f1.type p1:=by
 obtain ⟨pss,rfl,hl,hp⟩:=Yp hu h
 match pss,hl with
 | [p0,p1],_=>exact ⟨p0,p1,by simp,hp 0 f0 p0 rfl rfl,hp 1 f1 p1 rfl rfl⟩
theorem Aa5 {α:Type} {f:α→List AV} {Q:α→Prop} : ∀ {es:List (List AV)},(∀ x ∈ es,∃ c,x=f c∧Q c)→∃ cs:List α,es=cs.map f∧∀ c ∈ cs,Q c
 | [],_=>⟨[],rfl,by simp⟩
 | x :: es,h=>by
  obtain ⟨c,hc,hq⟩:=h x (by simp)
  obtain ⟨cs,h1,h2⟩:=Aa5 (es:=es) fun y hy=>h y (by simp [hy])
  exact ⟨c :: cs,by rw [h1,hc]; rfl,fun d hd=>by
   rcases List.mem_cons.1 hd with rfl|hd
   ·exact hq
   ·exact h2 d hd⟩
theorem Aha {C:Cx} {c:AV} {v:Value} (hv:v.cells.toList=[v]) (h:PRs C.w C.Avoid [c] v.cells.toList):VR C c v:=by
 rw [hv] at h; simp only [PRs,and_true] at h; exact Qu h
end
end Go.Proofs.YtcjffhadclngmaaGreat
namespace Go.Proofs.YtcjffhadclngmaaGreat
open Go Go.RowKit
theorem Lie.other {w:World} {A A':Nat→Nat→Prop} {b:Nat} (h:∀ o,¬ A' b o):∀ {vs:List Value} {o:Nat},Lie w A b o vs→Lie w A' b o vs
 | [],_,_=>trivial
 | _ :: _,_,⟨h1,_,h3⟩=>⟨h1,h _,Lie.other h h3⟩
theorem B2.other {w:World} {A A':Nat→Nat→Prop} {b:Nat} (h:∀ o,¬ A' b o):∀ (l:List Int) (o:Nat),B2 w A b 1 o (l.map digC)→B2 w A' b 1 o (l.map digC)
 | [],_,_=>by simp only [List.map_nil,B2]
 | x :: l,o,hr=>by
  simp only [List.map_cons,B2] at hr ⊢
  obtain ⟨h1,⟨vs,h2,h3⟩,h4⟩:=hr
  refine ⟨h1,⟨vs,h2.other h,?_⟩,B2.other h l _ h4⟩
  match vs,h3 with
  | [v],h3 =>
   simp only [digC,PRs,PR,and_true] at h3 ⊢
   exact h3
theorem Ag6 {C:Cx} (hs:SR C) {l:List Int} {c:Cap} {v:Value} (h:VR C (.frz (l.map digC) c) v):RD C.w v l:=by
 simp only [VR] at h
 obtain ⟨a,len,cap,rfl,h1,h2,-,h4⟩:=h
 simp only [RD,digA,VR]
 refine ⟨a,len,cap,rfl,h1,h2,trivial,h4.imp id ?_⟩
 rintro ⟨b,o,sz,ea,hr⟩
 exact ⟨b,o,sz,ea,B2.stays (A:=C.Avoid) (fun b' o' v hv ha=>⟨hv,Qj⟩) b sz o _ hr⟩
theorem Rv {C:Cx} (hs:SR C) {w':World} {v:Value} {l:List Int} (h:RD w' v l) (hn:NewB C.w.heap.size v):VR (C.at w') (digA l) v:=by
 obtain ⟨a,cap,rfl,h2,hc⟩:=Kf h
 by_cases hl:l=[]
 ·subst hl
  simp only [digA,List.map_nil,VR]
  exact ⟨a,0,cap,rfl,rfl,Nat.zero_le _,trivial,.inl trivial⟩
 ·simp only [RD,digA,VR] at h ⊢
  obtain ⟨a',len,cap',e,h1,h3,-,h4⟩:=h
  refine ⟨a',len,cap',e,h1,h3,trivial,.inr ?_⟩
  rcases h4 with h4|⟨b,o,sz,ea,hr⟩
  ·exact absurd (by simpa using h4) hl
  ·have hsz:sz=1:=by
    cases l with
    | nil=>exact absurd rfl hl
    | cons y l=>simp only [List.map_cons,B2,digC] at hr; exact hr.1.symm
   subst hsz
   subst ea
   have hb:=hn b o _ _ e
   exact ⟨b,o,1,rfl,B2.other (fun o' ha=>by
    rcases ha with ha|ha
    ·have:=hs.avlt b o' ha; omega
    ·have:=Aam hs (show C.Mut b o' from ha); omega) l o hr⟩
theorem Aed {C:Cx} {vs:Array Value} (hs:SR C) (l r:List Int) (c d:Cap) (hl:l=dig (val l).toNat) (hr:r=dig (val r).toNat) (hr0:r≠[]) (h1:l.length≤90000) (h2:r.length≤90000) (hv:VRs C [.frz (l.map digC) c,.frz (r.map digC) d] vs.toList) :
  Calls Tryz.prog 169 vs C.w fun e w'=>∃ v C',e=.returned v∧C'.w=w'∧Le C C'∧SR C'∧C'.S=C.S∧C'.tk=C.tk∧C'.n=C.n∧VR C' (.tup [digA (dig ((val l).toNat / (val r).toNat)),digA (dig ((val l).toNat % (val r).toNat))]) v:=by
 obtain ⟨vl⟩:=vs
 match vl,hv with
 | [x,y],hv =>
 simp only [VRs,and_true] at hv
 obtain ⟨hx,hy⟩:=hv
 have hb0:0<(val r).toNat:=by
  rcases Nat.eq_zero_or_pos (val r).toNat with h|h
  ·rw [h,Gu] at hr; exact absurd hr hr0
  ·exact h
 have hw0:0<C.w.heap.size:=by
  simp only [VR] at hy
  obtain ⟨a,len,cap,rfl,h1,h2,-,h4⟩:=hy
  rcases h4 with h4|⟨b,o,sz,rfl,hr⟩
  ·exact absurd (by simpa using h4) hr0
  ·cases r with
   | nil=>exact absurd rfl hr0
   | cons z r =>
    simp only [List.map_cons,B2,digC] at hr
    obtain ⟨-,⟨vs,hl',hp⟩,-⟩:=hr
    match vs,hp with
    | [u],_=>exact Nat.lt_of_le_of_lt (Nat.zero_le _) (E5 hl'.1)
 refine (Rw C.w x y (val l).toNat (val r).toNat hw0 (by rw [← hl]; exact Ag6 hs hx) (by rw [← hr]; exact Ag6 hs hy) hb0 (by rw [← hl]; exact h1) (by rw [← hr]; exact h2)).mono ?_
 rintro e w' ⟨v1,v2,rfl,g1,g2,hb,n1,n2⟩
 refine ⟨_,C.at w',rfl,rfl,Le.of_below hb,SR.of_below hs hb,rfl,rfl,rfl,?_⟩
 unfold VR
 refine ⟨_,rfl,?_⟩
 simp only [VRs,and_true]
 refine ⟨Rv hs g1 n1,?_⟩
 rcases n2 with ⟨rfl,e2⟩|n2
 ·rw [e2,← hl]
  have hx2:=VR.mono (Le.of_below hb) _ _ hx
  simp only [digA,VR] at hx2 ⊢
  obtain ⟨a,len,cap,q1,q2,q3,-,q4⟩:=hx2
  exact ⟨a,len,cap,q1,q2,q3,trivial,q4⟩
 ·exact Rv hs g2 n2
theorem Kx:∀ {es:List (List AV)} {l:List Int},Mi es=some l→es=l.map digC
 | [],l,h=>by simp only [Mi,Option.some.injEq] at h; subst h; rfl
 | e :: es,l,h=>by
  unfold Mi at h
  split at h
  ·rename_i he; simp at he
  ·rename_i x r he
   simp only [List.cons.injEq] at he
   obtain ⟨rfl,rfl⟩:=he
   simp only [Option.map_eq_some_iff] at h
   obtain ⟨l',h1,rfl⟩:=h
   rw [Kx h1]; rfl
  ·simp at h
theorem Ac9 {l r:List Int} {v:AV} (h:quoF l r=some v):l=dig (val l).toNat∧r=dig (val r).toNat∧r≠[]∧l.length≤90000∧r.length≤90000∧v=.tup [digA (dig ((val l).toNat / (val r).toNat)),digA (dig ((val l).toNat % (val r).toNat))]:=by
 unfold quoF at h
 split at h
 ·rename_i hh
  simp only [Option.some.injEq] at h
  exact ⟨hh.1,hh.2.1,hh.2.2.1,hh.2.2.2.1,hh.2.2.2.2,h.symm⟩
 ·simp at h
theorem V8 {args:List AV} {S:List Ent} {tk:List Nat} {n:Nat} {r:AV} {S':List Ent} {tk':List Nat} {n':Nat} (h:quoC args S tk n=some (r,S',tk',n')):∃ l y c d,args=[.frz (l.map digC) c,.frz (y.map digC) d]∧quoF l y=some r∧S'=S∧tk'=tk∧n'=n:=by
 unfold quoC at h
 split at h
 ·rename_i es c ys d
  split at h
  ·rename_i l y hl hy
   split at h
   ·rename_i v hv
    simp only [Option.some.injEq,Prod.mk.injEq] at h
    obtain ⟨rfl,rfl,rfl,rfl⟩:=h
    exact ⟨l,y,c,d,by rw [Kx hl,Kx hy],hv,rfl,rfl,rfl⟩
   ·simp at h
  ·simp at h
 ·simp at h
theorem V7 {args:List AV} {S:List Ent} {tk:List Nat} {n:Nat} {r:AV} {S':List Ent} {tk':List Nat} {n':Nat} (h:uniC args S tk n=some (r,S',tk',n')):∃ l c,args=[.frz (l.map strC) c,.frz [] .nilc]∧l.length≤1000000∧(!l.isEmpty || Nk c)=true∧r=A8 (uniS l)∧S'=S∧tk'=tk∧n'=n:=by
 unfold uniC at h
 split at h
 ·rename_i es c
  split at h
  ·rename_i l hl
   split at h
   ·rename_i hlen
    simp only [Bool.and_eq_true,decide_eq_true_eq] at hlen
    simp only [Option.some.injEq,Prod.mk.injEq] at h
    obtain ⟨rfl,rfl,rfl,rfl⟩:=h
    exact ⟨l,c,by rw [Nw hl],hlen.1,hlen.2,rfl,rfl,rfl,rfl⟩
   ·simp at h
  ·simp at h
 ·simp at h
theorem Ag9 {l y:List Int} {c d:Cap} {r:AV} (hq:quoF l y=some r) (S:List Ent) (tk:List Nat) (n:Nat):quoC [.frz (l.map digC) c,.frz (y.map digC) d] S tk n=some (r,S,tk,n):=by simp [quoC,L3,hq]
theorem Adl {l:List ByteArray} {c:Cap} (hlen:l.length≤1000000) (hc:(!l.isEmpty || Nk c)=true) (S:List Ent) (tk:List Nat) (n:Nat):uniC [.frz (l.map strC) c,.frz [] .nilc] S tk n=some (A8 (uniS l),S,tk,n):=by
 simp only [uniC,Pm]
 rw [if_pos (by rw [hc]; simpa using hlen)]
theorem Ty {f:FuncId} {args:List AV} {S:List Ent} {tk:List Nat} {n:Nat} {r:AV} {S':List Ent} {tk':List Nat} {n':Nat} (h:@extC Tryz.prog E1 f args S tk n=some (r,S',tk',n')) :
  (f=55∧uniC args S tk n=some (r,S',tk',n'))∨(f=169∧quoC args S tk n=some (r,S',tk',n')):=by
 unfold extC at h
 split at h
 ·simp only [Ext.call] at h
  split at h
  ·rename_i hf; exact .inl ⟨by simpa using hf,h⟩
  ·split at h
   ·rename_i hf; exact .inr ⟨by simpa using hf,h⟩
   ·simp at h
 ·simp at h
theorem Acg (args:List AV) (S:List Ent) (tk:List Nat) (n:Nat):@extC Tryz.prog E1 55 args S tk n=uniC args S tk n:=by
 simp [extC,Ext.on,Ext.call]
theorem Aci (args:List AV) (S:List Ent) (tk:List Nat) (n:Nat):@extC Tryz.prog E1 169 args S tk n=quoC args S tk n:=by
 simp [extC,Ext.on,Ext.call]
@[reducible] noncomputable instance E1i:Ext Tryz.prog:=E1
instance ok1:Xv Tryz.prog:={
 ok:=fun f args S tk n r S' tk' n' h=>by
  rcases Ty h with ⟨rfl,hh⟩|⟨rfl,hh⟩
  ·obtain ⟨l,c,rfl,hlen,hc,rfl,rfl,rfl,rfl⟩:=V7 hh
   refine ⟨⟨_,Tryz.func55,by decide +kernel,by decide +kernel⟩,fun C vs h1 h2 h3 hs hv=>?_⟩
   subst h1 h2 h3
   refine Abg hs l c hlen (fun e=>?_) hv
   subst e
   cases c <;> simp [Nk] at hc
   rfl
  ·obtain ⟨l,y,c,d,rfl,hq,rfl,rfl,rfl⟩:=V8 hh
   refine ⟨⟨_,Tryz.func169,by decide +kernel,by decide +kernel⟩,fun C vs h1 h2 h3 hs hv=>?_⟩
   subst h1 h2 h3
   obtain ⟨q1,q2,q3,q4,q5,rfl⟩:=Ac9 hq
   exact Aed hs l y c d q1 q2 q3 q4 q5 hv
 indep:=fun M f args S tk n r S' tk' n' h=>by
  unfold Ei at h
  split at h
  ·rename_i hp
   rcases Ty h with ⟨rfl,hh⟩|⟨rfl,hh⟩
   ·obtain ⟨l,c,rfl,hlen,hc,rfl,rfl,rfl,rfl⟩:=V7 hh
    refine ⟨rfl,rfl,.inr ⟨rfl,fun S2 tk2 n2=>?_⟩⟩
    unfold Ei
    rw [if_pos hp,Acg]
    exact Adl hlen hc S2 tk2 n2
   ·obtain ⟨l,y,c,d,rfl,hq,rfl,rfl,rfl⟩:=V8 hh
    refine ⟨rfl,rfl,.inr ⟨rfl,fun S2 tk2 n2=>?_⟩⟩
    unfold Ei
    rw [if_pos hp,Aci]
    exact Ag9 hq S2 tk2 n2
  ·simp at h }
section
variable (S:List Ent) (tk:List Nat) (k:Nat)
theorem Uw (l:List ByteArray) (c:Cap) (hlen:l.length≤1000000) (hc:(!l.isEmpty || Nk c)=true):cL Tryz.prog 55 [.frz (l.map strC) c,.frz [] .nilc] S tk k=some (A8 (uniS l),S,tk,k):=by
 refine Wb rfl ?_
 simp only [Ext.call,beq_self_eq_true,if_true]
 exact Adl hlen hc S tk k
theorem Jx (a b:Nat) (c d:Cap) (hb:0<b) (ha:(dig a).length≤90000) (hb2:(dig b).length≤90000):cL Tryz.prog 169 [.frz ((dig a).map digC) c,.frz ((dig b).map digC) d] S tk k=some (.tup [digA (dig (a / b)),digA (dig (a % b))],S,tk,k):=by
 refine Wb rfl ?_
 have e1:(val (dig a)).toNat=a:=by rw [Di]; rfl
 have e2:(val (dig b)).toNat=b:=by rw [Di]; rfl
 have hq:quoF (dig a) (dig b)=some (.tup [digA (dig (a / b)),digA (dig (a % b))]):=by
  unfold quoF
  rw [e1,e2,if_pos ⟨rfl,rfl,fun h=>by have:=K2.1 h; omega,ha,hb2⟩]
 simp [Ext.call,quoC,L3,hq]
end
end Go.Proofs.YtcjffhadclngmaaGreat
namespace Go.Proofs.YtcjffhadclngmaaGreat
open Go
theorem Ni {a n:Nat} (h:(dig a).length≤n):a<10000 ^ n:=D4.1 h
theorem Ze {a k:Nat} : topV (dig a) k≤a:=by
 have h1:val ((dig a).take k)+10000 ^ ((dig a).take k).length*val ((dig a).drop k)=a:=by
  rw [← Gm,List.take_append_drop,Di]
 have h2:=E7 (l:=(dig a).take k) fun d hd=>Dy a d (List.mem_of_mem_take hd)
 have h3:=E7 (l:=(dig a).drop k) fun d hd=>Dy a d (List.mem_of_mem_drop hd)
 have h4:val ((dig a).drop k)≤10000 ^ ((dig a).take k).length*val ((dig a).drop k):=by
  have hp:(1:Int)≤10000 ^ ((dig a).take k).length:=by
   have:=Ww ((dig a).take k).length; omega
  have:=Int.mul_le_mul_of_nonneg_right hp h3
  omega
 unfold topV
 omega
theorem Ac3 (A:List Int):topV A A.length=0:=by unfold topV; rw [List.drop_length]; rfl
section
variable (S:List Ent) (tk:List Nat) (k:Nat)
theorem Pw (a:Nat) (ha:(dig a).length≤4):cL Tryz.prog 173 [digA (dig a)] S tk k=some (.int (a:Nat),S,tk,k):=by
 have hsm:a<10000000000000000:=Ni ha
 have d3:=Qp (n:=(dig a).length) (by omega)
 refine A9 Tryz.func173 rfl rfl (by decide +kernel) (by decide +kernel) Tryz.ntmps173 rfl rfl _ _ _ rfl ?_; rw [Bs]
 simp (maxSteps:=1000000) +contextual (disch:=first|with_reducible assumption|exact ⟨rfl⟩|exact ⟨rfl,rfl⟩|exact ⟨rfl,rfl,rfl⟩|(refine _root_.id ?_; kernel_rfl)|omega) only [evs,Ad,nth,put,putT,getT,Ai,Aj,Ab,aUn,outA,resA,mapO,Aq,Ar,w1,w2,w3,bots,cond_true,cond_false,if_true,if_false,ite_true,ite_false,reduceIte,reduceCtorEq,implies_true,Nat.reduceAdd,Nat.reduceSub,AV.int,AV.bool,AV.str,Nat.reduceBEq,Nat.reduceEqDiff,Nat.reduceMul,Nat.reduceLT,Nat.reduceLeDiff,Int.reduceNeg,BEq.rfl,beq_self_eq_true,tabl,cellsOf,fldA,ldA,stA,Ak,Ao,Am,over,Ag,Value.oneCell',idxA,nilA,Aa,Ap,Ah,pure1,pure2,reps,chkA,tys,Tryz.results173,evt,Av,Au,digA,d3]
 refine loop1 (P:=Tryz.prog) (fun x st=>st.T.length=20∧(x.1≤(dig a).length)∧(x.2=((topV (dig a) x.1:Nat):Int))∧getT st.T 0=digA (dig a)∧getT st.T 3=.int x.2∧getT st.T 4=.int ((x.1:Int) - 1)∧st.S=[]) (fun x=>x.1) (fun x=>.int (a:Nat)) ((dig a).length,(0:Int)) ?_ ?_
 case refine_2=>exact ⟨rfl,Nat.le_refl _,by rw [Ac3]; rfl,rfl,rfl,rfl,rfl⟩
 rintro ⟨n,v⟩ ⟨T,S',tk',n'⟩ ⟨hl,hn,hv,e0,e3,e4,eS⟩ IH
 simp only at hn hv e0 e3 e4 eS
 subst eS
 obtain ⟨g,hg,hT⟩:=Bp hl
 rw [hg] at e0 e3 e4
 subst hT
 clear hg hl
 subst hv
 by_cases h0:n=0
 ·subst h0
  have d2:decide (((0:Nat):Int) - 1 ≥ 0)=false:=rfl
  have ht:topV (dig a) 0=a:=by unfold topV; rw [List.drop_zero,Di]; rfl
  rw [ht] at e3
  simp (maxSteps:=1000000) +contextual (disch:=first|with_reducible assumption|exact ⟨rfl⟩|exact ⟨rfl,rfl⟩|exact ⟨rfl,rfl,rfl⟩|(refine _root_.id ?_; kernel_rfl)|omega) only [evs,Ad,nth,put,putT,getT,Ai,Aj,Ab,aUn,outA,resA,mapO,Aq,Ar,w1,w2,w3,bots,cond_true,cond_false,if_true,if_false,ite_true,ite_false,reduceIte,reduceCtorEq,implies_true,Nat.reduceAdd,Nat.reduceSub,AV.int,AV.bool,AV.str,Nat.reduceBEq,Nat.reduceEqDiff,Nat.reduceMul,Nat.reduceLT,Nat.reduceLeDiff,Int.reduceNeg,BEq.rfl,beq_self_eq_true,tabl,cellsOf,fldA,ldA,stA,Ak,Ao,Am,over,Ag,Value.oneCell',idxA,nilA,Aa,Ap,Ah,pure1,pure2,reps,chkA,tys,Tryz.results173,evt,Av,Au,e0,e3,e4,d2,digA]
 ·have d2:decide ((n:Int) - 1 ≥ 0)=true:=by simp; omega
  have hi:(n:Int) - 1=((n - 1:Nat):Int):=by omega
  obtain ⟨x,hx⟩:=A6 (show n - 1<(dig a).length by omega)
  have hx':=Jp hx
  have hxk:=He (Dy a) hx
  have hst:=R8 (Dy a) hx
  rw [show n - 1+1=n by omega] at hst
  have hb1:=Ze (a:=a) (k:=n)
  have hb2:=Ze (a:=a) (k:=n - 1)
  have hp:=Qp (n:=n - 1) (by omega)
  have hw1:IntKind.i64.wrap ((topV (dig a) n:Int)*10000)=(topV (dig a) n:Int)*10000:=A0 (by unfold i64; omega)
  have hw2:IntKind.i64.wrap ((topV (dig a) n:Int)*10000+x)=((topV (dig a) (n - 1):Nat):Int):=by
   rw [A0 (by unfold i64; omega)]; omega
  rw [hi] at e4 d2
  simp (maxSteps:=1000000) +contextual (disch:=first|with_reducible assumption|exact ⟨rfl⟩|exact ⟨rfl,rfl⟩|exact ⟨rfl,rfl,rfl⟩|(refine _root_.id ?_; kernel_rfl)|omega) only [evs,Ad,nth,put,putT,getT,Ai,Aj,Ab,aUn,outA,resA,mapO,Aq,Ar,w1,w2,w3,bots,cond_true,cond_false,if_true,if_false,ite_true,ite_false,reduceIte,reduceCtorEq,implies_true,Nat.reduceAdd,Nat.reduceSub,AV.int,AV.bool,AV.str,Nat.reduceBEq,Nat.reduceEqDiff,Nat.reduceMul,Nat.reduceLT,Nat.reduceLeDiff,Int.reduceNeg,BEq.rfl,beq_self_eq_true,tabl,cellsOf,fldA,ldA,stA,Ak,Ao,Am,over,Ag,Value.oneCell',idxA,nilA,Aa,Ap,Ah,pure1,pure2,reps,chkA,tys,Tryz.results173,evt,Av,Au,e0,e3,e4,d2,digA,hx',hp,hw1,hw2]
  exact IH (n - 1,((topV (dig a) (n - 1):Nat):Int)) _ (by first|omega|(simp only; omega)) ⟨rfl,by first|omega|(dsimp only; omega),rfl,(by first|rfl|simp only [getT,List.map_append,List.map_cons,List.map_nil,digC,digA]),(by first|rfl|simp only [getT,List.map_append,List.map_cons,List.map_nil,digC,digA]),(by first|rfl|simp only [getT,List.map_append,List.map_cons,List.map_nil,digC,digA]),(by first|rfl|simp only [getT,List.map_append,List.map_cons,List.map_nil,digC,digA])⟩
theorem Yc (a:Nat) (ha:a<10000000000000000):cL Tryz.prog 171 [.int (a:Nat)] S tk k=some (digA (dig a),S,tk,k):=by
 refine A9 Tryz.func171 rfl rfl (by decide +kernel) (by decide +kernel) Tryz.ntmps171 rfl rfl _ _ _ rfl ?_; rw [Bs]
 simp (maxSteps:=1000000) +contextual (disch:=first|with_reducible assumption|exact ⟨rfl⟩|exact ⟨rfl,rfl⟩|exact ⟨rfl,rfl,rfl⟩|(refine _root_.id ?_; kernel_rfl)|omega) only [evs,Ad,nth,put,putT,getT,Ai,Aj,Ab,aUn,outA,resA,mapO,Aq,Ar,w1,w2,w3,bots,cond_true,cond_false,if_true,if_false,ite_true,ite_false,reduceIte,reduceCtorEq,implies_true,Nat.reduceAdd,Nat.reduceSub,AV.int,AV.bool,AV.str,Nat.reduceBEq,Nat.reduceEqDiff,Nat.reduceMul,Nat.reduceLT,Nat.reduceLeDiff,Int.reduceNeg,BEq.rfl,beq_self_eq_true,tabl,cellsOf,fldA,ldA,stA,Ak,Ao,Am,over,Ag,Value.oneCell',idxA,nilA,Aa,Ap,Ah,pure1,pure2,reps,chkA,tys,Tryz.results171,evt,Av,Au]
 refine loop1 (P:=Tryz.prog) (fun x st=>st.T.length=14∧(x.1≤a)∧(x.2.1++dig x.1=dig a)∧(Bx st.tk x.2.2 1=true)∧getT st.T 0=.int (x.1:Nat)∧getT st.T 3=.frz (x.2.1.map digC) x.2.2∧st.S=[]) (fun x=>x.1) (fun x=>digA (dig a)) (a,[],.nilc) ?_ ?_
 case refine_2=>exact ⟨rfl,Nat.le_refl _,rfl,rfl,rfl,rfl,rfl⟩
 rintro ⟨m,zs,cp⟩ ⟨T,S',tk',n'⟩ ⟨hl,hm,he,hok,e0,e3,eS⟩ IH
 simp only at hm he hok e0 e3 eS
 subst eS
 obtain ⟨g,hg,hT⟩:=Bp hl
 rw [hg] at e0 e3
 subst hT
 clear hg hl
 have hr:=Ly zs
 have hok':=Es hok
 have hla:(dig a).length≤4:=D4.2 ha
 have hzl:zs.length≤4:=by
  have:=congrArg List.length he
  simp at this; omega
 have hn1:(zs.map digC).length+1≤1048576:=by simp; omega
 by_cases h0:m=0
 ·subst h0
  have d1:decide (((0:Nat):Int) > 0)=false:=rfl
  rw [Gu,List.append_nil] at he
  subst he
  simp (maxSteps:=1000000) +contextual (disch:=first|with_reducible assumption|exact ⟨rfl⟩|exact ⟨rfl,rfl⟩|exact ⟨rfl,rfl,rfl⟩|(refine _root_.id ?_; kernel_rfl)|omega) only [evs,Ad,nth,put,putT,getT,Ai,Aj,Ab,aUn,outA,resA,mapO,Aq,Ar,w1,w2,w3,bots,cond_true,cond_false,if_true,if_false,ite_true,ite_false,reduceIte,reduceCtorEq,implies_true,Nat.reduceAdd,Nat.reduceSub,AV.int,AV.bool,AV.str,Nat.reduceBEq,Nat.reduceEqDiff,Nat.reduceMul,Nat.reduceLT,Nat.reduceLeDiff,Int.reduceNeg,BEq.rfl,beq_self_eq_true,tabl,cellsOf,fldA,ldA,stA,Ak,Ao,Am,over,Ag,Value.oneCell',idxA,nilA,Aa,Ap,Ah,pure1,pure2,reps,chkA,tys,Tryz.results171,evt,Av,Au,e0,e3,d1]
  rfl
 ·have d1:decide ((m:Int) > 0)=true:=by simp; omega
  have hz':¬ ((10000:Int)=0):=by omega
  have hq:IntKind.i64.wrap ((m:Int).tdiv 10000)=((m / 10000:Nat):Int):=by
   rw [Int.tdiv_eq_ediv_of_nonneg (by omega),A0 (by unfold i64; omega)]; rfl
  have hm':(m:Int).tmod 10000=((m % 10000:Nat):Int):=by rw [Int.tmod_eq_emod_of_nonneg (by omega)]; rfl
  simp (maxSteps:=1000000) +contextual (disch:=first|with_reducible assumption|exact ⟨rfl⟩|exact ⟨rfl,rfl⟩|exact ⟨rfl,rfl,rfl⟩|(refine _root_.id ?_; kernel_rfl)|omega) only [evs,Ad,nth,put,putT,getT,Ai,Aj,Ab,aUn,outA,resA,mapO,Aq,Ar,w1,w2,w3,bots,cond_true,cond_false,if_true,if_false,ite_true,ite_false,reduceIte,reduceCtorEq,implies_true,Nat.reduceAdd,Nat.reduceSub,AV.int,AV.bool,AV.str,Nat.reduceBEq,Nat.reduceEqDiff,Nat.reduceMul,Nat.reduceLT,Nat.reduceLeDiff,Int.reduceNeg,BEq.rfl,beq_self_eq_true,tabl,cellsOf,fldA,ldA,stA,Ak,Ao,Am,over,Ag,Value.oneCell',idxA,nilA,Aa,Ap,Ah,pure1,pure2,reps,chkA,tys,Tryz.results171,evt,Av,Au,e0,e3,d1,hz',hq,hm',hr]
  exact IH (m / 10000,zs++[((m % 10000:Nat):Int)],D3 tk' cp 1) _ (by first|omega|(simp only; omega)) ⟨rfl,by first|omega|(dsimp only; omega),by rw [← he,Hn h0]; simp,hok',(by first|rfl|simp only [getT,List.map_append,List.map_cons,List.map_nil,digC,digA]),(by first|rfl|simp only [getT,List.map_append,List.map_cons,List.map_nil,digC,digA]),(by first|rfl|simp only [getT,List.map_append,List.map_cons,List.map_nil,digC,digA])⟩
set_option maxRecDepth 100000 in
theorem Uj (a b:Nat) (ha:(dig a).length≤90000) (hb:(dig b).length≤90000):cL Tryz.prog 168 [digA (dig a),digA (dig b)] S tk k=some (digA (dig (a.gcd b)),S,tk,k):=by
 refine A9 Tryz.func168 rfl rfl (by decide +kernel) (by decide +kernel) Tryz.ntmps168 rfl rfl _ _ _ rfl ?_; rw [Bs]
 simp (maxSteps:=1000000) +contextual (disch:=first|with_reducible assumption|exact ⟨rfl⟩|exact ⟨rfl,rfl⟩|exact ⟨rfl,rfl,rfl⟩|(refine _root_.id ?_; kernel_rfl)|omega) only [evs,Ad,nth,put,putT,getT,Ai,Aj,Ab,aUn,outA,resA,mapO,Aq,Ar,w1,w2,w3,bots,cond_true,cond_false,if_true,if_false,ite_true,ite_false,reduceIte,reduceCtorEq,implies_true,Nat.reduceAdd,Nat.reduceSub,AV.int,AV.bool,AV.str,Nat.reduceBEq,Nat.reduceEqDiff,Nat.reduceMul,Nat.reduceLT,Nat.reduceLeDiff,Int.reduceNeg,BEq.rfl,beq_self_eq_true,tabl,cellsOf,fldA,ldA,stA,Ak,Ao,Am,over,Ag,Value.oneCell',idxA,nilA,Aa,Ap,Ah,pure1,pure2,reps,chkA,tys,Tryz.results168,evt,Av,Au,digA]
 refine loop1 (P:=Tryz.prog) (fun x st=>st.T.length=33∧(x.1.gcd x.2=a.gcd b)∧((dig x.1).length≤90000)∧((dig x.2).length≤90000)∧getT st.T 0=digA (dig x.1)∧getT st.T 1=digA (dig x.2)∧st.S=[]) (fun x=>x.2) (fun x=>digA (dig (a.gcd b))) (a,b) ?_ ?_
 case refine_2=>exact ⟨rfl,rfl,ha,hb,rfl,rfl,rfl⟩
 rintro ⟨x,y⟩ ⟨T,S',tk',n'⟩ ⟨hl,hg,hx,hy,e0,e1,eS⟩ IH
 simp only at hg hx hy e0 e1 eS
 subst eS
 obtain ⟨g,hg,hT⟩:=Bp hl
 rw [hg] at e0 e1
 subst hT
 clear hg hl
 by_cases h0:y=0
 ·subst h0
  have d1:decide ((((dig 0).length:Nat):Int) > 0)=false:=rfl
  rw [Nat.gcd_zero_right] at hg
  simp (maxSteps:=1000000) +contextual (disch:=first|with_reducible assumption|exact ⟨rfl⟩|exact ⟨rfl,rfl⟩|exact ⟨rfl,rfl,rfl⟩|(refine _root_.id ?_; kernel_rfl)|omega) only [evs,Ad,nth,put,putT,getT,Ai,Aj,Ab,aUn,outA,resA,mapO,Aq,Ar,w1,w2,w3,bots,cond_true,cond_false,if_true,if_false,ite_true,ite_false,reduceIte,reduceCtorEq,implies_true,Nat.reduceAdd,Nat.reduceSub,AV.int,AV.bool,AV.str,Nat.reduceBEq,Nat.reduceEqDiff,Nat.reduceMul,Nat.reduceLT,Nat.reduceLeDiff,Int.reduceNeg,BEq.rfl,beq_self_eq_true,tabl,cellsOf,fldA,ldA,stA,Ak,Ao,Am,over,Ag,Value.oneCell',idxA,nilA,Aa,Ap,Ah,pure1,pure2,reps,chkA,tys,Tryz.results168,evt,Av,Au,e0,e1,d1,digA]
  rw [hg]
 ·have hyl:0<(dig y).length:=List.length_pos_iff.2 fun h=>h0 (K2.1 h)
  have d1:decide (((dig y).length:Int) > 0)=true:=by simp; omega
  have hQ:=fun c d S tk k=>Jx S tk k x y c d (by omega) hx hy
  simp only [digA] at hQ
  have hlt:=Nat.mod_lt x (by omega:0<y)
  have hym:(dig (x % y)).length≤90000:=Nat.le_trans (D4.2 (Nat.lt_trans hlt (D4.1 (Nat.le_refl _)))) hy
  have hgn:y.gcd (x % y)=a.gcd b:=by rw [← hg,Nat.gcd_comm x y]; exact (Nat.gcd_rec y x).symm ▸ Nat.gcd_comm y (x % y)
  by_cases h4:(dig x).length≤4
  ·have d2:decide (((dig x).length:Int)≤4)=true:=by simp; omega
   by_cases h5:(dig y).length≤4
   ·have d3:decide (((dig y).length:Int)≤4)=true:=by simp; omega
    have hx1:x<10000000000000000:=Ni h4
    have hy1:y<10000000000000000:=Ni h5
    have hN1:=fun S tk k=>Pw S tk k x h4
    have hN2:=fun S tk k=>Pw S tk k y h5
    have hC:=fun S tk k=>told (E:=E1) (Xs S tk k x y (by omega) (by omega))
    have hD:=fun S tk k=>Yc S tk k (x.gcd y) (Nat.lt_of_le_of_lt (Nat.gcd_le_right x (by omega)) hy1)
    simp only [digA] at hN1 hN2 hD
    simp (maxSteps:=1000000) +contextual (disch:=first|with_reducible assumption|exact ⟨rfl⟩|exact ⟨rfl,rfl⟩|exact ⟨rfl,rfl,rfl⟩|(refine _root_.id ?_; kernel_rfl)|omega) only [evs,Ad,nth,put,putT,getT,Ai,Aj,Ab,aUn,outA,resA,mapO,Aq,Ar,w1,w2,w3,bots,cond_true,cond_false,if_true,if_false,ite_true,ite_false,reduceIte,reduceCtorEq,implies_true,Nat.reduceAdd,Nat.reduceSub,AV.int,AV.bool,AV.str,Nat.reduceBEq,Nat.reduceEqDiff,Nat.reduceMul,Nat.reduceLT,Nat.reduceLeDiff,Int.reduceNeg,BEq.rfl,beq_self_eq_true,tabl,cellsOf,fldA,ldA,stA,Ak,Ao,Am,over,Ag,Value.oneCell',idxA,nilA,Aa,Ap,Ah,pure1,pure2,reps,chkA,tys,Tryz.results168,evt,Av,Au,e0,e1,d1,d2,d3,digA,hN1,hN2,hC,hD]
    rw [hg]
   ·have d3:decide (((dig y).length:Int)≤4)=false:=by simp; omega
    simp (maxSteps:=1000000) +contextual (disch:=first|with_reducible assumption|exact ⟨rfl⟩|exact ⟨rfl,rfl⟩|exact ⟨rfl,rfl,rfl⟩|(refine _root_.id ?_; kernel_rfl)|omega) only [evs,Ad,nth,put,putT,getT,Ai,Aj,Ab,aUn,outA,resA,mapO,Aq,Ar,w1,w2,w3,bots,cond_true,cond_false,if_true,if_false,ite_true,ite_false,reduceIte,reduceCtorEq,implies_true,Nat.reduceAdd,Nat.reduceSub,AV.int,AV.bool,AV.str,Nat.reduceBEq,Nat.reduceEqDiff,Nat.reduceMul,Nat.reduceLT,Nat.reduceLeDiff,Int.reduceNeg,BEq.rfl,beq_self_eq_true,tabl,cellsOf,fldA,ldA,stA,Ak,Ao,Am,over,Ag,Value.oneCell',idxA,nilA,Aa,Ap,Ah,pure1,pure2,reps,chkA,tys,Tryz.results168,evt,Av,Au,e0,e1,d1,d2,d3,digA,hQ]
    exact IH (y,x % y) _ (by first|omega|(simp only; omega)) ⟨rfl,hgn,hy,hym,(by first|rfl|simp only [getT,List.map_append,List.map_cons,List.map_nil,digC,digA]),(by first|rfl|simp only [getT,List.map_append,List.map_cons,List.map_nil,digC,digA]),(by first|rfl|simp only [getT,List.map_append,List.map_cons,List.map_nil,digC,digA])⟩
  ·have d2:decide (((dig x).length:Int)≤4)=false:=by simp; omega
   simp (maxSteps:=1000000) +contextual (disch:=first|with_reducible assumption|exact ⟨rfl⟩|exact ⟨rfl,rfl⟩|exact ⟨rfl,rfl,rfl⟩|(refine _root_.id ?_; kernel_rfl)|omega) only [evs,Ad,nth,put,putT,getT,Ai,Aj,Ab,aUn,outA,resA,mapO,Aq,Ar,w1,w2,w3,bots,cond_true,cond_false,if_true,if_false,ite_true,ite_false,reduceIte,reduceCtorEq,implies_true,Nat.reduceAdd,Nat.reduceSub,AV.int,AV.bool,AV.str,Nat.reduceBEq,Nat.reduceEqDiff,Nat.reduceMul,Nat.reduceLT,Nat.reduceLeDiff,Int.reduceNeg,BEq.rfl,beq_self_eq_true,tabl,cellsOf,fldA,ldA,stA,Ak,Ao,Am,over,Ag,Value.oneCell',idxA,nilA,Aa,Ap,Ah,pure1,pure2,reps,chkA,tys,Tryz.results168,evt,Av,Au,e0,e1,d1,d2,digA,hQ]
   exact IH (y,x % y) _ (by first|omega|(simp only; omega)) ⟨rfl,hgn,hy,hym,(by first|rfl|simp only [getT,List.map_append,List.map_cons,List.map_nil,digC,digA]),(by first|rfl|simp only [getT,List.map_append,List.map_cons,List.map_nil,digC,digA]),(by first|rfl|simp only [getT,List.map_append,List.map_cons,List.map_nil,digC,digA])⟩
end
end Go.Proofs.YtcjffhadclngmaaGreat
namespace Go.Proofs.YtcjffhadclngmaaGreat
open Go
theorem Ach (n:Nat):decide (((dig n).length:Int) > 0)=!decide (dig n=[]):=by
 cases h:dig n with
 | nil=>rfl
 | cons x l=>simp
section
variable (S:List Ent) (tk:List Nat) (k:Nat)
theorem Ado (z:Int):cL Tryz.prog 167 [zA z] S tk k=some (zA z,S,tk,k):=by
 refine A9 Tryz.func167 rfl rfl (by decide +kernel) (by decide +kernel) Tryz.ntmps167 rfl rfl _ _ _ (rfl) ?_; rw [Bs]
 simp (maxSteps:=1000000) +contextual (disch:=first|with_reducible assumption|exact ⟨rfl⟩|exact ⟨rfl,rfl⟩|exact ⟨rfl,rfl,rfl⟩|(refine _root_.id ?_; kernel_rfl)|omega) only [evs,Ad,nth,put,putT,getT,Ai,Aj,Ab,aUn,outA,resA,mapO,Aq,Ar,w1,w2,w3,bots,cond_true,cond_false,if_true,if_false,ite_true,ite_false,reduceIte,reduceCtorEq,implies_true,Nat.reduceAdd,Nat.reduceSub,AV.int,AV.bool,AV.str,Nat.reduceBEq,Nat.reduceEqDiff,Nat.reduceMul,Nat.reduceLT,Nat.reduceLeDiff,Int.reduceNeg,BEq.rfl,beq_self_eq_true,tabl,cellsOf,fldA,ldA,stA,Ak,Ao,Am,over,Ag,Value.oneCell',idxA,nilA,Aa,Ap,Ah,pure1,pure2,reps,chkA,tys,Tryz.results167,evt,Av,Au,zA,bigA,digA]
end
end Go.Proofs.YtcjffhadclngmaaGreat
namespace Go.Proofs.YtcjffhadclngmaaGreat
open Go
theorem Al (f:FuncId) (h:mvF0 f=false):Ext.mv Tryz.prog f=false:=h
theorem iq1:((-1:Int) == 1)=false:=rfl
theorem iq2:((0:Int) == 1)=false:=rfl
theorem iq3:((0:Int) == -1)=false:=rfl
theorem iq4:((1:Int) == 1)=true:=rfl
theorem iq5:((-1:Int) == -1)=true:=rfl
section
variable (S:List Ent) (tk:List Nat) (k:Nat)
theorem Q7 (l:List Int) (c:Cap) (hlen:l.length≤1048576):cL Tryz.prog 170 [.frz (l.map digC) c] S tk k=some (digA l,S,tk,k):=by
 have hr:=fun cs=>Hv (f:=digC) (sz:=1) (fun _=>rfl) cs
 cases l with
 | nil =>
  simp only [List.map_nil]
  refine Ue Tryz.func170 rfl rfl (by decide +kernel) (by decide +kernel) Tryz.ntmps170 rfl rfl _ _ _ ?_ ?_ <;> rw [Bs]
  ·simp (maxSteps:=1000000) +contextual (disch:=first|with_reducible assumption|exact ⟨rfl⟩|exact ⟨rfl,rfl⟩|exact ⟨rfl,rfl,rfl⟩|(refine _root_.id ?_; kernel_rfl)|omega) only [evs,Ad,nth,put,putT,getT,Ai,Aj,Ab,aUn,outA,resA,mapO,Aq,Ar,w1,w2,w3,bots,cond_true,cond_false,if_true,if_false,ite_true,ite_false,reduceIte,reduceCtorEq,implies_true,Nat.reduceAdd,Nat.reduceSub,AV.int,AV.bool,AV.str,Nat.reduceBEq,Nat.reduceEqDiff,Nat.reduceMul,Nat.reduceLT,Nat.reduceLeDiff,Int.reduceNeg,BEq.rfl,beq_self_eq_true,tabl,cellsOf,fldA,ldA,stA,Ak,Ao,Am,over,Ag,Value.oneCell',idxA,nilA,Aa,Ap,Ah,pure1,pure2,reps,chkA,tys,Tryz.results170,evt,Av,Au,Al,iq1,iq2,iq3,iq4,iq5,Qx,digA]
  ·simp (maxSteps:=1000000) +contextual (disch:=first|with_reducible assumption|exact ⟨rfl⟩|exact ⟨rfl,rfl⟩|exact ⟨rfl,rfl,rfl⟩|(refine _root_.id ?_; kernel_rfl)|omega) only [evs,Ad,nth,put,putT,getT,Ai,Aj,Ab,aUn,outA,resA,mapO,Aq,Ar,w1,w2,w3,bots,cond_true,cond_false,if_true,if_false,ite_true,ite_false,reduceIte,reduceCtorEq,implies_true,Nat.reduceAdd,Nat.reduceSub,AV.int,AV.bool,AV.str,Nat.reduceBEq,Nat.reduceEqDiff,Nat.reduceMul,Nat.reduceLT,Nat.reduceLeDiff,Int.reduceNeg,BEq.rfl,beq_self_eq_true,tabl,cellsOf,fldA,ldA,stA,Ak,Ao,Am,over,Ag,Value.oneCell',idxA,nilA,Aa,Ap,Ah,pure1,pure2,reps,chkA,tys,Tryz.results170,evt,Av,Au,Al,iq1,iq2,iq3,iq4,iq5,Qx,digA]
 | cons x l =>
  simp only [List.map_cons]
  refine Qw Tryz.func170 rfl rfl (by decide +kernel) (by decide +kernel) Tryz.ntmps170 rfl rfl _ _ _ rfl ?_; rw [Bs]
  have hr':=hr (x :: l)
  simp only [List.map_cons] at hr'
  have hl:([]:List (List AV)).length+(digC x :: l.map digC).length≤1048576:=by simp at hlen ⊢; omega
  simp (maxSteps:=1000000) +contextual (disch:=first|with_reducible assumption|exact ⟨rfl⟩|exact ⟨rfl,rfl⟩|exact ⟨rfl,rfl,rfl⟩|(refine _root_.id ?_; kernel_rfl)|omega) only [evs,Ad,nth,put,putT,getT,Ai,Aj,Ab,aUn,outA,resA,mapO,Aq,Ar,w1,w2,w3,bots,cond_true,cond_false,if_true,if_false,ite_true,ite_false,reduceIte,reduceCtorEq,implies_true,Nat.reduceAdd,Nat.reduceSub,AV.int,AV.bool,AV.str,Nat.reduceBEq,Nat.reduceEqDiff,Nat.reduceMul,Nat.reduceLT,Nat.reduceLeDiff,Int.reduceNeg,BEq.rfl,beq_self_eq_true,tabl,cellsOf,fldA,ldA,stA,Ak,Ao,Am,over,Ag,Value.oneCell',idxA,nilA,Aa,Ap,Ah,pure1,pure2,reps,chkA,tys,Tryz.results170,evt,Av,Au,Al,iq1,iq2,iq3,iq4,iq5,Qx,digA,hr']
end
end Go.Proofs.YtcjffhadclngmaaGreat
namespace Go.Proofs.YtcjffhadclngmaaGreat
open Go
theorem Qq {n:Int} (h0:0≤n) (h1:n<18446744073709551616):IntKind.u64.wrap n=n:=by
 have e:(n.toNat:Int)=n:=by omega
 rw [← e]
 exact Go.IntWalk.u64_in _ (by omega)
theorem uwrap (n:Int):IntKind.u64.wrap n=n % 18446744073709551616:=by
 simp [IntKind.wrap,IntKind.bits,IntKind.signed]
theorem Z5 {n:Nat} (h:n<10000000000000000000):(dig n).length≤5:=D4.2 (Nat.lt_of_lt_of_le h (by decide))
theorem Abd {u N:Nat} {out:List Int} (he:out++dig u=dig N) (h:u≠0):(out++[((u % 10000:Nat):Int)])++dig (u / 10000)=dig N:=by
 rw [← he,Hn h]; simp
theorem Ad0 {u N:Nat} {out:List Int} (he:out++dig u=dig N) (hN:N<10000000000000000000):out.length≤5:=by
 have:=Z5 hN
 rw [← he] at this; simp at this; omega
theorem Zj {N:Nat} {out:List Int} (he:out++dig 0=dig N):out=dig N:=by rw [← he,Gu,List.append_nil]
section
variable (S:List Ent) (tk:List Nat) (k:Nat)
set_option maxRecDepth 100000 in
theorem V2 (n:Int) (hn:i64 n):cL Tryz.prog 62 [.int n] S tk k=some (zA n,S,tk,k):=by
 refine A9 Tryz.func62 rfl rfl (by decide +kernel) (by decide +kernel) Tryz.ntmps62 rfl rfl _ _ _ (rfl) ?_; rw [Bs]
 have hn':=hn
 unfold i64 at hn'
 have hN:n.natAbs<10000000000000000000:=by omega
 cases d0:decide (n<0) with
 | true =>
  simp only [decide_eq_true_eq] at d0
  have d0':decide (n<0)=true:=by simpa using d0
  have q0:IntKind.u64.wrap (0 - IntKind.u64.wrap n)=((n.natAbs:Nat):Int):=by rw [uwrap,uwrap]; omega
  simp (maxSteps:=1000000) +contextual (disch:=first|with_reducible assumption|exact ⟨rfl⟩|exact ⟨rfl,rfl⟩|exact ⟨rfl,rfl,rfl⟩|(refine _root_.id ?_; kernel_rfl)|omega) only [evs,Ad,nth,put,putT,getT,Ai,Aj,Ab,aUn,outA,resA,mapO,Aq,Ar,w1,w2,w3,bots,cond_true,cond_false,if_true,if_false,ite_true,ite_false,reduceIte,reduceCtorEq,implies_true,Nat.reduceAdd,Nat.reduceSub,AV.int,AV.bool,AV.str,Nat.reduceBEq,Nat.reduceEqDiff,Nat.reduceMul,Nat.reduceLT,Nat.reduceLeDiff,Int.reduceNeg,BEq.rfl,beq_self_eq_true,tabl,cellsOf,fldA,ldA,stA,Ak,Ao,Am,over,Ag,Value.oneCell',idxA,nilA,Aa,Ap,Ah,pure1,pure2,reps,chkA,tys,Tryz.results62,evt,Av,Au,d0',q0]
  refine loop1 (P:=Tryz.prog) (fun x st=>st.T.length=25∧(x.1≤n.natAbs)∧(x.2.1++dig x.1=dig n.natAbs)∧(Bx st.tk x.2.2 1=true)∧getT st.T 0=.int n∧getT st.T 2=.ref 0 0 0∧getT st.T 3=.prim (.int .u64 (x.1:Nat))∧getT st.T 4=.frz (x.2.1.map digC) x.2.2∧st.S=[⟨0,[.bool false,.frz [] .nilc]⟩]) (fun x=>x.1) (fun x=>zA n) (n.natAbs,[],.nilc) ?_ ?_
  case refine_2=>exact ⟨rfl,Nat.le_refl _,rfl,rfl,rfl,rfl,rfl,rfl,rfl⟩
  rintro ⟨u,out,c⟩ ⟨T,S',tk',n'⟩ ⟨hl,hu,he,hok,e0,e2,e3,e4,eS⟩ IH
  simp only at hu he hok e0 e2 e3 e4 eS
  subst eS
  obtain ⟨g,hg,hT⟩:=Bp hl
  rw [hg] at e0 e2 e3 e4
  subst hT
  clear hg hl
  have hlen:=Ad0 he hN
  have hr:=Ly out
  have hok':=Es hok
  by_cases h0:u=0
  ·have d1:decide ((u:Int) > 0)=false:=by simp; omega
   subst h0
   have hd:=Zj he
   subst hd
   cases d2:decide (n<0) with
   | true =>
    simp (maxSteps:=1000000) +contextual (disch:=first|with_reducible assumption|exact ⟨rfl⟩|exact ⟨rfl,rfl⟩|exact ⟨rfl,rfl,rfl⟩|(refine _root_.id ?_; kernel_rfl)|omega) only [evs,Ad,nth,put,putT,getT,Ai,Aj,Ab,aUn,outA,resA,mapO,Aq,Ar,w1,w2,w3,bots,cond_true,cond_false,if_true,if_false,ite_true,ite_false,reduceIte,reduceCtorEq,implies_true,Nat.reduceAdd,Nat.reduceSub,AV.int,AV.bool,AV.str,Nat.reduceBEq,Nat.reduceEqDiff,Nat.reduceMul,Nat.reduceLT,Nat.reduceLeDiff,Int.reduceNeg,BEq.rfl,beq_self_eq_true,tabl,cellsOf,fldA,ldA,stA,Ak,Ao,Am,over,Ag,Value.oneCell',idxA,nilA,Aa,Ap,Ah,pure1,pure2,reps,chkA,tys,Tryz.results62,evt,Av,Au,e0,e2,e3,e4,d1,d2]
    simp [zA,bigA,digA,d2]
   | false =>
    simp (maxSteps:=1000000) +contextual (disch:=first|with_reducible assumption|exact ⟨rfl⟩|exact ⟨rfl,rfl⟩|exact ⟨rfl,rfl,rfl⟩|(refine _root_.id ?_; kernel_rfl)|omega) only [evs,Ad,nth,put,putT,getT,Ai,Aj,Ab,aUn,outA,resA,mapO,Aq,Ar,w1,w2,w3,bots,cond_true,cond_false,if_true,if_false,ite_true,ite_false,reduceIte,reduceCtorEq,implies_true,Nat.reduceAdd,Nat.reduceSub,AV.int,AV.bool,AV.str,Nat.reduceBEq,Nat.reduceEqDiff,Nat.reduceMul,Nat.reduceLT,Nat.reduceLeDiff,Int.reduceNeg,BEq.rfl,beq_self_eq_true,tabl,cellsOf,fldA,ldA,stA,Ak,Ao,Am,over,Ag,Value.oneCell',idxA,nilA,Aa,Ap,Ah,pure1,pure2,reps,chkA,tys,Tryz.results62,evt,Av,Au,e0,e2,e3,e4,d1,d2]
    simp [zA,bigA,digA,d2]
  ·have d1:decide ((u:Int) > 0)=true:=by simp; omega
   have hz':¬ ((10000:Int)=0):=by omega
   have hn1:(out.map digC).length+1≤1048576:=by simp; omega
   have q1:(u:Int).tmod 10000=((u % 10000:Nat):Int):=by
    rw [Int.tmod_eq_emod_of_nonneg (by omega)]; omega
   have q2:IntKind.i64.wrap ((u % 10000:Nat):Int)=((u % 10000:Nat):Int):=A0 (by unfold i64; omega)
   have q3:IntKind.u64.wrap ((u:Int).tdiv 10000)=((u / 10000:Nat):Int):=by
    rw [Int.tdiv_eq_ediv_of_nonneg (by omega),Qq (by omega) (by omega)]; omega
   have hs:=Abd he h0
   simp (maxSteps:=1000000) +contextual (disch:=first|with_reducible assumption|exact ⟨rfl⟩|exact ⟨rfl,rfl⟩|exact ⟨rfl,rfl,rfl⟩|(refine _root_.id ?_; kernel_rfl)|omega) only [evs,Ad,nth,put,putT,getT,Ai,Aj,Ab,aUn,outA,resA,mapO,Aq,Ar,w1,w2,w3,bots,cond_true,cond_false,if_true,if_false,ite_true,ite_false,reduceIte,reduceCtorEq,implies_true,Nat.reduceAdd,Nat.reduceSub,AV.int,AV.bool,AV.str,Nat.reduceBEq,Nat.reduceEqDiff,Nat.reduceMul,Nat.reduceLT,Nat.reduceLeDiff,Int.reduceNeg,BEq.rfl,beq_self_eq_true,tabl,cellsOf,fldA,ldA,stA,Ak,Ao,Am,over,Ag,Value.oneCell',idxA,nilA,Aa,Ap,Ah,pure1,pure2,reps,chkA,tys,Tryz.results62,evt,Av,Au,e0,e2,e3,e4,d1,hz',q1,q2,q3,hr]
   exact IH (u / 10000,out++[((u % 10000:Nat):Int)],D3 tk' c 1) _ (by first|omega|(simp only; omega)) ⟨rfl,by first|omega|(dsimp only; omega),hs,hok',(by first|rfl|simp only [getT,List.map_append,List.map_cons,List.map_nil,digC,digA]),(by first|rfl|simp only [getT,List.map_append,List.map_cons,List.map_nil,digC,digA]),(by first|rfl|simp only [getT,List.map_append,List.map_cons,List.map_nil,digC,digA]),(by first|rfl|simp only [getT,List.map_append,List.map_cons,List.map_nil,digC,digA]),(by first|rfl|simp only [getT,List.map_append,List.map_cons,List.map_nil,digC,digA])⟩
 | false =>
  simp only [decide_eq_false_iff_not] at d0
  have d0':decide (n<0)=false:=by simpa using d0
  have q0:IntKind.u64.wrap n=((n.natAbs:Nat):Int):=by rw [Qq (by omega) (by omega)]; omega
  simp (maxSteps:=1000000) +contextual (disch:=first|with_reducible assumption|exact ⟨rfl⟩|exact ⟨rfl,rfl⟩|exact ⟨rfl,rfl,rfl⟩|(refine _root_.id ?_; kernel_rfl)|omega) only [evs,Ad,nth,put,putT,getT,Ai,Aj,Ab,aUn,outA,resA,mapO,Aq,Ar,w1,w2,w3,bots,cond_true,cond_false,if_true,if_false,ite_true,ite_false,reduceIte,reduceCtorEq,implies_true,Nat.reduceAdd,Nat.reduceSub,AV.int,AV.bool,AV.str,Nat.reduceBEq,Nat.reduceEqDiff,Nat.reduceMul,Nat.reduceLT,Nat.reduceLeDiff,Int.reduceNeg,BEq.rfl,beq_self_eq_true,tabl,cellsOf,fldA,ldA,stA,Ak,Ao,Am,over,Ag,Value.oneCell',idxA,nilA,Aa,Ap,Ah,pure1,pure2,reps,chkA,tys,Tryz.results62,evt,Av,Au,d0',q0]
  refine loop1 (P:=Tryz.prog) (fun x st=>st.T.length=25∧(x.1≤n.natAbs)∧(x.2.1++dig x.1=dig n.natAbs)∧(Bx st.tk x.2.2 1=true)∧getT st.T 0=.int n∧getT st.T 2=.ref 0 0 0∧getT st.T 3=.prim (.int .u64 (x.1:Nat))∧getT st.T 4=.frz (x.2.1.map digC) x.2.2∧st.S=[⟨0,[.bool false,.frz [] .nilc]⟩]) (fun x=>x.1) (fun x=>zA n) (n.natAbs,[],.nilc) ?_ ?_
  case refine_2=>exact ⟨rfl,Nat.le_refl _,rfl,rfl,rfl,rfl,rfl,rfl,rfl⟩
  rintro ⟨u,out,c⟩ ⟨T,S',tk',n'⟩ ⟨hl,hu,he,hok,e0,e2,e3,e4,eS⟩ IH
  simp only at hu he hok e0 e2 e3 e4 eS
  subst eS
  obtain ⟨g,hg,hT⟩:=Bp hl
  rw [hg] at e0 e2 e3 e4
  subst hT
  clear hg hl
  have hlen:=Ad0 he hN
  have hr:=Ly out
  have hok':=Es hok
  by_cases h0:u=0
  ·have d1:decide ((u:Int) > 0)=false:=by simp; omega
   subst h0
   have hd:=Zj he
   subst hd
   cases d2:decide (n<0) with
   | true =>
    simp (maxSteps:=1000000) +contextual (disch:=first|with_reducible assumption|exact ⟨rfl⟩|exact ⟨rfl,rfl⟩|exact ⟨rfl,rfl,rfl⟩|(refine _root_.id ?_; kernel_rfl)|omega) only [evs,Ad,nth,put,putT,getT,Ai,Aj,Ab,aUn,outA,resA,mapO,Aq,Ar,w1,w2,w3,bots,cond_true,cond_false,if_true,if_false,ite_true,ite_false,reduceIte,reduceCtorEq,implies_true,Nat.reduceAdd,Nat.reduceSub,AV.int,AV.bool,AV.str,Nat.reduceBEq,Nat.reduceEqDiff,Nat.reduceMul,Nat.reduceLT,Nat.reduceLeDiff,Int.reduceNeg,BEq.rfl,beq_self_eq_true,tabl,cellsOf,fldA,ldA,stA,Ak,Ao,Am,over,Ag,Value.oneCell',idxA,nilA,Aa,Ap,Ah,pure1,pure2,reps,chkA,tys,Tryz.results62,evt,Av,Au,e0,e2,e3,e4,d1,d2]
    simp [zA,bigA,digA,d2]
   | false =>
    simp (maxSteps:=1000000) +contextual (disch:=first|with_reducible assumption|exact ⟨rfl⟩|exact ⟨rfl,rfl⟩|exact ⟨rfl,rfl,rfl⟩|(refine _root_.id ?_; kernel_rfl)|omega) only [evs,Ad,nth,put,putT,getT,Ai,Aj,Ab,aUn,outA,resA,mapO,Aq,Ar,w1,w2,w3,bots,cond_true,cond_false,if_true,if_false,ite_true,ite_false,reduceIte,reduceCtorEq,implies_true,Nat.reduceAdd,Nat.reduceSub,AV.int,AV.bool,AV.str,Nat.reduceBEq,Nat.reduceEqDiff,Nat.reduceMul,Nat.reduceLT,Nat.reduceLeDiff,Int.reduceNeg,BEq.rfl,beq_self_eq_true,tabl,cellsOf,fldA,ldA,stA,Ak,Ao,Am,over,Ag,Value.oneCell',idxA,nilA,Aa,Ap,Ah,pure1,pure2,reps,chkA,tys,Tryz.results62,evt,Av,Au,e0,e2,e3,e4,d1,d2]
    simp [zA,bigA,digA,d2]
  ·have d1:decide ((u:Int) > 0)=true:=by simp; omega
   have hz':¬ ((10000:Int)=0):=by omega
   have hn1:(out.map digC).length+1≤1048576:=by simp; omega
   have q1:(u:Int).tmod 10000=((u % 10000:Nat):Int):=by
    rw [Int.tmod_eq_emod_of_nonneg (by omega)]; omega
   have q2:IntKind.i64.wrap ((u % 10000:Nat):Int)=((u % 10000:Nat):Int):=A0 (by unfold i64; omega)
   have q3:IntKind.u64.wrap ((u:Int).tdiv 10000)=((u / 10000:Nat):Int):=by
    rw [Int.tdiv_eq_ediv_of_nonneg (by omega),Qq (by omega) (by omega)]; omega
   have hs:=Abd he h0
   simp (maxSteps:=1000000) +contextual (disch:=first|with_reducible assumption|exact ⟨rfl⟩|exact ⟨rfl,rfl⟩|exact ⟨rfl,rfl,rfl⟩|(refine _root_.id ?_; kernel_rfl)|omega) only [evs,Ad,nth,put,putT,getT,Ai,Aj,Ab,aUn,outA,resA,mapO,Aq,Ar,w1,w2,w3,bots,cond_true,cond_false,if_true,if_false,ite_true,ite_false,reduceIte,reduceCtorEq,implies_true,Nat.reduceAdd,Nat.reduceSub,AV.int,AV.bool,AV.str,Nat.reduceBEq,Nat.reduceEqDiff,Nat.reduceMul,Nat.reduceLT,Nat.reduceLeDiff,Int.reduceNeg,BEq.rfl,beq_self_eq_true,tabl,cellsOf,fldA,ldA,stA,Ak,Ao,Am,over,Ag,Value.oneCell',idxA,nilA,Aa,Ap,Ah,pure1,pure2,reps,chkA,tys,Tryz.results62,evt,Av,Au,e0,e2,e3,e4,d1,hz',q1,q2,q3,hr]
   exact IH (u / 10000,out++[((u % 10000:Nat):Int)],D3 tk' c 1) _ (by first|omega|(simp only; omega)) ⟨rfl,by first|omega|(dsimp only; omega),hs,hok',(by first|rfl|simp only [getT,List.map_append,List.map_cons,List.map_nil,digC,digA]),(by first|rfl|simp only [getT,List.map_append,List.map_cons,List.map_nil,digC,digA]),(by first|rfl|simp only [getT,List.map_append,List.map_cons,List.map_nil,digC,digA]),(by first|rfl|simp only [getT,List.map_append,List.map_cons,List.map_nil,digC,digA]),(by first|rfl|simp only [getT,List.map_append,List.map_cons,List.map_nil,digC,digA])⟩
end
end Go.Proofs.YtcjffhadclngmaaGreat
namespace Go.Proofs.YtcjffhadclngmaaGreat
open Go
def ratA (p:Bool) (l:List Int) (q:Bool) (r:List Int):AV:=.agg [.prim (.bool p),digA l,.prim (.bool q),digA r]
def qA (n d:Int):AV:=ratA (decide (n<0)) (dig n.natAbs) (decide (d<0)) (dig d.natAbs)
def lowN (n d:Int):Int:=(if d<0 then -n else n).tdiv ((n.natAbs.gcd d.natAbs:Nat):Int)
def lowD (n d:Int):Int:=((d.natAbs / n.natAbs.gcd d.natAbs:Nat):Int)
section
variable (S:List Ent) (tk:List Nat) (k:Nat)
theorem Z2 (n:Int) (hn:i64 n):cL Tryz.prog 34 [.int n] S tk k=some (qA n 1,S,tk,k):=by
 refine A9 Tryz.func34 rfl rfl (by decide +kernel) (by decide +kernel) Tryz.ntmps34 rfl rfl _ _ _ (rfl) ?_; rw [Bs]
 have h1:=fun S tk k=>V2 S tk k n hn
 have h2:=fun S tk k=>V2 S tk k 1 (by unfold i64; omega)
 simp only [zA,bigA,digA] at h1 h2
 simp (maxSteps:=1000000) +contextual (disch:=first|with_reducible assumption|exact ⟨rfl⟩|exact ⟨rfl,rfl⟩|exact ⟨rfl,rfl,rfl⟩|(refine _root_.id ?_; kernel_rfl)|omega) only [evs,Ad,nth,put,putT,getT,Ai,Aj,Ab,aUn,outA,resA,mapO,Aq,Ar,w1,w2,w3,bots,cond_true,cond_false,if_true,if_false,ite_true,ite_false,reduceIte,reduceCtorEq,implies_true,Nat.reduceAdd,Nat.reduceSub,AV.int,AV.bool,AV.str,Nat.reduceBEq,Nat.reduceEqDiff,Nat.reduceMul,Nat.reduceLT,Nat.reduceLeDiff,Int.reduceNeg,BEq.rfl,beq_self_eq_true,tabl,cellsOf,fldA,ldA,stA,Ak,Ao,Am,over,Ag,Value.oneCell',idxA,nilA,Aa,Ap,Ah,pure1,pure2,reps,chkA,tys,Tryz.results34,evt,Av,Au,Al,qA,ratA,digA,h1,h2]
end
end Go.Proofs.YtcjffhadclngmaaGreat
namespace Go.Proofs.YtcjffhadclngmaaGreat
open Go
theorem Py {p:Bool} {l:List Int} (h:Gl p l=true):p=decide (V p l<0)∧l=dig (V p l).natAbs:=by
 have ha:=Ag5 p l
 rw [if_pos h] at ha
 refine ⟨?_,ha.symm⟩
 have hs:=V_sg p l
 cases p with
 | false =>
  have:¬ V false l<0:=by rw [hs]; simp [sg]
  simp [this]
 | true =>
  have hl:l≠[]:=fun e=>by subst e; simp [Gl] at h
  have h0:(V true l).natAbs≠0:=fun e=>by rw [e,Gu] at ha; exact hl ha.symm
  have:V true l<0:=by rw [hs]; simp only [sg,if_true]; omega
  simp [this]
end Go.Proofs.YtcjffhadclngmaaGreat
namespace Go.Proofs.YtcjffhadclngmaaGreat
open Go
structure Yq (n d:Int):Prop where
 pos:0<d
 cop:n.natAbs.gcd d.natAbs=1
 ln:(dig n.natAbs).length≤200
 ld:(dig d.natAbs).length≤200
def Q8 (n d:Int):Bool:=!decide (d=0) && okZ (lowN n d) && okZ (lowD n d)
def resN (n d:Int):Int:=if Q8 n d=true then lowN n d else 0
def resD (n d:Int):Int:=if Q8 n d=true then lowD n d else 0
def resQ (n d:Int):AV:=.tup [qA (resN n d) (resD n d),.bool (Q8 n d)]
theorem Ur (n d:Int):(lowN n d).natAbs=n.natAbs / n.natAbs.gcd d.natAbs:=by
 unfold lowN
 rw [Int.natAbs_tdiv]
 split <;> simp <;> rfl
theorem Adg (n d:Int) (hd:d≠0):(decide (n<0) != decide (d<0) && !decide (dig (n.natAbs / n.natAbs.gcd d.natAbs)=[]))=decide (lowN n d<0):=by
 have ha:=Ur n d
 have hg0:0<n.natAbs.gcd d.natAbs:=Nat.gcd_pos_of_pos_right _ (by omega)
 have hz:dig (n.natAbs / n.natAbs.gcd d.natAbs)=[]↔lowN n d=0:=by rw [K2,← ha]; omega
 have hsg:∀ x:Int,0≤x→0≤x.tdiv ((n.natAbs.gcd d.natAbs:Nat):Int):=fun x hx=>Int.tdiv_nonneg hx (by omega)
 have hneg:∀ x:Int,x≤0→x.tdiv ((n.natAbs.gcd d.natAbs:Nat):Int)≤0:=fun x hx=>by
  have h1:=hsg (-x) (by omega)
  rw [Int.neg_tdiv] at h1
  omega
 rw [Bool.eq_iff_iff]
 simp only [Bool.and_eq_true,bne_iff_ne,ne_eq,decide_eq_decide,Bool.not_eq_true',decide_eq_false_iff_not,decide_eq_true_eq,hz]
 by_cases h:d<0
 ·have e:lowN n d=(-n).tdiv ((n.natAbs.gcd d.natAbs:Nat):Int):=by unfold lowN; rw [if_pos h]
  have h1:=hsg (-n)
  have h2:=hneg (-n)
  rw [← e] at h1 h2
  constructor
  ·rintro ⟨h3,h4⟩; have:0≤n:=by omega
   have:=h2 (by omega); omega
  ·intro h3
   have:¬ 0≤-n:=fun h4=>by have:=h1 h4; omega
   omega
 ·have e:lowN n d=n.tdiv ((n.natAbs.gcd d.natAbs:Nat):Int):=by unfold lowN; rw [if_neg h]
  have h1:=hsg n
  have h2:=hneg n
  rw [← e] at h1 h2
  constructor
  ·rintro ⟨h3,h4⟩; have:n<0:=by omega
   have:=h2 (by omega); omega
  ·intro h3
   have:¬ 0≤n:=fun h4=>by have:=h1 h4; omega
   omega
section
variable (S:List Ent) (tk:List Nat) (k:Nat)
theorem Xg (n d:Int) (hn:(dig n.natAbs).length≤90000) (hd:(dig d.natAbs).length≤90000) (hd0:d≠0):cL Tryz.prog 166 [zA n,zA d] S tk k=some (resQ n d,S,tk,k):=by
 refine A9 Tryz.func166 rfl rfl (by decide +kernel) (by decide +kernel) Tryz.ntmps166 rfl rfl _ _ _ (rfl) ?_; rw [Bs]
 have hg0:0<n.natAbs.gcd d.natAbs:=Nat.gcd_pos_of_pos_right _ (by omega)
 have hD:=fun S tk k=>Uj S tk k n.natAbs d.natAbs hn hd
 have hgl:(dig (n.natAbs.gcd d.natAbs)).length≤90000:=by
  have h3:n.natAbs.gcd d.natAbs≤d.natAbs:=Nat.gcd_le_right _ (by omega)
  exact Nat.le_trans (D4.2 (Nat.lt_of_le_of_lt h3 (D4.1 (Nat.le_refl _)))) hd
 have hQ1:=fun S tk k=>Jx S tk k n.natAbs (n.natAbs.gcd d.natAbs) .unk .unk hg0 hn hgl
 have hQ2:=fun S tk k=>Jx S tk k d.natAbs (n.natAbs.gcd d.natAbs) .unk .unk hg0 hd hgl
 have hla:=Ur n d
 have hlb:(lowD n d).natAbs=d.natAbs / n.natAbs.gcd d.natAbs:=rfl
 have hs:=Adg n d hd0
 have hp:=Ach (n.natAbs / n.natAbs.gcd d.natAbs)
 have hdn:decide (lowD n d<0)=false:=by
  have:¬ lowD n d<0:=by unfold lowD; omega
  simp [this]
 have hC:=fun (m:Nat) (h:(dig m).length≤200) S tk k=>Q7 S tk k (dig m) .unk (by omega)
 unfold resQ resN resD
 simp only [digA] at hD hQ1 hQ2 hC
 by_cases h1:(dig (n.natAbs / n.natAbs.gcd d.natAbs)).length≤200
 ·have d1:decide (((dig (n.natAbs / n.natAbs.gcd d.natAbs)).length:Int) > 200)=false:=by simp; omega
  by_cases h2:(dig (d.natAbs / n.natAbs.gcd d.natAbs)).length≤200
  ·have d2:decide (((dig (d.natAbs / n.natAbs.gcd d.natAbs)).length:Int) > 200)=false:=by simp; omega
   have hf:Q8 n d=true:=by simp only [Q8,okZ,hla,hlb]; simp [hd0]; omega
   have hC1:=hC _ h1
   have hC2:=hC _ h2
   rw [hf]
   simp only [if_true,qA,hla,hlb,← hs,hdn]
   have hbn:(decide (n<0) != decide (d<0))=!(decide (n<0) == decide (d<0)):=rfl
   rw [hbn]
   cases d3:decide (n<0) == decide (d<0) with
   | true=>simp (maxSteps:=1000000) +contextual (disch:=first|with_reducible assumption|exact ⟨rfl⟩|exact ⟨rfl,rfl⟩|exact ⟨rfl,rfl,rfl⟩|(refine _root_.id ?_; kernel_rfl)|omega) only [evs,Ad,nth,put,putT,getT,Ai,Aj,Ab,aUn,outA,resA,mapO,Aq,Ar,w1,w2,w3,bots,cond_true,cond_false,if_true,if_false,ite_true,ite_false,reduceIte,reduceCtorEq,implies_true,Nat.reduceAdd,Nat.reduceSub,AV.int,AV.bool,AV.str,Nat.reduceBEq,Nat.reduceEqDiff,Nat.reduceMul,Nat.reduceLT,Nat.reduceLeDiff,Int.reduceNeg,BEq.rfl,beq_self_eq_true,tabl,cellsOf,fldA,ldA,stA,Ak,Ao,Am,over,Ag,Value.oneCell',idxA,nilA,Aa,Ap,Ah,pure1,pure2,reps,chkA,tys,Tryz.results166,evt,Av,Au,Al,zA,bigA,ratA,digA,hD,hQ1,hQ2,d1,d2,d3,hbn,hp,hC1,hC2,Bool.not_true,Bool.not_false,Bool.true_and,Bool.false_and]
   | false=>simp (maxSteps:=1000000) +contextual (disch:=first|with_reducible assumption|exact ⟨rfl⟩|exact ⟨rfl,rfl⟩|exact ⟨rfl,rfl,rfl⟩|(refine _root_.id ?_; kernel_rfl)|omega) only [evs,Ad,nth,put,putT,getT,Ai,Aj,Ab,aUn,outA,resA,mapO,Aq,Ar,w1,w2,w3,bots,cond_true,cond_false,if_true,if_false,ite_true,ite_false,reduceIte,reduceCtorEq,implies_true,Nat.reduceAdd,Nat.reduceSub,AV.int,AV.bool,AV.str,Nat.reduceBEq,Nat.reduceEqDiff,Nat.reduceMul,Nat.reduceLT,Nat.reduceLeDiff,Int.reduceNeg,BEq.rfl,beq_self_eq_true,tabl,cellsOf,fldA,ldA,stA,Ak,Ao,Am,over,Ag,Value.oneCell',idxA,nilA,Aa,Ap,Ah,pure1,pure2,reps,chkA,tys,Tryz.results166,evt,Av,Au,Al,zA,bigA,ratA,digA,hD,hQ1,hQ2,d1,d2,d3,hbn,hp,hC1,hC2,Bool.not_true,Bool.not_false,Bool.true_and,Bool.false_and]
  ·have d2:decide (((dig (d.natAbs / n.natAbs.gcd d.natAbs)).length:Int) > 200)=true:=by simp; omega
   have hf:Q8 n d=false:=by simp only [Q8,okZ,hla,hlb]; simp [hd0]; omega
   rw [hf]
   simp only [Bool.false_eq_true,if_false]
   have hz:dig (Int.natAbs 0)=[]:=rfl
   simp (maxSteps:=1000000) +contextual (disch:=first|with_reducible assumption|exact ⟨rfl⟩|exact ⟨rfl,rfl⟩|exact ⟨rfl,rfl,rfl⟩|(refine _root_.id ?_; kernel_rfl)|omega) only [evs,Ad,nth,put,putT,getT,Ai,Aj,Ab,aUn,outA,resA,mapO,Aq,Ar,w1,w2,w3,bots,cond_true,cond_false,if_true,if_false,ite_true,ite_false,reduceIte,reduceCtorEq,implies_true,Nat.reduceAdd,Nat.reduceSub,AV.int,AV.bool,AV.str,Nat.reduceBEq,Nat.reduceEqDiff,Nat.reduceMul,Nat.reduceLT,Nat.reduceLeDiff,Int.reduceNeg,BEq.rfl,beq_self_eq_true,tabl,cellsOf,fldA,ldA,stA,Ak,Ao,Am,over,Ag,Value.oneCell',idxA,nilA,Aa,Ap,Ah,pure1,pure2,reps,chkA,tys,Tryz.results166,evt,Av,Au,Al,zA,bigA,qA,ratA,digA,hz,hD,hQ1,hQ2,d1,d2]
   exact ⟨by decide,by decide⟩
 ·have d1:decide (((dig (n.natAbs / n.natAbs.gcd d.natAbs)).length:Int) > 200)=true:=by simp; omega
  have hf:Q8 n d=false:=by simp only [Q8,okZ,hla,hlb]; simp [hd0]; omega
  rw [hf]
  simp only [Bool.false_eq_true,if_false]
  have hz:dig (Int.natAbs 0)=[]:=rfl
  simp (maxSteps:=1000000) +contextual (disch:=first|with_reducible assumption|exact ⟨rfl⟩|exact ⟨rfl,rfl⟩|exact ⟨rfl,rfl,rfl⟩|(refine _root_.id ?_; kernel_rfl)|omega) only [evs,Ad,nth,put,putT,getT,Ai,Aj,Ab,aUn,outA,resA,mapO,Aq,Ar,w1,w2,w3,bots,cond_true,cond_false,if_true,if_false,ite_true,ite_false,reduceIte,reduceCtorEq,implies_true,Nat.reduceAdd,Nat.reduceSub,AV.int,AV.bool,AV.str,Nat.reduceBEq,Nat.reduceEqDiff,Nat.reduceMul,Nat.reduceLT,Nat.reduceLeDiff,Int.reduceNeg,BEq.rfl,beq_self_eq_true,tabl,cellsOf,fldA,ldA,stA,Ak,Ao,Am,over,Ag,Value.oneCell',idxA,nilA,Aa,Ap,Ah,pure1,pure2,reps,chkA,tys,Tryz.results166,evt,Av,Au,Al,zA,bigA,qA,ratA,digA,hz,hD,hQ1,hQ2,d1]
  exact ⟨by decide,by decide⟩
end
end Go.Proofs.YtcjffhadclngmaaGreat
namespace Go.Proofs.YtcjffhadclngmaaGreat
open Go
theorem Q1 (n:Int):resQ n 0=.tup [qA 0 0,.bool false]:=rfl
def ofQ (p:Bool) (l:List Int) (q:Bool) (r:List Int):AV:=resQ (V p l) (if Gl p l=true then V q r else 0)
section
variable (S:List Ent) (tk:List Nat) (k:Nat)
theorem Agj (p:Bool) (l:List Int) (q:Bool) (r:List Int) (hl:l.length≤1000000) (hr:r.length≤1000000):cL Tryz.prog 165 [bigA p l,bigA q r] S tk k=some (ofQ p l q r,S,tk,k):=by
 have hV1:=fun S tk k=>told (E:=E1) (Tk S tk k p l .unk hl)
 have hV2:=fun S tk k=>told (E:=E1) (Tk S tk k q r .unk hr)
 refine A9 Tryz.func165 rfl rfl (by decide +kernel) (by decide +kernel) Tryz.ntmps165 rfl rfl _ _ _ (rfl) ?_; rw [Bs]
 have hz:dig (Int.natAbs 0)=[]:=rfl
 have hnz:decide ((0:Int)<0)=false:=by decide
 unfold ofQ
 cases h1:Gl p l with
 | false =>
  rw [h1] at hV1
  rw [if_neg (by simp),Q1]
  simp (maxSteps:=1000000) +contextual (disch:=first|with_reducible assumption|exact ⟨rfl⟩|exact ⟨rfl,rfl⟩|exact ⟨rfl,rfl,rfl⟩|(refine _root_.id ?_; kernel_rfl)|omega) only [evs,Ad,nth,put,putT,getT,Ai,Aj,Ab,aUn,outA,resA,mapO,Aq,Ar,w1,w2,w3,bots,cond_true,cond_false,if_true,if_false,ite_true,ite_false,reduceIte,reduceCtorEq,implies_true,Nat.reduceAdd,Nat.reduceSub,AV.int,AV.bool,AV.str,Nat.reduceBEq,Nat.reduceEqDiff,Nat.reduceMul,Nat.reduceLT,Nat.reduceLeDiff,Int.reduceNeg,BEq.rfl,beq_self_eq_true,tabl,cellsOf,fldA,ldA,stA,Ak,Ao,Am,over,Ag,Value.oneCell',idxA,nilA,Aa,Ap,Ah,pure1,pure2,reps,chkA,tys,Tryz.results165,evt,Av,Au,Al,qA,ratA,bigA,digA,hz,hnz,hV1]
 | true =>
 rw [h1] at hV1
 rw [if_pos rfl]
 cases h2:Gl q r with
 | false =>
  rw [h2] at hV2
  rw [V_bad h2,Q1]
  simp (maxSteps:=1000000) +contextual (disch:=first|with_reducible assumption|exact ⟨rfl⟩|exact ⟨rfl,rfl⟩|exact ⟨rfl,rfl,rfl⟩|(refine _root_.id ?_; kernel_rfl)|omega) only [evs,Ad,nth,put,putT,getT,Ai,Aj,Ab,aUn,outA,resA,mapO,Aq,Ar,w1,w2,w3,bots,cond_true,cond_false,if_true,if_false,ite_true,ite_false,reduceIte,reduceCtorEq,implies_true,Nat.reduceAdd,Nat.reduceSub,AV.int,AV.bool,AV.str,Nat.reduceBEq,Nat.reduceEqDiff,Nat.reduceMul,Nat.reduceLT,Nat.reduceLeDiff,Int.reduceNeg,BEq.rfl,beq_self_eq_true,tabl,cellsOf,fldA,ldA,stA,Ak,Ao,Am,over,Ag,Value.oneCell',idxA,nilA,Aa,Ap,Ah,pure1,pure2,reps,chkA,tys,Tryz.results165,evt,Av,Au,Al,qA,ratA,bigA,digA,hz,hnz,hV1,hV2]
 | true =>
 rw [h2] at hV2
 obtain ⟨hp,hpl⟩:=Py h1
 obtain ⟨hq,hqr⟩:=Py h2
 by_cases hr0:r=[]
 ·subst hr0
  have e0:V q []=0:=by have:=K2.1 hqr.symm; omega
  rw [e0,Q1]
  simp only [List.map_nil] at hV2
  have iz:(((0:Nat):Int) == 0)=true:=rfl
  simp (maxSteps:=1000000) +contextual (disch:=first|with_reducible assumption|exact ⟨rfl⟩|exact ⟨rfl,rfl⟩|exact ⟨rfl,rfl,rfl⟩|(refine _root_.id ?_; kernel_rfl)|omega) only [evs,Ad,nth,put,putT,getT,Ai,Aj,Ab,aUn,outA,resA,mapO,Aq,Ar,w1,w2,w3,bots,cond_true,cond_false,if_true,if_false,ite_true,ite_false,reduceIte,reduceCtorEq,implies_true,Nat.reduceAdd,Nat.reduceSub,AV.int,AV.bool,AV.str,Nat.reduceBEq,Nat.reduceEqDiff,Nat.reduceMul,Nat.reduceLT,Nat.reduceLeDiff,Int.reduceNeg,BEq.rfl,beq_self_eq_true,tabl,cellsOf,fldA,ldA,stA,Ak,Ao,Am,over,Ag,Value.oneCell',idxA,nilA,Aa,Ap,Ah,pure1,pure2,reps,chkA,tys,Tryz.results165,evt,Av,Au,Al,qA,ratA,bigA,digA,hz,hnz,iz,hV1,hV2]
 ·have iz:(((r.length:Nat):Int) == 0)=false:=by
   have:=List.length_pos_iff.2 hr0
   simp; omega
  have hd0:V q r≠0:=fun e=>hr0 (by rw [hqr,e]; rfl)
  have hR:=fun S tk k=>Xg S tk k (V p l) (V q r) (by have:=Agy p l; omega) (by have:=Agy q r; omega) hd0
  have hO1:=fun S tk k=>Ado S tk k (V p l)
  have hO2:=fun S tk k=>Ado S tk k (V q r)
  simp only [zA,bigA,digA,← hp,← hpl,← hq,← hqr] at hR hO1 hO2
  simp only [resQ,qA,ratA,digA] at hR ⊢
  simp (maxSteps:=1000000) +contextual (disch:=first|with_reducible assumption|exact ⟨rfl⟩|exact ⟨rfl,rfl⟩|exact ⟨rfl,rfl,rfl⟩|(refine _root_.id ?_; kernel_rfl)|omega) only [evs,Ad,nth,put,putT,getT,Ai,Aj,Ab,aUn,outA,resA,mapO,Aq,Ar,w1,w2,w3,bots,cond_true,cond_false,if_true,if_false,ite_true,ite_false,reduceIte,reduceCtorEq,implies_true,Nat.reduceAdd,Nat.reduceSub,AV.int,AV.bool,AV.str,Nat.reduceBEq,Nat.reduceEqDiff,Nat.reduceMul,Nat.reduceLT,Nat.reduceLeDiff,Int.reduceNeg,BEq.rfl,beq_self_eq_true,tabl,cellsOf,fldA,ldA,stA,Ak,Ao,Am,over,Ag,Value.oneCell',idxA,nilA,Aa,Ap,Ah,pure1,pure2,reps,chkA,tys,Tryz.results165,evt,Av,Au,Al,qA,ratA,bigA,digA,iz,hV1,hV2,hO1,hO2,hR]
end
end Go.Proofs.YtcjffhadclngmaaGreat
namespace Go.Proofs.YtcjffhadclngmaaGreat
open Go
end Go.Proofs.YtcjffhadclngmaaGreat
namespace Go.Proofs.YtcjffhadclngmaaGreat
open Go
theorem Yq.neg {n d:Int} (h:Yq n d):Yq (-n) d:=by
 have e:(-n).natAbs=n.natAbs:=by omega
 exact ⟨h.pos,by rw [e]; exact h.cop,by rw [e]; exact h.ln,h.ld⟩
end Go.Proofs.YtcjffhadclngmaaGreat
namespace Go.Proofs.YtcjffhadclngmaaGreat
open Go
end Go.Proofs.YtcjffhadclngmaaGreat
namespace Go.Proofs.YtcjffhadclngmaaGreat
open Go
end Go.Proofs.YtcjffhadclngmaaGreat
namespace Go.Proofs.YtcjffhadclngmaaGreat
open Go
end Go.Proofs.YtcjffhadclngmaaGreat
namespace Go.Proofs.YtcjffhadclngmaaGreat
open Go
end Go.Proofs.YtcjffhadclngmaaGreat
namespace Go.Proofs.YtcjffhadclngmaaGreat
open Go
theorem Pg {l:List Int} {i:Nat} {x:Int} (h:i<l.length):(l.set i x).drop i=x :: l.drop (i+1):=by
 rw [Bw (Uh h)]
 congr 1
 rw [List.drop_set]; simp
theorem Pq (n:Nat):okD (List.replicate n 0):=fun d hd=>by
 have:=(List.mem_replicate.1 hd).2; omega
structure N2 (A:Nat) (b:Int) (m:Nat) (r:Int) (out:List Int):Prop where
 len:out.length=(dig A).length
 ok:okD out
 r0:0≤r∧r<b
 eqv:val ((dig A).drop m)=val (out.drop m)*b+r
theorem N2.start {A:Nat} {b:Int} (h:0<b):N2 A b (dig A).length 0 (List.replicate (dig A).length 0):=by
 refine ⟨by simp,Pq _,by omega,?_⟩
 rw [List.drop_length,List.drop_eq_nil_of_le (by simp)]; simp [val]
theorem N2.step {A:Nat} {b:Int} {m:Nat} {r x:Int} {out:List Int} (h:N2 A b m r out) (hm:m≠0) (hml:m≤(dig A).length) (hx:nth (dig A) (m - 1)=some x) :
  N2 A b (m - 1) ((r*10000+x).tmod b) (out.set (m - 1) ((r*10000+x).tdiv b))∧0≤(r*10000+x).tdiv b∧(r*10000+x).tdiv b<10000∧0≤(r*10000+x).tmod b∧(r*10000+x).tmod b<b:=by
 have hr:=h.r0
 have hxk:=He (Dy A) hx
 have hn:0≤r*10000+x:=by omega
 have e1:(r*10000+x).tdiv b=(r*10000+x) / b:=Int.tdiv_eq_ediv_of_nonneg hn
 have e2:(r*10000+x).tmod b=(r*10000+x) % b:=Int.tmod_eq_emod_of_nonneg hn
 have m0:=Int.emod_nonneg (r*10000+x) (show b≠0 by omega)
 have m1:=Int.emod_lt_of_pos (r*10000+x) (show 0<b by omega)
 have q0:0≤(r*10000+x) / b:=Int.ediv_nonneg hn (by omega)
 have q1:(r*10000+x) / b<10000:=Int.ediv_lt_of_lt_mul (by omega) (by omega)
 have hm1:m - 1+1=m:=by omega
 have hlen:m - 1<out.length:=by have:=h.len; omega
 rw [e1,e2]
 refine ⟨⟨by rw [List.length_set]; exact h.len,Rb h.ok q0 q1,⟨m0,m1⟩,?_⟩,q0,q1,m0,m1⟩
 have hv:=h.eqv
 rw [Bw hx,Pg hlen,val,val,hm1,hv]
 have hd:=Int.emod_add_mul_ediv (r*10000+x) b
 rw [Int.add_mul,Int.mul_add,← Int.mul_assoc,Int.mul_comm ((r*10000+x) / b)]
 generalize b*((r*10000+x) / b)=t at *
 generalize (r*10000+x) % b=u at *
 rw [Int.mul_assoc]
 generalize val (out.drop m)*b=w at *
 omega
theorem Afc {A B Q R:Int} (h:A=Q*B+R) (h0:0≤R) (h1:R<B):A / B=Q∧A % B=R:=by
 have hb:0<B:=by omega
 subst h
 constructor
 ·rw [Int.add_comm,Int.add_mul_ediv_right _ _ (by omega),Int.ediv_eq_zero_of_lt h0 h1]; omega
 ·rw [Int.add_comm,Int.add_mul_emod_self_right,Int.emod_eq_of_lt h0 h1]
theorem Ab7 {A B:Nat} {Q R:Int} (h:(A:Int)=Q*B+R) (h0:0≤R) (h1:R<B):Q=((A / B:Nat):Int)∧R=((A % B:Nat):Int):=by
 obtain ⟨e1,e2⟩:=Afc h h0 h1
 rw [← e1,← e2]; exact ⟨rfl,rfl⟩
theorem N2.done {A B:Nat} {r:Int} {out:List Int} (h:N2 A B 0 r out):D0 out=dig (A / B)∧r.toNat=A % B:=by
 have hv:=h.eqv
 rw [List.drop_zero,List.drop_zero,Di] at hv
 obtain ⟨e1,e2⟩:=Ab7 hv h.r0.1 h.r0.2
 rw [Ef h.ok,e1]
 exact ⟨by congr 1,by omega⟩
theorem Aa4 (n:Nat):((10000 ^ n:Nat):Int)=(10000:Int) ^ n:=Int.natCast_pow ..
structure Dg (a d z i:Nat) (c:Int) (out:List Int):Prop where
 len:out.length=z+i
 ok:okD out
 c0:0≤c∧c≤9999
 eqv:val out+10000 ^ (z+i)*(c+d*val ((dig a).drop i))=(a*d*10000 ^ z:Nat)
theorem Dg.start (a d z:Nat):Dg a d z 0 0 (List.replicate z 0):=by
 refine ⟨by simp,Pq _,by omega,?_⟩
 rw [G2,List.drop_zero,Di,Int.natCast_mul,Int.natCast_mul,Aa4,Nat.add_zero,Int.zero_add,Int.zero_add,Int.mul_comm,Int.mul_comm (a:Int)]
theorem Aeo {x d:Int} (h0:0≤x) (h1:x<10000) (h2:0≤d) (h3:d<10000):0≤x*d∧x*d≤99980001:=by
 have a:=Int.mul_nonneg h0 h2
 have b:=Int.mul_le_mul (a:=x) (b:=d) (c:=9999) (d:=9999) (by omega) (by omega) h2 (by omega)
 omega
theorem Dg.step {a d z i:Nat} {c x n:Int} {out:List Int} (h:Dg a d z i c out) (hd:d<10000) (hx:nth (dig a) i=some x) (hn:n=c+x*d) :
  Dg a d z (i+1) (n.tdiv 10000) (out++[n.tmod 10000])∧0≤n∧n≤99990000:=by
 have hxk:=He (Dy a) hx
 have hm:=Aeo hxk.1 hxk.2 (Int.natCast_nonneg d) (by omega)
 have h3:=h.c0
 have e1:n.tdiv 10000=n / 10000:=Int.tdiv_eq_ediv_of_nonneg (by omega)
 have e2:n.tmod 10000=n % 10000:=Int.tmod_eq_emod_of_nonneg (by omega)
 refine ⟨⟨by simp [h.len]; omega,Ms h.ok (by omega) (by omega),by omega,?_⟩,by omega,by omega⟩
 have hv:=h.eqv
 rw [Bw hx,val] at hv
 have e3:(d:Int)*(x+10000*val ((dig a).drop (i+1)))=x*d+10000*(d*val ((dig a).drop (i+1))):=by
  rw [Int.mul_add,Int.mul_comm (d:Int) x,← Int.mul_assoc,Int.mul_comm (d:Int) 10000,Int.mul_assoc]
 rw [e3] at hv
 have:n.tmod 10000+10000*(n.tdiv 10000+d*val ((dig a).drop (i+1)))=c+(x*d+10000*(d*val ((dig a).drop (i+1)))):=by omega
 rw [Mt,h.len,Int.add_assoc,← Nat.add_assoc,J6,this]
 exact hv
theorem Dg.done {a d z i:Nat} {c:Int} {out:List Int} (h:Dg a d z i c out) (hi:(dig a).length≤i) (hc:c=0):D0 out=dig (a*d*10000 ^ z):=by
 have hv:=h.eqv
 rw [List.drop_eq_nil_of_le hi,val,hc] at hv
 rw [Ef h.ok]
 congr 1
 have e:(10000:Int) ^ (z+i)*(0+d*0)=0:=by rw [Int.mul_zero,Int.add_zero,Int.mul_zero]
 rw [e] at hv
 omega
end Go.Proofs.YtcjffhadclngmaaGreat
namespace Go.Proofs.YtcjffhadclngmaaGreat
open Go
end Go.Proofs.YtcjffhadclngmaaGreat
namespace Go.Proofs.YtcjffhadclngmaaGreat
open Go
end Go.Proofs.YtcjffhadclngmaaGreat
namespace Go.Proofs.YtcjffhadclngmaaGreat
open Go
theorem Ac6 {n d:Int} (hd:d≠0):(lowN n d).natAbs.gcd (lowD n d).natAbs=1:=by
 rw [Ur,show (lowD n d).natAbs=d.natAbs / n.natAbs.gcd d.natAbs from rfl]
 have hg:0<n.natAbs.gcd d.natAbs:=Nat.gcd_pos_of_pos_right _ (by omega)
 rw [Nat.gcd_div (Nat.gcd_dvd_left _ _) (Nat.gcd_dvd_right _ _)]
 exact Nat.div_self hg
theorem Abn {n d:Int} (hd:d≠0):0<lowD n d:=by
 have hg:0<n.natAbs.gcd d.natAbs:=Nat.gcd_pos_of_pos_right _ (by omega)
 have h2:n.natAbs.gcd d.natAbs≤d.natAbs:=Nat.gcd_le_right _ (by omega)
 have:=Nat.div_pos h2 hg
 unfold lowD; omega
theorem Aaw {n d:Int} (hd:d≠0):lowN n d*d=n*lowD n d:=by
 have hg:0<n.natAbs.gcd d.natAbs:=Nat.gcd_pos_of_pos_right _ (by omega)
 obtain ⟨g,hgd⟩:∃ g:Nat,g=n.natAbs.gcd d.natAbs:=⟨_,rfl⟩
 have h1:(g:Int) ∣ n:=by rw [hgd]; exact Int.ofNat_dvd_left.2 (Nat.gcd_dvd_left _ _)
 have h2:(g:Int) ∣ d:=by rw [hgd]; exact Int.ofNat_dvd_left.2 (Nat.gcd_dvd_right _ _)
 obtain ⟨a,ha⟩:=h1
 obtain ⟨b,hb⟩:=h2
 have hg0:(g:Int)≠0:=by omega
 have hN:lowN n d=if d<0 then -a else a:=by
  unfold lowN
  rw [← hgd]
  split
  ·rw [ha,Int.neg_tdiv,Int.mul_tdiv_cancel_left _ hg0]
  ·rw [ha,Int.mul_tdiv_cancel_left _ hg0]
 have hD:lowD n d=if d<0 then -b else b:=by
  unfold lowD
  rw [← hgd]
  have:d.natAbs=g*b.natAbs:=by rw [hb,Int.natAbs_mul]; simp
  rw [this,Nat.mul_div_cancel_left _ (by omega)]
  have hs:d<0↔b<0:=by
   rw [hb]
   constructor
   ·intro h
    rcases Int.lt_or_le b 0 with h'|h'
    ·exact h'
    ·have:=Int.mul_nonneg (show (0:Int)≤g by omega) h'; omega
   ·intro h
    exact Int.mul_neg_of_pos_of_neg (by omega) h
  split <;> omega
 rw [hN,hD]
 generalize (g:Int)=G at *
 subst ha hb
 split
 ·rw [Int.neg_mul,Int.mul_neg,← Int.mul_assoc,Int.mul_comm a G]
 ·rw [← Int.mul_assoc,Int.mul_comm a G]
theorem Qd {a b c d:Int} (hb:0<b) (hd:0<d) (h1:a.natAbs.gcd b.natAbs=1) (h2:c.natAbs.gcd d.natAbs=1) (h:a*d=c*b):a=c∧b=d:=by
 have e:=congrArg Int.natAbs h
 rw [Int.natAbs_mul,Int.natAbs_mul] at e
 have k1:d.natAbs ∣ b.natAbs:=(Nat.Coprime.dvd_of_dvd_mul_left (Nat.Coprime.symm h2) ⟨a.natAbs,by rw [← e,Nat.mul_comm]⟩)
 have k2:b.natAbs ∣ d.natAbs:=(Nat.Coprime.dvd_of_dvd_mul_left (Nat.Coprime.symm h1) ⟨c.natAbs,by rw [e,Nat.mul_comm]⟩)
 have hbd:b.natAbs=d.natAbs:=Nat.dvd_antisymm k2 k1
 have hbd':b=d:=by omega
 subst hbd'
 exact ⟨Int.eq_of_mul_eq_mul_right (by omega) h,rfl⟩
theorem Yq.low {n d:Int} (h:Yq n d):lowN n d=n∧lowD n d=d:=by
 have hd:=h.pos
 exact Qd (Abn (by omega)) hd (Ac6 (by omega)) h.cop (Aaw (by omega))
end Go.Proofs.YtcjffhadclngmaaGreat
namespace Go.Proofs.YtcjffhadclngmaaGreat
open Go
abbrev Q:=Int × Int
structure Fld where
 whole:Int→Q × Bool
 minus:Q→Q→Q × Bool
 times:Q→Q→Q × Bool
 over:Q→Q→Q × Bool
 ok:Q→Prop
 rat:Q→Q
 stop:Bool
def sgn (a:Q):Int:=if a.1<0 then -1 else if 0<a.1 then 1 else 0
def bigF (n d:Int):Bool:=decide (n≤-2147483648) || decide (n ≥ 2147483648) || decide (d ≥ 2147483648) || decide (d=0)
def qn (n d:Int):Q × Bool:=if bigF (lowN n d) (lowD n d)=true then ((0,1),true) else ((lowN n d,lowD n d),false)
def okS (a:Q):Prop:=-2147483648<a.1∧a.1<2147483648∧0<a.2∧a.2<2147483648
def qF:Fld where
 whole n:=if n≤-2147483648∨n ≥ 2147483648 then ((0,1),true) else ((n,1),false)
 minus a b:=qn (a.1*b.2 - b.1*a.2) (a.2*b.2)
 times a b:=qn (a.1*b.1) (a.2*b.2)
 over a b:=if b.1=0 then ((0,1),true) else qn (a.1*b.2) (a.2*b.1)
 ok:=okS
 rat a:=(resN a.1 a.2,resD a.1 a.2)
 stop:=true
theorem X3 (n d:Int):0≤lowD n d:=Int.natCast_nonneg _
theorem Afq (n d:Int):okS (qn n d).1:=by
 unfold qn bigF
 split
 ·exact ⟨by decide,by decide,by decide,by decide⟩
 ·rename_i h
  simp only [Bool.or_eq_true,decide_eq_true_eq] at h
  have:=X3 n d
  refine ⟨?_,?_,?_,?_⟩ <;> simp only <;> omega
structure Fld.Keeps (F:Fld):Prop where
 whole:∀ n,i64 n→F.ok (F.whole n).1
 minus:∀ a b,F.ok a→F.ok b→F.ok (F.minus a b).1
 times:∀ a b,F.ok a→F.ok b→F.ok (F.times a b).1
 over:∀ a b,F.ok a→F.ok b→F.ok (F.over a b).1
theorem B7:qF.Keeps:=by
 refine ⟨fun n _=>?_,fun a b _ _=>Afq _ _,fun a b _ _=>Afq _ _,fun a b _ _=>?_⟩
 ·simp only [qF]
  split
  ·exact ⟨by decide,by decide,by decide,by decide⟩
  ·refine ⟨?_,?_,?_,?_⟩ <;> simp only <;> omega
 ·simp only [qF]
  split
  ·exact ⟨by decide,by decide,by decide,by decide⟩
  ·exact Afq _ _
end Go.Proofs.YtcjffhadclngmaaGreat
namespace Go.Proofs.YtcjffhadclngmaaGreat
open Go
def frA (a:Q):AV:=.agg [.int a.1,.int a.2]
def flS (S:List Ent) (iq eq:Nat) (b:Bool):List Ent:=bif b then put S iq ⟨eq,[.prim (.bool true)]⟩ else S
theorem En {S:List Ent} {iq eq:Nat} : flS S iq eq false=S:=rfl
theorem Bl {S:List Ent} {iq eq:Nat} : flS S iq eq true=put S iq ⟨eq,[.prim (.bool true)]⟩:=rfl
theorem Bo {S:List Ent} {iq eq:Nat} {b:Bool} : (flS S iq eq b).length=S.length:=by
 cases b
 ·rfl
 ·exact A7
theorem Bg {S:List Ent} {iq eq j:Nat} {b:Bool} (h:j≠iq):nth (flS S iq eq b) j=nth S j:=by
 cases b
 ·rfl
 ·exact Aw h.symm
theorem B1 {S:List Ent} {i e:Nat} {cs:List AV} (h:Ak S i e=some cs):i<S.length:=by
 obtain ⟨x,h1,-⟩:=Ds h
 exact B5 h1
theorem E9 {α:Type} {l:List α} {i:Nat} {v:α} (h:i<l.length):nth (put l i v) i=some v:=by
 induction l generalizing i with
 | nil=>simp at h
 | cons x l ih=>cases i with
  | zero=>rfl
  | succ i=>exact ih (by simpa using h)
theorem A4 {S:List Ent} {i e:Nat} {cs:List AV} (h:i<S.length):Ak (put S i ⟨e,cs⟩) i e=some cs:=by
 simp [Ak,E9 h]
theorem Bf {S:List Ent} {i j e:Nat} {x:Ent} (h:i≠j):Ak (put S i x) j e=Ak S j e:=by
 simp [Ak,Aw h]
theorem Ay {S S':List Ent} {j e:Nat} (h:nth S' j=nth S j):Ak S' j e=Ak S j e:=by simp [Ak,h]
theorem Aan {S:List Ent} {iq eq:Nat} {b c:Bool} (h:Ak S iq eq=some [.prim (.bool b)]):Ak (flS S iq eq c) iq eq=some [.prim (.bool (b || c))]:=by
 cases c
 ·rw [En,Bool.or_false]; exact h
 ·rw [Bl,A4 (B1 h),Bool.or_true]
theorem Agg {S:List Ent} {iq eq:Nat} {b c:Bool} (h:Ak S iq eq=some [.prim (.bool b)]):gO S (flS S iq eq c)=some ():=by
 refine Zf ⟨Bo,fun j=>?_⟩
 by_cases e:j=iq
 ·subst e
  obtain ⟨x,h1,h2,h3⟩:=Ds h
  obtain ⟨ep,cs⟩:=x
  simp only at h2 h3
  subst h2 h3
  cases c
  ·exact .inl rfl
  ·exact .inr ⟨_,b,true,h1,E9 (B5 h1)⟩
 ·exact .inl (Bg e)
theorem Ax {S:List Ent} {L:List Ent} {i e:Nat} {cs:List AV} (h:Ak S i e=some cs):Ak (S++L) i e=some cs:=by
 have hl:=B1 h
 unfold Ak at h ⊢
 rw [Az] at h ⊢
 rw [List.getElem?_append_left hl]; exact h
theorem Em {S L:List Ent} {i:Nat} {x:Ent} (h:i<S.length):put (S++L) i x=put S i x++L:=by
 induction S generalizing i with
 | nil=>simp at h
 | cons y S ih=>cases i with
  | zero=>rfl
  | succ i=>simp only [List.cons_append,put,ih (by simpa using h)]
theorem Qe {S L:List Ent} {iq eq:Nat} {b:Bool} (h:iq<S.length):flS (S++L) iq eq b=flS S iq eq b++L:=by
 cases b
 ·rfl
 ·exact Em h
theorem Ja {S L:List Ent} : (S++L).take S.length=S:=by simp
theorem Be {S:List Ent} {n k:Nat} {cs:List AV} (h:S.length=n):Ak (S++[⟨k,cs⟩]) n k=some cs:=by subst h; exact Ae
theorem Ez {S:List Ent} {n:Nat} {e e':Ent} (h:S.length=n):put (S++[e]) n e'=S++[e']:=by subst h; exact put_new
theorem Lc {S L:List Ent} {n:Nat} (h:S.length=n):(S++L).take n=S:=by subst h; exact Ja
theorem Dl (x:Int) (g:Nat):(x.tdiv g).natAbs≤x.natAbs:=by
 rw [Int.natAbs_tdiv]; exact Nat.div_le_self _ _
theorem Acx (n d:Int) (hn:n.natAbs<9223372036854775808) (hd:d.natAbs<9223372036854775808) (g:Nat) (hg:g=n.natAbs.gcd d.natAbs) (N:Int) (D:Nat) (hN:N=if d<0 then -n else n) (hD:D=d.natAbs) :
  lowN n d=(if 1<g then N.tdiv (g:Int) else N)∧lowD n d=(if 1<g then (D:Int).tdiv (g:Int) else (D:Int)):=by
 subst hN hD
 have hNn:(if d<0 then -n else n).natAbs=n.natAbs:=by split <;> omega
 unfold lowN lowD
 rw [← hg]
 by_cases h1:1<g
 ·rw [if_pos h1,if_pos h1]
  exact ⟨rfl,by rw [Int.tdiv_eq_ediv_of_nonneg (by omega)]; rfl⟩
 ·rw [if_neg h1,if_neg h1]
  rcases Nat.lt_or_ge 0 g with h0|h0
  ·have:g=1:=by omega
   subst this
   exact ⟨by simp,by simp⟩
  ·have h00:g=0:=by omega
   rw [h00] at hg
   have ha:=Nat.gcd_eq_zero_iff.1 hg.symm
   have hn0:n=0:=by omega
   have hd0:d=0:=by omega
   subst hn0; subst hd0
   exact ⟨by simp,by simp⟩
section
variable (S:List Ent) (tk:List Nat) (k iq eq:Nat) (b:Bool)
set_option maxHeartbeats 4000000 in
set_option maxRecDepth 100000 in
theorem Js (n d:Int) (hn:n.natAbs<9223372036854775808) (hd:d.natAbs<9223372036854775808) (hq:Ak S iq eq=some [.prim (.bool b)]):cL Tryz.prog 164 [.ref iq eq 0,.int n,.int d] S tk k=some (frA (qn n d).1,flS S iq eq (qn n d).2,tk,k+1):=by
 have hil:=B1 hq
 have hq1:Ak (S++[⟨k,[.prim (.int .i64 0),.prim (.int .i64 0)]⟩]) iq eq=some [.prim (.bool b)]:=Ax hq
 refine Dz Tryz.func164 rfl rfl (by decide +kernel) Tryz.ntmps164 rfl ?_; rw [Bs]
 obtain ⟨N,hN⟩:∃ N,N=if d<0 then -n else n:=⟨_,rfl⟩
 obtain ⟨D,hD⟩:∃ D:Nat,D=d.natAbs:=⟨_,rfl⟩
 obtain ⟨g,hg⟩:∃ g:Nat,g=n.natAbs.gcd d.natAbs:=⟨_,rfl⟩
 have hNn:N.natAbs=n.natAbs:=by subst hN; split <;> omega
 obtain ⟨f1,f2⟩:=Acx n d hn hd g hg N D hN hD
 obtain ⟨r,hr⟩:∃ r,r=qn n d:=⟨_,rfl⟩
 have hr2:=hr
 unfold qn bigF at hr2
 rw [f1,f2] at hr2
 rw [← hr]
 have hpl:(put S iq ⟨eq,[.prim (.bool true)]⟩).length=S.length:=A7
 have hE:=fun cs=>Be (k:=k) (cs:=cs) hpl
 have hP:=fun e e'=>Ez (e:=e) (e':=e') hpl
 have hT:=fun L=>Lc (L:=L) hpl
 have hA:=fun L x=>Em (L:=L) (x:=x) hil
 by_cases hneg:d<0
 ·have d1:decide (d<0)=true:=by simpa using hneg
  have w1':IntKind.i64.wrap (0 - n)=N:=by rw [hN,if_pos hneg,A0 (by unfold i64; omega)]; omega
  have w2':IntKind.i64.wrap (0 - d)=((D:Nat):Int):=by rw [hD,A0 (by unfold i64; omega)]; omega
  by_cases hn0:N<0
  ·have d2:decide (N<0)=true:=by simpa using hn0
   have w3':IntKind.i64.wrap (0 - N)=((N.natAbs:Nat):Int):=by rw [A0 (by unfold i64; omega)]; omega
   simp (maxSteps:=1000000) +contextual (disch:=first|with_reducible assumption|exact ⟨rfl⟩|exact ⟨rfl,rfl⟩|exact ⟨rfl,rfl,rfl⟩|(refine _root_.id ?_; kernel_rfl)|omega) only [evs,Ad,nth,put,putT,getT,Ai,Aj,Ab,aUn,outA,resA,mapO,Aq,Ar,w1,w2,w3,bots,cond_true,cond_false,if_true,if_false,ite_true,ite_false,reduceIte,reduceCtorEq,implies_true,Nat.reduceAdd,Nat.reduceSub,AV.int,AV.bool,AV.str,Nat.reduceBEq,Nat.reduceEqDiff,Nat.reduceMul,Nat.reduceLT,Nat.reduceLeDiff,Int.reduceNeg,BEq.rfl,beq_self_eq_true,tabl,cellsOf,fldA,ldA,stA,Ae,Af,Ac,List.take_left,List.take_length,Ao,Am,over,Ag,Value.oneCell',idxA,nilA,Aa,Ap,Ah,pure1,pure2,reps,chkA,tys,Tryz.results164,evt,Av,Au,Ad,w2,w1,d1,w1',w2',d2,w3']
   refine Aaj (P:=Tryz.prog) (fun x st=>st.T.length=56∧(x.1.gcd x.2=g)∧(x.1<9223372036854775808)∧(x.2<9223372036854775808)∧getT st.T 0=.ref iq eq 0∧getT st.T 1=.int N∧getT st.T 2=.int (D:Nat)∧getT st.T 6=.ref S.length k 0∧getT st.T 7=.int (x.1:Nat)∧getT st.T 8=.int (x.2:Nat)∧st.S=S++[⟨k,[.int 0,.int 0]⟩]∧st.tk=tk∧st.n=k+1) (fun x=>x.2) (fun x=>(frA r.1,flS S iq eq r.2,tk,k+1)) (N.natAbs,D) ?_ ?_
   case refine_2=>exact ⟨rfl,by rw [hNn,hD,hg],by omega,by omega,rfl,rfl,rfl,rfl,rfl,rfl,rfl,rfl,rfl⟩
   rintro ⟨x,y⟩ ⟨T,S',tk',n'⟩ ⟨hl,hgc,hx,hy,e0,e1,e2,e6,e7,e8,eS,eT,eN⟩ IH
   simp only at hgc hx hy e0 e1 e2 e6 e7 e8 eS eT eN
   subst eS eT eN
   obtain ⟨g,hg,hT⟩:=Bp hl
   rw [hg] at e0 e1 e2 e6 e7 e8
   subst hT
   clear hg hl
   by_cases h0:y=0
   ·subst h0
    have c1:(((0:Nat):Int) != 0)=false:=rfl
    rw [Nat.gcd_zero_right] at hgc
    subst hgc
    by_cases h1:1<x
    ·rw [if_pos h1,if_pos h1] at hr2
     have c2:decide ((x:Int) > 1)=true:=by simp; omega
     have hz:¬ ((x:Int)=0):=by omega
     have v1:=Dl N x
     have v2:=Dl (D:Int) x
     have w5:IntKind.i64.wrap (N.tdiv (x:Int))=N.tdiv (x:Int):=A0 (by unfold i64; omega)
     have w6:IntKind.i64.wrap ((D:Int).tdiv (x:Int))=(D:Int).tdiv (x:Int):=A0 (by unfold i64; omega)
     by_cases b1:N.tdiv (x:Int)≤-2147483648
     ·have k1:decide (N.tdiv (x:Int)≤-2147483648)=true:=by simpa using b1
      rw [if_pos (by rw [k1]; rfl)] at hr2
      rw [hr2]
      simp (maxSteps:=1000000) +contextual (disch:=first|with_reducible assumption|exact ⟨rfl⟩|exact ⟨rfl,rfl⟩|exact ⟨rfl,rfl,rfl⟩|(refine _root_.id ?_; kernel_rfl)|omega) only [evs,Ad,nth,put,putT,getT,Ai,Aj,Ab,aUn,outA,resA,mapO,Aq,Ar,w1,w2,w3,bots,cond_true,cond_false,if_true,if_false,ite_true,ite_false,reduceIte,reduceCtorEq,implies_true,Nat.reduceAdd,Nat.reduceSub,AV.int,AV.bool,AV.str,Nat.reduceBEq,Nat.reduceEqDiff,Nat.reduceMul,Nat.reduceLT,Nat.reduceLeDiff,Int.reduceNeg,BEq.rfl,beq_self_eq_true,tabl,cellsOf,fldA,ldA,stA,Ae,Af,Ac,List.take_left,List.take_length,Ao,Am,over,Ag,Value.oneCell',idxA,nilA,Aa,Ap,Ah,pure1,pure2,reps,chkA,tys,Tryz.results164,evt,Av,Au,Ad,e0,e1,e2,e6,e7,e8,c1,c2,hz,w5,w6,hq1,hE,hP,hT,hA,k1,frA,Bl]
     have k1:decide (N.tdiv (x:Int)≤-2147483648)=false:=by simpa using b1
     by_cases b2:N.tdiv (x:Int) ≥ 2147483648
     ·have k2:decide (N.tdiv (x:Int) ≥ 2147483648)=true:=by simpa using b2
      rw [if_pos (by rw [k1,k2]; rfl)] at hr2
      rw [hr2]
      simp (maxSteps:=1000000) +contextual (disch:=first|with_reducible assumption|exact ⟨rfl⟩|exact ⟨rfl,rfl⟩|exact ⟨rfl,rfl,rfl⟩|(refine _root_.id ?_; kernel_rfl)|omega) only [evs,Ad,nth,put,putT,getT,Ai,Aj,Ab,aUn,outA,resA,mapO,Aq,Ar,w1,w2,w3,bots,cond_true,cond_false,if_true,if_false,ite_true,ite_false,reduceIte,reduceCtorEq,implies_true,Nat.reduceAdd,Nat.reduceSub,AV.int,AV.bool,AV.str,Nat.reduceBEq,Nat.reduceEqDiff,Nat.reduceMul,Nat.reduceLT,Nat.reduceLeDiff,Int.reduceNeg,BEq.rfl,beq_self_eq_true,tabl,cellsOf,fldA,ldA,stA,Ae,Af,Ac,List.take_left,List.take_length,Ao,Am,over,Ag,Value.oneCell',idxA,nilA,Aa,Ap,Ah,pure1,pure2,reps,chkA,tys,Tryz.results164,evt,Av,Au,Ad,e0,e1,e2,e6,e7,e8,c1,c2,hz,w5,w6,hq1,hE,hP,hT,hA,k1,k2,frA,Bl]
     have k2:decide (N.tdiv (x:Int) ≥ 2147483648)=false:=by simpa using b2
     by_cases b3:(D:Int).tdiv (x:Int) ≥ 2147483648
     ·have k3:decide ((D:Int).tdiv (x:Int) ≥ 2147483648)=true:=by simpa using b3
      rw [if_pos (by rw [k1,k2,k3]; rfl)] at hr2
      rw [hr2]
      simp (maxSteps:=1000000) +contextual (disch:=first|with_reducible assumption|exact ⟨rfl⟩|exact ⟨rfl,rfl⟩|exact ⟨rfl,rfl,rfl⟩|(refine _root_.id ?_; kernel_rfl)|omega) only [evs,Ad,nth,put,putT,getT,Ai,Aj,Ab,aUn,outA,resA,mapO,Aq,Ar,w1,w2,w3,bots,cond_true,cond_false,if_true,if_false,ite_true,ite_false,reduceIte,reduceCtorEq,implies_true,Nat.reduceAdd,Nat.reduceSub,AV.int,AV.bool,AV.str,Nat.reduceBEq,Nat.reduceEqDiff,Nat.reduceMul,Nat.reduceLT,Nat.reduceLeDiff,Int.reduceNeg,BEq.rfl,beq_self_eq_true,tabl,cellsOf,fldA,ldA,stA,Ae,Af,Ac,List.take_left,List.take_length,Ao,Am,over,Ag,Value.oneCell',idxA,nilA,Aa,Ap,Ah,pure1,pure2,reps,chkA,tys,Tryz.results164,evt,Av,Au,Ad,e0,e1,e2,e6,e7,e8,c1,c2,hz,w5,w6,hq1,hE,hP,hT,hA,k1,k2,k3,frA,Bl]
     have k3:decide ((D:Int).tdiv (x:Int) ≥ 2147483648)=false:=by simpa using b3
     by_cases b4:(D:Int).tdiv (x:Int)=0
     ·have k4:((D:Int).tdiv (x:Int) == 0)=true:=by simpa using b4
      rw [if_pos (by rw [k1,k2,k3,decide_eq_true b4]; rfl)] at hr2
      rw [hr2]
      simp (maxSteps:=1000000) +contextual (disch:=first|with_reducible assumption|exact ⟨rfl⟩|exact ⟨rfl,rfl⟩|exact ⟨rfl,rfl,rfl⟩|(refine _root_.id ?_; kernel_rfl)|omega) only [evs,Ad,nth,put,putT,getT,Ai,Aj,Ab,aUn,outA,resA,mapO,Aq,Ar,w1,w2,w3,bots,cond_true,cond_false,if_true,if_false,ite_true,ite_false,reduceIte,reduceCtorEq,implies_true,Nat.reduceAdd,Nat.reduceSub,AV.int,AV.bool,AV.str,Nat.reduceBEq,Nat.reduceEqDiff,Nat.reduceMul,Nat.reduceLT,Nat.reduceLeDiff,Int.reduceNeg,BEq.rfl,beq_self_eq_true,tabl,cellsOf,fldA,ldA,stA,Ae,Af,Ac,List.take_left,List.take_length,Ao,Am,over,Ag,Value.oneCell',idxA,nilA,Aa,Ap,Ah,pure1,pure2,reps,chkA,tys,Tryz.results164,evt,Av,Au,Ad,e0,e1,e2,e6,e7,e8,c1,c2,hz,w5,w6,hq1,hE,hP,hT,hA,k1,k2,k3,k4,frA,Bl]
     have k4:((D:Int).tdiv (x:Int) == 0)=false:=by simpa using b4
     rw [if_neg (by rw [k1,k2,k3,decide_eq_false b4]; exact Bool.false_ne_true)] at hr2
     rw [hr2]
     simp (maxSteps:=1000000) +contextual (disch:=first|with_reducible assumption|exact ⟨rfl⟩|exact ⟨rfl,rfl⟩|exact ⟨rfl,rfl,rfl⟩|(refine _root_.id ?_; kernel_rfl)|omega) only [evs,Ad,nth,put,putT,getT,Ai,Aj,Ab,aUn,outA,resA,mapO,Aq,Ar,w1,w2,w3,bots,cond_true,cond_false,if_true,if_false,ite_true,ite_false,reduceIte,reduceCtorEq,implies_true,Nat.reduceAdd,Nat.reduceSub,AV.int,AV.bool,AV.str,Nat.reduceBEq,Nat.reduceEqDiff,Nat.reduceMul,Nat.reduceLT,Nat.reduceLeDiff,Int.reduceNeg,BEq.rfl,beq_self_eq_true,tabl,cellsOf,fldA,ldA,stA,Ae,Af,Ac,List.take_left,List.take_length,Ao,Am,over,Ag,Value.oneCell',idxA,nilA,Aa,Ap,Ah,pure1,pure2,reps,chkA,tys,Tryz.results164,evt,Av,Au,Ad,e0,e1,e2,e6,e7,e8,c1,c2,hz,w5,w6,hq1,k1,k2,k3,k4,frA,En]
    ·rw [if_neg h1,if_neg h1] at hr2
     have c2:decide ((x:Int) > 1)=false:=by simp; omega
     by_cases b1:N≤-2147483648
     ·have k1:decide (N≤-2147483648)=true:=by simpa using b1
      rw [if_pos (by rw [k1]; rfl)] at hr2
      rw [hr2]
      simp (maxSteps:=1000000) +contextual (disch:=first|with_reducible assumption|exact ⟨rfl⟩|exact ⟨rfl,rfl⟩|exact ⟨rfl,rfl,rfl⟩|(refine _root_.id ?_; kernel_rfl)|omega) only [evs,Ad,nth,put,putT,getT,Ai,Aj,Ab,aUn,outA,resA,mapO,Aq,Ar,w1,w2,w3,bots,cond_true,cond_false,if_true,if_false,ite_true,ite_false,reduceIte,reduceCtorEq,implies_true,Nat.reduceAdd,Nat.reduceSub,AV.int,AV.bool,AV.str,Nat.reduceBEq,Nat.reduceEqDiff,Nat.reduceMul,Nat.reduceLT,Nat.reduceLeDiff,Int.reduceNeg,BEq.rfl,beq_self_eq_true,tabl,cellsOf,fldA,ldA,stA,Ae,Af,Ac,List.take_left,List.take_length,Ao,Am,over,Ag,Value.oneCell',idxA,nilA,Aa,Ap,Ah,pure1,pure2,reps,chkA,tys,Tryz.results164,evt,Av,Au,Ad,e0,e1,e2,e6,e7,e8,c1,c2,hq1,hE,hP,hT,hA,k1,frA,Bl]
     have k1:decide (N≤-2147483648)=false:=by simpa using b1
     by_cases b2:N ≥ 2147483648
     ·have k2:decide (N ≥ 2147483648)=true:=by simpa using b2
      rw [if_pos (by rw [k1,k2]; rfl)] at hr2
      rw [hr2]
      simp (maxSteps:=1000000) +contextual (disch:=first|with_reducible assumption|exact ⟨rfl⟩|exact ⟨rfl,rfl⟩|exact ⟨rfl,rfl,rfl⟩|(refine _root_.id ?_; kernel_rfl)|omega) only [evs,Ad,nth,put,putT,getT,Ai,Aj,Ab,aUn,outA,resA,mapO,Aq,Ar,w1,w2,w3,bots,cond_true,cond_false,if_true,if_false,ite_true,ite_false,reduceIte,reduceCtorEq,implies_true,Nat.reduceAdd,Nat.reduceSub,AV.int,AV.bool,AV.str,Nat.reduceBEq,Nat.reduceEqDiff,Nat.reduceMul,Nat.reduceLT,Nat.reduceLeDiff,Int.reduceNeg,BEq.rfl,beq_self_eq_true,tabl,cellsOf,fldA,ldA,stA,Ae,Af,Ac,List.take_left,List.take_length,Ao,Am,over,Ag,Value.oneCell',idxA,nilA,Aa,Ap,Ah,pure1,pure2,reps,chkA,tys,Tryz.results164,evt,Av,Au,Ad,e0,e1,e2,e6,e7,e8,c1,c2,hq1,hE,hP,hT,hA,k1,k2,frA,Bl]
     have k2:decide (N ≥ 2147483648)=false:=by simpa using b2
     by_cases b3:(D:Int) ≥ 2147483648
     ·have k3:decide ((D:Int) ≥ 2147483648)=true:=by simpa using b3
      rw [if_pos (by rw [k1,k2,k3]; rfl)] at hr2
      rw [hr2]
      simp (maxSteps:=1000000) +contextual (disch:=first|with_reducible assumption|exact ⟨rfl⟩|exact ⟨rfl,rfl⟩|exact ⟨rfl,rfl,rfl⟩|(refine _root_.id ?_; kernel_rfl)|omega) only [evs,Ad,nth,put,putT,getT,Ai,Aj,Ab,aUn,outA,resA,mapO,Aq,Ar,w1,w2,w3,bots,cond_true,cond_false,if_true,if_false,ite_true,ite_false,reduceIte,reduceCtorEq,implies_true,Nat.reduceAdd,Nat.reduceSub,AV.int,AV.bool,AV.str,Nat.reduceBEq,Nat.reduceEqDiff,Nat.reduceMul,Nat.reduceLT,Nat.reduceLeDiff,Int.reduceNeg,BEq.rfl,beq_self_eq_true,tabl,cellsOf,fldA,ldA,stA,Ae,Af,Ac,List.take_left,List.take_length,Ao,Am,over,Ag,Value.oneCell',idxA,nilA,Aa,Ap,Ah,pure1,pure2,reps,chkA,tys,Tryz.results164,evt,Av,Au,Ad,e0,e1,e2,e6,e7,e8,c1,c2,hq1,hE,hP,hT,hA,k1,k2,k3,frA,Bl]
     have k3:decide ((D:Int) ≥ 2147483648)=false:=by simpa using b3
     by_cases b4:(D:Int)=0
     ·have k4:((D:Int) == 0)=true:=by simpa using b4
      rw [if_pos (by rw [k1,k2,k3,decide_eq_true b4]; rfl)] at hr2
      rw [hr2]
      simp (maxSteps:=1000000) +contextual (disch:=first|with_reducible assumption|exact ⟨rfl⟩|exact ⟨rfl,rfl⟩|exact ⟨rfl,rfl,rfl⟩|(refine _root_.id ?_; kernel_rfl)|omega) only [evs,Ad,nth,put,putT,getT,Ai,Aj,Ab,aUn,outA,resA,mapO,Aq,Ar,w1,w2,w3,bots,cond_true,cond_false,if_true,if_false,ite_true,ite_false,reduceIte,reduceCtorEq,implies_true,Nat.reduceAdd,Nat.reduceSub,AV.int,AV.bool,AV.str,Nat.reduceBEq,Nat.reduceEqDiff,Nat.reduceMul,Nat.reduceLT,Nat.reduceLeDiff,Int.reduceNeg,BEq.rfl,beq_self_eq_true,tabl,cellsOf,fldA,ldA,stA,Ae,Af,Ac,List.take_left,List.take_length,Ao,Am,over,Ag,Value.oneCell',idxA,nilA,Aa,Ap,Ah,pure1,pure2,reps,chkA,tys,Tryz.results164,evt,Av,Au,Ad,e0,e1,e2,e6,e7,e8,c1,c2,hq1,hE,hP,hT,hA,k1,k2,k3,k4,frA,Bl]
     have k4:((D:Int) == 0)=false:=by simpa using b4
     rw [if_neg (by rw [k1,k2,k3,decide_eq_false b4]; exact Bool.false_ne_true)] at hr2
     rw [hr2]
     simp (maxSteps:=1000000) +contextual (disch:=first|with_reducible assumption|exact ⟨rfl⟩|exact ⟨rfl,rfl⟩|exact ⟨rfl,rfl,rfl⟩|(refine _root_.id ?_; kernel_rfl)|omega) only [evs,Ad,nth,put,putT,getT,Ai,Aj,Ab,aUn,outA,resA,mapO,Aq,Ar,w1,w2,w3,bots,cond_true,cond_false,if_true,if_false,ite_true,ite_false,reduceIte,reduceCtorEq,implies_true,Nat.reduceAdd,Nat.reduceSub,AV.int,AV.bool,AV.str,Nat.reduceBEq,Nat.reduceEqDiff,Nat.reduceMul,Nat.reduceLT,Nat.reduceLeDiff,Int.reduceNeg,BEq.rfl,beq_self_eq_true,tabl,cellsOf,fldA,ldA,stA,Ae,Af,Ac,List.take_left,List.take_length,Ao,Am,over,Ag,Value.oneCell',idxA,nilA,Aa,Ap,Ah,pure1,pure2,reps,chkA,tys,Tryz.results164,evt,Av,Au,Ad,e0,e1,e2,e6,e7,e8,c1,c2,hq1,k1,k2,k3,k4,frA,En]
   ·have c1:((y:Int) != 0)=true:=by simpa using h0
    have hz:¬ ((y:Int)=0):=by omega
    have hm:(x:Int).tmod (y:Int)=((x % y:Nat):Int):=by rw [Int.tmod_eq_emod_of_nonneg (by omega)]; rfl
    simp (maxSteps:=1000000) +contextual (disch:=first|with_reducible assumption|exact ⟨rfl⟩|exact ⟨rfl,rfl⟩|exact ⟨rfl,rfl,rfl⟩|(refine _root_.id ?_; kernel_rfl)|omega) only [evs,Ad,nth,put,putT,getT,Ai,Aj,Ab,aUn,outA,resA,mapO,Aq,Ar,w1,w2,w3,bots,cond_true,cond_false,if_true,if_false,ite_true,ite_false,reduceIte,reduceCtorEq,implies_true,Nat.reduceAdd,Nat.reduceSub,AV.int,AV.bool,AV.str,Nat.reduceBEq,Nat.reduceEqDiff,Nat.reduceMul,Nat.reduceLT,Nat.reduceLeDiff,Int.reduceNeg,BEq.rfl,beq_self_eq_true,tabl,cellsOf,fldA,ldA,stA,Ae,Af,Ac,List.take_left,List.take_length,Ao,Am,over,Ag,Value.oneCell',idxA,nilA,Aa,Ap,Ah,pure1,pure2,reps,chkA,tys,Tryz.results164,evt,Av,Au,Ad,e0,e1,e2,e6,e7,e8,c1,hz,hm]
    have hlt:=Nat.mod_lt x (by omega:0<y)
    exact IH (y,x % y) _ (by first|omega|(simp only; omega)) ⟨rfl,by rw [← hgc,Nat.gcd_comm x y]; exact (Nat.gcd_rec y x).symm ▸ Nat.gcd_comm y (x % y),hy,by first|omega|(dsimp only; omega),by and_intros <;> first|rfl|simp only [getT,List.map_append]⟩
  ·have d2:decide (N<0)=false:=by simpa using hn0
   simp (maxSteps:=1000000) +contextual (disch:=first|with_reducible assumption|exact ⟨rfl⟩|exact ⟨rfl,rfl⟩|exact ⟨rfl,rfl,rfl⟩|(refine _root_.id ?_; kernel_rfl)|omega) only [evs,Ad,nth,put,putT,getT,Ai,Aj,Ab,aUn,outA,resA,mapO,Aq,Ar,w1,w2,w3,bots,cond_true,cond_false,if_true,if_false,ite_true,ite_false,reduceIte,reduceCtorEq,implies_true,Nat.reduceAdd,Nat.reduceSub,AV.int,AV.bool,AV.str,Nat.reduceBEq,Nat.reduceEqDiff,Nat.reduceMul,Nat.reduceLT,Nat.reduceLeDiff,Int.reduceNeg,BEq.rfl,beq_self_eq_true,tabl,cellsOf,fldA,ldA,stA,Ae,Af,Ac,List.take_left,List.take_length,Ao,Am,over,Ag,Value.oneCell',idxA,nilA,Aa,Ap,Ah,pure1,pure2,reps,chkA,tys,Tryz.results164,evt,Av,Au,Ad,w2,w1,d1,w1',w2',d2]
   obtain ⟨M,hM⟩:∃ M:Nat,N=M:=⟨N.natAbs,by omega⟩
   subst hM
   refine Aaj (P:=Tryz.prog) (fun x st=>st.T.length=56∧(x.1.gcd x.2=g)∧(x.1<9223372036854775808)∧(x.2<9223372036854775808)∧getT st.T 0=.ref iq eq 0∧getT st.T 1=.int (M:Int)∧getT st.T 2=.int (D:Nat)∧getT st.T 6=.ref S.length k 0∧getT st.T 7=.int (x.1:Nat)∧getT st.T 8=.int (x.2:Nat)∧st.S=S++[⟨k,[.int 0,.int 0]⟩]∧st.tk=tk∧st.n=k+1) (fun x=>x.2) (fun x=>(frA r.1,flS S iq eq r.2,tk,k+1)) ((M:Int).natAbs,D) ?_ ?_
   case refine_2=>exact ⟨rfl,by rw [hNn,hD,hg],by omega,by omega,rfl,rfl,rfl,rfl,rfl,rfl,rfl,rfl,rfl⟩
   rintro ⟨x,y⟩ ⟨T,S',tk',n'⟩ ⟨hl,hgc,hx,hy,e0,e1,e2,e6,e7,e8,eS,eT,eN⟩ IH
   simp only at hgc hx hy e0 e1 e2 e6 e7 e8 eS eT eN
   subst eS eT eN
   obtain ⟨g,hg,hT⟩:=Bp hl
   rw [hg] at e0 e1 e2 e6 e7 e8
   subst hT
   clear hg hl
   by_cases h0:y=0
   ·subst h0
    have c1:(((0:Nat):Int) != 0)=false:=rfl
    rw [Nat.gcd_zero_right] at hgc
    subst hgc
    by_cases h1:1<x
    ·rw [if_pos h1,if_pos h1] at hr2
     have c2:decide ((x:Int) > 1)=true:=by simp; omega
     have hz:¬ ((x:Int)=0):=by omega
     have v1:=Dl (M:Int) x
     have v2:=Dl (D:Int) x
     have w5:IntKind.i64.wrap ((M:Int).tdiv (x:Int))=(M:Int).tdiv (x:Int):=A0 (by unfold i64; omega)
     have w6:IntKind.i64.wrap ((D:Int).tdiv (x:Int))=(D:Int).tdiv (x:Int):=A0 (by unfold i64; omega)
     by_cases b1:(M:Int).tdiv (x:Int)≤-2147483648
     ·have k1:decide ((M:Int).tdiv (x:Int)≤-2147483648)=true:=by simpa using b1
      rw [if_pos (by rw [k1]; rfl)] at hr2
      rw [hr2]
      simp (maxSteps:=1000000) +contextual (disch:=first|with_reducible assumption|exact ⟨rfl⟩|exact ⟨rfl,rfl⟩|exact ⟨rfl,rfl,rfl⟩|(refine _root_.id ?_; kernel_rfl)|omega) only [evs,Ad,nth,put,putT,getT,Ai,Aj,Ab,aUn,outA,resA,mapO,Aq,Ar,w1,w2,w3,bots,cond_true,cond_false,if_true,if_false,ite_true,ite_false,reduceIte,reduceCtorEq,implies_true,Nat.reduceAdd,Nat.reduceSub,AV.int,AV.bool,AV.str,Nat.reduceBEq,Nat.reduceEqDiff,Nat.reduceMul,Nat.reduceLT,Nat.reduceLeDiff,Int.reduceNeg,BEq.rfl,beq_self_eq_true,tabl,cellsOf,fldA,ldA,stA,Ae,Af,Ac,List.take_left,List.take_length,Ao,Am,over,Ag,Value.oneCell',idxA,nilA,Aa,Ap,Ah,pure1,pure2,reps,chkA,tys,Tryz.results164,evt,Av,Au,Ad,e0,e1,e2,e6,e7,e8,c1,c2,hz,w5,w6,hq1,hE,hP,hT,hA,k1,frA,Bl]
     have k1:decide ((M:Int).tdiv (x:Int)≤-2147483648)=false:=by simpa using b1
     by_cases b2:(M:Int).tdiv (x:Int) ≥ 2147483648
     ·have k2:decide ((M:Int).tdiv (x:Int) ≥ 2147483648)=true:=by simpa using b2
      rw [if_pos (by rw [k1,k2]; rfl)] at hr2
      rw [hr2]
      simp (maxSteps:=1000000) +contextual (disch:=first|with_reducible assumption|exact ⟨rfl⟩|exact ⟨rfl,rfl⟩|exact ⟨rfl,rfl,rfl⟩|(refine _root_.id ?_; kernel_rfl)|omega) only [evs,Ad,nth,put,putT,getT,Ai,Aj,Ab,aUn,outA,resA,mapO,Aq,Ar,w1,w2,w3,bots,cond_true,cond_false,if_true,if_false,ite_true,ite_false,reduceIte,reduceCtorEq,implies_true,Nat.reduceAdd,Nat.reduceSub,AV.int,AV.bool,AV.str,Nat.reduceBEq,Nat.reduceEqDiff,Nat.reduceMul,Nat.reduceLT,Nat.reduceLeDiff,Int.reduceNeg,BEq.rfl,beq_self_eq_true,tabl,cellsOf,fldA,ldA,stA,Ae,Af,Ac,List.take_left,List.take_length,Ao,Am,over,Ag,Value.oneCell',idxA,nilA,Aa,Ap,Ah,pure1,pure2,reps,chkA,tys,Tryz.results164,evt,Av,Au,Ad,e0,e1,e2,e6,e7,e8,c1,c2,hz,w5,w6,hq1,hE,hP,hT,hA,k1,k2,frA,Bl]
     have k2:decide ((M:Int).tdiv (x:Int) ≥ 2147483648)=false:=by simpa using b2
     by_cases b3:(D:Int).tdiv (x:Int) ≥ 2147483648
     ·have k3:decide ((D:Int).tdiv (x:Int) ≥ 2147483648)=true:=by simpa using b3
      rw [if_pos (by rw [k1,k2,k3]; rfl)] at hr2
      rw [hr2]
      simp (maxSteps:=1000000) +contextual (disch:=first|with_reducible assumption|exact ⟨rfl⟩|exact ⟨rfl,rfl⟩|exact ⟨rfl,rfl,rfl⟩|(refine _root_.id ?_; kernel_rfl)|omega) only [evs,Ad,nth,put,putT,getT,Ai,Aj,Ab,aUn,outA,resA,mapO,Aq,Ar,w1,w2,w3,bots,cond_true,cond_false,if_true,if_false,ite_true,ite_false,reduceIte,reduceCtorEq,implies_true,Nat.reduceAdd,Nat.reduceSub,AV.int,AV.bool,AV.str,Nat.reduceBEq,Nat.reduceEqDiff,Nat.reduceMul,Nat.reduceLT,Nat.reduceLeDiff,Int.reduceNeg,BEq.rfl,beq_self_eq_true,tabl,cellsOf,fldA,ldA,stA,Ae,Af,Ac,List.take_left,List.take_length,Ao,Am,over,Ag,Value.oneCell',idxA,nilA,Aa,Ap,Ah,pure1,pure2,reps,chkA,tys,Tryz.results164,evt,Av,Au,Ad,e0,e1,e2,e6,e7,e8,c1,c2,hz,w5,w6,hq1,hE,hP,hT,hA,k1,k2,k3,frA,Bl]
     have k3:decide ((D:Int).tdiv (x:Int) ≥ 2147483648)=false:=by simpa using b3
     by_cases b4:(D:Int).tdiv (x:Int)=0
     ·have k4:((D:Int).tdiv (x:Int) == 0)=true:=by simpa using b4
      rw [if_pos (by rw [k1,k2,k3,decide_eq_true b4]; rfl)] at hr2
      rw [hr2]
      simp (maxSteps:=1000000) +contextual (disch:=first|with_reducible assumption|exact ⟨rfl⟩|exact ⟨rfl,rfl⟩|exact ⟨rfl,rfl,rfl⟩|(refine _root_.id ?_; kernel_rfl)|omega) only [evs,Ad,nth,put,putT,getT,Ai,Aj,Ab,aUn,outA,resA,mapO,Aq,Ar,w1,w2,w3,bots,cond_true,cond_false,if_true,if_false,ite_true,ite_false,reduceIte,reduceCtorEq,implies_true,Nat.reduceAdd,Nat.reduceSub,AV.int,AV.bool,AV.str,Nat.reduceBEq,Nat.reduceEqDiff,Nat.reduceMul,Nat.reduceLT,Nat.reduceLeDiff,Int.reduceNeg,BEq.rfl,beq_self_eq_true,tabl,cellsOf,fldA,ldA,stA,Ae,Af,Ac,List.take_left,List.take_length,Ao,Am,over,Ag,Value.oneCell',idxA,nilA,Aa,Ap,Ah,pure1,pure2,reps,chkA,tys,Tryz.results164,evt,Av,Au,Ad,e0,e1,e2,e6,e7,e8,c1,c2,hz,w5,w6,hq1,hE,hP,hT,hA,k1,k2,k3,k4,frA,Bl]
     have k4:((D:Int).tdiv (x:Int) == 0)=false:=by simpa using b4
     rw [if_neg (by rw [k1,k2,k3,decide_eq_false b4]; exact Bool.false_ne_true)] at hr2
     rw [hr2]
     simp (maxSteps:=1000000) +contextual (disch:=first|with_reducible assumption|exact ⟨rfl⟩|exact ⟨rfl,rfl⟩|exact ⟨rfl,rfl,rfl⟩|(refine _root_.id ?_; kernel_rfl)|omega) only [evs,Ad,nth,put,putT,getT,Ai,Aj,Ab,aUn,outA,resA,mapO,Aq,Ar,w1,w2,w3,bots,cond_true,cond_false,if_true,if_false,ite_true,ite_false,reduceIte,reduceCtorEq,implies_true,Nat.reduceAdd,Nat.reduceSub,AV.int,AV.bool,AV.str,Nat.reduceBEq,Nat.reduceEqDiff,Nat.reduceMul,Nat.reduceLT,Nat.reduceLeDiff,Int.reduceNeg,BEq.rfl,beq_self_eq_true,tabl,cellsOf,fldA,ldA,stA,Ae,Af,Ac,List.take_left,List.take_length,Ao,Am,over,Ag,Value.oneCell',idxA,nilA,Aa,Ap,Ah,pure1,pure2,reps,chkA,tys,Tryz.results164,evt,Av,Au,Ad,e0,e1,e2,e6,e7,e8,c1,c2,hz,w5,w6,hq1,k1,k2,k3,k4,frA,En]
    ·rw [if_neg h1,if_neg h1] at hr2
     have c2:decide ((x:Int) > 1)=false:=by simp; omega
     by_cases b1:(M:Int)≤-2147483648
     ·have k1:decide ((M:Int)≤-2147483648)=true:=by simpa using b1
      rw [if_pos (by rw [k1]; rfl)] at hr2
      rw [hr2]
      simp (maxSteps:=1000000) +contextual (disch:=first|with_reducible assumption|exact ⟨rfl⟩|exact ⟨rfl,rfl⟩|exact ⟨rfl,rfl,rfl⟩|(refine _root_.id ?_; kernel_rfl)|omega) only [evs,Ad,nth,put,putT,getT,Ai,Aj,Ab,aUn,outA,resA,mapO,Aq,Ar,w1,w2,w3,bots,cond_true,cond_false,if_true,if_false,ite_true,ite_false,reduceIte,reduceCtorEq,implies_true,Nat.reduceAdd,Nat.reduceSub,AV.int,AV.bool,AV.str,Nat.reduceBEq,Nat.reduceEqDiff,Nat.reduceMul,Nat.reduceLT,Nat.reduceLeDiff,Int.reduceNeg,BEq.rfl,beq_self_eq_true,tabl,cellsOf,fldA,ldA,stA,Ae,Af,Ac,List.take_left,List.take_length,Ao,Am,over,Ag,Value.oneCell',idxA,nilA,Aa,Ap,Ah,pure1,pure2,reps,chkA,tys,Tryz.results164,evt,Av,Au,Ad,e0,e1,e2,e6,e7,e8,c1,c2,hq1,hE,hP,hT,hA,k1,frA,Bl]
     have k1:decide ((M:Int)≤-2147483648)=false:=by simpa using b1
     by_cases b2:(M:Int) ≥ 2147483648
     ·have k2:decide ((M:Int) ≥ 2147483648)=true:=by simpa using b2
      rw [if_pos (by rw [k1,k2]; rfl)] at hr2
      rw [hr2]
      simp (maxSteps:=1000000) +contextual (disch:=first|with_reducible assumption|exact ⟨rfl⟩|exact ⟨rfl,rfl⟩|exact ⟨rfl,rfl,rfl⟩|(refine _root_.id ?_; kernel_rfl)|omega) only [evs,Ad,nth,put,putT,getT,Ai,Aj,Ab,aUn,outA,resA,mapO,Aq,Ar,w1,w2,w3,bots,cond_true,cond_false,if_true,if_false,ite_true,ite_false,reduceIte,reduceCtorEq,implies_true,Nat.reduceAdd,Nat.reduceSub,AV.int,AV.bool,AV.str,Nat.reduceBEq,Nat.reduceEqDiff,Nat.reduceMul,Nat.reduceLT,Nat.reduceLeDiff,Int.reduceNeg,BEq.rfl,beq_self_eq_true,tabl,cellsOf,fldA,ldA,stA,Ae,Af,Ac,List.take_left,List.take_length,Ao,Am,over,Ag,Value.oneCell',idxA,nilA,Aa,Ap,Ah,pure1,pure2,reps,chkA,tys,Tryz.results164,evt,Av,Au,Ad,e0,e1,e2,e6,e7,e8,c1,c2,hq1,hE,hP,hT,hA,k1,k2,frA,Bl]
     have k2:decide ((M:Int) ≥ 2147483648)=false:=by simpa using b2
     by_cases b3:(D:Int) ≥ 2147483648
     ·have k3:decide ((D:Int) ≥ 2147483648)=true:=by simpa using b3
      rw [if_pos (by rw [k1,k2,k3]; rfl)] at hr2
      rw [hr2]
      simp (maxSteps:=1000000) +contextual (disch:=first|with_reducible assumption|exact ⟨rfl⟩|exact ⟨rfl,rfl⟩|exact ⟨rfl,rfl,rfl⟩|(refine _root_.id ?_; kernel_rfl)|omega) only [evs,Ad,nth,put,putT,getT,Ai,Aj,Ab,aUn,outA,resA,mapO,Aq,Ar,w1,w2,w3,bots,cond_true,cond_false,if_true,if_false,ite_true,ite_false,reduceIte,reduceCtorEq,implies_true,Nat.reduceAdd,Nat.reduceSub,AV.int,AV.bool,AV.str,Nat.reduceBEq,Nat.reduceEqDiff,Nat.reduceMul,Nat.reduceLT,Nat.reduceLeDiff,Int.reduceNeg,BEq.rfl,beq_self_eq_true,tabl,cellsOf,fldA,ldA,stA,Ae,Af,Ac,List.take_left,List.take_length,Ao,Am,over,Ag,Value.oneCell',idxA,nilA,Aa,Ap,Ah,pure1,pure2,reps,chkA,tys,Tryz.results164,evt,Av,Au,Ad,e0,e1,e2,e6,e7,e8,c1,c2,hq1,hE,hP,hT,hA,k1,k2,k3,frA,Bl]
     have k3:decide ((D:Int) ≥ 2147483648)=false:=by simpa using b3
     by_cases b4:(D:Int)=0
     ·have k4:((D:Int) == 0)=true:=by simpa using b4
      rw [if_pos (by rw [k1,k2,k3,decide_eq_true b4]; rfl)] at hr2
      rw [hr2]
      simp (maxSteps:=1000000) +contextual (disch:=first|with_reducible assumption|exact ⟨rfl⟩|exact ⟨rfl,rfl⟩|exact ⟨rfl,rfl,rfl⟩|(refine _root_.id ?_; kernel_rfl)|omega) only [evs,Ad,nth,put,putT,getT,Ai,Aj,Ab,aUn,outA,resA,mapO,Aq,Ar,w1,w2,w3,bots,cond_true,cond_false,if_true,if_false,ite_true,ite_false,reduceIte,reduceCtorEq,implies_true,Nat.reduceAdd,Nat.reduceSub,AV.int,AV.bool,AV.str,Nat.reduceBEq,Nat.reduceEqDiff,Nat.reduceMul,Nat.reduceLT,Nat.reduceLeDiff,Int.reduceNeg,BEq.rfl,beq_self_eq_true,tabl,cellsOf,fldA,ldA,stA,Ae,Af,Ac,List.take_left,List.take_length,Ao,Am,over,Ag,Value.oneCell',idxA,nilA,Aa,Ap,Ah,pure1,pure2,reps,chkA,tys,Tryz.results164,evt,Av,Au,Ad,e0,e1,e2,e6,e7,e8,c1,c2,hq1,hE,hP,hT,hA,k1,k2,k3,k4,frA,Bl]
     have k4:((D:Int) == 0)=false:=by simpa using b4
     rw [if_neg (by rw [k1,k2,k3,decide_eq_false b4]; exact Bool.false_ne_true)] at hr2
     rw [hr2]
     simp (maxSteps:=1000000) +contextual (disch:=first|with_reducible assumption|exact ⟨rfl⟩|exact ⟨rfl,rfl⟩|exact ⟨rfl,rfl,rfl⟩|(refine _root_.id ?_; kernel_rfl)|omega) only [evs,Ad,nth,put,putT,getT,Ai,Aj,Ab,aUn,outA,resA,mapO,Aq,Ar,w1,w2,w3,bots,cond_true,cond_false,if_true,if_false,ite_true,ite_false,reduceIte,reduceCtorEq,implies_true,Nat.reduceAdd,Nat.reduceSub,AV.int,AV.bool,AV.str,Nat.reduceBEq,Nat.reduceEqDiff,Nat.reduceMul,Nat.reduceLT,Nat.reduceLeDiff,Int.reduceNeg,BEq.rfl,beq_self_eq_true,tabl,cellsOf,fldA,ldA,stA,Ae,Af,Ac,List.take_left,List.take_length,Ao,Am,over,Ag,Value.oneCell',idxA,nilA,Aa,Ap,Ah,pure1,pure2,reps,chkA,tys,Tryz.results164,evt,Av,Au,Ad,e0,e1,e2,e6,e7,e8,c1,c2,hq1,k1,k2,k3,k4,frA,En]
   ·have c1:((y:Int) != 0)=true:=by simpa using h0
    have hz:¬ ((y:Int)=0):=by omega
    have hm:(x:Int).tmod (y:Int)=((x % y:Nat):Int):=by rw [Int.tmod_eq_emod_of_nonneg (by omega)]; rfl
    simp (maxSteps:=1000000) +contextual (disch:=first|with_reducible assumption|exact ⟨rfl⟩|exact ⟨rfl,rfl⟩|exact ⟨rfl,rfl,rfl⟩|(refine _root_.id ?_; kernel_rfl)|omega) only [evs,Ad,nth,put,putT,getT,Ai,Aj,Ab,aUn,outA,resA,mapO,Aq,Ar,w1,w2,w3,bots,cond_true,cond_false,if_true,if_false,ite_true,ite_false,reduceIte,reduceCtorEq,implies_true,Nat.reduceAdd,Nat.reduceSub,AV.int,AV.bool,AV.str,Nat.reduceBEq,Nat.reduceEqDiff,Nat.reduceMul,Nat.reduceLT,Nat.reduceLeDiff,Int.reduceNeg,BEq.rfl,beq_self_eq_true,tabl,cellsOf,fldA,ldA,stA,Ae,Af,Ac,List.take_left,List.take_length,Ao,Am,over,Ag,Value.oneCell',idxA,nilA,Aa,Ap,Ah,pure1,pure2,reps,chkA,tys,Tryz.results164,evt,Av,Au,Ad,e0,e1,e2,e6,e7,e8,c1,hz,hm]
    have hlt:=Nat.mod_lt x (by omega:0<y)
    exact IH (y,x % y) _ (by first|omega|(simp only; omega)) ⟨rfl,by rw [← hgc,Nat.gcd_comm x y]; exact (Nat.gcd_rec y x).symm ▸ Nat.gcd_comm y (x % y),hy,by first|omega|(dsimp only; omega),by and_intros <;> first|rfl|simp only [getT,List.map_append]⟩
 ·have d1:decide (d<0)=false:=by simpa using hneg
  have hNn2:n=N:=by rw [hN,if_neg hneg]
  have hDd:d=(D:Int):=by omega
  subst hNn2
  subst hDd
  by_cases hn0:n<0
  ·have d2:decide (n<0)=true:=by simpa using hn0
   have w3':IntKind.i64.wrap (0 - n)=((n.natAbs:Nat):Int):=by rw [A0 (by unfold i64; omega)]; omega
   simp (maxSteps:=1000000) +contextual (disch:=first|with_reducible assumption|exact ⟨rfl⟩|exact ⟨rfl,rfl⟩|exact ⟨rfl,rfl,rfl⟩|(refine _root_.id ?_; kernel_rfl)|omega) only [evs,Ad,nth,put,putT,getT,Ai,Aj,Ab,aUn,outA,resA,mapO,Aq,Ar,w1,w2,w3,bots,cond_true,cond_false,if_true,if_false,ite_true,ite_false,reduceIte,reduceCtorEq,implies_true,Nat.reduceAdd,Nat.reduceSub,AV.int,AV.bool,AV.str,Nat.reduceBEq,Nat.reduceEqDiff,Nat.reduceMul,Nat.reduceLT,Nat.reduceLeDiff,Int.reduceNeg,BEq.rfl,beq_self_eq_true,tabl,cellsOf,fldA,ldA,stA,Ae,Af,Ac,List.take_left,List.take_length,Ao,Am,over,Ag,Value.oneCell',idxA,nilA,Aa,Ap,Ah,pure1,pure2,reps,chkA,tys,Tryz.results164,evt,Av,Au,Ad,w2,w1,d1,d2,w3']
   refine Aaj (P:=Tryz.prog) (fun x st=>st.T.length=56∧(x.1.gcd x.2=g)∧(x.1<9223372036854775808)∧(x.2<9223372036854775808)∧getT st.T 0=.ref iq eq 0∧getT st.T 1=.int n∧getT st.T 2=.int (D:Nat)∧getT st.T 6=.ref S.length k 0∧getT st.T 7=.int (x.1:Nat)∧getT st.T 8=.int (x.2:Nat)∧st.S=S++[⟨k,[.int 0,.int 0]⟩]∧st.tk=tk∧st.n=k+1) (fun x=>x.2) (fun x=>(frA r.1,flS S iq eq r.2,tk,k+1)) (n.natAbs,D) ?_ ?_
   case refine_2=>exact ⟨rfl,by rw [hNn,hD,hg],by omega,by omega,rfl,rfl,rfl,rfl,rfl,rfl,rfl,rfl,rfl⟩
   rintro ⟨x,y⟩ ⟨T,S',tk',n'⟩ ⟨hl,hgc,hx,hy,e0,e1,e2,e6,e7,e8,eS,eT,eN⟩ IH
   simp only at hgc hx hy e0 e1 e2 e6 e7 e8 eS eT eN
   subst eS eT eN
   obtain ⟨g,hg,hT⟩:=Bp hl
   rw [hg] at e0 e1 e2 e6 e7 e8
   subst hT
   clear hg hl
   by_cases h0:y=0
   ·subst h0
    have c1:(((0:Nat):Int) != 0)=false:=rfl
    rw [Nat.gcd_zero_right] at hgc
    subst hgc
    by_cases h1:1<x
    ·rw [if_pos h1,if_pos h1] at hr2
     have c2:decide ((x:Int) > 1)=true:=by simp; omega
     have hz:¬ ((x:Int)=0):=by omega
     have v1:=Dl n x
     have v2:=Dl (D:Int) x
     have w5:IntKind.i64.wrap (n.tdiv (x:Int))=n.tdiv (x:Int):=A0 (by unfold i64; omega)
     have w6:IntKind.i64.wrap ((D:Int).tdiv (x:Int))=(D:Int).tdiv (x:Int):=A0 (by unfold i64; omega)
     by_cases b1:n.tdiv (x:Int)≤-2147483648
     ·have k1:decide (n.tdiv (x:Int)≤-2147483648)=true:=by simpa using b1
      rw [if_pos (by rw [k1]; rfl)] at hr2
      rw [hr2]
      simp (maxSteps:=1000000) +contextual (disch:=first|with_reducible assumption|exact ⟨rfl⟩|exact ⟨rfl,rfl⟩|exact ⟨rfl,rfl,rfl⟩|(refine _root_.id ?_; kernel_rfl)|omega) only [evs,Ad,nth,put,putT,getT,Ai,Aj,Ab,aUn,outA,resA,mapO,Aq,Ar,w1,w2,w3,bots,cond_true,cond_false,if_true,if_false,ite_true,ite_false,reduceIte,reduceCtorEq,implies_true,Nat.reduceAdd,Nat.reduceSub,AV.int,AV.bool,AV.str,Nat.reduceBEq,Nat.reduceEqDiff,Nat.reduceMul,Nat.reduceLT,Nat.reduceLeDiff,Int.reduceNeg,BEq.rfl,beq_self_eq_true,tabl,cellsOf,fldA,ldA,stA,Ae,Af,Ac,List.take_left,List.take_length,Ao,Am,over,Ag,Value.oneCell',idxA,nilA,Aa,Ap,Ah,pure1,pure2,reps,chkA,tys,Tryz.results164,evt,Av,Au,Ad,e0,e1,e2,e6,e7,e8,c1,c2,hz,w5,w6,hq1,hE,hP,hT,hA,k1,frA,Bl]
     have k1:decide (n.tdiv (x:Int)≤-2147483648)=false:=by simpa using b1
     by_cases b2:n.tdiv (x:Int) ≥ 2147483648
     ·have k2:decide (n.tdiv (x:Int) ≥ 2147483648)=true:=by simpa using b2
      rw [if_pos (by rw [k1,k2]; rfl)] at hr2
      rw [hr2]
      simp (maxSteps:=1000000) +contextual (disch:=first|with_reducible assumption|exact ⟨rfl⟩|exact ⟨rfl,rfl⟩|exact ⟨rfl,rfl,rfl⟩|(refine _root_.id ?_; kernel_rfl)|omega) only [evs,Ad,nth,put,putT,getT,Ai,Aj,Ab,aUn,outA,resA,mapO,Aq,Ar,w1,w2,w3,bots,cond_true,cond_false,if_true,if_false,ite_true,ite_false,reduceIte,reduceCtorEq,implies_true,Nat.reduceAdd,Nat.reduceSub,AV.int,AV.bool,AV.str,Nat.reduceBEq,Nat.reduceEqDiff,Nat.reduceMul,Nat.reduceLT,Nat.reduceLeDiff,Int.reduceNeg,BEq.rfl,beq_self_eq_true,tabl,cellsOf,fldA,ldA,stA,Ae,Af,Ac,List.take_left,List.take_length,Ao,Am,over,Ag,Value.oneCell',idxA,nilA,Aa,Ap,Ah,pure1,pure2,reps,chkA,tys,Tryz.results164,evt,Av,Au,Ad,e0,e1,e2,e6,e7,e8,c1,c2,hz,w5,w6,hq1,hE,hP,hT,hA,k1,k2,frA,Bl]
     have k2:decide (n.tdiv (x:Int) ≥ 2147483648)=false:=by simpa using b2
     by_cases b3:(D:Int).tdiv (x:Int) ≥ 2147483648
     ·have k3:decide ((D:Int).tdiv (x:Int) ≥ 2147483648)=true:=by simpa using b3
      rw [if_pos (by rw [k1,k2,k3]; rfl)] at hr2
      rw [hr2]
      simp (maxSteps:=1000000) +contextual (disch:=first|with_reducible assumption|exact ⟨rfl⟩|exact ⟨rfl,rfl⟩|exact ⟨rfl,rfl,rfl⟩|(refine _root_.id ?_; kernel_rfl)|omega) only [evs,Ad,nth,put,putT,getT,Ai,Aj,Ab,aUn,outA,resA,mapO,Aq,Ar,w1,w2,w3,bots,cond_true,cond_false,if_true,if_false,ite_true,ite_false,reduceIte,reduceCtorEq,implies_true,Nat.reduceAdd,Nat.reduceSub,AV.int,AV.bool,AV.str,Nat.reduceBEq,Nat.reduceEqDiff,Nat.reduceMul,Nat.reduceLT,Nat.reduceLeDiff,Int.reduceNeg,BEq.rfl,beq_self_eq_true,tabl,cellsOf,fldA,ldA,stA,Ae,Af,Ac,List.take_left,List.take_length,Ao,Am,over,Ag,Value.oneCell',idxA,nilA,Aa,Ap,Ah,pure1,pure2,reps,chkA,tys,Tryz.results164,evt,Av,Au,Ad,e0,e1,e2,e6,e7,e8,c1,c2,hz,w5,w6,hq1,hE,hP,hT,hA,k1,k2,k3,frA,Bl]
     have k3:decide ((D:Int).tdiv (x:Int) ≥ 2147483648)=false:=by simpa using b3
     by_cases b4:(D:Int).tdiv (x:Int)=0
     ·have k4:((D:Int).tdiv (x:Int) == 0)=true:=by simpa using b4
      rw [if_pos (by rw [k1,k2,k3,decide_eq_true b4]; rfl)] at hr2
      rw [hr2]
      simp (maxSteps:=1000000) +contextual (disch:=first|with_reducible assumption|exact ⟨rfl⟩|exact ⟨rfl,rfl⟩|exact ⟨rfl,rfl,rfl⟩|(refine _root_.id ?_; kernel_rfl)|omega) only [evs,Ad,nth,put,putT,getT,Ai,Aj,Ab,aUn,outA,resA,mapO,Aq,Ar,w1,w2,w3,bots,cond_true,cond_false,if_true,if_false,ite_true,ite_false,reduceIte,reduceCtorEq,implies_true,Nat.reduceAdd,Nat.reduceSub,AV.int,AV.bool,AV.str,Nat.reduceBEq,Nat.reduceEqDiff,Nat.reduceMul,Nat.reduceLT,Nat.reduceLeDiff,Int.reduceNeg,BEq.rfl,beq_self_eq_true,tabl,cellsOf,fldA,ldA,stA,Ae,Af,Ac,List.take_left,List.take_length,Ao,Am,over,Ag,Value.oneCell',idxA,nilA,Aa,Ap,Ah,pure1,pure2,reps,chkA,tys,Tryz.results164,evt,Av,Au,Ad,e0,e1,e2,e6,e7,e8,c1,c2,hz,w5,w6,hq1,hE,hP,hT,hA,k1,k2,k3,k4,frA,Bl]
     have k4:((D:Int).tdiv (x:Int) == 0)=false:=by simpa using b4
     rw [if_neg (by rw [k1,k2,k3,decide_eq_false b4]; exact Bool.false_ne_true)] at hr2
     rw [hr2]
     simp (maxSteps:=1000000) +contextual (disch:=first|with_reducible assumption|exact ⟨rfl⟩|exact ⟨rfl,rfl⟩|exact ⟨rfl,rfl,rfl⟩|(refine _root_.id ?_; kernel_rfl)|omega) only [evs,Ad,nth,put,putT,getT,Ai,Aj,Ab,aUn,outA,resA,mapO,Aq,Ar,w1,w2,w3,bots,cond_true,cond_false,if_true,if_false,ite_true,ite_false,reduceIte,reduceCtorEq,implies_true,Nat.reduceAdd,Nat.reduceSub,AV.int,AV.bool,AV.str,Nat.reduceBEq,Nat.reduceEqDiff,Nat.reduceMul,Nat.reduceLT,Nat.reduceLeDiff,Int.reduceNeg,BEq.rfl,beq_self_eq_true,tabl,cellsOf,fldA,ldA,stA,Ae,Af,Ac,List.take_left,List.take_length,Ao,Am,over,Ag,Value.oneCell',idxA,nilA,Aa,Ap,Ah,pure1,pure2,reps,chkA,tys,Tryz.results164,evt,Av,Au,Ad,e0,e1,e2,e6,e7,e8,c1,c2,hz,w5,w6,hq1,k1,k2,k3,k4,frA,En]
    ·rw [if_neg h1,if_neg h1] at hr2
     have c2:decide ((x:Int) > 1)=false:=by simp; omega
     by_cases b1:n≤-2147483648
     ·have k1:decide (n≤-2147483648)=true:=by simpa using b1
      rw [if_pos (by rw [k1]; rfl)] at hr2
      rw [hr2]
      simp (maxSteps:=1000000) +contextual (disch:=first|with_reducible assumption|exact ⟨rfl⟩|exact ⟨rfl,rfl⟩|exact ⟨rfl,rfl,rfl⟩|(refine _root_.id ?_; kernel_rfl)|omega) only [evs,Ad,nth,put,putT,getT,Ai,Aj,Ab,aUn,outA,resA,mapO,Aq,Ar,w1,w2,w3,bots,cond_true,cond_false,if_true,if_false,ite_true,ite_false,reduceIte,reduceCtorEq,implies_true,Nat.reduceAdd,Nat.reduceSub,AV.int,AV.bool,AV.str,Nat.reduceBEq,Nat.reduceEqDiff,Nat.reduceMul,Nat.reduceLT,Nat.reduceLeDiff,Int.reduceNeg,BEq.rfl,beq_self_eq_true,tabl,cellsOf,fldA,ldA,stA,Ae,Af,Ac,List.take_left,List.take_length,Ao,Am,over,Ag,Value.oneCell',idxA,nilA,Aa,Ap,Ah,pure1,pure2,reps,chkA,tys,Tryz.results164,evt,Av,Au,Ad,e0,e1,e2,e6,e7,e8,c1,c2,hq1,hE,hP,hT,hA,k1,frA,Bl]
     have k1:decide (n≤-2147483648)=false:=by simpa using b1
     by_cases b2:n ≥ 2147483648
     ·have k2:decide (n ≥ 2147483648)=true:=by simpa using b2
      rw [if_pos (by rw [k1,k2]; rfl)] at hr2
      rw [hr2]
      simp (maxSteps:=1000000) +contextual (disch:=first|with_reducible assumption|exact ⟨rfl⟩|exact ⟨rfl,rfl⟩|exact ⟨rfl,rfl,rfl⟩|(refine _root_.id ?_; kernel_rfl)|omega) only [evs,Ad,nth,put,putT,getT,Ai,Aj,Ab,aUn,outA,resA,mapO,Aq,Ar,w1,w2,w3,bots,cond_true,cond_false,if_true,if_false,ite_true,ite_false,reduceIte,reduceCtorEq,implies_true,Nat.reduceAdd,Nat.reduceSub,AV.int,AV.bool,AV.str,Nat.reduceBEq,Nat.reduceEqDiff,Nat.reduceMul,Nat.reduceLT,Nat.reduceLeDiff,Int.reduceNeg,BEq.rfl,beq_self_eq_true,tabl,cellsOf,fldA,ldA,stA,Ae,Af,Ac,List.take_left,List.take_length,Ao,Am,over,Ag,Value.oneCell',idxA,nilA,Aa,Ap,Ah,pure1,pure2,reps,chkA,tys,Tryz.results164,evt,Av,Au,Ad,e0,e1,e2,e6,e7,e8,c1,c2,hq1,hE,hP,hT,hA,k1,k2,frA,Bl]
     have k2:decide (n ≥ 2147483648)=false:=by simpa using b2
     by_cases b3:(D:Int) ≥ 2147483648
     ·have k3:decide ((D:Int) ≥ 2147483648)=true:=by simpa using b3
      rw [if_pos (by rw [k1,k2,k3]; rfl)] at hr2
      rw [hr2]
      simp (maxSteps:=1000000) +contextual (disch:=first|with_reducible assumption|exact ⟨rfl⟩|exact ⟨rfl,rfl⟩|exact ⟨rfl,rfl,rfl⟩|(refine _root_.id ?_; kernel_rfl)|omega) only [evs,Ad,nth,put,putT,getT,Ai,Aj,Ab,aUn,outA,resA,mapO,Aq,Ar,w1,w2,w3,bots,cond_true,cond_false,if_true,if_false,ite_true,ite_false,reduceIte,reduceCtorEq,implies_true,Nat.reduceAdd,Nat.reduceSub,AV.int,AV.bool,AV.str,Nat.reduceBEq,Nat.reduceEqDiff,Nat.reduceMul,Nat.reduceLT,Nat.reduceLeDiff,Int.reduceNeg,BEq.rfl,beq_self_eq_true,tabl,cellsOf,fldA,ldA,stA,Ae,Af,Ac,List.take_left,List.take_length,Ao,Am,over,Ag,Value.oneCell',idxA,nilA,Aa,Ap,Ah,pure1,pure2,reps,chkA,tys,Tryz.results164,evt,Av,Au,Ad,e0,e1,e2,e6,e7,e8,c1,c2,hq1,hE,hP,hT,hA,k1,k2,k3,frA,Bl]
     have k3:decide ((D:Int) ≥ 2147483648)=false:=by simpa using b3
     by_cases b4:(D:Int)=0
     ·have k4:((D:Int) == 0)=true:=by simpa using b4
      rw [if_pos (by rw [k1,k2,k3,decide_eq_true b4]; rfl)] at hr2
      rw [hr2]
      simp (maxSteps:=1000000) +contextual (disch:=first|with_reducible assumption|exact ⟨rfl⟩|exact ⟨rfl,rfl⟩|exact ⟨rfl,rfl,rfl⟩|(refine _root_.id ?_; kernel_rfl)|omega) only [evs,Ad,nth,put,putT,getT,Ai,Aj,Ab,aUn,outA,resA,mapO,Aq,Ar,w1,w2,w3,bots,cond_true,cond_false,if_true,if_false,ite_true,ite_false,reduceIte,reduceCtorEq,implies_true,Nat.reduceAdd,Nat.reduceSub,AV.int,AV.bool,AV.str,Nat.reduceBEq,Nat.reduceEqDiff,Nat.reduceMul,Nat.reduceLT,Nat.reduceLeDiff,Int.reduceNeg,BEq.rfl,beq_self_eq_true,tabl,cellsOf,fldA,ldA,stA,Ae,Af,Ac,List.take_left,List.take_length,Ao,Am,over,Ag,Value.oneCell',idxA,nilA,Aa,Ap,Ah,pure1,pure2,reps,chkA,tys,Tryz.results164,evt,Av,Au,Ad,e0,e1,e2,e6,e7,e8,c1,c2,hq1,hE,hP,hT,hA,k1,k2,k3,k4,frA,Bl]
     have k4:((D:Int) == 0)=false:=by simpa using b4
     rw [if_neg (by rw [k1,k2,k3,decide_eq_false b4]; exact Bool.false_ne_true)] at hr2
     rw [hr2]
     simp (maxSteps:=1000000) +contextual (disch:=first|with_reducible assumption|exact ⟨rfl⟩|exact ⟨rfl,rfl⟩|exact ⟨rfl,rfl,rfl⟩|(refine _root_.id ?_; kernel_rfl)|omega) only [evs,Ad,nth,put,putT,getT,Ai,Aj,Ab,aUn,outA,resA,mapO,Aq,Ar,w1,w2,w3,bots,cond_true,cond_false,if_true,if_false,ite_true,ite_false,reduceIte,reduceCtorEq,implies_true,Nat.reduceAdd,Nat.reduceSub,AV.int,AV.bool,AV.str,Nat.reduceBEq,Nat.reduceEqDiff,Nat.reduceMul,Nat.reduceLT,Nat.reduceLeDiff,Int.reduceNeg,BEq.rfl,beq_self_eq_true,tabl,cellsOf,fldA,ldA,stA,Ae,Af,Ac,List.take_left,List.take_length,Ao,Am,over,Ag,Value.oneCell',idxA,nilA,Aa,Ap,Ah,pure1,pure2,reps,chkA,tys,Tryz.results164,evt,Av,Au,Ad,e0,e1,e2,e6,e7,e8,c1,c2,hq1,k1,k2,k3,k4,frA,En]
   ·have c1:((y:Int) != 0)=true:=by simpa using h0
    have hz:¬ ((y:Int)=0):=by omega
    have hm:(x:Int).tmod (y:Int)=((x % y:Nat):Int):=by rw [Int.tmod_eq_emod_of_nonneg (by omega)]; rfl
    simp (maxSteps:=1000000) +contextual (disch:=first|with_reducible assumption|exact ⟨rfl⟩|exact ⟨rfl,rfl⟩|exact ⟨rfl,rfl,rfl⟩|(refine _root_.id ?_; kernel_rfl)|omega) only [evs,Ad,nth,put,putT,getT,Ai,Aj,Ab,aUn,outA,resA,mapO,Aq,Ar,w1,w2,w3,bots,cond_true,cond_false,if_true,if_false,ite_true,ite_false,reduceIte,reduceCtorEq,implies_true,Nat.reduceAdd,Nat.reduceSub,AV.int,AV.bool,AV.str,Nat.reduceBEq,Nat.reduceEqDiff,Nat.reduceMul,Nat.reduceLT,Nat.reduceLeDiff,Int.reduceNeg,BEq.rfl,beq_self_eq_true,tabl,cellsOf,fldA,ldA,stA,Ae,Af,Ac,List.take_left,List.take_length,Ao,Am,over,Ag,Value.oneCell',idxA,nilA,Aa,Ap,Ah,pure1,pure2,reps,chkA,tys,Tryz.results164,evt,Av,Au,Ad,e0,e1,e2,e6,e7,e8,c1,hz,hm]
    have hlt:=Nat.mod_lt x (by omega:0<y)
    exact IH (y,x % y) _ (by first|omega|(simp only; omega)) ⟨rfl,by rw [← hgc,Nat.gcd_comm x y]; exact (Nat.gcd_rec y x).symm ▸ Nat.gcd_comm y (x % y),hy,by first|omega|(dsimp only; omega),by and_intros <;> first|rfl|simp only [getT,List.map_append]⟩
  ·have d2:decide (n<0)=false:=by simpa using hn0
   simp (maxSteps:=1000000) +contextual (disch:=first|with_reducible assumption|exact ⟨rfl⟩|exact ⟨rfl,rfl⟩|exact ⟨rfl,rfl,rfl⟩|(refine _root_.id ?_; kernel_rfl)|omega) only [evs,Ad,nth,put,putT,getT,Ai,Aj,Ab,aUn,outA,resA,mapO,Aq,Ar,w1,w2,w3,bots,cond_true,cond_false,if_true,if_false,ite_true,ite_false,reduceIte,reduceCtorEq,implies_true,Nat.reduceAdd,Nat.reduceSub,AV.int,AV.bool,AV.str,Nat.reduceBEq,Nat.reduceEqDiff,Nat.reduceMul,Nat.reduceLT,Nat.reduceLeDiff,Int.reduceNeg,BEq.rfl,beq_self_eq_true,tabl,cellsOf,fldA,ldA,stA,Ae,Af,Ac,List.take_left,List.take_length,Ao,Am,over,Ag,Value.oneCell',idxA,nilA,Aa,Ap,Ah,pure1,pure2,reps,chkA,tys,Tryz.results164,evt,Av,Au,Ad,w2,w1,d1,d2]
   obtain ⟨M,hM⟩:∃ M:Nat,n=M:=⟨n.natAbs,by omega⟩
   subst hM
   refine Aaj (P:=Tryz.prog) (fun x st=>st.T.length=56∧(x.1.gcd x.2=g)∧(x.1<9223372036854775808)∧(x.2<9223372036854775808)∧getT st.T 0=.ref iq eq 0∧getT st.T 1=.int (M:Int)∧getT st.T 2=.int (D:Nat)∧getT st.T 6=.ref S.length k 0∧getT st.T 7=.int (x.1:Nat)∧getT st.T 8=.int (x.2:Nat)∧st.S=S++[⟨k,[.int 0,.int 0]⟩]∧st.tk=tk∧st.n=k+1) (fun x=>x.2) (fun x=>(frA r.1,flS S iq eq r.2,tk,k+1)) ((M:Int).natAbs,D) ?_ ?_
   case refine_2=>exact ⟨rfl,by rw [hNn,hD,hg],by omega,by omega,rfl,rfl,rfl,rfl,rfl,rfl,rfl,rfl,rfl⟩
   rintro ⟨x,y⟩ ⟨T,S',tk',n'⟩ ⟨hl,hgc,hx,hy,e0,e1,e2,e6,e7,e8,eS,eT,eN⟩ IH
   simp only at hgc hx hy e0 e1 e2 e6 e7 e8 eS eT eN
   subst eS eT eN
   obtain ⟨g,hg,hT⟩:=Bp hl
   rw [hg] at e0 e1 e2 e6 e7 e8
   subst hT
   clear hg hl
   by_cases h0:y=0
   ·subst h0
    have c1:(((0:Nat):Int) != 0)=false:=rfl
    rw [Nat.gcd_zero_right] at hgc
    subst hgc
    by_cases h1:1<x
    ·rw [if_pos h1,if_pos h1] at hr2
     have c2:decide ((x:Int) > 1)=true:=by simp; omega
     have hz:¬ ((x:Int)=0):=by omega
     have v1:=Dl (M:Int) x
     have v2:=Dl (D:Int) x
     have w5:IntKind.i64.wrap ((M:Int).tdiv (x:Int))=(M:Int).tdiv (x:Int):=A0 (by unfold i64; omega)
     have w6:IntKind.i64.wrap ((D:Int).tdiv (x:Int))=(D:Int).tdiv (x:Int):=A0 (by unfold i64; omega)
     by_cases b1:(M:Int).tdiv (x:Int)≤-2147483648
     ·have k1:decide ((M:Int).tdiv (x:Int)≤-2147483648)=true:=by simpa using b1
      rw [if_pos (by rw [k1]; rfl)] at hr2
      rw [hr2]
      simp (maxSteps:=1000000) +contextual (disch:=first|with_reducible assumption|exact ⟨rfl⟩|exact ⟨rfl,rfl⟩|exact ⟨rfl,rfl,rfl⟩|(refine _root_.id ?_; kernel_rfl)|omega) only [evs,Ad,nth,put,putT,getT,Ai,Aj,Ab,aUn,outA,resA,mapO,Aq,Ar,w1,w2,w3,bots,cond_true,cond_false,if_true,if_false,ite_true,ite_false,reduceIte,reduceCtorEq,implies_true,Nat.reduceAdd,Nat.reduceSub,AV.int,AV.bool,AV.str,Nat.reduceBEq,Nat.reduceEqDiff,Nat.reduceMul,Nat.reduceLT,Nat.reduceLeDiff,Int.reduceNeg,BEq.rfl,beq_self_eq_true,tabl,cellsOf,fldA,ldA,stA,Ae,Af,Ac,List.take_left,List.take_length,Ao,Am,over,Ag,Value.oneCell',idxA,nilA,Aa,Ap,Ah,pure1,pure2,reps,chkA,tys,Tryz.results164,evt,Av,Au,Ad,e0,e1,e2,e6,e7,e8,c1,c2,hz,w5,w6,hq1,hE,hP,hT,hA,k1,frA,Bl]
     have k1:decide ((M:Int).tdiv (x:Int)≤-2147483648)=false:=by simpa using b1
     by_cases b2:(M:Int).tdiv (x:Int) ≥ 2147483648
     ·have k2:decide ((M:Int).tdiv (x:Int) ≥ 2147483648)=true:=by simpa using b2
      rw [if_pos (by rw [k1,k2]; rfl)] at hr2
      rw [hr2]
      simp (maxSteps:=1000000) +contextual (disch:=first|with_reducible assumption|exact ⟨rfl⟩|exact ⟨rfl,rfl⟩|exact ⟨rfl,rfl,rfl⟩|(refine _root_.id ?_; kernel_rfl)|omega) only [evs,Ad,nth,put,putT,getT,Ai,Aj,Ab,aUn,outA,resA,mapO,Aq,Ar,w1,w2,w3,bots,cond_true,cond_false,if_true,if_false,ite_true,ite_false,reduceIte,reduceCtorEq,implies_true,Nat.reduceAdd,Nat.reduceSub,AV.int,AV.bool,AV.str,Nat.reduceBEq,Nat.reduceEqDiff,Nat.reduceMul,Nat.reduceLT,Nat.reduceLeDiff,Int.reduceNeg,BEq.rfl,beq_self_eq_true,tabl,cellsOf,fldA,ldA,stA,Ae,Af,Ac,List.take_left,List.take_length,Ao,Am,over,Ag,Value.oneCell',idxA,nilA,Aa,Ap,Ah,pure1,pure2,reps,chkA,tys,Tryz.results164,evt,Av,Au,Ad,e0,e1,e2,e6,e7,e8,c1,c2,hz,w5,w6,hq1,hE,hP,hT,hA,k1,k2,frA,Bl]
     have k2:decide ((M:Int).tdiv (x:Int) ≥ 2147483648)=false:=by simpa using b2
     by_cases b3:(D:Int).tdiv (x:Int) ≥ 2147483648
     ·have k3:decide ((D:Int).tdiv (x:Int) ≥ 2147483648)=true:=by simpa using b3
      rw [if_pos (by rw [k1,k2,k3]; rfl)] at hr2
      rw [hr2]
      simp (maxSteps:=1000000) +contextual (disch:=first|with_reducible assumption|exact ⟨rfl⟩|exact ⟨rfl,rfl⟩|exact ⟨rfl,rfl,rfl⟩|(refine _root_.id ?_; kernel_rfl)|omega) only [evs,Ad,nth,put,putT,getT,Ai,Aj,Ab,aUn,outA,resA,mapO,Aq,Ar,w1,w2,w3,bots,cond_true,cond_false,if_true,if_false,ite_true,ite_false,reduceIte,reduceCtorEq,implies_true,Nat.reduceAdd,Nat.reduceSub,AV.int,AV.bool,AV.str,Nat.reduceBEq,Nat.reduceEqDiff,Nat.reduceMul,Nat.reduceLT,Nat.reduceLeDiff,Int.reduceNeg,BEq.rfl,beq_self_eq_true,tabl,cellsOf,fldA,ldA,stA,Ae,Af,Ac,List.take_left,List.take_length,Ao,Am,over,Ag,Value.oneCell',idxA,nilA,Aa,Ap,Ah,pure1,pure2,reps,chkA,tys,Tryz.results164,evt,Av,Au,Ad,e0,e1,e2,e6,e7,e8,c1,c2,hz,w5,w6,hq1,hE,hP,hT,hA,k1,k2,k3,frA,Bl]
     have k3:decide ((D:Int).tdiv (x:Int) ≥ 2147483648)=false:=by simpa using b3
     by_cases b4:(D:Int).tdiv (x:Int)=0
     ·have k4:((D:Int).tdiv (x:Int) == 0)=true:=by simpa using b4
      rw [if_pos (by rw [k1,k2,k3,decide_eq_true b4]; rfl)] at hr2
      rw [hr2]
      simp (maxSteps:=1000000) +contextual (disch:=first|with_reducible assumption|exact ⟨rfl⟩|exact ⟨rfl,rfl⟩|exact ⟨rfl,rfl,rfl⟩|(refine _root_.id ?_; kernel_rfl)|omega) only [evs,Ad,nth,put,putT,getT,Ai,Aj,Ab,aUn,outA,resA,mapO,Aq,Ar,w1,w2,w3,bots,cond_true,cond_false,if_true,if_false,ite_true,ite_false,reduceIte,reduceCtorEq,implies_true,Nat.reduceAdd,Nat.reduceSub,AV.int,AV.bool,AV.str,Nat.reduceBEq,Nat.reduceEqDiff,Nat.reduceMul,Nat.reduceLT,Nat.reduceLeDiff,Int.reduceNeg,BEq.rfl,beq_self_eq_true,tabl,cellsOf,fldA,ldA,stA,Ae,Af,Ac,List.take_left,List.take_length,Ao,Am,over,Ag,Value.oneCell',idxA,nilA,Aa,Ap,Ah,pure1,pure2,reps,chkA,tys,Tryz.results164,evt,Av,Au,Ad,e0,e1,e2,e6,e7,e8,c1,c2,hz,w5,w6,hq1,hE,hP,hT,hA,k1,k2,k3,k4,frA,Bl]
     have k4:((D:Int).tdiv (x:Int) == 0)=false:=by simpa using b4
     rw [if_neg (by rw [k1,k2,k3,decide_eq_false b4]; exact Bool.false_ne_true)] at hr2
     rw [hr2]
     simp (maxSteps:=1000000) +contextual (disch:=first|with_reducible assumption|exact ⟨rfl⟩|exact ⟨rfl,rfl⟩|exact ⟨rfl,rfl,rfl⟩|(refine _root_.id ?_; kernel_rfl)|omega) only [evs,Ad,nth,put,putT,getT,Ai,Aj,Ab,aUn,outA,resA,mapO,Aq,Ar,w1,w2,w3,bots,cond_true,cond_false,if_true,if_false,ite_true,ite_false,reduceIte,reduceCtorEq,implies_true,Nat.reduceAdd,Nat.reduceSub,AV.int,AV.bool,AV.str,Nat.reduceBEq,Nat.reduceEqDiff,Nat.reduceMul,Nat.reduceLT,Nat.reduceLeDiff,Int.reduceNeg,BEq.rfl,beq_self_eq_true,tabl,cellsOf,fldA,ldA,stA,Ae,Af,Ac,List.take_left,List.take_length,Ao,Am,over,Ag,Value.oneCell',idxA,nilA,Aa,Ap,Ah,pure1,pure2,reps,chkA,tys,Tryz.results164,evt,Av,Au,Ad,e0,e1,e2,e6,e7,e8,c1,c2,hz,w5,w6,hq1,k1,k2,k3,k4,frA,En]
    ·rw [if_neg h1,if_neg h1] at hr2
     have c2:decide ((x:Int) > 1)=false:=by simp; omega
     by_cases b1:(M:Int)≤-2147483648
     ·have k1:decide ((M:Int)≤-2147483648)=true:=by simpa using b1
      rw [if_pos (by rw [k1]; rfl)] at hr2
      rw [hr2]
      simp (maxSteps:=1000000) +contextual (disch:=first|with_reducible assumption|exact ⟨rfl⟩|exact ⟨rfl,rfl⟩|exact ⟨rfl,rfl,rfl⟩|(refine _root_.id ?_; kernel_rfl)|omega) only [evs,Ad,nth,put,putT,getT,Ai,Aj,Ab,aUn,outA,resA,mapO,Aq,Ar,w1,w2,w3,bots,cond_true,cond_false,if_true,if_false,ite_true,ite_false,reduceIte,reduceCtorEq,implies_true,Nat.reduceAdd,Nat.reduceSub,AV.int,AV.bool,AV.str,Nat.reduceBEq,Nat.reduceEqDiff,Nat.reduceMul,Nat.reduceLT,Nat.reduceLeDiff,Int.reduceNeg,BEq.rfl,beq_self_eq_true,tabl,cellsOf,fldA,ldA,stA,Ae,Af,Ac,List.take_left,List.take_length,Ao,Am,over,Ag,Value.oneCell',idxA,nilA,Aa,Ap,Ah,pure1,pure2,reps,chkA,tys,Tryz.results164,evt,Av,Au,Ad,e0,e1,e2,e6,e7,e8,c1,c2,hq1,hE,hP,hT,hA,k1,frA,Bl]
     have k1:decide ((M:Int)≤-2147483648)=false:=by simpa using b1
     by_cases b2:(M:Int) ≥ 2147483648
     ·have k2:decide ((M:Int) ≥ 2147483648)=true:=by simpa using b2
      rw [if_pos (by rw [k1,k2]; rfl)] at hr2
      rw [hr2]
      simp (maxSteps:=1000000) +contextual (disch:=first|with_reducible assumption|exact ⟨rfl⟩|exact ⟨rfl,rfl⟩|exact ⟨rfl,rfl,rfl⟩|(refine _root_.id ?_; kernel_rfl)|omega) only [evs,Ad,nth,put,putT,getT,Ai,Aj,Ab,aUn,outA,resA,mapO,Aq,Ar,w1,w2,w3,bots,cond_true,cond_false,if_true,if_false,ite_true,ite_false,reduceIte,reduceCtorEq,implies_true,Nat.reduceAdd,Nat.reduceSub,AV.int,AV.bool,AV.str,Nat.reduceBEq,Nat.reduceEqDiff,Nat.reduceMul,Nat.reduceLT,Nat.reduceLeDiff,Int.reduceNeg,BEq.rfl,beq_self_eq_true,tabl,cellsOf,fldA,ldA,stA,Ae,Af,Ac,List.take_left,List.take_length,Ao,Am,over,Ag,Value.oneCell',idxA,nilA,Aa,Ap,Ah,pure1,pure2,reps,chkA,tys,Tryz.results164,evt,Av,Au,Ad,e0,e1,e2,e6,e7,e8,c1,c2,hq1,hE,hP,hT,hA,k1,k2,frA,Bl]
     have k2:decide ((M:Int) ≥ 2147483648)=false:=by simpa using b2
     by_cases b3:(D:Int) ≥ 2147483648
     ·have k3:decide ((D:Int) ≥ 2147483648)=true:=by simpa using b3
      rw [if_pos (by rw [k1,k2,k3]; rfl)] at hr2
      rw [hr2]
      simp (maxSteps:=1000000) +contextual (disch:=first|with_reducible assumption|exact ⟨rfl⟩|exact ⟨rfl,rfl⟩|exact ⟨rfl,rfl,rfl⟩|(refine _root_.id ?_; kernel_rfl)|omega) only [evs,Ad,nth,put,putT,getT,Ai,Aj,Ab,aUn,outA,resA,mapO,Aq,Ar,w1,w2,w3,bots,cond_true,cond_false,if_true,if_false,ite_true,ite_false,reduceIte,reduceCtorEq,implies_true,Nat.reduceAdd,Nat.reduceSub,AV.int,AV.bool,AV.str,Nat.reduceBEq,Nat.reduceEqDiff,Nat.reduceMul,Nat.reduceLT,Nat.reduceLeDiff,Int.reduceNeg,BEq.rfl,beq_self_eq_true,tabl,cellsOf,fldA,ldA,stA,Ae,Af,Ac,List.take_left,List.take_length,Ao,Am,over,Ag,Value.oneCell',idxA,nilA,Aa,Ap,Ah,pure1,pure2,reps,chkA,tys,Tryz.results164,evt,Av,Au,Ad,e0,e1,e2,e6,e7,e8,c1,c2,hq1,hE,hP,hT,hA,k1,k2,k3,frA,Bl]
     have k3:decide ((D:Int) ≥ 2147483648)=false:=by simpa using b3
     by_cases b4:(D:Int)=0
     ·have k4:((D:Int) == 0)=true:=by simpa using b4
      rw [if_pos (by rw [k1,k2,k3,decide_eq_true b4]; rfl)] at hr2
      rw [hr2]
      simp (maxSteps:=1000000) +contextual (disch:=first|with_reducible assumption|exact ⟨rfl⟩|exact ⟨rfl,rfl⟩|exact ⟨rfl,rfl,rfl⟩|(refine _root_.id ?_; kernel_rfl)|omega) only [evs,Ad,nth,put,putT,getT,Ai,Aj,Ab,aUn,outA,resA,mapO,Aq,Ar,w1,w2,w3,bots,cond_true,cond_false,if_true,if_false,ite_true,ite_false,reduceIte,reduceCtorEq,implies_true,Nat.reduceAdd,Nat.reduceSub,AV.int,AV.bool,AV.str,Nat.reduceBEq,Nat.reduceEqDiff,Nat.reduceMul,Nat.reduceLT,Nat.reduceLeDiff,Int.reduceNeg,BEq.rfl,beq_self_eq_true,tabl,cellsOf,fldA,ldA,stA,Ae,Af,Ac,List.take_left,List.take_length,Ao,Am,over,Ag,Value.oneCell',idxA,nilA,Aa,Ap,Ah,pure1,pure2,reps,chkA,tys,Tryz.results164,evt,Av,Au,Ad,e0,e1,e2,e6,e7,e8,c1,c2,hq1,hE,hP,hT,hA,k1,k2,k3,k4,frA,Bl]
     have k4:((D:Int) == 0)=false:=by simpa using b4
     rw [if_neg (by rw [k1,k2,k3,decide_eq_false b4]; exact Bool.false_ne_true)] at hr2
     rw [hr2]
     simp (maxSteps:=1000000) +contextual (disch:=first|with_reducible assumption|exact ⟨rfl⟩|exact ⟨rfl,rfl⟩|exact ⟨rfl,rfl,rfl⟩|(refine _root_.id ?_; kernel_rfl)|omega) only [evs,Ad,nth,put,putT,getT,Ai,Aj,Ab,aUn,outA,resA,mapO,Aq,Ar,w1,w2,w3,bots,cond_true,cond_false,if_true,if_false,ite_true,ite_false,reduceIte,reduceCtorEq,implies_true,Nat.reduceAdd,Nat.reduceSub,AV.int,AV.bool,AV.str,Nat.reduceBEq,Nat.reduceEqDiff,Nat.reduceMul,Nat.reduceLT,Nat.reduceLeDiff,Int.reduceNeg,BEq.rfl,beq_self_eq_true,tabl,cellsOf,fldA,ldA,stA,Ae,Af,Ac,List.take_left,List.take_length,Ao,Am,over,Ag,Value.oneCell',idxA,nilA,Aa,Ap,Ah,pure1,pure2,reps,chkA,tys,Tryz.results164,evt,Av,Au,Ad,e0,e1,e2,e6,e7,e8,c1,c2,hq1,k1,k2,k3,k4,frA,En]
   ·have c1:((y:Int) != 0)=true:=by simpa using h0
    have hz:¬ ((y:Int)=0):=by omega
    have hm:(x:Int).tmod (y:Int)=((x % y:Nat):Int):=by rw [Int.tmod_eq_emod_of_nonneg (by omega)]; rfl
    simp (maxSteps:=1000000) +contextual (disch:=first|with_reducible assumption|exact ⟨rfl⟩|exact ⟨rfl,rfl⟩|exact ⟨rfl,rfl,rfl⟩|(refine _root_.id ?_; kernel_rfl)|omega) only [evs,Ad,nth,put,putT,getT,Ai,Aj,Ab,aUn,outA,resA,mapO,Aq,Ar,w1,w2,w3,bots,cond_true,cond_false,if_true,if_false,ite_true,ite_false,reduceIte,reduceCtorEq,implies_true,Nat.reduceAdd,Nat.reduceSub,AV.int,AV.bool,AV.str,Nat.reduceBEq,Nat.reduceEqDiff,Nat.reduceMul,Nat.reduceLT,Nat.reduceLeDiff,Int.reduceNeg,BEq.rfl,beq_self_eq_true,tabl,cellsOf,fldA,ldA,stA,Ae,Af,Ac,List.take_left,List.take_length,Ao,Am,over,Ag,Value.oneCell',idxA,nilA,Aa,Ap,Ah,pure1,pure2,reps,chkA,tys,Tryz.results164,evt,Av,Au,Ad,e0,e1,e2,e6,e7,e8,c1,hz,hm]
    have hlt:=Nat.mod_lt x (by omega:0<y)
    exact IH (y,x % y) _ (by first|omega|(simp only; omega)) ⟨rfl,by rw [← hgc,Nat.gcd_comm x y]; exact (Nat.gcd_rec y x).symm ▸ Nat.gcd_comm y (x % y),hy,by first|omega|(dsimp only; omega),by and_intros <;> first|rfl|simp only [getT,List.map_append]⟩
end
end Go.Proofs.YtcjffhadclngmaaGreat
