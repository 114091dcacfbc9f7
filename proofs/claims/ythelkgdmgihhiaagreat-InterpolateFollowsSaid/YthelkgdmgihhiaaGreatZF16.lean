/- Part 16. -/
import Derived.OpenShut
import Derived.ChangeArms
import Derived.Test.YthelkgdmgihhiaaGreatZF15
open And renaming intro->Cc
open Bool renaming and_eq_true->Ch,false_eq_true->C7,false_and->Fo,true_and->Fq,not_true->Fs,not_false->Fu,or_false->F5,not_eq_true'->Ig,or_eq_true->Io,false_ne_true->Iw,eq_iff_iff->iJ
open Go.Addr renaming add->kK
open Go.DataW renaming trod->jM,Trod->kI
open Go.IntKind renaming i64->B8,u64->kN
open Go.Proofs.YthelkgdmgihhiaaGreat.AV renaming bool->Bo,int->Ca,str->Cb
open Go.Value renaming oneCell'->jS
open Go.World renaming cell?->Mx
open Int renaming tdiv_eq_ediv_of_nonneg->Cz,mul_comm->Fy,tmod_eq_emod_of_nonneg->Gm,mul_assoc->H9,mul_ne_zero->Ik,natAbs_mul->Iq,mul_add->I1,natCast_nonneg->Od,mul_nonneg->Ox,neg_mul->Rp,mul_zero->Si,add_zero->Sv,natCast_mul->iI,add_assoc->iK,natAbs_tdiv->kQ,toNat_of_nonneg->kT
open List renaming replicate->Cg,map_cons->Cm,cons_append->Co,map_nil->Cp,mem_append->Cu,getElem?_append_left->Cy,getElem?_eq_none->C3,mem_cons->C4,length_eq_zero_iff->C5,take_length->C8,map_append->C9,range->E7,all_eq_true->Fc,take_of_length_le->Ff,getElem?_append_right->Fi,append_nil->Fj,drop_eq_nil_of_le->Fm,drop_length->Fp,flatten_cons->Fw,drop_zero->Fz,length_pos_iff->Ic,length_take->Im,mem_of_getElem?->Ip,getElem?_eq_getElem->Ir,mem_replicate->It,take_append_drop->Ix,getElem?_cons_zero->Oa,flatten_nil->S8,set_cons_succ->iC,take_add_one->iN,mem_of_mem_take->iV,length_set->jJ,length_range->jX,mem_of_mem_drop->kM
open List.cons renaming injEq->jH
open Nat renaming le_refl->Ce,zero_le->Ci,mul_one->Cw,le_trans->Fh,zero_add->Fk,lt_of_lt_of_le->F7,lt_or_ge->Ia,add_zero->Ie,div_lt_iff_lt_mul->Ih,lt_of_le_of_lt->Iu,gcd_pos_of_pos_right->Iv,mul_comm->I5,gcd_zero_right->I6,mod_lt->I7,zero_mul->Oh,div_add_mod->Ot,div_le_self->Ou,mul_le_mul_left->Oy,le_div_iff_mul_le->O1,mod_eq_of_lt->O3,add_assoc->O4,pow_succ->O5,add_mul->V9,eq_zero_or_pos->iF,gcd_comm->iG,div_eq_of_lt->jA,add_right_cancel_iff->jG,pow_pos->jR,sub_zero->jV,le_of_lt->jW,gcd_le_right->kJ
open Option renaming map_eq_some_iff->Cd,bind_eq_some_iff->Il,getD_some->Oi,bind_some->Ov
open Option.some renaming injEq->Bg
open Prod.mk renaming injEq->Cf
namespace Go.Proofs.YthelkgdmgihhiaaGreat
section
open Go
inductive Sh (P:Program):TypeId->List AV->Prop
 | bool {t b} : P.underlying t=some .bool->Sh P t [.prim (.bool b)]
 | int {t k n} : P.underlying t=some (.int k)->(Lit.int k n).wf=true->Sh P t [.prim (.int k n)]
 | str {t s} : P.underlying t=some .string->s.size<=maxLen->Sh P t [.prim (.string s)]
 | slice {t e es} : P.underlying t=some (.slice e)->(∀ x ∈ es,Sh P e x)->es.length<=maxLen->Sh P t [.frz es .unk]
 | struct {t fs} {pss:List (List AV)} : P.underlying t=some (.struct fs)->pss.length=fs.size->(∀ i f p,fs[i]?=some f->nth pss i=some p->Sh P f.type p)->Sh P t pss.flatten
 | array {t n e} {pss:List (List AV)} : P.underlying t=some (.array n e)->pss.length=n->(∀ p ∈ pss,Sh P e p)->Sh P t pss.flatten
def Aa5 (P:Program):List Field->Nat->Nat->Bool
 | [],o,n=>o == n
 | f :: fs,o,n=>f.offset == o && Aa5 P fs (o+P.cellsOf f.type) n
def Aoi (P:Program) (F:List TypeId) (t:TypeId):Bool :=
 match P.underlying t with
 | some .bool=>true
 | some (.int k)=>k != .u64
 | some .string=>true
 | some (.slice e)=>F.contains e && decide (0<P.cellsOf e)
 | some (.struct fs)=>Aa5 P fs.toList 0 (P.cellsOf t) && fs.toList.all fun f=>F.contains f.type
 | some (.array n e)=>F.contains e && P.cellsOf t == n*P.cellsOf e
 | _=>false
def Adk (P:Program) (F:List TypeId):Bool:=F.all (Aoi P F)
def Vd:AV->Bool
 | .prim (.int k _)=>k != .u64
 | .prim _=>true
 | .frz _ _=>true
 | _=>false
theorem Arq {w:World} {A:Nat->Nat->Prop} {b:Nat} : ∀ (vs:List Value) (o:Nat),(∀ j v,nth vs j=some v->w.cell? ⟨b,o+j,none⟩=some v/\¬ A b (o+j))->Lie w A b o vs
 | [],_,_=>trivial
 | v :: vs,o,h=>by
  have h0:=h 0 v rfl;refine ⟨h0.1,h0.2,Arq vs (o+1) fun j u hu=>?_⟩;have:=h (j+1) u hu;rwa [show o+(j+1)=o+1+j by omega] at this
theorem Ae3 {w:World} {A:Nat->Nat->Prop} {b sz:Nat} : ∀ (es:List (List AV)) (o:Nat),(∀ i e,nth es i=some e->e.length=sz/\∃ vs,Lie w A b (o+i*sz) vs/\PRs w A e vs)->B6 w A b sz o es
 | [],_,_=>by simp only [B6]
 | e :: es,o,h=>by
  simp only [B6];have h0:=h 0 e rfl;rw [Oh,Ie] at h0;refine ⟨h0.1,h0.2,Ae3 es (o+sz) fun i f hf=>?_⟩;have:=h (i+1) f hf;exact Ya44
theorem Ac6 {w:World} {A:Nat->Nat->Prop} : ∀ {cs ds:List AV} {us vs:List Value},PRs w A cs us->PRs w A ds vs->PRs w A (cs++ds) (us++vs)
 | [],_,[],_,_,h=>h
 | _ :: _,_,_ :: _,_,h1,h2=>by simp only [PRs,Co] at h1 ⊢; exact ⟨h1.1,Ac6 h1.2 h2⟩
 | [],_,_ :: _,_,h1,_=>by simp only [PRs] at h1
 | _ :: _,_,[],_,h1,_=>by simp only [PRs] at h1
theorem Aga {w:World} {A:Nat->Nat->Prop} : ∀ {cs:List AV} {vs:List Value},PRs w A cs vs->(∀ c ∈ cs,Vd c=true)->∀ v ∈ vs,∀ n,v≠.int .u64 n
 | [],[],_,_,v,hv=>by simp at hv
 | c :: cs,x :: vs,h,hg,v,hv=>by
  simp only [PRs] at h;rcases C4.1 hv with rfl|hv
  ·intro n e;subst e;have hc:=hg c (by simp);have hp:=h.1;cases c with
   | prim y=>simp only [PR] at hp; rw [<- hp.1] at hc; simp [Vd] at hc
   | frz es q=>cases q <;> simp only [PR] at hp; obtain ⟨a,l,q,e,-⟩:=hp; cases e
   | _=>simp [Vd] at hc
  ·exact Aga h.2 (fun d hd=>hg d (by simp [hd])) v hv
 | [],_ :: _,h,_,_,_=>bT
 | _ :: _,[],h,_,_,_=>bT
theorem Ad4 {α β:Type} {f:α->Option β} : ∀ {l:List α} {ys:List β},l.mapM f=some ys->ys.length=l.length/\∀ i x y,nth l i=some x->nth ys i=some y->f x=some y
 | [],ys,h=>by simp at h; subst h; exact ⟨rfl,fun i x y hx=>by simp [nth] at hx⟩
 | a :: l,ys,h=>by
  rw [List.mapM_cons] at h;simp only [Option.pure_def,Option.bind_eq_bind,Il] at h;obtain ⟨b,hb,bs,q6,e⟩:=h;simp only [Bg] at e;subst e;obtain ⟨h1,h2⟩:=Ad4 q6;refine ⟨dK,fun i x y hx hy=>?_⟩;cases i with
  | zero=>simp only [nth,Bg] at hx hy; subst hx hy; exact hb
  | succ i=>exact h2 i x y hx hy
theorem Acf {n i:Nat} (h:i<n):nth (E7 n) i=some i:=by rw [Af,List.getElem?_range h]
theorem Apw {w:World} {b off n:Nat} {vs:List Value} (h:w.cells? 0 ⟨b,off,none⟩ n=some vs):vs.length=n/\∀ j v,nth vs j=some v->w.cell? ⟨b,off+j,none⟩=some v:=by
 unfold World.cells? at h;rw [if_pos (Ci _)] at h;obtain ⟨h1,h2⟩:=Ad4 h;rw [jX] at h1;refine ⟨h1,fun j v hv=>?_⟩;have hj:j<n:=by have:=Bl hv; omega
 have:=h2 j j v (Acf hj) hv;unfold kK at this;split at this
 ·rename_i h0; subst h0; exact this
 ·exact this
theorem spot0 {w:World} {a:Addr} {v:Value} (h:w.cell? a=some v):a.spot=none:=by
 unfold Mx at h;split at h
 ·split at h
  ·cases h
  ·rename_i hs; simpa using hs
 ·cases h
section
variable {H:Type} {enc:TypeId × Value->H} {P:Program} {w:World} {sp:Nat->Bool} {ku:Bool} {A:Nat->Nat->Prop} {F:List TypeId}
def Rd (P:Program) (w:World) (A:Nat->Nat->Prop) (t:TypeId) (cs:List Value) (avs:List AV):Prop:=Sh P t avs/\PRs w A avs cs/\∀ c ∈ avs,Vd c=true
theorem Abg {n:Nat} {cs:List Value} (ih:∀ t ds x,t ∈ F->jM enc P w 0 sp ku n t ds=some x->∃ avs,Rd P w A t ds avs) :
  ∀ (fs:List Field) (o:Nat) (xs:List (DataW H × List MemPlace)),Aa5 P fs o cs.length=true->(∀ f ∈ fs,f.type ∈ F)->xs.length=fs.length ->
   (∀ i f,nth fs i=some f->jM enc P w 0 sp ku n f.type ((cs.drop f.offset).take (P.cellsOf f.type))=nth xs i) ->
   ∃ pss:List (List AV),pss.length=fs.length/\(∀ i f p,nth fs i=some f->nth pss i=some p->Sh P f.type p)/\PRs w A pss.flatten (cs.drop o)/\∀ c ∈ pss.flatten,Vd c=true
 | [],o,xs,hc,_,_,_=>by
  simp only [Aa5,beq_iff_eq] at hc;exact ⟨[],rfl,fun i f p hf=>by simp [nth] at hf,by rw [hc,Fp]; simp only [S8,PRs],by simp⟩
 | f :: fs,o,xs,hc,hF,hl,h=>by
  simp only [Aa5,Ch,beq_iff_eq] at hc;obtain ⟨ho,hc⟩:=hc;cases xs with
  | nil=>simp at hl
  | cons x xs =>
  have h0:=h 0 f rfl;obtain ⟨avs,s1,p1,g1⟩:=ih _ _ _ (hF f (by simp)) h0;obtain ⟨pss,l2,s2,p2,g2⟩:=Abg ih fs (o+P.cellsOf f.type) xs hc (fun g hg=>hF g (by simp [hg])) cH fun i g hg=>h (i+1) g hg;refine ⟨avs :: pss,by simp [l2],fun i g p hg hp=>?_,?_,?_⟩
  ·cases i with
   | zero=>simp only [nth,Bg] at hg hp; subst hg hp; exact s1
   | succ i=>exact s2 i g p hg hp
  ·rw [ho] at p1;have e:cs.drop o=(cs.drop o).take (P.cellsOf f.type)++cs.drop (o+P.cellsOf f.type):=by
    rw [<- List.drop_drop,Ix]
   rw [e,Fw];exact Ac6 p1 p2
  ·intro c hc;exact Ya27
theorem Af0 {n sz:Nat} {e:TypeId} {cs:List Value} (ih:∀ t ds x,t ∈ F->jM enc P w 0 sp ku n t ds=some x->∃ avs,Rd P w A t ds avs) (he:e ∈ F) :
  ∀ (k o:Nat),cs.length=o+k*sz->(∀ i,i<k->∃ x,jM enc P w 0 sp ku n e ((cs.drop (o+i*sz)).take sz)=some x) ->
   ∃ pss:List (List AV),pss.length=k/\(∀ p ∈ pss,Sh P e p)/\PRs w A pss.flatten (cs.drop o)/\∀ c ∈ pss.flatten,Vd c=true
 | 0,o,hl,_=>⟨[],rfl,by simp,by rw [Fm aA]; simp only [S8,PRs],by simp⟩
 | k+1,o,hl,h=>by
  obtain ⟨x,h0⟩:=h 0 aA;rw [Oh,Ie] at h0;obtain ⟨avs,s1,p1,g1⟩:=ih _ _ _ he h0;obtain ⟨pss,l2,s2,p2,g2⟩:=Af0 (sz:=sz) ih he k (o+sz) (by rw [hl,V9]; omega) fun i hi=>by
   have:=h (i+1) aA;exact Ya44
  refine ⟨avs :: pss,by simp [l2],fun p hp=>?_,?_,?_⟩
  ·rcases C4.1 hp with rfl|hp
   ·exact s1
   ·exact s2 p hp
  ·have e:cs.drop o=(cs.drop o).take sz++cs.drop (o+sz):=by rw [<- List.drop_drop,Ix]
   rw [e,Fw];exact Ac6 p1 p2
  ·intro c hc;exact Ya27
theorem Aoh (hF:Adk P F=true) (hA:∀ b o v,A b o->w.cell? ⟨b,o,none⟩=some v->∃ n,v=.int .u64 n):∀ (fuel:Nat) (t:TypeId) (cs:List Value) (x:DataW H × List MemPlace),t ∈ F->jM enc P w 0 sp ku fuel t cs=some x->∃ avs,Rd P w A t cs avs
 | 0,_,_,_,_,h=>by simp [jM] at h
 | n+1,t,cs,x,ht,h=>by
  have dd:Aoi P F t=true:=Fc.1 hF t ht;have ih:∀ t ds x,t ∈ F->jM enc P w 0 sp ku n t ds=some x->∃ avs,Rd P w A t ds avs:=fun t ds x ht h=>Aoh hF hA n t ds x ht h;unfold Aoi at dd;split at dd
  ·rename_i hu;obtain ⟨b,rfl,-⟩:=DataW.trod_bool hu h;exact ⟨[.prim (.bool b)],.bool hu,Za3q,by simp [Vd]⟩
  ·rename_i k hu;obtain ⟨q,rfl,-,hw⟩:=DataW.trod_int hu h;exact ⟨[.prim (.int k q)],.int hu hw,Za3q,by simpa [Vd] using dd⟩
  ·rename_i hu;obtain ⟨s,rfl,-,hw⟩:=DataW.trod_string hu h;exact ⟨[.prim (.string s)],.str hu hw,Za3q,by simp [Vd]⟩
  ·rename_i e hu;simp only [Ch,decide_eq_true_eq] at dd;obtain ⟨dd,hpos⟩:=dd;have he:e ∈ F:=by simpa using dd
   rcases DataW.trod_slice hu h with ⟨rfl,-⟩|⟨a,len,cap,elems,rest,n',hn,rfl,-,-,hl,hcap,hel,hi,-,-⟩
   ·exact ⟨[.frz [] .unk],.slice hu (by simp) (by simp),by simp only [PRs,PR,and_true]; exact ⟨none,0,0,rfl,rfl,Ce _,.inl trivial⟩,by simp [Vd]⟩
   ·simp only [jG] at hn;subst hn;have j0:∀ i,i<len->∃ vs avs,w.cells? 0 (a.add (i*P.cellsOf e)) (P.cellsOf e)=some vs/\Rd P w A e vs avs:=fun i b6=>by
     have h1:=hi i b6;rw [Ir aA] at h1;obtain ⟨vs,h2,h3⟩:=Il.1 h1;obtain ⟨avs,h4⟩:=ih _ _ _ he h3;exact ⟨vs,avs,h2,h4⟩
    have xw:∃ es:List (List AV),es.length=len/\∀ i av,nth es i=some av->∃ vs,w.cells? 0 (a.add (i*P.cellsOf e)) (P.cellsOf e)=some vs/\Rd P w A e vs av:=by
     clear hi hel hl hcap h;induction len with
     | zero=>exact ⟨[],rfl,fun i av fc=>by simp [nth] at fc⟩
     | succ len ihl =>
      obtain ⟨es,l1,l2⟩:=ihl fun i b6=>j0 i aA;obtain ⟨vs,avs,h1,h2⟩:=j0 len aA;refine ⟨es++[avs],by simp [l1],fun i av fc=>?_⟩;rw [Af] at fc;rcases Ia i len with hlt|lh
      ·rw [Cy aA,<- Af] at fc; exact l2 i av fc
      ·rw [Fi aA,l1] at fc;have:i - len=0:=by
        rcases iF (i - len) with h0|h0
        ·exact h0
        ·rw [C3 aC] at fc; cases fc
       rw [this] at fc;have e1:i=len:=aA
       simp only [Oa,Bg] at fc;subst fc e1;exact ⟨vs,h1,h2⟩
    obtain ⟨es,l1,l2⟩:=xw;refine ⟨[.frz es .unk],.slice hu (fun x hx=>?_) aA,?_,by simp [Vd]⟩
    ·obtain ⟨i,hx⟩:=List.mem_iff_getElem?.1 hx;obtain ⟨vs,-,h1,-⟩:=l2 i x (by rw [Af]; exact hx);exact h1
    ·simp only [PRs,PR,and_true];refine ⟨some a,len,cap,rfl,l1,hl,?_⟩;by_cases hlen:es=[]
     ·exact .inl hlen
     right;have bw:0<len:=by
      rcases iF len with h0|h0
      ·rw [h0] at l1; exact absurd (C5.1 l1) hlen
      ·exact h0
     obtain ⟨b,off,spt⟩:=a;have ws:spt=none:=by
      obtain ⟨vs,avs,h1,-⟩:=j0 0 bw;rw [Oh] at h1;unfold World.cells? at h1;rw [if_pos (Ci _)] at h1;obtain ⟨h2,h3⟩:=Ad4 h1;rw [jX] at h2;obtain ⟨v,hv⟩:=Ab (l:=vs) (i:=0) aA;have h4:=h3 0 0 v (Acf hpos) hv;exact spot0 (a:=(⟨b,off,spt⟩:Addr)) h4
     subst ws;have p8:∀ i,(⟨b,off,none⟩:Addr).add i=⟨b,off+i,none⟩:=fun i=>by
      unfold kK;split
      ·rename_i h0; rw [h0]; rfl
      ·rfl
     refine ⟨b,off,P.cellsOf e,rfl,Ae3 es off fun i av fc=>?_⟩;obtain ⟨vs,h1,wv,p7,hgd⟩:=l2 i av fc;rw [p8] at h1;obtain ⟨h2,h3⟩:=Apw h1;refine ⟨by rw [My p7,h2],vs,Arq vs _ fun j v hv=>⟨h3 j v hv,fun ha=>?_⟩,p7⟩;obtain ⟨q,hq⟩:=hA _ _ v ha (h3 j v hv);exact Aga p7 hgd v (Ip (by rw [Af] at hv; exact hv)) q hq
  ·rename_i fs hu;simp only [Ch] at dd;obtain ⟨xs,n',hn,-,hlen,hxl,hi⟩:=DataW.trod_struct hu h;simp only [jG] at hn;subst hn;rw [<- hlen] at dd;obtain ⟨pss,l1,l2,l3,l4⟩:=Abg ih fs.toList 0 xs dd.1 (fun f hf=>by simpa using Fc.1 dd.2 f hf) (by simpa using hxl) fun i f hf=>by
    rw [Af] at hf ⊢;exact hi i f (by simpa using hf)
   rw [Fz] at l3;exact ⟨pss.flatten,.struct hu (by simpa using l1) (fun i f p hf hp=>l2 i f p (by rw [Af]; simpa using hf) hp),l3,l4⟩
  ·rename_i k e hu;simp only [Ch,beq_iff_eq] at dd;obtain ⟨dd,hsz⟩:=dd;have he:e ∈ F:=by simpa using dd
   obtain ⟨xs,n',hn,-,hlen,hxl,hi⟩:=DataW.trod_array hu h;simp only [jG] at hn;subst hn;obtain ⟨pss,l1,l2,l3,l4⟩:=Af0 (sz:=P.cellsOf e) ih he k 0 (by rw [hlen,hsz]; omega) fun i v7=>by
    have:=hi i v7;rw [Ir aA] at this;rw [Fk];exact ⟨_,this⟩
   rw [Fz] at l3;exact ⟨pss.flatten,.array hu l1 l2,l3,l4⟩
  ·cases dd
theorem Aue (hF:Adk P F=true) (hA:∀ b o v,A b o->w.cell? ⟨b,o,none⟩=some v->∃ n,v=.int .u64 n) {t:TypeId} {v:Value} {d:DataW H} {p:List MemPlace} (ht:t ∈ F) (h:kI enc P w 0 sp ku t v d p):∃ avs,Sh P t avs/\PRs w A avs v.cells.toList:=by
 obtain ⟨fuel,hf⟩:=h;obtain ⟨avs,h1,h2,-⟩:=Aoh hF hA fuel t _ _ ht hf;exact ⟨avs,h1,h2⟩
theorem Auu {t:TypeId} {avs:List AV} (hu:P.underlying t=some .bool) (h:Sh P t avs):∃ b,avs=[.prim (.bool b)]:=by
 cases h <;> rename_i h <;> rw [hu] at h <;> cases h;exact ⟨_,rfl⟩
theorem Axk {t:TypeId} {avs:List AV} (hu:P.underlying t=some .string) (h:Sh P t avs):∃ s:ByteArray,avs=[.prim (.string s)]/\s.size<=maxLen:=by
 cases h with
 | str _ h=>exact ⟨_,rfl,h⟩
 | bool h|int h|slice h|struct h|array h=>rw [hu] at h; cases h
theorem Asj {t:TypeId} {k:IntKind} {avs:List AV} (hu:P.underlying t=some (.int k)) (h:Sh P t avs):∃ n,avs=[.prim (.int k n)]/\(Lit.int k n).wf=true:=by
 cases h with
 | int h h'=>rw [hu] at h; cases h; exact ⟨_,rfl,h'⟩
 | bool h|str h|slice h|struct h|array h=>rw [hu] at h; cases h
theorem Ahd {t e:TypeId} {avs:List AV} (hu:P.underlying t=some (.slice e)) (h:Sh P t avs):∃ es,avs=[.frz es .unk]/\(∀ x ∈ es,Sh P e x)/\es.length<=maxLen:=by
 cases h with
 | slice h h' hl=>rw [hu] at h; cases h; exact ⟨_,rfl,h',hl⟩
 | bool h|str h|int h|struct h|array h=>rw [hu] at h; cases h
theorem Anz {t:TypeId} {fs:Array Field} {avs:List AV} (hu:P.underlying t=some (.struct fs)) (h:Sh P t avs):∃ pss:List (List AV),avs=pss.flatten/\pss.length=fs.size/\∀ i f p,fs[i]?=some f->nth pss i=some p->Sh P f.type p:=by
 cases h with
 | struct h h1 h2=>rw [hu] at h; cases h; exact ⟨_,rfl,h1,h2⟩
 | bool h|str h|int h|slice h|array h=>rw [hu] at h; cases h
theorem R1 {t:TypeId} {f0 f1:Field} {avs:List AV} (hu:P.underlying t=some (.struct #[f0,f1])) (h:Sh P t avs):∃ p0 p1,avs=p0++p1/\Sh P f0.type p0/\Sh P f1.type p1:=by
 obtain ⟨pss,rfl,hl,hp⟩:=Anz hu h;match pss,hl with
 | [p0,p1],_=>exact ⟨p0,p1,by simp,hp 0 f0 p0 rfl rfl,hp 1 f1 p1 rfl rfl⟩
theorem Amu {α:Type} {f:α->List AV} {Q:α->Prop} : ∀ {es:List (List AV)},(∀ x ∈ es,∃ c,x=f c/\Q c)->∃ cs:List α,es=cs.map f/\∀ c ∈ cs,Q c
 | [],_=>⟨[],rfl,by simp⟩
 | x :: es,h=>by
  obtain ⟨c,hc,hq⟩:=h x (by simp);obtain ⟨cs,h1,h2⟩:=Amu (es:=es) fun y hy=>h y (by simp [hy]);exact ⟨c :: cs,by rw [h1,hc]; rfl,fun d hd=>by
   rcases C4.1 hd with rfl|hd
   ·exact hq
   ·exact h2 d hd⟩
theorem Av0 {C:Cx} {avs:List AV} {xs:Array Value} (h:PRs C.w C.Avoid avs (Value.agg xs).cells.toList):VR C (.agg avs) (.agg xs):=by
 simp only [VR]; exact ⟨xs,rfl,Ks h⟩
theorem Aww {C:Cx} {c:AV} {v:Value} (hv:v.cells.toList=[v]) (h:PRs C.w C.Avoid [c] v.cells.toList):VR C c v:=by
 rw [hv] at h; simp only [PRs,and_true] at h; exact Yg h
end
end
section
open Go Tryz Go.RowKit
theorem Lie.other {w:World} {A A':Nat->Nat->Prop} {b:Nat} (h:∀ o,¬ A' b o):∀ {vs:List Value} {o:Nat},Lie w A b o vs->Lie w A' b o vs
 | [],_,_=>trivial
 | _ :: _,_,⟨h1,_,h3⟩=>⟨h1,h _,Lie.other h h3⟩
theorem B6.other {w:World} {A A':Nat->Nat->Prop} {b:Nat} (h:∀ o,¬ A' b o):∀ (l:List Int) (o:Nat),B6 w A b 1 o (l.map digC)->B6 w A' b 1 o (l.map digC)
 | [],_,_=>by simp only [Cp,B6]
 | x :: l,o,hr=>by
  simp only [Cm,B6] at hr ⊢;obtain ⟨h1,⟨vs,h2,h3⟩,h4⟩:=hr;refine ⟨h1,⟨vs,h2.other h,?_⟩,B6.other h l _ h4⟩;match vs,h3 with
  | [v],h3 =>
   simp only [digC,PRs,PR,and_true] at h3 ⊢;exact h3
theorem Avk {C:Cx} (hs:SR C) {l:List Int} {c:Cap} {v:Value} (h:VR C (.frz (l.map digC) c) v):RD C.w v l:=by
 simp only [VR] at h;obtain ⟨a,len,cap,rfl,h1,h2,-,h4⟩:=h;simp only [RD,digA,VR];refine ⟨a,len,cap,rfl,h1,h2,trivial,h4.imp id ?_⟩;rintro ⟨b,o,sz,ea,hr⟩;exact ⟨b,o,sz,ea,B6.stays (A:=C.Avoid) (fun b' o' v hv ha=>⟨hv,X3⟩) b sz o _ hr⟩
theorem Aak {C:Cx} (hs:SR C) {w':World} {v:Value} {l:List Int} (h:RD w' v l) (hn:NewB C.w.heap.size v):VR (C.at w') (digA l) v:=by
 obtain ⟨a,cap,rfl,h2,hc⟩:=Mz h;by_cases hl:l=[]
 ·subst hl;simp only [digA,Cp,VR];exact ⟨a,0,cap,rfl,rfl,Ci _,trivial,.inl trivial⟩
 ·simp only [RD,digA,VR] at h ⊢;obtain ⟨a',len,cap',e,h1,h3,-,h4⟩:=h;refine ⟨a',len,cap',e,h1,h3,trivial,.inr ?_⟩;rcases h4 with h4|⟨b,o,sz,ea,hr⟩
  ·exact absurd (by simpa using h4) hl
  ·have hsz:sz=1:=by
    cases l with
    | nil=>exact absurd rfl hl
    | cons y l=>simp only [Cm,B6,digC] at hr; exact hr.1.symm
   subst hsz;subst ea;have hb:=hn b o _ _ e;exact ⟨b,o,1,rfl,B6.other (fun o' ha=>by
    rcases ha with ha|ha
    ·have:=hs.avlt b o' ha; omega
    ·have:=Amz hs (show C.Mut b o' from ha); omega) l o hr⟩
theorem Aso {C:Cx} {vs:Array Value} (hs:SR C) (l r:List Int) (c d:Cap) (hl:l=dig (val l).toNat) (hr:r=dig (val r).toNat) (cg:r≠[]) (h1:l.length<=90000) (h2:r.length<=90000) (hv:VRs C [.frz (l.map digC) c,.frz (r.map digC) d] vs.toList) :
  Calls prog 228 vs C.w fun e w'=>∃ v C',e=.returned v/\C'.w=w'/\Le C C'/\SR C'/\C'.S=C.S/\C'.tk=C.tk/\C'.n=C.n/\VR C' (.tup [digA (dig ((val l).toNat / (val r).toNat)),digA (dig ((val l).toNat % (val r).toNat))]) v:=by
 obtain ⟨vl⟩:=vs;match vl,hv with
 | [x,y],hv =>
 simp only [VRs,and_true] at hv;obtain ⟨hx,hy⟩:=hv;have hb0:0<(val r).toNat:=by
  rcases iF (val r).toNat with h|h
  ·rw [h,Bp] at hr; exact absurd hr cg
  ·exact h
 have qf:0<C.w.heap.size:=by
  simp only [VR] at hy;obtain ⟨a,len,cap,rfl,h1,h2,-,h4⟩:=hy;rcases h4 with h4|⟨b,o,sz,rfl,hr⟩
  ·exact absurd (by simpa using h4) cg
  ·cases r with
   | nil=>exact absurd rfl cg
   | cons z r =>
    simp only [Cm,B6,digC] at hr;obtain ⟨-,⟨vs,qx,hp⟩,-⟩:=hr;match vs,hp with
    | [u],_=>exact Iu (Ci _) (Ha qx.1)
 refine (Acl C.w x y (val l).toNat (val r).toNat qf (by rw [<- hl]; exact Avk hs hx) (by rw [<- hr]; exact Avk hs hy) hb0 (by rw [<- hl]; exact h1) (by rw [<- hr]; exact h2)).mono ?_;rintro e w' ⟨v1,v2,rfl,g1,g2,hb,n1,n2⟩;refine ⟨_,C.at w',rfl,rfl,Le.of_below hb,SR.of_below hs hb,rfl,rfl,rfl,?_⟩;unfold VR;refine ⟨_,rfl,?_⟩;simp only [VRs,and_true];refine ⟨Aak hs g1 n1,?_⟩;rcases n2 with ⟨rfl,e2⟩|n2
 ·rw [e2,<- hl];have wt:=VR.mono (Le.of_below hb) _ _ hx;simp only [digA,VR] at wt ⊢;obtain ⟨a,len,cap,q1,q2,q3,-,q4⟩:=wt;exact ⟨a,len,cap,q1,q2,q3,trivial,q4⟩
 ·exact Aak hs g2 n2
theorem N9:∀ {es:List (List AV)} {l:List Int},Te es=some l->es=l.map digC
 | [],l,h=>by simp only [Te,Bg] at h; subst h; rfl
 | e :: es,l,h=>by
  unfold Te at h;split at h
  ·rename_i he; simp at he
  ·rename_i x r he;simp only [jH] at he;obtain ⟨rfl,rfl⟩:=he;simp only [Cd] at h;obtain ⟨l',h1,rfl⟩:=h;rw [N9 h1]; rfl
  ·simp at h
theorem Aq4 {l r:List Int} {v:AV} (h:quoF l r=some v):l=dig (val l).toNat/\r=dig (val r).toNat/\r≠[]/\l.length<=90000/\r.length<=90000/\v=.tup [digA (dig ((val l).toNat / (val r).toNat)),digA (dig ((val l).toNat % (val r).toNat))]:=by
 unfold quoF at h;split at h
 ·rename_i hh;simp only [Bg] at h;exact ⟨hh.1,hh.2.1,hh.2.2.1,hh.2.2.2.1,hh.2.2.2.2,h.symm⟩
 ·simp at h
theorem Agw {args:List AV} {S:List Ent} {tk:List Nat} {n:Nat} {r:AV} {S':List Ent} {tk':List Nat} {n':Nat} (h:quoC args S tk n=some (r,S',tk',n')):∃ l y c d,args=[.frz (l.map digC) c,.frz (y.map digC) d]/\quoF l y=some r/\S'=S/\tk'=tk/\n'=n:=by
 unfold quoC at h;split at h
 ·rename_i es c ys d;split at h
  ·rename_i l y hl hy;split at h
   ·rename_i v hv;simp only [Bg,Cf] at h;obtain ⟨rfl,rfl,rfl,rfl⟩:=h;exact ⟨l,y,c,d,by rw [N9 hl,N9 hy],hv,rfl,rfl,rfl⟩
   ·simp at h
  ·simp at h
 ·simp at h
theorem Ahk {args:List AV} {S:List Ent} {tk:List Nat} {n:Nat} {r:AV} {S':List Ent} {tk':List Nat} {n':Nat} (h:uniC args S tk n=some (r,S',tk',n')):∃ l c,args=[.frz (l.map strC) c,.frz [] .nilc]/\l.length<=1000000/\(!l.isEmpty || Vf c)=true/\r=Aq (uniS l)/\S'=S/\tk'=tk/\n'=n:=by
 unfold uniC at h;split at h
 ·rename_i es c;split at h
  ·rename_i l hl;split at h
   ·rename_i hlen;simp only [Ch,decide_eq_true_eq] at hlen;simp only [Bg,Cf] at h;obtain ⟨rfl,rfl,rfl,rfl⟩:=h;exact ⟨l,c,by rw [Wh hl],hlen.1,hlen.2,rfl,rfl,rfl,rfl⟩
   ·simp at h
  ·simp at h
 ·simp at h
theorem Aw6 {l y:List Int} {c d:Cap} {r:AV} (hq:quoF l y=some r) (S:List Ent) (tk:List Nat) (n:Nat):quoC [.frz (l.map digC) c,.frz (y.map digC) d] S tk n=some (r,S,tk,n):=by simp [quoC,Rj,hq]
theorem Asl {l:List ByteArray} {c:Cap} (hlen:l.length<=1000000) (hc:(!l.isEmpty || Vf c)=true) (S:List Ent) (tk:List Nat) (n:Nat):uniC [.frz (l.map strC) c,.frz [] .nilc] S tk n=some (Aq (uniS l),S,tk,n):=by
 simp only [uniC,X2];rw [if_pos (by rw [hc]; simpa using hlen)]
theorem Abe {f:FuncId} {args:List AV} {S:List Ent} {tk:List Nat} {n:Nat} {r:AV} {S':List Ent} {tk':List Nat} {n':Nat} (h:@extC prog E1 f args S tk n=some (r,S',tk',n')) :
  (f=78/\uniC args S tk n=some (r,S',tk',n'))\/(f=228/\quoC args S tk n=some (r,S',tk',n')):=by
 unfold extC at h;split at h
 ·simp only [Ext.call] at h;split at h
  ·rename_i hf; exact .inl ⟨by simpa using hf,h⟩
  ·split at h
   ·rename_i hf; exact .inr ⟨by simpa using hf,h⟩
   ·simp at h
 ·simp at h
theorem Aqb (args:List AV) (S:List Ent) (tk:List Nat) (n:Nat):@extC prog E1 78 args S tk n=uniC args S tk n:=by
 simp [extC,Ext.on,Ext.call]
theorem Aqa (args:List AV) (S:List Ent) (tk:List Nat) (n:Nat):@extC prog E1 228 args S tk n=quoC args S tk n:=by
 simp [extC,Ext.on,Ext.call]
@[reducible] noncomputable instance E1i:Ext prog:=E1
instance ok1:Ahm prog:={
 ok:=fun f args S tk n r S' tk' n' h=>by
  rcases Abe h with ⟨rfl,hh⟩|⟨rfl,hh⟩
  ·obtain ⟨l,c,rfl,hlen,hc,rfl,rfl,rfl,rfl⟩:=Ahk hh;refine ⟨⟨_,func78,aQ,aQ⟩,fun C vs h1 h2 h3 hs hv=>?_⟩;subst h1 h2 h3;refine Aj9 hs l c hlen (fun e=>?_) hv;subst e;cases c <;> simp [Vf] at hc;rfl
  ·obtain ⟨l,y,c,d,rfl,hq,rfl,rfl,rfl⟩:=Agw hh;refine ⟨⟨_,func228,aQ,aQ⟩,fun C vs h1 h2 h3 hs hv=>?_⟩;subst h1 h2 h3;obtain ⟨q1,q2,q3,q4,q5,rfl⟩:=Aq4 hq;exact Aso hs l y c d q1 q2 q3 q4 q5 hv
 indep:=fun M f args S tk n r S' tk' n' h=>by
  unfold Gp at h;split at h
  ·rename_i hp;rcases Abe h with ⟨rfl,hh⟩|⟨rfl,hh⟩
   ·obtain ⟨l,c,rfl,hlen,hc,rfl,rfl,rfl,rfl⟩:=Ahk hh;refine ⟨rfl,rfl,.inr ⟨rfl,fun S2 tk2 n2=>?_⟩⟩;unfold Gp;rw [if_pos hp,Aqb];exact Asl hlen hc S2 tk2 n2
   ·obtain ⟨l,y,c,d,rfl,hq,rfl,rfl,rfl⟩:=Agw hh;refine ⟨rfl,rfl,.inr ⟨rfl,fun S2 tk2 n2=>?_⟩⟩;unfold Gp;rw [if_pos hp,Aqa];exact Aw6 hq S2 tk2 n2
  ·simp at h }
section
variable (S:List Ent) (tk:List Nat) (k:Nat)
theorem Ad7 (l:List ByteArray) (c:Cap) (hlen:l.length<=1000000) (hc:(!l.isEmpty || Vf c)=true):cL prog 78 [.frz (l.map strC) c,.frz [] .nilc] S tk k=some (Aq (uniS l),S,tk,k):=by
 refine Afk rfl ?_;simp only [Ext.call,beq_self_eq_true,if_true];exact Asl hlen hc S tk k
theorem Mq (a b:Nat) (c d:Cap) (hb:0<b) (ha:(dig a).length<=90000) (hb2:(dig b).length<=90000):cL prog 228 [.frz ((dig a).map digC) c,.frz ((dig b).map digC) d] S tk k=some (.tup [digA (dig (a / b)),digA (dig (a % b))],S,tk,k):=by
 refine Afk rfl ?_;have e1:(val (dig a)).toNat=a:=by rw [Bq]; rfl
 have e2:(val (dig b)).toNat=b:=by rw [Bq]; rfl
 have hq:quoF (dig a) (dig b)=some (.tup [digA (dig (a / b)),digA (dig (a % b))]):=by
  unfold quoF;rw [e1,e2,if_pos ⟨rfl,rfl,fun h=>by have:=D4.1 h; omega,ha,hb2⟩]
 simp [Ext.call,quoC,Rj,hq]
end
end
section
open Go Tryz
set_option maxRecDepth 100000
theorem P1 {a n:Nat} (h:(dig a).length<=n):a<10000 ^ n:=A9.1 h
theorem R5 {a k:Nat} : topV (dig a) k<=a:=by
 have h1:val ((dig a).take k)+10000 ^ ((dig a).take k).length*val ((dig a).drop k)=a:=by
  rw [<- Ew,Ix,Bq]
 have h2:=El (l:=(dig a).take k) fun d hd=>A5 a d (iV hd);have h3:=El (l:=(dig a).drop k) fun d hd=>A5 a d (kM hd);have h4:val ((dig a).drop k)<=10000 ^ ((dig a).take k).length*val ((dig a).drop k):=by
  have hp:(1:Int)<=10000 ^ ((dig a).take k).length:=by
   have:=Jh ((dig a).take k).length; omega
  have:=Int.mul_le_mul_of_nonneg_right hp h3;omega
 unfold topV;omega
theorem Zx (A:List Int):topV A A.length=0:=Za48
section
variable (S:List Ent) (tk:List Nat) (k:Nat)
theorem Rx (a:Nat) (ha:(dig a).length<=4):cL prog 232 [digA (dig a)] S tk k=some (.int (a:Nat),S,tk,k):=by
 have hsm:a<10000000000000000:=P1 ha;have d3:=E2 (n:=(dig a).length) aA;refine opP func232 ntmps232 ?_;simp (maxSteps:=10^6)+contextual(disch:=try exact dqd)only[ev0,simprocAttr,Ca,Bo,Cb,results232,digA,d3];refine loop1 (P:=prog) (fun x st=>st.T.length=20/\(x.1<=(dig a).length)/\(x.2=((topV (dig a) x.1:Nat):Int))/\getT st.T 0=digA (dig a)/\getT st.T 3=.int x.2/\getT st.T 4=.int ((x.1:Int) - 1)/\st.S=[]) (fun x=>x.1) (fun x=>.int (a:Nat)) ((dig a).length,(0:Int)) ?_ ?_;case refine_2=>exact ⟨rfl,Ce _,by rw [Zx]; rfl,rfl,rfl,rfl,rfl⟩
 rintro ⟨n,v⟩ ⟨T,S',tk',n'⟩ ⟨hl,hn,hv,e0,e3,e4,eS⟩ IH;simp only at hn hv e0 e3 e4 eS;subst eS;obtain ⟨g,hg,hT⟩:=Ap hl;rw [hg] at e0 e3 e4;subst hT;clear hg hl;subst hv;by_cases h0:n=0
 ·subst h0;have d2:decide (((0:Nat):Int) - 1 >= 0)=false:=rfl;have ht:topV (dig a) 0=a:=eZ
  rw [ht] at e3;simp (maxSteps:=10^6)+contextual(disch:=try exact dqd)only[ev0,simprocAttr,Ca,Bo,Cb,results232,e0,e3,e4,d2,digA]
 ·have d2:decide ((n:Int) - 1 >= 0)=true:=aC
  have hi:(n:Int) - 1=((n - 1:Nat):Int):=aA
  obtain ⟨x,hx⟩:=Ab (show n - 1<(dig a).length by omega);have hx':=Bd hx;have hxk:=Bs (A5 a) hx;have ai:=Q6 (A5 a) hx;rw [show n - 1+1=n by omega] at ai;have hb1:=R5 (a:=a) (k:=n);have hb2:=R5 (a:=a) (k:=n - 1);have hp:=E2 (n:=n - 1) aA;have hw1:B8.wrap ((topV (dig a) n:Int)*10000)=(topV (dig a) n:Int)*10000:=Aa aD;have hw2:B8.wrap ((topV (dig a) n:Int)*10000+x)=((topV (dig a) (n - 1):Nat):Int):=by
   rw [Aa aD]; omega
  rw [hi] at e4 d2;simp (maxSteps:=10^6)+contextual(disch:=try exact dqd)only[ev0,simprocAttr,Ca,Bo,Cb,results232,e0,e3,e4,d2,digA,hx',hp,hw1,hw2];exact IH (n - 1,((topV (dig a) (n - 1):Nat):Int)) _ aF ⟨rfl,aE,rfl,aB,aB,aB,aB⟩
theorem Aiz (a:Nat) (ha:a<10000000000000000):cL prog 230 [.int (a:Nat)] S tk k=some (digA (dig a),S,tk,k):=by
 refine opP func230 ntmps230 ?_;simp (maxSteps:=10^6)+contextual(disch:=try exact dqd)only[ev0,simprocAttr,Ca,Bo,Cb,results230];refine loop1 (P:=prog) (fun x st=>st.T.length=14/\(x.1<=a)/\(x.2.1++dig x.1=dig a)/\(Be st.tk x.2.2 1=true)/\getT st.T 0=.int (x.1:Nat)/\getT st.T 3=.frz (x.2.1.map digC) x.2.2/\st.S=[]) (fun x=>x.1) (fun x=>digA (dig a)) (a,[],.nilc) ?_ ?_;case refine_2=>exact ⟨rfl,Ce _,rfl,rfl,rfl,rfl,rfl⟩
 rintro ⟨m,zs,cp⟩ ⟨T,S',tk',n'⟩ ⟨hl,hm,he,ab,e0,e3,eS⟩ IH;simp only at hm he ab e0 e3 eS;subst eS;obtain ⟨g,hg,hT⟩:=Ap hl;rw [hg] at e0 e3;subst hT;clear hg hl;have hr:=Df zs;have am:=Ba ab;have hla:(dig a).length<=4:=A9.2 ha;have hzl:zs.length<=4:=by
  have:=congrArg List.length he;simp at this; omega
 have b7:(zs.map digC).length+1<=1048576:=aC
 by_cases h0:m=0
 ·subst h0;have d1:decide (((0:Nat):Int) > 0)=false:=rfl;rw [Bp,Fj] at he;subst he;simp (maxSteps:=10^6)+contextual(disch:=try exact dqd)only[ev0,simprocAttr,Ca,Bo,Cb,results230,e0,e3,d1];rfl
 ·have d1:decide ((m:Int) > 0)=true:=aC
  have eo:¬ ((10000:Int)=0):=aA
  have hq:B8.wrap ((m:Int).tdiv 10000)=((m / 10000:Nat):Int):=by
   rw [Cz aA,Aa aD]; rfl
  have ft:(m:Int).tmod 10000=((m % 10000:Nat):Int):=cG
  simp (maxSteps:=10^6)+contextual(disch:=try exact dqd)only[ev0,simprocAttr,Ca,Bo,Cb,results230,e0,e3,d1,eo,hq,ft,hr];exact IH (m / 10000,zs++[((m % 10000:Nat):Int)],Ay tk' cp 1) _ aF ⟨rfl,aE,by rw [<- he,Kb h0]; simp,am,aB,aB,aB⟩
theorem V5 (a b:Nat) (ha:(dig a).length<=90000) (hb:(dig b).length<=90000):cL prog 227 [digA (dig a),digA (dig b)] S tk k=some (digA (dig (a.gcd b)),S,tk,k):=by
 refine opP func227 ntmps227 ?_;simp (maxSteps:=10^6)+contextual(disch:=try exact dqd)only[ev0,simprocAttr,Ca,Bo,Cb,results227,digA];refine loop1 (P:=prog) (fun x st=>st.T.length=33/\(x.1.gcd x.2=a.gcd b)/\((dig x.1).length<=90000)/\((dig x.2).length<=90000)/\getT st.T 0=digA (dig x.1)/\getT st.T 1=digA (dig x.2)/\st.S=[]) (fun x=>x.2) (fun x=>digA (dig (a.gcd b))) (a,b) ?_ ?_;case refine_2=>exact ⟨rfl,rfl,ha,hb,rfl,rfl,rfl⟩
 rintro ⟨x,y⟩ ⟨T,S',tk',n'⟩ ⟨hl,hg,hx,hy,e0,e1,eS⟩ IH;simp only at hg hx hy e0 e1 eS;subst eS;obtain ⟨g,hg,hT⟩:=Ap hl;rw [hg] at e0 e1;subst hT;clear hg hl;by_cases h0:y=0
 ·subst h0;have d1:decide ((((dig 0).length:Nat):Int) > 0)=false:=rfl;rw [I6] at hg;simp (maxSteps:=10^6)+contextual(disch:=try exact dqd)only[ev0,simprocAttr,Ca,Bo,Cb,results227,e0,e1,d1,digA];rw [hg]
 ·have hyl:0<(dig y).length:=Ic.2 fun h=>h0 (D4.1 h);have d1:decide (((dig y).length:Int) > 0)=true:=aC
  have hQ:=fun c d S tk k=>Mq S tk k x y c d aA hx hy;simp only [digA] at hQ;have hlt:=I7 x (by omega:0<y);have hym:(dig (x % y)).length<=90000:=Fh (A9.2 (Nat.lt_trans hlt (A9.1 (Ce _)))) hy;have hgn:y.gcd (x % y)=a.gcd b:=Za0j
  by_cases h4:(dig x).length<=4
  ·have d2:decide (((dig x).length:Int)<=4)=true:=aC
   by_cases h5:(dig y).length<=4
   ·have d3:decide (((dig y).length:Int)<=4)=true:=aC
    have hx1:x<10000000000000000:=P1 h4;have hy1:y<10000000000000000:=P1 h5;have hN1:=fun S tk k=>Rx S tk k x h4;have hN2:=fun S tk k=>Rx S tk k y h5;have hC:=fun S tk k=>told (E:=E1) (Rw S tk k x y aA aA);have hD:=fun S tk k=>Aiz S tk k (x.gcd y) (Iu (kJ x aA) hy1);simp only [digA] at hN1 hN2 hD;simp (maxSteps:=10^6)+contextual(disch:=try exact dqd)only[ev0,simprocAttr,Ca,Bo,Cb,results227,e0,e1,d1,d2,d3,digA,hN1,hN2,hC,hD];rw [hg]
   ·have d3:decide (((dig y).length:Int)<=4)=false:=aC
    simp (maxSteps:=10^6)+contextual(disch:=try exact dqd)only[ev0,simprocAttr,Ca,Bo,Cb,results227,e0,e1,d1,d2,d3,digA,hQ];exact Ya28
  ·have d2:decide (((dig x).length:Int)<=4)=false:=aC
   simp (maxSteps:=10^6)+contextual(disch:=try exact dqd)only[ev0,simprocAttr,Ca,Bo,Cb,results227,e0,e1,d1,d2,digA,hQ];exact Ya28
end
end
section
open Go Tryz
def smB (z:Int):Bool:=!decide (2<(dig z.natAbs).length)
def smN (z:Int):Int:=if smB z=true then z else 0
theorem Nz {z:Int} (h:smB z=true):z.natAbs<100000000:=by
 have h2:(dig z.natAbs).length<=2:=by simpa [smB] using h
 exact P1 h2
theorem zneg (z:Int):(!decide (z<0) && !decide (dig z.natAbs=[]))=decide (-z<0):=by
 have h1:dig z.natAbs=[]↔z.natAbs=0:=D4;by_cases h:z<0
 ·have h2:¬ (-z<0):=aA
  simp [h]; omega
 ·by_cases h0:z=0
  ·subst h0; rfl
  ·have h2 : -z<0:=aA
   have h3:¬ dig z.natAbs=[]:=fun e=>by have:=h1.1 e; omega
   simp [h,h3]; omega
theorem Kc (n:Nat):decide (((dig n).length:Int) > 0)=!decide (dig n=[]):=by
 cases h:dig n with
 | nil=>rfl
 | cons x l=>simp
theorem Ai1 (z:Int):sg (decide (z<0)) z.natAbs=z:=by
 by_cases h:z<0 <;> simp [sg,h] <;> omega
theorem Tg {x y:Int} (h:decide (x<0)=decide (y<0)):decide (x+y<0)=decide (x<0)/\(x+y).natAbs=x.natAbs+y.natAbs:=by
 have h':(x<0)↔(y<0):=aO
 constructor
 ·rw [decide_eq_decide]; omega
 ·omega
section
variable (S:List Ent) (tk:List Nat) (k:Nat)
theorem V7 (z:Int):cL prog 263 [zA z] S tk k=some (.tup [.int (smN z),.bool (smB z)],S,tk,k):=by
 refine opP func263 ntmps263 (hp3:=rfl) ?_;by_cases h:(dig z.natAbs).length<=2
 ·have hN:=fun S tk k=>Rx S tk k z.natAbs aA;have hb:smB z=true:=dT
  have hlt:=Nz hb;have d1:decide (((dig z.natAbs).length:Int) > 2)=false:=aC
  have e1:smN z=z:=by simp [smN,hb]
  rw [e1,hb];simp only [digA] at hN;by_cases hn:z<0
  ·have d2:decide (z<0)=true:=bX
   have hw:B8.wrap (0 - (z.natAbs:Int))=z:=aP
   have hw2:B8.wrap (-(z.natAbs:Int))=z:=aP
   simp (maxSteps:=10^6)+contextual(disch:=try exact dqd)only[ev0,simprocAttr,Ca,Bo,Cb,results263,zA,bigA,digA,d1,d2,hN,hw,hw2]
  ·have d2:decide (z<0)=false:=bX
   have hz:(z.natAbs:Int)=z:=aA
   rw [hz] at hN;simp (maxSteps:=10^6)+contextual(disch:=try exact dqd)only[ev0,simprocAttr,Ca,Bo,Cb,results263,zA,bigA,digA,d1,d2,hN]
 ·have hb:smB z=false:=dT
  have d1:decide (((dig z.natAbs).length:Int) > 2)=true:=aC
  have e1:smN z=0:=by simp [smN,hb]
  rw [e1,hb];simp (maxSteps:=10^6)+contextual(disch:=try exact dqd)only[ev0,simprocAttr,Ca,Bo,Cb,results263,zA,bigA,digA,d1]
theorem Ht (z:Int):cL prog 226 [zA z] S tk k=some (zA z,S,tk,k):=by
 refine opP func226 ntmps226 (hp3:=rfl) ?_;simp (maxSteps:=10^6)+contextual(disch:=try exact dqd)only[ev0,simprocAttr,Ca,Bo,Cb,results226,zA,bigA,digA]
theorem W2 (z:Int):cL prog 264 [zA z] S tk k=some (zA (-z),S,tk,k):=by
 refine opP func264 ntmps264 (hp3:=rfl) ?_;have hz:=zneg z;have hp:=Kc z.natAbs;have ha:(-z).natAbs=z.natAbs:=aA
 simp only [zA,ha];rw [<- hz];cases d1:decide (z<0) with
 | true=>simp (maxSteps:=10^6)+contextual(disch:=try exact dqd)only[ev0,simprocAttr,Ca,Bo,Cb,results264,bigA,digA,d1]
 | false=>simp (maxSteps:=10^6)+contextual(disch:=try exact dqd)only[ev0,simprocAttr,Ca,Bo,Cb,results264,bigA,digA,d1,hp]
end
theorem ext_mv1 (f:FuncId) (h:mvF0 f=false):Ext.mv prog f=false:=h
set_option linter.defProp false in
def ev1:=Cc ext_mv1 ev0
set_option linter.defProp false in
def evs1:=Cc ext_mv1 evs0
theorem iq1:((-1:Int) == 1)=false:=rfl
theorem iq2:((0:Int) == 1)=false:=rfl
theorem iq3:((0:Int) == -1)=false:=rfl
theorem iq4:((1:Int) == 1)=true:=rfl
theorem iq5:((-1:Int) == -1)=true:=rfl
theorem Ark {p:Bool} {n:Nat} (h:n=0->p=false):bigA p (dig n)=zA (sg p n):=by
 unfold zA;rw [Anv];cases p with
 | false =>
  have:¬ ((n:Int)<0):=aA
  simp [sg,this]
 | true =>
  have h0:n≠0:=fun e=>by simpa using h e
  have:(sg true n<0):=by simp [sg]; omega
  simp [this]
theorem Axs {p q:Bool} (h:p≠q) {X Y:Nat} (hl:Y<X):bigA p (dig (X - Y))=zA (sg p X+sg q Y):=by
 rw [<- Arv h aA];exact Ark (fun e=>aA)
theorem Axq {p q:Bool} (h:p≠q) {X Y:Nat} (hl:X<Y):bigA q (dig (Y - X))=zA (sg p X+sg q Y):=by
 rw [<- Avz h aA];exact Ark (fun e=>aA)
theorem Anw (x y:Int):bigA (decide (x<0) != decide (y<0) && !decide (dig (x.natAbs*y.natAbs)=[])) (dig (x.natAbs*y.natAbs))=zA (x*y):=by
 rw [Ark (fun e=>by rw [e,Bp]; simp)];congr 1;have h:=Asa (decide (x<0)) (decide (y<0)) x.natAbs y.natAbs;rw [Ai1,Ai1] at h;rw [<- h];by_cases h0:x.natAbs*y.natAbs=0
 ·rw [h0]; simp [sg]
 ·have:¬ dig (x.natAbs*y.natAbs)=[]:=fun e=>h0 (D4.1 e);simp [this]
section
variable (S:List Ent) (tk:List Nat) (k:Nat)
theorem Ajd (x y:Int) (hx:(dig x.natAbs).length<=90000) (hy:(dig y.natAbs).length<=90000):cL prog 260 [zA x,zA y] S tk k=some (zA (x+y),S,tk,k):=by
 refine opP func260 ntmps260 (hp3:=rfl) ?_;by_cases hpq:decide (x<0)=decide (y<0)
 ·obtain ⟨h1,h2⟩:=Tg hpq;have hP:=fun S tk k=>told (E:=E1) (Aun S tk k x.natAbs y.natAbs aA aA);have d1:(decide (x<0) == decide (y<0))=true:=cV
  simp only [zA,h1,h2];simp only [digA] at hP;simp (maxSteps:=10^6)+contextual(disch:=try exact dqd)only[ev1,simprocAttr,Ca,Bo,Cb,results260,iq1,iq2,iq3,iq4,iq5,bigA,digA,d1,hP]
 ·have d1:(decide (x<0) == decide (y<0))=false:=cV
  have hC:=fun S tk k=>told (E:=E1) (Qt S tk k x.natAbs y.natAbs aA aA);have hs:=Ai1 x;have ht:=Ai1 y;by_cases xq:y.natAbs<x.natAbs
  ·have hM:=fun S tk k=>told (E:=E1) (Agz S tk k x.natAbs y.natAbs aA aA);have hz:=Axs hpq xq;rw [hs,ht] at hz;rw [<- hz];have hc:cmpN x.natAbs y.natAbs=1:=by unfold cmpN; rw [if_neg aA,if_pos xq]
   exact Ya0m
  ·by_cases hlt:x.natAbs<y.natAbs
   ·have hM:=fun S tk k=>told (E:=E1) (Agz S tk k y.natAbs x.natAbs aA aA);have hz:=Axq hpq hlt;rw [hs,ht] at hz;rw [<- hz];have hc:cmpN x.natAbs y.natAbs=-1:=by unfold cmpN; rw [if_pos hlt]
    exact Ya0m
   ·have hc:cmpN x.natAbs y.natAbs=0:=by unfold cmpN; rw [if_neg hlt,if_neg xq]
    have h0:x+y=0:=by
     have h5:¬ ((x<0)↔(y<0)):=cV
     omega
    rw [hc] at hC;rw [h0];simp only [digA] at hC;simp (maxSteps:=10^6)+contextual(disch:=try exact dqd)only[ev1,simprocAttr,Ca,Bo,Cb,results260,iq1,iq2,iq3,iq4,iq5,zA,bigA,digA,d1,hC];first|rfl|(rw [show Int.natAbs 0=0 from rfl,Bp]; rfl)|(rw [Bp]; rfl)
theorem Et (x y:Int) (hx:(dig x.natAbs).length<=90000) (hy:(dig y.natAbs).length<=90000):cL prog 257 [zA x,zA y] S tk k=some (zA (x*y),S,tk,k):=by
 refine opP func257 ntmps257 (hp3:=rfl) ?_;have hP:=fun S tk k=>told (E:=E1) (V6 S tk k x.natAbs y.natAbs aA aA);have hz:=Anw x y;have hp:=Kc (x.natAbs*y.natAbs);simp only [digA] at hP;rw [<- hz];have tp:(decide (x<0) != decide (y<0))=!(decide (x<0) == decide (y<0)):=rfl;rw [tp];cases d1:decide (x<0) == decide (y<0) with
 | true=>simp (maxSteps:=10^6)+contextual(disch:=try exact dqd)only[ev1,simprocAttr,Ca,Bo,Cb,results257,iq1,iq2,iq3,iq4,iq5,zA,bigA,digA,d1,tp,hp,hP,Fs,Fu,Fq,Fo]
 | false=>simp (maxSteps:=10^6)+contextual(disch:=try exact dqd)only[ev1,simprocAttr,Ca,Bo,Cb,results257,iq1,iq2,iq3,iq4,iq5,zA,bigA,digA,d1,tp,hp,hP,Fs,Fu,Fq,Fo]
theorem Wk (x y:Int) (hx:(dig x.natAbs).length<=90000) (hy:(dig y.natAbs).length<=90000):cL prog 259 [zA x,zA y] S tk k=some (zA (x - y),S,tk,k):=by
 refine opP func259 ntmps259 (hp3:=rfl) ?_;have hO:=fun S tk k=>W2 S tk k y;have hP:=fun S tk k=>Ajd S tk k x (-y) hx (by rw [show (-y).natAbs=y.natAbs by omega]; exact hy);rw [show x+-y=x - y by omega] at hP;simp only [zA,bigA,digA] at hO hP;simp (maxSteps:=10^6)+contextual(disch:=try exact dqd)only[ev1,simprocAttr,Ca,Bo,Cb,results259,iq1,iq2,iq3,iq4,iq5,zA,bigA,digA,hO,hP]
theorem Zr (l:List Int) (c:Cap) (hlen:l.length<=1048576):cL prog 229 [.frz (l.map digC) c] S tk k=some (digA l,S,tk,k):=by
 have hr:=fun cs=>Dh (f:=digC) (sz:=1) (fun _=>rfl) cs;cases l with
 | nil =>
  simp only [Cp];refine Aaw func229 rfl rfl aQ aQ ntmps229 rfl rfl _ _ _ ?_ ?_ <;> rw [Avl]
  ·exact Ya1a
  ·exact Ya1a
 | cons x l =>
  simp only [Cm];refine Ym func229 rfl rfl aQ aQ ntmps229 rfl rfl _ _ _ rfl ?_; rw [Avl];have ju:=hr (x :: l);simp only [Cm] at ju;have hl:([]:List (List AV)).length+(digC x :: l.map digC).length<=1048576:=by simp at hlen ⊢; omega
  simp (maxSteps:=10^6)+contextual(disch:=try exact dqd)only[ev1,simprocAttr,Ca,Bo,Cb,results229,iq1,iq2,iq3,iq4,iq5,Nd,digA,ju]
end
end
section
open Go Tryz
set_option maxRecDepth 100000
theorem Z0 {n:Int} (h0:0<=n) (h1:n<18446744073709551616):kN.wrap n=n:=by
 have e:(n.toNat:Int)=n:=aA
 rw [<- e];exact Go.IntWalk.u64_in _ aA
theorem Arh (u:Int):(u.tmod 10000).natAbs=u.natAbs % 10000:=by
 rw [Int.natAbs_tmod]; rfl
theorem Arg (u:Int):(u.tdiv 10000).natAbs=u.natAbs / 10000:=by
 rw [kQ]; rfl
theorem uwrap (n:Int):kN.wrap n=n % 18446744073709551616:=by
 simp [IntKind.wrap,IntKind.bits,IntKind.signed]
theorem Alk {n:Nat} (h:n<10000000000000000000):(dig n).length<=5:=A9.2 (F7 h aJ)
theorem Aec {u N:Nat} {out:List Int} (he:out++dig u=dig N) (h:u≠0):(out++[((u % 10000:Nat):Int)])++dig (u / 10000)=dig N:=by
 rw [<- he,Kb h]; simp
theorem Am5 {u N:Nat} {out:List Int} (he:out++dig u=dig N) (hN:N<10000000000000000000):out.length<=5:=by
 have:=Alk hN;rw [<- he] at this; simp at this; omega
theorem Aeb {N:Nat} {out:List Int} (he:out++dig 0=dig N):out=dig N:=by rw [<- he,Bp,Fj]
section
variable (S:List Ent) (tk:List Nat) (k:Nat)
theorem R9 (n:Int) (hn:i64 n):cL prog 54 [.int n] S tk k=some (zA n,S,tk,k):=by
 refine opP func54 ntmps54 (hp3:=rfl) ?_;have hn':=hn;unfold i64 at hn';have hN:n.natAbs<10000000000000000000:=aA
 cases d0:decide (n<0) with
 | true =>
  simp only [decide_eq_true_eq] at d0;have d0':decide (n<0)=true:=by simpa using d0
  have q0:kN.wrap (0 - kN.wrap n)=((n.natAbs:Nat):Int):=by rw [uwrap,uwrap]; omega
  exact Ya3
 | false =>
  simp only [decide_eq_false_iff_not] at d0;have d0':decide (n<0)=false:=by simpa using d0
  have q0:kN.wrap n=((n.natAbs:Nat):Int):=by rw [Z0 aA aA]; omega
  exact Ya3
theorem Pr (n:Int) (hn:i64 n):cL prog 165 [.int n] S tk k=some (zA n,S,tk,k):=by
 refine opP func165 ntmps165 (hp3:=rfl) ?_;have hn':=hn;unfold i64 at hn';have hN:n.natAbs<10000000000000000000:=aA
 simp (maxSteps:=10^6)+contextual(disch:=try exact dqd)only[ev0,simprocAttr,Ca,Bo,Cb,results165];refine loop1 (P:=prog) (fun x st=>st.T.length=25/\(i64 x.1)/\(x.2.1++dig x.1.natAbs=dig n.natAbs)/\(Be st.tk x.2.2 1=true)/\getT st.T 0=.int x.1/\getT st.T 2=.ref 0 0 0/\getT st.T 3=.frz (x.2.1.map digC) x.2.2/\getT st.T 4=.bool (decide (n<0))/\st.S=[⟨0,[.bool false,.frz [] .nilc]⟩]) (fun x=>x.1.natAbs) (fun x=>zA n) (n,[],.nilc) ?_ ?_;case refine_2=>exact ⟨rfl,hn,rfl,rfl,rfl,rfl,rfl,rfl,rfl⟩
 rintro ⟨u,out,c⟩ ⟨T,S',tk',n'⟩ ⟨hl,hu,he,ab,e0,e2,e3,e4,eS⟩ IH;simp only at hu he ab e0 e2 e3 e4 eS;subst eS;obtain ⟨g,hg,hT⟩:=Ap hl;rw [hg] at e0 e2 e3 e4;subst hT;clear hg hl;have hlen:=Am5 he hN;have hr:=Df out;have am:=Ba ab;unfold i64 at hu;by_cases h0:u=0
 ·have d1:(u != 0)=false:=aC
  subst h0;have hd:=Aeb he;subst hd;simp (maxSteps:=10^6)+contextual(disch:=try exact dqd)only[ev0,simprocAttr,Ca,Bo,Cb,results165,e0,e2,e3,e4,d1];simp [zA,bigA,digA]
 ·have d1:(u != 0)=true:=aC
  have eo:¬ ((10000:Int)=0):=aA
  have b7:(out.map digC).length+1<=1048576:=aC
  have t1:=Arh u;have t2:=Arg u;have q1:B8.wrap (u.tmod 10000)=u.tmod 10000:=Aa aD;have q3:B8.wrap (u.tdiv 10000)=u.tdiv 10000:=Aa aD;have hs:=Aec he (u:=u.natAbs) aA;cases d2:decide (u.tmod 10000<0) with
  | true =>
   simp only [decide_eq_true_eq] at d2;have d2':decide (u.tmod 10000<0)=true:=by simpa using d2
   have q4:B8.wrap (0 - u.tmod 10000)=((u.natAbs % 10000:Nat):Int):=aP
   simp (maxSteps:=10^6)+contextual(disch:=try exact dqd)only[ev0,simprocAttr,Ca,Bo,Cb,results165,e0,e2,e3,e4,d1,eo,q1,q3,d2',q4,hr];exact Ya1g
  | false =>
   simp only [decide_eq_false_iff_not] at d2;have d2':decide (u.tmod 10000<0)=false:=by simpa using d2
   have q4:u.tmod 10000=((u.natAbs % 10000:Nat):Int):=aA
   rw [q4] at d2' q1;simp (maxSteps:=10^6)+contextual(disch:=try exact dqd)only[ev0,simprocAttr,Ca,Bo,Cb,results165,e0,e2,e3,e4,d1,eo,q4,q1,q3,d2',hr];exact Ya1g
def inZ (z:Int):Bool:=decide (z >= -1000000000000) && decide (z<=1000000000000)
def intZ (z:Int):Int:=if inZ z=true then z else 0
end
end
section
open Go Tryz
def ratA (p:Bool) (l:List Int) (q:Bool) (r:List Int):AV:=.agg [.prim (.bool p),digA l,.prim (.bool q),digA r]
def qA (n d:Int):AV:=ratA (decide (n<0)) (dig n.natAbs) (decide (d<0)) (dig d.natAbs)
def lowN (n d:Int):Int:=(if d<0 then -n else n).tdiv ((n.natAbs.gcd d.natAbs:Nat):Int)
def lowD (n d:Int):Int:=((d.natAbs / n.natAbs.gcd d.natAbs:Nat):Int)
section
variable (S:List Ent) (tk:List Nat) (k:Nat)
theorem Aek (n:Int) (hn:i64 n):cL prog 148 [.int n] S tk k=some (qA n 1,S,tk,k):=by
 refine opP func148 ntmps148 (hp3:=rfl) ?_;have h1:=fun S tk k=>R9 S tk k n hn;have h2:=fun S tk k=>R9 S tk k 1 aD;simp only [zA,bigA,digA] at h1 h2;simp (maxSteps:=10^6)+contextual(disch:=try exact dqd)only[ev1,simprocAttr,Ca,Bo,Cb,results148,qA,ratA,digA,h1,h2]
theorem Aq7:cL prog 262 [] S tk k=some (qA 0 1,S,tk,k):=by
 refine opP func262 ntmps262 (hp3:=rfl) ?_;have h1:=fun S tk k=>Aek S tk k 0 aD;simp only [qA,ratA,digA] at h1;simp (maxSteps:=10^6)+contextual(disch:=try exact dqd)only[ev1,simprocAttr,Ca,Bo,Cb,results262,qA,ratA,digA,h1]
theorem Qu (a b c d:Int):cL prog 255 [qA a b,qA c d] S tk k=some (.tup [.agg [.int (smN a),.int (smN b),.int (smN c),.int (smN d)],.bool (smB a && smB b && smB c && smB d)],S,tk,k):=by
 refine opP func255 ntmps255 (hp3:=rfl) ?_;have h:=fun z S tk k=>V7 S tk k z;simp only [zA,bigA,digA] at h;cases d1:smB a with
 | false=>simp (maxSteps:=10^6)+contextual(disch:=try exact dqd)only[ev1,simprocAttr,Ca,Bo,Cb,results255,qA,ratA,digA,h,d1,Fo]
 | true =>
  cases d2:smB b with
  | false=>simp (maxSteps:=10^6)+contextual(disch:=try exact dqd)only[ev1,simprocAttr,Ca,Bo,Cb,results255,qA,ratA,digA,h,d1,d2,Fo,Fq]
  | true =>
   cases d3:smB c with
   | false=>simp (maxSteps:=10^6)+contextual(disch:=try exact dqd)only[ev1,simprocAttr,Ca,Bo,Cb,results255,qA,ratA,digA,h,d1,d2,d3,Fo,Fq]
   | true=>simp (maxSteps:=10^6)+contextual(disch:=try exact dqd)only[ev1,simprocAttr,Ca,Bo,Cb,results255,qA,ratA,digA,h,d1,d2,d3,Fo,Fq]
theorem Mp (n d:Int) (hn:n.natAbs<=100000000000000000) (hd:d.natAbs<=100000000000000000) (de:d≠0):cL prog 256 [.int n,.int d] S tk k=some (qA (lowN n d) (lowD n d),S,tk,k):=by
 refine opP func256 ntmps256 (hp3:=rfl) ?_;have hC:=fun S tk k=>told (E:=E1) (Rw S tk k n.natAbs d.natAbs aA aA);have kt:0<n.natAbs.gcd d.natAbs:=Iv _ aA;have hgz:¬ (((n.natAbs.gcd d.natAbs:Nat):Int)=0):=aA
 have hm:∀ x:Int,x.natAbs=n.natAbs->(if -x > x then -x else x)=(n.natAbs:Int):=fun x hx=>by split <;> omega
 have hwn:∀ x:Int,x.natAbs=n.natAbs->B8.wrap (0 - x)=-x:=fun x hx=>aP
 have lz:B8.wrap (0 - d)=-d:=aP
 have hq:∀ x:Int,x.natAbs=n.natAbs->i64 (x.tdiv ((n.natAbs.gcd d.natAbs:Nat):Int)):=fun x hx=>by
  have h1:(x.tdiv ((n.natAbs.gcd d.natAbs:Nat):Int)).natAbs<=x.natAbs:=by
   rw [kQ]; exact Ou _ _
  unfold i64; omega
 have yz:i64 (lowD n d):=by
  have:=Ou d.natAbs (n.natAbs.gcd d.natAbs);unfold i64 lowD;generalize d.natAbs / n.natAbs.gcd d.natAbs=z at *;omega
 have hdq:∀ x:Int,x=(d.natAbs:Int)->x.tdiv ((n.natAbs.gcd d.natAbs:Nat):Int)=lowD n d:=fun x hx=>by
  subst hx;rw [Cz aA]; rfl
 have hB:=fun S tk k=>R9 S tk k (lowD n d) yz;by_cases h:d<0
 ·have d1:decide (d<0)=true:=aO
  have hN:lowN n d=(-n).tdiv ((n.natAbs.gcd d.natAbs:Nat):Int):=by unfold lowN; rw [if_pos h]
  have hA:=fun S tk k=>R9 S tk k (lowN n d) (by rw [hN]; exact hq _ aA);have ft:=hm (-n) aA;have hw1:=hwn n rfl;have hw2:=hwn (-n) aA;have hw3:B8.wrap ((-n).tdiv ((n.natAbs.gcd d.natAbs:Nat):Int))=lowN n d:=by
   rw [hN]; have:=hq (-n) aA; exact Aa this
  have hw4:B8.wrap ((-d).tdiv ((n.natAbs.gcd d.natAbs:Nat):Int))=lowD n d:=by
   rw [hdq (-d) aA]; exact Aa yz
  have hda:(-d)=(d.natAbs:Int):=aA
  have hC':∀ S tk k,cL prog 231 [.int (n.natAbs:Int),.int (-d)] S tk k=some (.int ((n.natAbs.gcd d.natAbs:Nat):Int),S,tk,k):=fun S tk k=>by
   have:=hC S tk k;rwa [<- hda] at this
  simp only [zA,bigA,digA] at hA hB;simp (maxSteps:=10^6)+contextual(disch:=try exact dqd)only[ev1,simprocAttr,Ca,Bo,Cb,results256,maxA_int,qA,ratA,digA,d1,hw1,hw2,lz,ft,hC',hgz,hw3,hw4,hA,hB]
 ·have d1:decide (d<0)=false:=aO
  have hN:lowN n d=n.tdiv ((n.natAbs.gcd d.natAbs:Nat):Int):=by unfold lowN; rw [if_neg h]
  have hA:=fun S tk k=>R9 S tk k (lowN n d) (by rw [hN]; exact hq _ aA);have ft:=hm n aA;have hw1:=hwn n rfl;have hw3:B8.wrap (n.tdiv ((n.natAbs.gcd d.natAbs:Nat):Int))=lowN n d:=by
   rw [hN]; have:=hq n aA; exact Aa this
  have hw4:B8.wrap (d.tdiv ((n.natAbs.gcd d.natAbs:Nat):Int))=lowD n d:=by
   rw [hdq d aA]; exact Aa yz
  have hda:d=(d.natAbs:Int):=aA
  have hC2:∀ S tk k,cL prog 231 [.int (n.natAbs:Int),.int d] S tk k=some (.int ((n.natAbs.gcd d.natAbs:Nat):Int),S,tk,k):=fun S tk k=>by
   have:=hC S tk k;rwa [<- hda] at this
  simp only [zA,bigA,digA] at hA hB;simp (maxSteps:=10^6)+contextual(disch:=try exact dqd)only[ev1,simprocAttr,Ca,Bo,Cb,results256,maxA_int,qA,ratA,digA,d1,hw1,ft,hC2,hgz,hw3,hw4,hA,hB]
end
theorem Hh {p:Bool} {l:List Int} (h:D1 p l=true):p=decide (V p l<0)/\l=dig (V p l).natAbs:=by
 have ha:=As7 p l;rw [if_pos h] at ha;refine ⟨?_,ha.symm⟩;have hs:=V_sg p l;cases p with
 | false =>
  have:¬ V false l<0:=by rw [hs]; simp [sg]
  simp [this]
 | true =>
  have hl:l≠[]:=fun e=>by subst e; simp [D1] at h
  have h0:(V true l).natAbs≠0:=fun e=>by rw [e,Bp] at ha; exact hl ha.symm
  have:V true l<0:=by rw [hs]; simp only [sg,if_true]; omega
  simp [this]
def No (n d:Int):Bool:=decide (0<d) && decide (n.natAbs.gcd d.natAbs=1)
def Kl (p:Bool) (l:List Int) (q:Bool) (r:List Int):Bool:=D1 p l && D1 q r && No (V p l) (V q r)
def nQ (p:Bool) (l:List Int) (q:Bool) (r:List Int):Int:=if Kl p l q r=true then V p l else 0
def dQ (p:Bool) (l:List Int) (q:Bool) (r:List Int):Int:=if Kl p l q r=true then V q r else 1
theorem Ath (g:Nat):decide (cmpN g 1=0)=decide (g=1):=by
 rw [decide_eq_decide];unfold cmpN;split
 ·omega
 ·exact Ya3v
section
variable (S:List Ent) (tk:List Nat) (k:Nat)
theorem Zk (a:Nat) (ha:(dig a).length<=1000000):cL prog 233 [digA (dig a),.frz [[.prim (.int .i64 1)]] .tight] S tk k=some (.int (cmpN a 1),S,tk,k):=by
 have qa:dig 1=[(1:Int)]:=L5 (d:=(1:Int)) aA aA;have h2:=told (E:=E1) (Qt S tk k a 1 ha (by rw [qa]; simp));rw [qa] at h2;exact (P0 (args:=[digA (dig a),.frz [[.prim (.int .i64 1)]] .tight]) (args':=[digA (dig a),digA [(1:Int)]]) rfl rfl rfl).trans h2
theorem Ank (p:Bool) (l:List Int) (q:Bool) (r:List Int) (hl:l.length<=1000000) (hr:r.length<=1000000):cL prog 261 [ratA p l q r] S tk k=some (.bool (Kl p l q r),S,tk,k):=by
 have l6:=fun S tk k=>told (E:=E1) (L2 S tk k p l .unk hl);have l7:=fun S tk k=>told (E:=E1) (L2 S tk k q r .unk hr);refine opP func261 ntmps261 (hp3:=rfl) ?_;unfold Kl;cases h1:D1 p l with
 | false =>
  rw [h1] at l6;simp (maxSteps:=10^6)+contextual(disch:=try exact dqd)only[ev1,simprocAttr,Ca,Bo,Cb,results261,ratA,digA,l6,Fo]
 | true =>
 rw [h1] at l6;cases h2:D1 q r with
 | false =>
  rw [h2] at l7;simp (maxSteps:=10^6)+contextual(disch:=try exact dqd)only[ev1,simprocAttr,Ca,Bo,Cb,results261,ratA,digA,l6,l7,Fo,Fq]
 | true =>
 rw [h2] at l7;obtain ⟨hp,eh⟩:=Hh h1;obtain ⟨hq,tq⟩:=Hh h2;have md:=(J0 h1).2.2;have i6:=(J0 h2).2.2;by_cases pq:q=true
 ·subst pq;have hg:No (V p l) (V true r)=false:=by
   have:V true r<0:=fL
   have h3:¬ 0<V true r:=aA
   simp [No,h3]
  rw [hg];simp (maxSteps:=10^6)+contextual(disch:=try exact dqd)only[ev1,simprocAttr,Ca,Bo,Cb,results261,ratA,digA,l6,l7,Fq]
 ·have hqf:q=false:=by simpa using pq
  subst hqf;have de:0<=V false r:=by
   have:¬ V false r<0:=fL
   omega
  by_cases cg:r=[]
  ·subst cg;have hg:No (V p l) (V false [])=false:=by
    have:V false []=0:=Za4m
    simp [No,this]
   rw [hg];simp only [Cp] at l7;have iz:(((0:Nat):Int) == 0)=true:=rfl;simp (maxSteps:=10^6)+contextual(disch:=try exact dqd)only[ev1,simprocAttr,Ca,Bo,Cb,results261,ratA,digA,l6,l7,iz,Fq]
  ·have wz:(((r.length:Nat):Int) == 0)=false:=by
    exact Ya3g
   have hd1:0<V false r:=by
    have:(V false r).natAbs≠0:=fun e=>cg (by rw [tq,e,Bp]);omega
   have hgd:No (V p l) (V false r)=decide ((V p l).natAbs.gcd (V false r).natAbs=1):=by simp [No,hd1]
   rw [hgd];have ci:=fun S tk k=>V7 S tk k (V p l);have bl:=fun S tk k=>V7 S tk k (V false r);simp only [zA,bigA,digA,<- hp,<- eh,<- hq,<- tq] at ci bl;by_cases hs:smB (V p l)=true/\smB (V false r)=true
   ·obtain ⟨s1,s2⟩:=hs;have e1:smN (V p l)=V p l:=by simp [smN,s1]
    have e2:smN (V false r)=V false r:=by simp [smN,s2]
    have b1:=Nz s1;have b2:=Nz s2;rw [e1,s1] at ci;rw [e2,s2] at bl;have hw:B8.wrap (0 - V p l)=- V p l:=aP
    have hm:(if - V p l > V p l then - V p l else V p l)=((V p l).natAbs:Int):=by split <;> omega
    have hC:=fun S tk k=>told (E:=E1) (Rw S tk k (V p l).natAbs (V false r).natAbs aA aA);have hda:((V false r).natAbs:Int)=V false r:=aA
    rw [hda] at hC;have lh:((((V p l).natAbs.gcd (V false r).natAbs:Nat):Int) == 1)=decide ((V p l).natAbs.gcd (V false r).natAbs=1):=by
     rw [iJ]; simp; omega
    simp (maxSteps:=10^6)+contextual(disch:=try exact dqd)only[ev1,simprocAttr,Ca,Bo,Cb,results261,maxA_int,ratA,digA,l6,l7,wz,ci,bl,hw,hm,hC,lh,Fq]
   ·have hD:=fun S tk k=>V5 S tk k (V p l).natAbs (V false r).natAbs (by rw [<- eh]; omega) (by rw [<- tq]; omega);rw [<- eh,<- tq] at hD;have hgl:(dig ((V p l).natAbs.gcd (V false r).natAbs)).length<=200:=by
     have h3:(V p l).natAbs.gcd (V false r).natAbs<=(V false r).natAbs:=kJ _ aA;have h4:(dig (V false r).natAbs).length<=200:=by rw [<- tq]; exact i6
     exact A9.2 (Iu h3 (A9.1 h4))
    have hO:=fun S tk k=>Zk S tk k ((V p l).natAbs.gcd (V false r).natAbs) aA;have dz:(cmpN ((V p l).natAbs.gcd (V false r).natAbs) 1 == 0)=decide ((V p l).natAbs.gcd (V false r).natAbs=1):=by
     rw [<- Ath]; rfl
    simp only [digA] at hD hO;cases s1:smB (V p l) with
    | false =>
     rw [s1] at ci;exact Ya0s
    | true =>
     have s2:smB (V false r)=false:=by simpa [s1] using hs
     rw [s1] at ci;rw [s2] at bl;exact Ya0s
end
theorem Wj {p:Bool} {l:List Int} {q:Bool} {r:List Int} (h:Kl p l q r=true):D1 p l=true/\D1 q r=true/\No (V p l) (V q r)=true:=by
 unfold Kl at h;simp only [Ch] at h;exact ⟨h.1.1,h.1.2,h.2⟩
theorem Xy {p:Bool} {l:List Int} {q:Bool} {r:List Int} (h:Kl p l q r=true):ratA p l q r=qA (V p l) (V q r):=by
 obtain ⟨h1,h2,-⟩:=Wj h;obtain ⟨a1,a2⟩:=Hh h1;obtain ⟨b1,b2⟩:=Hh h2;unfold qA;rw [<- a1,<- a2,<- b1,<- b2]
structure J2 (n d:Int):Prop where
 pos:0<d
 cop:n.natAbs.gcd d.natAbs=1
 ln:(dig n.natAbs).length<=200
 ld:(dig d.natAbs).length<=200
theorem Gf (p:Bool) (l:List Int) (q:Bool) (r:List Int):J2 (nQ p l q r) (dQ p l q r):=by
 unfold nQ dQ;cases h:Kl p l q r with
 | false =>
  simp only [C7,if_false];exact ⟨aA,rfl,aQ,aQ⟩
 | true =>
  obtain ⟨h1,h2,h3⟩:=Wj h;simp only [No,Ch,decide_eq_true_eq] at h3;exact ⟨h3.1,h3.2,Wq p l,Wq q r⟩
def Ez (n d:Int):Bool:=!decide (d=0) && okZ (lowN n d) && okZ (lowD n d)
def resN (n d:Int):Int:=if Ez n d=true then lowN n d else 0
def resD (n d:Int):Int:=if Ez n d=true then lowD n d else 0
def resQ (n d:Int):AV:=.tup [qA (resN n d) (resD n d),.bool (Ez n d)]
theorem Rr (n d:Int):(lowN n d).natAbs=n.natAbs / n.natAbs.gcd d.natAbs:=by
 unfold lowN;rw [kQ];split <;> simp <;> rfl
theorem Agk (n d:Int) (hd:d≠0):(decide (n<0) != decide (d<0) && !decide (dig (n.natAbs / n.natAbs.gcd d.natAbs)=[]))=decide (lowN n d<0):=by
 have ha:=Rr n d;have kt:0<n.natAbs.gcd d.natAbs:=Iv _ aA;have hz:dig (n.natAbs / n.natAbs.gcd d.natAbs)=[]↔lowN n d=0:=by rw [D4,<- ha]; omega
 have hsg:∀ x:Int,0<=x->0<=x.tdiv ((n.natAbs.gcd d.natAbs:Nat):Int):=fun x hx=>Int.tdiv_nonneg hx aA;have hneg:∀ x:Int,x<=0->x.tdiv ((n.natAbs.gcd d.natAbs:Nat):Int)<=0:=fun x hx=>by
  have h1:=hsg (-x) aA;rw [Int.neg_tdiv] at h1;omega
 rw [iJ];simp only [Ch,bne_iff_ne,ne_eq,decide_eq_decide,Ig,decide_eq_false_iff_not,decide_eq_true_eq,hz];by_cases h:d<0
 ·have e:lowN n d=(-n).tdiv ((n.natAbs.gcd d.natAbs:Nat):Int):=by unfold lowN; rw [if_pos h]
  have h1:=hsg (-n);have h2:=hneg (-n);rw [<- e] at h1 h2;constructor
  ·rintro ⟨h3,h4⟩; have:0<=n:=aA
   have:=h2 aA; omega
  ·intro h3;have:¬ 0<=-n:=fun h4=>by have:=h1 h4; omega
   omega
 ·have e:lowN n d=n.tdiv ((n.natAbs.gcd d.natAbs:Nat):Int):=by unfold lowN; rw [if_neg h]
  have h1:=hsg n;have h2:=hneg n;rw [<- e] at h1 h2;constructor
  ·rintro ⟨h3,h4⟩; have:n<0:=aA
   have:=h2 aA; omega
  ·intro h3;have:¬ 0<=n:=fun h4=>by have:=h1 h4; omega
   omega
section
variable (S:List Ent) (tk:List Nat) (k:Nat)
theorem H6 (p:Bool) (l:List Int) (q:Bool) (r:List Int) (hl:l.length<=1000000) (hr:r.length<=1000000):cL prog 254 [ratA p l q r] S tk k=some (qA (nQ p l q r) (dQ p l q r),S,tk,k):=by
 have hV:=fun S tk k=>Ank S tk k p l q r hl hr;have hZ:=fun S tk k=>Aq7 S tk k;refine opP func254 ntmps254 (hp3:=rfl) ?_;unfold nQ dQ;cases h:Kl p l q r with
 | true =>
  rw [h] at hV;have e:=Xy h;simp only [if_true];rw [<- e];simp only [ratA,digA] at hV;simp (maxSteps:=10^6)+contextual(disch:=try exact dqd)only[ev1,simprocAttr,Ca,Bo,Cb,results254,ratA,digA,hV]
 | false =>
  rw [h] at hV;simp only [C7,if_false];simp only [ratA,qA,digA] at hV hZ;simp (maxSteps:=10^6)+contextual(disch:=try exact dqd)only[ev1,simprocAttr,Ca,Bo,Cb,results254,ratA,qA,digA,hV,hZ]
theorem Nj (n d:Int) (hn:(dig n.natAbs).length<=90000) (hd:(dig d.natAbs).length<=90000) (de:d≠0):cL prog 225 [zA n,zA d] S tk k=some (resQ n d,S,tk,k):=by
 refine opP func225 ntmps225 (hp3:=rfl) ?_;have kt:0<n.natAbs.gcd d.natAbs:=Iv _ aA;have hD:=fun S tk k=>V5 S tk k n.natAbs d.natAbs hn hd;have hgl:(dig (n.natAbs.gcd d.natAbs)).length<=90000:=by
  exact Ya18
 have tu:=fun S tk k=>Mq S tk k n.natAbs (n.natAbs.gcd d.natAbs) .unk .unk kt hn hgl;have q9:=fun S tk k=>Mq S tk k d.natAbs (n.natAbs.gcd d.natAbs) .unk .unk kt hd hgl;have hla:=Rr n d;have hlb:(lowD n d).natAbs=d.natAbs / n.natAbs.gcd d.natAbs:=rfl;have hs:=Agk n d de;have hp:=Kc (n.natAbs / n.natAbs.gcd d.natAbs);have hdn:decide (lowD n d<0)=false:=by
  have:¬ lowD n d<0:=by unfold lowD; omega
  simp [this]
 have hC:=fun (m:Nat) (h:(dig m).length<=200) S tk k=>Zr S tk k (dig m) .unk aA;unfold resQ resN resD;simp only [digA] at hD tu q9 hC;by_cases h1:(dig (n.natAbs / n.natAbs.gcd d.natAbs)).length<=200
 ·have d1:decide (((dig (n.natAbs / n.natAbs.gcd d.natAbs)).length:Int) > 200)=false:=aC
  by_cases h2:(dig (d.natAbs / n.natAbs.gcd d.natAbs)).length<=200
  ·have d2:decide (((dig (d.natAbs / n.natAbs.gcd d.natAbs)).length:Int) > 200)=false:=aC
   have hf:Ez n d=true:=dM
   have hC1:=hC _ h1;have hC2:=hC _ h2;rw [hf];simp only [if_true,qA,hla,hlb,<- hs,hdn];have tp:(decide (n<0) != decide (d<0))=!(decide (n<0) == decide (d<0)):=rfl;rw [tp];cases d3:decide (n<0) == decide (d<0) with
   | true=>simp (maxSteps:=10^6)+contextual(disch:=try exact dqd)only[ev1,simprocAttr,Ca,Bo,Cb,results225,zA,bigA,ratA,digA,hD,tu,q9,d1,d2,d3,tp,hp,hC1,hC2,Fs,Fu,Fq,Fo]
   | false=>simp (maxSteps:=10^6)+contextual(disch:=try exact dqd)only[ev1,simprocAttr,Ca,Bo,Cb,results225,zA,bigA,ratA,digA,hD,tu,q9,d1,d2,d3,tp,hp,hC1,hC2,Fs,Fu,Fq,Fo]
  ·have d2:decide (((dig (d.natAbs / n.natAbs.gcd d.natAbs)).length:Int) > 200)=true:=aC
   have hf:Ez n d=false:=dM
   rw [hf];simp only [C7,if_false];have hz:dig 0=[]:=Bp;simp (maxSteps:=10^6)+contextual(disch:=try exact dqd)only[ev1,simprocAttr,Ca,Bo,Cb,results225,zA,bigA,qA,ratA,digA,hz,hD,tu,q9,d1,d2]
 ·have d1:decide (((dig (n.natAbs / n.natAbs.gcd d.natAbs)).length:Int) > 200)=true:=aC
  have hf:Ez n d=false:=dM
  rw [hf];simp only [C7,if_false];have hz:dig 0=[]:=Bp;simp (maxSteps:=10^6)+contextual(disch:=try exact dqd)only[ev1,simprocAttr,Ca,Bo,Cb,results225,zA,bigA,qA,ratA,digA,hz,hD,tu,q9,d1]
end
theorem D8 {x y:Int} {a b:Nat} (hx:(dig x.natAbs).length<=a) (hy:(dig y.natAbs).length<=b):(dig (x*y).natAbs).length<=a+b:=by
 rw [A9] at hx hy ⊢;rw [Iq,Nat.pow_add];exact Nat.mul_lt_mul_of_lt_of_le hx aA (jR aJ)
theorem Agg {x y:Int} {a:Nat} (hx:(dig x.natAbs).length<=a) (hy:(dig y.natAbs).length<=a):(dig (x+y).natAbs).length<=a+1:=by
 rw [A9] at hx hy ⊢;rw [O5];omega
theorem Aqo {y:Int} {a:Nat} (hy:(dig y.natAbs).length<=a):(dig (-y).natAbs).length<=a:=by
 rw [show (-y).natAbs=y.natAbs by omega]; exact hy
theorem Xk {n d:Int} (hn:n.natAbs<=100000000000000000) (hd:d.natAbs<=100000000000000000) (de:d≠0):Ez n d=true:=by
 have h1:(dig (lowN n d).natAbs).length<=5:=A9.2 (by
  have:=Ou n.natAbs (n.natAbs.gcd d.natAbs);rw [<- Rr] at this;omega)
 have h2:(dig (lowD n d).natAbs).length<=5:=A9.2 (by
  have:=Ou d.natAbs (n.natAbs.gcd d.natAbs);have e:(lowD n d).natAbs=d.natAbs / n.natAbs.gcd d.natAbs:=rfl;rw [e];omega)
 simp only [Ez,okZ];simp [de];omega
theorem Wa {n d:Int} (hn:n.natAbs<=100000000000000000) (hd:d.natAbs<=100000000000000000) (de:d≠0):resQ n d=.tup [qA (lowN n d) (lowD n d),.bool true]:=by
 have h:=Xk hn hd de;unfold resQ resN resD;rw [h]; rfl
theorem Qx (n:Int):resQ n 0=.tup [qA 0 0,.bool false]:=rfl
theorem Hm {a b:Int} (ha:smB a=true) (hb:smB b=true):(a*b).natAbs<10000000000000000:=by
 have h1:=Nz ha;have h2:=Nz hb;rw [Iq];have:=Nat.mul_lt_mul_of_lt_of_le h1 (jW h2) (by omega:0<100000000);omega
theorem Np {z:Int} (h:smB z=true):smN z=z:=by simp [smN,h]
def ofQ (p:Bool) (l:List Int) (q:Bool) (r:List Int):AV:=resQ (V p l) (if D1 p l=true then V q r else 0)
section
variable (S:List Ent) (tk:List Nat) (k:Nat)
theorem Axc (p:Bool) (l:List Int) (q:Bool) (r:List Int) (hl:l.length<=1000000) (hr:r.length<=1000000):cL prog 224 [bigA p l,bigA q r] S tk k=some (ofQ p l q r,S,tk,k):=by
 have l6:=fun S tk k=>told (E:=E1) (L2 S tk k p l .unk hl);have l7:=fun S tk k=>told (E:=E1) (L2 S tk k q r .unk hr);refine opP func224 ntmps224 (hp3:=rfl) ?_;have hz:dig 0=[]:=Bp;have y3:decide ((0:Int)<0)=false:=aJ
 unfold ofQ;cases h1:D1 p l with
 | false =>
  rw [h1] at l6;rw [if_neg (by simp),Qx];simp (maxSteps:=10^6)+contextual(disch:=try exact dqd)only[ev1,simprocAttr,Ca,Bo,Cb,results224,qA,ratA,bigA,digA,hz,y3,l6]
 | true =>
 rw [h1] at l6;rw [if_pos rfl];cases h2:D1 q r with
 | false =>
  rw [h2] at l7;rw [V_bad h2,Qx];simp (maxSteps:=10^6)+contextual(disch:=try exact dqd)only[ev1,simprocAttr,Ca,Bo,Cb,results224,qA,ratA,bigA,digA,hz,y3,l6,l7]
 | true =>
 rw [h2] at l7;obtain ⟨hp,eh⟩:=Hh h1;obtain ⟨hq,tq⟩:=Hh h2;by_cases cg:r=[]
 ·subst cg;have e0:V q []=0:=Za4m
  rw [e0,Qx];simp only [Cp] at l7;have iz:(((0:Nat):Int) == 0)=true:=rfl;simp (maxSteps:=10^6)+contextual(disch:=try exact dqd)only[ev1,simprocAttr,Ca,Bo,Cb,results224,qA,ratA,bigA,digA,hz,y3,iz,l6,l7]
 ·have iz:(((r.length:Nat):Int) == 0)=false:=by
   exact Ya3g
  have de:V q r≠0:=fun e=>cg (by rw [tq,e]; rfl);have hR:=fun S tk k=>Nj S tk k (V p l) (V q r) (by have:=Wq p l; omega) (by have:=Wq q r; omega) de;have hO1:=fun S tk k=>Ht S tk k (V p l);have hO2:=fun S tk k=>Ht S tk k (V q r);simp only [zA,bigA,digA,<- hp,<- eh,<- hq,<- tq] at hR hO1 hO2;simp only [resQ,qA,ratA,digA] at hR ⊢;simp (maxSteps:=10^6)+contextual(disch:=try exact dqd)only[ev1,simprocAttr,Ca,Bo,Cb,results224,qA,ratA,bigA,digA,iz,l6,l7,hO1,hO2,hR]
theorem Aul (p1:Bool) (l1:List Int) (q1:Bool) (r1:List Int) (p2:Bool) (l2:List Int) (q2:Bool) (r2:List Int) (h1:l1.length<=1000000) (h2:r1.length<=1000000) (h3:l2.length<=1000000) (h4:r2.length<=1000000) :
  cL prog 252 [ratA p1 l1 q1 r1,ratA p2 l2 q2 r2] S tk k=some (resQ (nQ p1 l1 q1 r1*nQ p2 l2 q2 r2) (dQ p1 l1 q1 r1*dQ p2 l2 q2 r2),S,tk,k):=by
 have hA:=fun S tk k=>H6 S tk k p1 l1 q1 r1 h1 h2;have hB:=fun S tk k=>H6 S tk k p2 l2 q2 r2 h3 h4;have gA:=Gf p1 l1 q1 r1;have gB:=Gf p2 l2 q2 r2;generalize nQ p1 l1 q1 r1=a at *;generalize dQ p1 l1 q1 r1=b at *;generalize nQ p2 l2 q2 r2=c at *;generalize dQ p2 l2 q2 r2=d at *;have wb:b*d≠0:=Ik Za5g (by have:=gB.pos; omega);refine opP func252 ntmps252 (hp3:=rfl) ?_;have hK:=fun S tk k=>Qu S tk k a b c d;cases hs:smB a && smB b && smB c && smB d with
 | true =>
  rw [hs] at hK;simp only [Ch] at hs;obtain ⟨⟨⟨s1,s2⟩,s3⟩,s4⟩:=hs;rw [Np s1,Np s2,Np s3,Np s4] at hK;have b1:=Hm s1 s3;have b2:=Hm s2 s4;have hw1:B8.wrap (a*c)=a*c:=Aa aD;have hw2:B8.wrap (b*d)=b*d:=Aa aD;have hF:=fun S tk k=>Mp S tk k (a*c) (b*d) aA aA wb;rw [Wa aA aA wb];simp only [qA,ratA,digA] at hA hB hK hF ⊢;simp (maxSteps:=10^6)+contextual(disch:=try exact dqd)only[ev1,simprocAttr,Ca,Bo,Cb,results252,ratA,digA,hA,hB,hK,hF,hw1,hw2]
 | false =>
  rw [hs] at hK;have hO1:=fun S tk k=>Ht S tk k a;have hO2:=fun S tk k=>Ht S tk k b;have ra:=fun S tk k=>Ht S tk k c;have hO4:=fun S tk k=>Ht S tk k d;have l1:=gA.ln;have l2:=gA.ld;have l3:=gB.ln;have l4:=gB.ld;have ba:=fun S tk k=>Et S tk k a c aA aA;have ah:=fun S tk k=>Et S tk k b d aA aA;have m1:=D8 l1 l3;have m2:=D8 l2 l4;have hR:=fun S tk k=>Nj S tk k (a*c) (b*d) aA aA wb;simp only [zA,bigA,digA] at hO1 hO2 ra hO4 ba ah hR;simp only [resQ,qA,ratA,digA] at hA hB hK hR ⊢;simp (maxSteps:=10^6)+contextual(disch:=try exact dqd)only[ev1,simprocAttr,Ca,Bo,Cb,results252,ratA,digA,hA,hB,hK,hO1,hO2,ra,hO4,ba,ah,hR]
end
theorem Aaz {x y:Int} (hs:decide (x<0)=decide (y<0)):(cmpN x.natAbs y.natAbs == 0)=decide (x=y):=by
 have h1:(x<0)↔(y<0):=by simpa using hs
 rw [iJ];simp only [beq_iff_eq,decide_eq_true_eq];unfold cmpN;split
 ·omega
 ·exact Ya3v
theorem Adn {x y:Int} (h:x<y):cmpZ x y=-1:=by simp [cmpZ,h]
theorem Adm {x y:Int} (h:y<x):cmpZ x y=1:=by unfold cmpZ; rw [if_neg aA,if_pos h]
theorem Adl {x y:Int} (h:x=y):cmpZ x y=0:=by unfold cmpZ; rw [if_neg aA,if_neg aA]
section
variable (S:List Ent) (tk:List Nat) (k:Nat)
theorem Auk (p1:Bool) (l1:List Int) (q1:Bool) (r1:List Int) (p2:Bool) (l2:List Int) (q2:Bool) (r2:List Int) (h1:l1.length<=1000000) (h2:r1.length<=1000000) (h3:l2.length<=1000000) (h4:r2.length<=1000000) :
  cL prog 250 [ratA p1 l1 q1 r1,ratA p2 l2 q2 r2] S tk k=some (resQ (nQ p1 l1 q1 r1*dQ p2 l2 q2 r2) (dQ p1 l1 q1 r1*nQ p2 l2 q2 r2),S,tk,k):=by
 have hA:=fun S tk k=>H6 S tk k p1 l1 q1 r1 h1 h2;have hB:=fun S tk k=>H6 S tk k p2 l2 q2 r2 h3 h4;have gA:=Gf p1 l1 q1 r1;have gB:=Gf p2 l2 q2 r2;generalize nQ p1 l1 q1 r1=a at *;generalize dQ p1 l1 q1 r1=b at *;generalize nQ p2 l2 q2 r2=c at *;generalize dQ p2 l2 q2 r2=d at *;refine opP func250 ntmps250 (hp3:=rfl) ?_;have hz:dig 0=[]:=Bp;have y3:decide ((0:Int)<0)=false:=aJ
 by_cases hc:c=0
 ·subst hc;have iz:((((dig (Int.natAbs 0)).length:Nat):Int) == 0)=true:=rfl;have iz2:(((0:Nat):Int) == 0)=true:=rfl;rw [Si,Qx];simp only [qA,ratA,digA,hz,Cp] at hA hB ⊢;simp (maxSteps:=10^6)+contextual(disch:=try exact dqd)only[ev1,simprocAttr,Ca,Bo,Cb,results250,ratA,digA,hz,y3,hA,hB,iz,iz2]
 have iz:((((dig c.natAbs).length:Nat):Int) == 0)=false:=by
  have:(dig c.natAbs)≠[]:=fun e=>hc Za5u;exact Ya1n
 have wb:b*c≠0:=Ik Za5g hc;have hK:=fun S tk k=>Qu S tk k a b c d;cases hs:smB a && smB b && smB c && smB d with
 | true =>
  rw [hs] at hK;simp only [Ch] at hs;obtain ⟨⟨⟨s1,s2⟩,s3⟩,s4⟩:=hs;rw [Np s1,Np s2,Np s3,Np s4] at hK;have b1:=Hm s1 s4;have b2:=Hm s2 s3;have hw1:B8.wrap (a*d)=a*d:=Aa aD;have hw2:B8.wrap (b*c)=b*c:=Aa aD;have hF:=fun S tk k=>Mp S tk k (a*d) (b*c) aA aA wb;rw [Wa aA aA wb];simp only [qA,ratA,digA] at hA hB hK hF ⊢;simp (maxSteps:=10^6)+contextual(disch:=try exact dqd)only[ev1,simprocAttr,Ca,Bo,Cb,results250,ratA,digA,hA,hB,hK,hF,hw1,hw2,iz]
 | false =>
  rw [hs] at hK;have hO1:=fun S tk k=>Ht S tk k a;have hO2:=fun S tk k=>Ht S tk k b;have ra:=fun S tk k=>Ht S tk k c;have hO4:=fun S tk k=>Ht S tk k d;have l1:=gA.ln;have l2:=gA.ld;have l3:=gB.ln;have l4:=gB.ld;have ba:=fun S tk k=>Et S tk k a d aA aA;have ah:=fun S tk k=>Et S tk k b c aA aA;have m1:=D8 l1 l4;have m2:=D8 l2 l3;have hR:=fun S tk k=>Nj S tk k (a*d) (b*c) aA aA wb;simp only [zA,bigA,digA] at hO1 hO2 ra hO4 ba ah hR;simp only [resQ,qA,ratA,digA] at hA hB hK hR ⊢;simp (maxSteps:=10^6)+contextual(disch:=try exact dqd)only[ev1,simprocAttr,Ca,Bo,Cb,results250,ratA,digA,hA,hB,hK,hO1,hO2,ra,hO4,ba,ah,hR,iz]
theorem Aq6 (x y:Int) (hx:(dig x.natAbs).length<=90000) (hy:(dig y.natAbs).length<=90000):cL prog 258 [zA x,zA y] S tk k=some (.bool (decide (x=y)),S,tk,k):=by
 refine opP func258 ntmps258 (hp3:=rfl) ?_;have hO:=fun S tk k=>told (E:=E1) (Qt S tk k x.natAbs y.natAbs aA aA);simp only [digA] at hO;by_cases hs:decide (x<0)=decide (y<0)
 ·have d1:(decide (x<0) == decide (y<0))=true:=by simpa using hs
  by_cases hl:(dig x.natAbs).length=(dig y.natAbs).length
  ·have d2:(((dig x.natAbs).length:Int) == ((dig y.natAbs).length:Int))=true:=by rw [beq_iff_eq]; omega
   have hz:=Aaz hs;simp (maxSteps:=10^6)+contextual(disch:=try exact dqd)only[ev1,simprocAttr,Ca,Bo,Cb,results258,zA,bigA,digA,d1,d2,hO,hz]
  ·have d2:(((dig x.natAbs).length:Int) == ((dig y.natAbs).length:Int))=false:=by
    rw [Bool.eq_false_iff]; intro h; exact hl (by have:=beq_iff_eq.1 h; omega)
   have hne:decide (x=y)=false:=by
    have:x≠y:=fun e=>hl (by rw [e]);simp [this]
   rw [hne];simp (maxSteps:=10^6)+contextual(disch:=try exact dqd)only[ev1,simprocAttr,Ca,Bo,Cb,results258,zA,bigA,digA,d1,d2]
 ·have d1:(decide (x<0) == decide (y<0))=false:=by simpa using hs
  have hne:decide (x=y)=false:=by
   have:x≠y:=fun e=>hs (by rw [e]);simp [this]
  rw [hne];simp (maxSteps:=10^6)+contextual(disch:=try exact dqd)only[ev1,simprocAttr,Ca,Bo,Cb,results258,zA,bigA,digA,d1]
theorem Auj (p1:Bool) (l1:List Int) (q1:Bool) (r1:List Int) (p2:Bool) (l2:List Int) (q2:Bool) (r2:List Int) (h1:l1.length<=1000000) (h2:r1.length<=1000000) (h3:l2.length<=1000000) (h4:r2.length<=1000000) :
  cL prog 251 [ratA p1 l1 q1 r1,ratA p2 l2 q2 r2] S tk k=some (.int (cmpZ (nQ p1 l1 q1 r1*dQ p2 l2 q2 r2) (nQ p2 l2 q2 r2*dQ p1 l1 q1 r1)),S,tk,k):=by
 have hA:=fun S tk k=>H6 S tk k p1 l1 q1 r1 h1 h2;have hB:=fun S tk k=>H6 S tk k p2 l2 q2 r2 h3 h4;have gA:=Gf p1 l1 q1 r1;have gB:=Gf p2 l2 q2 r2;generalize nQ p1 l1 q1 r1=a at *;generalize dQ p1 l1 q1 r1=b at *;generalize nQ p2 l2 q2 r2=c at *;generalize dQ p2 l2 q2 r2=d at *;refine opP func251 ntmps251 (hp3:=rfl) ?_;have hK:=fun S tk k=>Qu S tk k a b c d;cases hs:smB a && smB b && smB c && smB d with
 | true =>
  rw [hs] at hK;simp only [Ch] at hs;obtain ⟨⟨⟨s1,s2⟩,s3⟩,s4⟩:=hs;rw [Np s1,Np s2,Np s3,Np s4] at hK;have b1:=Hm s1 s4;have b2:=Hm s3 s2;have hw1:B8.wrap (a*d)=a*d:=Aa aD;have hw2:B8.wrap (c*b)=c*b:=Aa aD;simp only [qA,ratA,digA] at hA hB hK;by_cases g1:a*d<c*b
  ·have d1:decide (a*d<c*b)=true:=gQ
   rw [Adn g1];simp (maxSteps:=10^6)+contextual(disch:=try exact dqd)only[ev1,simprocAttr,Ca,Bo,Cb,results251,ratA,digA,hA,hB,hK,hw1,hw2,d1]
  ·have d1:decide (a*d<c*b)=false:=gQ
   by_cases g2:a*d > c*b
   ·have d2:decide (a*d > c*b)=true:=eR
    rw [Adm g2];exact Ya17
   ·have d2:decide (a*d > c*b)=false:=eR
    rw [Adl aA];exact Ya17
 | false =>
  rw [hs] at hK;have hO1:=fun S tk k=>Ht S tk k a;have hO2:=fun S tk k=>Ht S tk k b;have ra:=fun S tk k=>Ht S tk k c;have hO4:=fun S tk k=>Ht S tk k d;have l1:=gA.ln;have l2:=gA.ld;have l3:=gB.ln;have l4:=gB.ld;have ba:=fun S tk k=>Et S tk k a d aA aA;have ah:=fun S tk k=>Et S tk k c b aA aA;have m1:=D8 l1 l4;have m2:=D8 l3 l2;have hS:=fun S tk k=>Aq6 S tk k (a*d) (c*b) aA aA;have hM:=fun S tk k=>Wk S tk k (a*d) (c*b) aA aA;simp only [zA,bigA,digA] at hO1 hO2 ra hO4 ba ah hS hM;simp only [qA,ratA,digA] at hA hB hK;by_cases g1:a*d=c*b
  ·have d1:decide (a*d=c*b)=true:=gQ
   rw [d1] at hS;rw [Adl g1];simp (maxSteps:=10^6)+contextual(disch:=try exact dqd)only[ev1,simprocAttr,Ca,Bo,Cb,results251,ratA,digA,hA,hB,hK,hO1,hO2,ra,hO4,ba,ah,hS]
  ·have d1:decide (a*d=c*b)=false:=gQ
   rw [d1] at hS;by_cases g2:a*d<c*b
   ·have d2:decide (a*d - c*b<0)=true:=aC
    rw [d2] at hM;rw [Adn g2];exact Ya11
   ·have d2:decide (a*d - c*b<0)=false:=aC
    rw [d2] at hM;rw [Adm aA];exact Ya11
end
end
section
open Go
theorem J2.valid {n d:Int} (h:J2 n d):Kl (decide (n<0)) (dig n.natAbs) (decide (d<0)) (dig d.natAbs)=true:=by
 unfold Kl No;rw [Uc _ h.ln,Uc _ h.ld,V_of _ h.ln,V_of _ h.ld];simp [h.pos,h.cop]
theorem J2.nQ {n d:Int} (h:J2 n d):nQ (decide (n<0)) (dig n.natAbs) (decide (d<0)) (dig d.natAbs)=n:=by
 unfold Proofs.YthelkgdmgihhiaaGreat.nQ;rw [if_pos h.valid,V_of _ h.ln]
theorem J2.dQ {n d:Int} (h:J2 n d):dQ (decide (n<0)) (dig n.natAbs) (decide (d<0)) (dig d.natAbs)=d:=by
 unfold Proofs.YthelkgdmgihhiaaGreat.dQ;rw [if_pos h.valid,V_of _ h.ld]
theorem J2.neg {n d:Int} (h:J2 n d):J2 (-n) d:=by
 have e:(-n).natAbs=n.natAbs:=aA
 exact ⟨h.pos,by rw [e]; exact h.cop,by rw [e]; exact h.ln,h.ld⟩
end
section
open Go Tryz
set_option maxRecDepth 100000
section
variable (S:List Ent) (tk:List Nat) (k:Nat)
theorem Tx (l:List Int) (c:Cap) (hlen:l.length<=1000000):cL prog 199 [.frz (l.map digC) c] S tk k=some (digA (Dj l),S,tk,k):=by
 refine opP func199 ntmps199 ?_;simp (maxSteps:=10^6)+contextual(disch:=try exact dqd)only[ev1,simprocAttr,Ca,Bo,Cb,results199];refine loop1 (P:=prog) (fun x st=>st.T.length=22/\(x<=l.length)/\(∀ j,x<=j->∀ x,nth l j=some x->x=0)/\getT st.T 0=digA l/\getT st.T 3=.int (x:Nat)/\st.S=[]) (fun x=>x) (fun x=>digA (Dj l)) (l.length) ?_ ?_;case refine_2=>exact ⟨rfl,Ce _,K9 l,rfl,rfl,rfl⟩
 rintro n ⟨T,S',tk',n'⟩ ⟨hl,hn,hz,e0,e3,eS⟩ IH;subst eS;obtain ⟨g,hg,hT⟩:=Ap hl;rw [hg] at e0 e3;subst hT;clear hg hl;have hr:=Df l;by_cases h0:n=0
 ·have d1:decide ((n:Int) > 0)=false:=aC
  have ht:=Ed hn hz (.inl h0);simp (maxSteps:=10^6)+contextual(disch:=try exact dqd)only[ev1,simprocAttr,Ca,Bo,Cb,results199,e0,e3,d1,digA,Gw,hr,bound,intN_cast,hn,Ce,Ci];rw [ht]; simp [h0]
 ·have d1:decide ((n:Int) > 0)=true:=aC
  have hp:=Ni h0 aA;obtain ⟨x,hx⟩:=Ab (show n - 1<l.length by omega);have hx':=Bd hx;by_cases fh:x=0
  ·have d2:(x == 0)=true:=bU
   simp (maxSteps:=10^6)+contextual(disch:=try exact dqd)only[ev1,simprocAttr,Ca,Bo,Cb,results199,e0,e3,d1,d2,hp,hx',digA];exact IH (n - 1) _ aF ⟨rfl,aE,N7 hz hx fh,aB,aB,aB⟩
  ·have d2:(x == 0)=false:=bU
   have ht:=Ed hn hz (.inr ⟨x,hx,fh⟩);simp (maxSteps:=10^6)+contextual(disch:=try exact dqd)only[ev1,simprocAttr,Ca,Bo,Cb,results199,e0,e3,d1,d2,hp,hx',digA,Gw,hr,bound,intN_cast,hn,Ce,Ci];rw [ht]; simp
theorem X7 (a b:Nat) (ha:(dig a).length<=1000000) (hb:(dig b).length<=1000000):cL prog 194 [digA (dig a),digA (dig b)] S tk k=some (.bool (decide (a<b)),S,tk,k):=by
 refine opP func194 ntmps194 ?_;by_cases hl:(dig a).length=(dig b).length;case neg =>
  have d1:(((dig a).length:Int) != ((dig b).length:Int))=true:=aC
  have d2:decide (((dig a).length:Int)<((dig b).length:Int))=decide (a<b):=by
   rw [decide_eq_decide];constructor
   ·intro h; exact Hx aA
   ·intro h;rcases Ia (dig a).length (dig b).length with h'|h'
    ·omega
    ·have:=Hx (a:=b) (b:=a) aA; omega
  simp (maxSteps:=10^6)+contextual(disch:=try exact dqd)only[ev1,simprocAttr,Ca,Bo,Cb,results194,digA,d1,d2]
 have d1:(((dig a).length:Int) != ((dig b).length:Int))=false:=aC
 have d3:=E2 ha;simp (maxSteps:=10^6)+contextual(disch:=try exact dqd)only[ev1,simprocAttr,Ca,Bo,Cb,results194,digA,d1,d3];refine loop1 (P:=prog) (fun x st=>st.T.length=41/\(x<=(dig a).length)/\(∀ j,x<=j->nth (dig a) j=nth (dig b) j)/\getT st.T 0=digA (dig a)/\getT st.T 1=digA (dig b)/\getT st.T 5=.int ((x:Int) - 1)/\st.S=[]) (fun x=>x) (fun x=>.bool (decide (a<b))) ((dig a).length) ?_ ?_;case refine_2=>exact ⟨rfl,Ce _,fun j hj=>by rw [Af,Af,C3 hj,C3 aA],rfl,rfl,rfl,rfl⟩
 rintro n ⟨T,S',tk',n'⟩ ⟨hl,hn,he,e0,e1,e5,eS⟩ IH;subst eS;obtain ⟨g,hg,hT⟩:=Ap hl;rw [hg] at e0 e1 e5;subst hT;clear hg hl;by_cases h0:n=0
 ·have d2:decide ((n:Int) - 1 >= 0)=false:=aC
  have:=Yn fun j=>he j aA;subst this;simp (maxSteps:=10^6)+contextual(disch:=try exact dqd)only[ev1,simprocAttr,Ca,Bo,Cb,results194,e0,e1,e5,d2,digA];simp
 ·have d2:decide ((n:Int) - 1 >= 0)=true:=aC
  have hi:(n:Int) - 1=((n - 1:Nat):Int):=aA
  obtain ⟨x,hx⟩:=Ab (show n - 1<(dig a).length by omega);obtain ⟨y,hy⟩:=Ab (show n - 1<(dig b).length by omega);have hx':=Bd hx;have eg:=Bd hy;have mf:∀ j,n - 1<j->nth (dig a) j=nth (dig b) j:=fun j hj=>he j aA;have hp:=E2 (n:=n - 1) aA;rw [hi] at e5 d2;by_cases iw:x=y
  ·have d4:(x != y)=false:=gN
   simp (maxSteps:=10^6)+contextual(disch:=try exact dqd)only[ev1,simprocAttr,Ca,Bo,Cb,results194,e0,e1,e5,d2,d4,digA,hx',eg,hp];exact Ya1r
  ·have d4:(x != y)=true:=gN
   have d5:decide (x<y)=decide (a<b):=by
    rw [decide_eq_decide];constructor
    ·intro h1; exact Xf hl hx hy h1 mf
    ·intro h1;by_cases h2:x<y
     ·exact h2
     ·have:=Xf hl.symm hy hx aA fun j hj=>(mf j hj).symm;omega
   simp (maxSteps:=10^6)+contextual(disch:=try exact dqd)only[ev1,simprocAttr,Ca,Bo,Cb,results194,e0,e1,e5,d2,d4,d5,digA,hx',eg,hp]
theorem Ae5 (a b:Nat) (ha:(dig a).length<=100000) (hb:(dig b).length<=100000):cL prog 193 [digA (dig a),digA (dig b)] S tk k=some (digA (dig (a+b)),S,tk,k):=by
 refine opP func193 ntmps193 ?_;simp (maxSteps:=10^6)+contextual(disch:=try exact dqd)only[ev1,simprocAttr,Ca,Bo,Cb,results193,digA];refine loop1 (P:=prog) (fun x st=>st.T.length=53/\(Sum1 a b x.1 x.2.1 x.2.2.1)/\(x.1<=100001)/\(Be st.tk x.2.2.2 1=true)/\(x.1=100001->x.2.1=0)/\getT st.T 0=digA (dig a)/\getT st.T 1=digA (dig b)/\getT st.T 5=.frz (x.2.2.1.map digC) x.2.2.2/\getT st.T 6=.int x.2.1/\getT st.T 7=.int (x.1:Nat)/\st.S=[]) (fun x=>2*(max (dig a).length (dig b).length - x.1)+x.2.1.toNat) (fun x=>digA (dig (a+b))) (0,0,[],.nilc) ?_ ?_;case refine_2=>exact ⟨rfl,⟨rfl,by intro d hd; simp at hd,by simp,by rw [Fz,Fz,Bq,Bq]; simp [val]⟩,aA,rfl,fun _=>rfl,rfl,rfl,rfl,rfl,rfl,rfl⟩
 rintro ⟨i,w,out,c⟩ ⟨T,S',tk',n'⟩ ⟨hl,hp,hi,ab,hib,e0,e1,e5,e6,e7,eS⟩ IH;simp only at hp hi ab hib e0 e1 e5 e6 e7 eS;subst eS;obtain ⟨g,hg,hT⟩:=Ap hl;rw [hg] at e0 e1 e5 e6 e7;subst hT;clear hg hl;have hlen:=hp.len;have hr:=Df out;have hn:(out.map digC).length+1<=1048576:=aC
 have am:=Ba ab;have bg:=Aw (i:=i) aA;have qf:=hp.c0;obtain ⟨n,ek⟩:∃ n,n=(nth (dig a) i).getD 0+(nth (dig b) i).getD 0+w:=⟨_,rfl⟩;obtain ⟨ai,b7,bm,dm,fw⟩:=hp.step ek;have g1:=M5 a i;have g2:=M5 b i;have po:B8.wrap (n.tdiv 10000)=n.tdiv 10000:=by
  exact Ya3h
 have eo:¬ ((10000:Int)=0):=aA
 have a4t:n.tdiv 10000=n / 10000:=Cz aA;by_cases ca:i<(dig a).length
 ·have d1:decide ((i:Int)<((dig a).length:Int))=true:=gR
  obtain ⟨x,hx⟩:=Ab ca;have hx':=Bd hx;rw [hx,Oi] at ek g1;have hw1:B8.wrap (w+x)=w+x:=Aa aD;by_cases cb:i<(dig b).length
  ·have d2:decide ((i:Int)<((dig b).length:Int))=true:=gT
   obtain ⟨y,hy⟩:=Ab cb;have eg:=Bd hy;rw [hy,Oi] at ek g2;have hw2:B8.wrap (w+x+y)=n:=aP
   simp (maxSteps:=10^6)+contextual(disch:=try exact dqd)only[ev1,simprocAttr,Ca,Bo,Cb,results193,digA,e0,e1,e5,e6,e7,d1,d2,hx',eg,hw1,hw2,po,hr,bg,eo];exact Yat
  ·have d2:decide ((i:Int)<((dig b).length:Int))=false:=gT
   have hb0:(nth (dig b) i).getD 0=0:=by rw [Af,C3 aA]; rfl
   have a30:B8.wrap (w+x)=n:=by rw [hw1]; omega
   simp (maxSteps:=10^6)+contextual(disch:=try exact dqd)only[ev1,simprocAttr,Ca,Bo,Cb,results193,digA,e0,e1,e5,e6,e7,d1,d2,hx',a30,po,hr,bg,eo];exact Yat
 ·have d1:decide ((i:Int)<((dig a).length:Int))=false:=gR
  have qe:(nth (dig a) i).getD 0=0:=by rw [Af,C3 aA]; rfl
  by_cases cb:i<(dig b).length
  ·have d2:decide ((i:Int)<((dig b).length:Int))=true:=gT
   obtain ⟨y,hy⟩:=Ab cb;have eg:=Bd hy;rw [hy,Oi] at ek g2;have hw2:B8.wrap (w+y)=n:=aP
   simp (maxSteps:=10^6)+contextual(disch:=try exact dqd)only[ev1,simprocAttr,Ca,Bo,Cb,results193,digA,e0,e1,e5,e6,e7,d1,d2,eg,hw2,po,hr,bg,eo];exact Yat
  ·have d2:decide ((i:Int)<((dig b).length:Int))=false:=gT
   have hb0:(nth (dig b) i).getD 0=0:=by rw [Af,C3 aA]; rfl
   by_cases cw:w > 0
   ·have d3:decide (w > 0)=true:=gU
    have a1e:n=w:=aA
    subst a1e;simp (maxSteps:=10^6)+contextual(disch:=try exact dqd)only[ev1,simprocAttr,Ca,Bo,Cb,results193,digA,e0,e1,e5,e6,e7,d1,d2,d3,po,hr,bg,eo];exact Yat
   ·have d3:decide (w > 0)=false:=gU
    have dn:=hp.done aA aA aA;have hT:=fun S tk k=>Tx S tk k out c aA;simp only [digA,dn] at hT;simp (maxSteps:=10^6)+contextual(disch:=try exact dqd)only[ev1,simprocAttr,Ca,Bo,Cb,results193,digA,e0,e1,e5,e6,e7,d1,d2,d3,hT]
end
section
variable (S:List Ent) (tk:List Nat) (k:Nat)
theorem Uh (a b:Nat) (hab:b<=a) (ha:(dig a).length<=100000):cL prog 195 [digA (dig a),digA (dig b)] S tk k=some (digA (dig (a - b)),S,tk,k):=by
 have hlb:(dig b).length<=(dig a).length:=A9.2 (Iu hab (A9.1 (Ce _)));refine opP func195 ntmps195 ?_;simp (maxSteps:=10^6)+contextual(disch:=try exact dqd)only[ev1,simprocAttr,Ca,Bo,Cb,results195,digA];refine loop1 (P:=prog) (fun x st=>st.T.length=41/\(x.1<=(dig a).length)/\(Pp (dig a) (dig b) x.1 x.2.1 x.2.2.1)/\(Be st.tk x.2.2.2 1=true)/\getT st.T 0=digA (dig a)/\getT st.T 1=digA (dig b)/\getT st.T 5=.frz (x.2.1.map digC) x.2.2.2/\getT st.T 6=.int x.2.2.1/\getT st.T 7=.int (x.1:Nat)/\st.S=[]) (fun x=>(dig a).length - x.1) (fun x=>digA (dig (a - b))) (0,[],0,.nilc) ?_ ?_;case refine_2=>exact ⟨rfl,Ci _,Pp.start _ _,rfl,rfl,rfl,rfl,rfl,rfl,rfl⟩
 rintro ⟨i,zs,c,cp⟩ ⟨T,S',tk',n'⟩ ⟨hl,hi,hI,ab,e0,e1,e5,e6,e7,eS⟩ IH;simp only at hi hI ab e0 e1 e5 e6 e7 eS;subst eS;obtain ⟨g,hg,hT⟩:=Ap hl;rw [hg] at e0 e1 e5 e6 e7;subst hT;clear hg hl;have bg:=Aw (i:=i) aA;have hzl:=hI.len;have hr:=Df zs;have hc:=hI.c01;have am:=Ba ab;have b7:(zs.map digC).length+1<=1048576:=aC
 by_cases hlt:i<(dig a).length
 ·have d2:decide ((i:Int)<((dig a).length:Int))=true:=aI
  obtain ⟨x,hx⟩:=Ab hlt;have hx':=Bd hx;have hxk:=Bs (A5 a) hx;have hw1:B8.wrap (x - c)=x - c:=Aa aD;by_cases hm:i<(dig b).length
  ·have d3:decide ((i:Int)<((dig b).length:Int))=true:=cB
   obtain ⟨y,hy⟩:=Ab hm;have eg:=Bd hy;have hyk:=Bs (A5 b) hy;have yx:y=(nth (dig b) i).getD 0:=gZ
   have hw2:B8.wrap (x - c - y)=x - c - y:=Aa aD;by_cases hneg:x - c - y<0
   ·have d4:decide (x - c - y<0)=true:=bA
    have hw3:B8.wrap (x - c - y+10000)=x - c - y+10000:=Aa aD;simp (maxSteps:=10^6)+contextual(disch:=try exact dqd)only[ev1,simprocAttr,Ca,Bo,Cb,results195,e0,e1,e5,e6,e7,digA,d2,d3,d4,hx',eg,bg,hw1,hw2,hw3,hr];exact IH (i+1,zs++[x - c - y+10000],1,Ay tk' cp 1) _ aF ⟨rfl,aE,hI.step hx yx aE (.inr rfl) aE,am,aB,aB,aB,aB,aB,aB⟩
   ·have d4:decide (x - c - y<0)=false:=bA
    simp (maxSteps:=10^6)+contextual(disch:=try exact dqd)only[ev1,simprocAttr,Ca,Bo,Cb,results195,e0,e1,e5,e6,e7,digA,d2,d3,d4,hx',eg,bg,hw1,hw2,hr];exact IH (i+1,zs++[x - c - y],0,Ay tk' cp 1) _ aF ⟨rfl,aE,hI.step hx yx aE (.inl rfl) aE,am,aB,aB,aB,aB,aB,aB⟩
  ·have d3:decide ((i:Int)<((dig b).length:Int))=false:=cB
   have yx:(0:Int)=(nth (dig b) i).getD 0:=by rw [Af,C3 aA]; rfl
   by_cases hneg:x - c<0
   ·have d4:decide (x - c<0)=true:=bA
    have hw3:B8.wrap (x - c+10000)=x - c+10000:=Aa aD;simp (maxSteps:=10^6)+contextual(disch:=try exact dqd)only[ev1,simprocAttr,Ca,Bo,Cb,results195,e0,e1,e5,e6,e7,digA,d2,d3,d4,hx',bg,hw1,hw3,hr];exact IH (i+1,zs++[x - c+10000],1,Ay tk' cp 1) _ aF ⟨rfl,aE,hI.step hx yx aE (.inr rfl) aE,am,aB,aB,aB,aB,aB,aB⟩
   ·have d4:decide (x - c<0)=false:=bA
    simp (maxSteps:=10^6)+contextual(disch:=try exact dqd)only[ev1,simprocAttr,Ca,Bo,Cb,results195,e0,e1,e5,e6,e7,digA,d2,d3,d4,hx',bg,hw1,hr];exact IH (i+1,zs++[x - c],0,Ay tk' cp 1) _ aF ⟨rfl,aE,hI.step hx yx aE (.inl rfl) aE,am,aB,aB,aB,aB,aB,aB⟩
 ·have d2:decide ((i:Int)<((dig a).length:Int))=false:=aI
  have fv:i=(dig a).length:=aA
  subst fv;have hT:=fun c' S tk k=>Tx S tk k zs c' aA;rw [hI.done hab] at hT;simp only [digC,digA] at hT;simp (maxSteps:=10^6)+contextual(disch:=try exact dqd)only[ev1,simprocAttr,Ca,Bo,Cb,results195,e0,e1,e5,e6,e7,digA,d2,hT]
end
end
section
open Go Tryz
theorem Aoq {p q:Bool} (h:p≠q) {X Y:Nat} (hl:Y<=X):bigA (p && !decide (dig (X - Y)=[])) (dig (X - Y))=zA (sg p X+sg q Y):=by
 rw [<- Arv h hl,Ark (fun e=>by rw [e,Bp]; simp)];congr 1;by_cases h0:X - Y=0
 ·rw [h0]; cases p <;> simp [sg]
 ·have:¬ dig (X - Y)=[]:=fun e=>h0 (D4.1 e);simp [this]
section
variable (S:List Ent) (tk:List Nat) (k:Nat)
theorem Aab (x y:Int) (hx:(dig x.natAbs).length<=90000) (hy:(dig y.natAbs).length<=90000):cL prog 184 [zA x,zA y] S tk k=some (zA (x+y),S,tk,k):=by
 refine opP func184 ntmps184 (hp3:=rfl) ?_;have hL:=fun S tk k=>X7 S tk k x.natAbs y.natAbs aA aA;have hs:=Ai1 x;have ht:=Ai1 y;by_cases hpq:decide (x<0)=decide (y<0)
 ·obtain ⟨h1,h2⟩:=Tg hpq;have hP:=fun S tk k=>Ae5 S tk k x.natAbs y.natAbs aA aA;have d1:(decide (x<0) == decide (y<0))=true:=cV
  simp only [zA,h1,h2];simp only [digA] at hP;simp (maxSteps:=10^6)+contextual(disch:=try exact dqd)only[ev1,simprocAttr,Ca,Bo,Cb,results184,bigA,digA,d1,hP]
 ·have d1:(decide (x<0) == decide (y<0))=false:=cV
  by_cases hlt:x.natAbs<y.natAbs
  ·have d2:decide (x.natAbs<y.natAbs)=true:=aI
   have hM:=fun S tk k=>Uh S tk k y.natAbs x.natAbs aA aA;have hz:=Aoq (p:=decide (y<0)) (q:=decide (x<0)) (fun e=>hpq e.symm) (X:=y.natAbs) (Y:=x.natAbs) aA;have hp:=Kc (y.natAbs - x.natAbs);rw [hs,ht,Int.add_comm] at hz;rw [<- hz];rw [d2] at hL;simp only [digA] at hL hM;cases d3:decide (y<0) with
   | true =>
    exact Yak
   | false =>
    exact Yak
  ·have d2:decide (x.natAbs<y.natAbs)=false:=aI
   have hM:=fun S tk k=>Uh S tk k x.natAbs y.natAbs aA aA;have hz:=Aoq (p:=decide (x<0)) (q:=decide (y<0)) hpq (X:=x.natAbs) (Y:=y.natAbs) aA;have hp:=Kc (x.natAbs - y.natAbs);rw [hs,ht] at hz;rw [<- hz];rw [d2] at hL;simp only [digA] at hL hM;cases d3:decide (x<0) with
   | true =>
    exact Yak
   | false =>
    exact Yak
theorem Ao2:cL prog 190 [] S tk k=some (qA 0 1,S,tk,k):=by
 have qa:dig 1=[(1:Int)]:=L5 (d:=(1:Int)) aA aA;refine opP func190 ntmps190 (hp3:=rfl) ?_;simp (maxSteps:=10^6)+contextual(disch:=try exact dqd)only[ev1,simprocAttr,Ca,Bo,Cb,results190,qA,ratA,digA];simp [qa,Bp,digC]
theorem Asq (n:Int) (hn:i64 n):cL prog 138 [.int n] S tk k=some (qA n 1,S,tk,k):=by
 have qa:dig 1=[(1:Int)]:=L5 (d:=(1:Int)) aA aA;refine opP func138 ntmps138 (hp3:=rfl) ?_;have h1:=fun S tk k=>Pr S tk k n hn;simp only [zA,bigA,digA] at h1;simp (maxSteps:=10^6)+contextual(disch:=try exact dqd)only[ev1,simprocAttr,Ca,Bo,Cb,results138,qA,ratA,digA,h1];simp [qa,digC]
end
end
section
open Go Tryz
set_option maxHeartbeats 1000000
theorem Am0 {a:Int} (ha:smB a=true):smB (-a)=true:=by
 simp only [smB,Int.natAbs_neg] at ha ⊢; exact ha
section
variable (S:List Ent) (tk:List Nat) (k:Nat)
theorem Aum (p1:Bool) (l1:List Int) (q1:Bool) (r1:List Int) (p2:Bool) (l2:List Int) (q2:Bool) (r2:List Int) (h1:l1.length<=1000000) (h2:r1.length<=1000000) (h3:l2.length<=1000000) (h4:r2.length<=1000000) :
  cL prog 253 [ratA p1 l1 q1 r1,ratA p2 l2 q2 r2,.bool true] S tk k=some (resQ (nQ p1 l1 q1 r1*dQ p2 l2 q2 r2+-nQ p2 l2 q2 r2*dQ p1 l1 q1 r1) (dQ p1 l1 q1 r1*dQ p2 l2 q2 r2),S,tk,k):=by
 have hA:=fun S tk k=>H6 S tk k p1 l1 q1 r1 h1 h2;have hB:=fun S tk k=>H6 S tk k p2 l2 q2 r2 h3 h4;have gA:=Gf p1 l1 q1 r1;have gB:=Gf p2 l2 q2 r2;generalize nQ p1 l1 q1 r1=a at *;generalize dQ p1 l1 q1 r1=b at *;generalize nQ p2 l2 q2 r2=c at *;generalize dQ p2 l2 q2 r2=d at *;have wb:b*d≠0:=Ik Za5g (by have:=gB.pos; omega);refine opP func253 ntmps253 (hp3:=rfl) ?_;have hK:=fun S tk k=>Qu S tk k a b c d;cases hs:smB a && smB b && smB c && smB d with
 | true =>
  rw [hs] at hK;simp only [Ch] at hs;obtain ⟨⟨⟨s1,s2⟩,s3⟩,s4⟩:=hs;rw [Np s1,Np s2,Np s3,Np s4] at hK;have b0:=Nz s3;have b1:=Hm s1 s4;have b2:=Hm (Am0 s3) s2;have b3:=Hm s2 s4;have qf:B8.wrap (0 - c)=-c:=aP
  have hw1:B8.wrap (a*d)=a*d:=Aa aD;have hw2:B8.wrap (-c*b)=-c*b:=Aa aD;have hw3:B8.wrap (b*d)=b*d:=Aa aD;have hw4:B8.wrap (a*d+-c*b)=a*d+-c*b:=Aa aD;have hF:=fun S tk k=>Mp S tk k (a*d+-c*b) (b*d) aA aA wb;rw [Wa aA aA wb];simp only [qA,ratA,digA] at hA hB hK hF ⊢;simp (maxSteps:=10^6)+contextual(disch:=try exact dqd)only[ev1,simprocAttr,Ca,Bo,Cb,results253,ratA,digA,hA,hB,hK,hF,qf,hw1,hw2,hw3,hw4]
 | false =>
  rw [hs] at hK;have hO1:=fun S tk k=>Ht S tk k a;have hO2:=fun S tk k=>Ht S tk k b;have ra:=fun S tk k=>Ht S tk k c;have hO4:=fun S tk k=>Ht S tk k d;have l1:=gA.ln;have l2:=gA.ld;have l3:=gB.ln;have l4:=gB.ld;have ba:=fun S tk k=>Et S tk k a d aA aA;have ah:=fun S tk k=>Et S tk k b d aA aA;have c8:=fun S tk k=>Et S tk k c b aA aA;have m1:=D8 l1 l4;have m2:=D8 l2 l4;have m3:=D8 l3 l2;have m5:=Aqo m3;have hP:=fun S tk k=>Wk S tk k (a*d) (c*b) aA aA;have e1:a*d - c*b=a*d+-c*b:=by rw [Rp]; omega
  rw [e1] at hP;rw [<- Rp] at m5;have m4:=Agg (x:=a*d) (y:=-c*b) (a:=45000) aA aA;have hR:=fun S tk k=>Nj S tk k (a*d+-c*b) (b*d) aA aA wb;simp only [zA,bigA,digA] at hO1 hO2 ra hO4 ba ah c8 hP hR;simp only [resQ,qA,ratA,digA] at hA hB hK hR ⊢;simp (maxSteps:=10^6)+contextual(disch:=try exact dqd)only[ev1,simprocAttr,Ca,Bo,Cb,results253,ratA,digA,hA,hB,hK,hO1,hO2,ra,hO4,ba,ah,c8,hP,hR]
theorem Aq5 (p1:Bool) (l1:List Int) (q1:Bool) (r1:List Int) (p2:Bool) (l2:List Int) (q2:Bool) (r2:List Int) (h1:l1.length<=1000000) (h2:r1.length<=1000000) (h3:l2.length<=1000000) (h4:r2.length<=1000000) :
  cL prog 249 [ratA p1 l1 q1 r1,ratA p2 l2 q2 r2] S tk k=some (resQ (nQ p1 l1 q1 r1*dQ p2 l2 q2 r2+-nQ p2 l2 q2 r2*dQ p1 l1 q1 r1) (dQ p1 l1 q1 r1*dQ p2 l2 q2 r2),S,tk,k):=by
 have hJ:=fun S tk k=>Aum S tk k p1 l1 q1 r1 p2 l2 q2 r2 h1 h2 h3 h4;refine opP func249 ntmps249 (hp3:=rfl) ?_;simp only [resQ,qA,ratA,digA] at hJ ⊢;simp (maxSteps:=10^6)+contextual(disch:=try exact dqd)only[ev1,simprocAttr,Ca,Bo,Cb,results249,ratA,digA,hJ]
end
end
section
open Go Tryz
set_option maxRecDepth 100000
theorem Ws {l:List Int} {i:Nat} {x:Int} (h:i<l.length):(l.set i x).drop i=x :: l.drop (i+1):=by
 rw [Ax (Th h)];congr 1;rw [List.drop_set]; simp
theorem Xu (n:Nat):okD (Cg n 0):=fun d hd=>by
 exact Ya3r
structure Pw (A:Nat) (b:Int) (m:Nat) (r:Int) (out:List Int):Prop where
 len:out.length=(dig A).length
 ok:okD out
 r0:0<=r/\r<b
 eqv:val ((dig A).drop m)=val (out.drop m)*b+r
theorem Pw.start {A:Nat} {b:Int} (h:0<b):Pw A b (dig A).length 0 (Cg (dig A).length 0):=by
 refine ⟨by simp,Xu _,aA,?_⟩;exact Ya43
theorem Pw.step {A:Nat} {b:Int} {m:Nat} {r x:Int} {out:List Int} (h:Pw A b m r out) (hm:m≠0) (rg:m<=(dig A).length) (hx:nth (dig A) (m - 1)=some x) :
  Pw A b (m - 1) ((r*10000+x).tmod b) (out.set (m - 1) ((r*10000+x).tdiv b))/\0<=(r*10000+x).tdiv b/\(r*10000+x).tdiv b<10000/\0<=(r*10000+x).tmod b/\(r*10000+x).tmod b<b:=by
 have hr:=h.r0;have hxk:=Bs (A5 A) hx;have hn:0<=r*10000+x:=aA
 have e1:(r*10000+x).tdiv b=(r*10000+x) / b:=Cz hn;have e2:(r*10000+x).tmod b=(r*10000+x) % b:=Gm hn;have m0:=Int.emod_nonneg (r*10000+x) (show b≠0 by omega);have m1:=Int.emod_lt_of_pos (r*10000+x) (show 0<b by omega);have q0:0<=(r*10000+x) / b:=Int.ediv_nonneg hn aA;have q1:(r*10000+x) / b<10000:=Int.ediv_lt_of_lt_mul aA aA;have dm:m - 1+1=m:=aA
 have hlen:m - 1<out.length:=by have:=h.len; omega
 rw [e1,e2];refine ⟨⟨bS,Pd h.ok q0 q1,⟨m0,m1⟩,?_⟩,q0,q1,m0,m1⟩;have hv:=h.eqv;rw [Ax hx,Ws hlen,val,val,dm,hv];exact Ya09
theorem Atm {A B Q R:Int} (h:A=Q*B+R) (h0:0<=R) (h1:R<B):A / B=Q/\A % B=R:=by
 exact Ya0l
theorem Ap5 {A B:Nat} {Q R:Int} (h:(A:Int)=Q*B+R) (h0:0<=R) (h1:R<B):Q=((A / B:Nat):Int)/\R=((A % B:Nat):Int):=by
 obtain ⟨e1,e2⟩:=Atm h h0 h1;rw [<- e1,<- e2];exact Ya4c
theorem Pw.done {A B:Nat} {r:Int} {out:List Int} (h:Pw A B 0 r out):Dj out=dig (A / B)/\r.toNat=A % B:=by
 have hv:=h.eqv;rw [Fz,Fz,Bq] at hv;obtain ⟨e1,e2⟩:=Ap5 hv h.r0.1 h.r0.2;rw [Dz h.ok,e1];exact ⟨by congr 1,aA⟩
theorem Acj (n:Nat):((10000 ^ n:Nat):Int)=(10000:Int) ^ n:=Int.natCast_pow ..
structure Dg (a d z i:Nat) (c:Int) (out:List Int):Prop where
 len:out.length=z+i
 ok:okD out
 c0:0<=c/\c<=9999
 eqv:val out+10000 ^ (z+i)*(c+d*val ((dig a).drop i))=(a*d*10000 ^ z:Nat)
theorem Dg.start (a d z:Nat):Dg a d z 0 0 (Cg z 0):=by
 refine ⟨by simp,Xu _,aA,?_⟩;rw [Jk,Fz,Bq,iI,iI,Acj,Ie,Int.zero_add,Int.zero_add,Fy,Fy (a:Int)]
theorem Amy {x d:Int} (h0:0<=x) (h1:x<10000) (h2:0<=d) (h3:d<10000):0<=x*d/\x*d<=99980001:=by
 have a:=Ox h0 h2;have b:=Int.mul_le_mul (a:=x) (b:=d) (c:=9999) (d:=9999) aA aA h2 aA;omega
theorem Dg.step {a d z i:Nat} {c x n:Int} {out:List Int} (h:Dg a d z i c out) (hd:d<10000) (hx:nth (dig a) i=some x) (hn:n=c+x*d) :
  Dg a d z (i+1) (n.tdiv 10000) (out++[n.tmod 10000])/\0<=n/\n<=99990000:=by
 have hxk:=Bs (A5 a) hx;have hm:=Amy hxk.1 hxk.2 (Od d) aA;have h3:=h.c0;have e1:n.tdiv 10000=n / 10000:=Cz aA;have e2:n.tmod 10000=n % 10000:=Gm aA;refine ⟨⟨by simp [h.len]; omega,Qo h.ok aA aA,aA,?_⟩,aA,aA⟩;have hv:=h.eqv;rw [Ax hx,val] at hv;have e3:(d:Int)*(x+10000*val ((dig a).drop (i+1)))=x*d+10000*(d*val ((dig a).drop (i+1))):=by
  rw [I1,Fy (d:Int) x,<- H9,Fy (d:Int) 10000,H9]
 rw [e3] at hv;have:n.tmod 10000+10000*(n.tdiv 10000+d*val ((dig a).drop (i+1)))=c+(x*d+10000*(d*val ((dig a).drop (i+1)))):=aA
 rw [Nn,h.len,iK,<- O4,Ki,this];exact hv
theorem Dg.last {a d z i:Nat} {c:Int} {out:List Int} (h:Dg a d z i c out) (hi:(dig a).length<=i) :
  Dg a d z (i+1) (c.tdiv 10000) (out++[c.tmod 10000])/\c.tdiv 10000=0:=by
 have h3:=h.c0;have e1:c.tdiv 10000=c / 10000:=Cz aA;have e2:c.tmod 10000=c % 10000:=Gm aA;refine ⟨⟨by simp [h.len]; omega,Qo h.ok aA aA,aA,?_⟩,aA⟩;have hv:=h.eqv;rw [Fm hi,val] at hv;rw [Fm aA,val,Nn,h.len,iK,<- O4,Ki];rw [show c.tmod 10000+10000*(c.tdiv 10000+d*0)=c+d*0 by omega];exact hv
theorem Dg.done {a d z i:Nat} {c:Int} {out:List Int} (h:Dg a d z i c out) (hi:(dig a).length<=i) (hc:c=0):Dj out=dig (a*d*10000 ^ z):=by
 have hv:=h.eqv;rw [Fm hi,val,hc] at hv;rw [Dz h.ok];congr 1;have e:(10000:Int) ^ (z+i)*(0+d*0)=0:=by rw [Si,Sv,Si]
 rw [e] at hv;omega
theorem Axu (id z:Nat):tokA id 1 (Ms (Jc 1 z (W3 z)))=.frz ((Cg z (0:Int)).map digC) (.tok id 0 1):=by
 unfold W3;rw [Rz (by simp),Ff (by simp),R0];rfl
def lowV (b i:Nat):Nat:=(val ((dig b).take i)).toNat
theorem Vr (b i:Nat):((lowV b i:Nat):Int)=val ((dig b).take i):=by
 have:=El (l:=(dig b).take i) fun d hd=>A5 b d (iV hd);unfold lowV; omega
theorem Amt (b:Nat):lowV b 0=0:=rfl
theorem Ams {b i:Nat} {x:Int} (hx:nth (dig b) i=some x):lowV b (i+1)=lowV b i+x.toNat*10000 ^ i:=by
 have hxk:=Bs (A5 b) hx;have hl:i<(dig b).length:=Bl hx;have h1:=Vr b (i+1);rw [iN,show (dig b)[i]?=some x by rw [<- Af]; exact hx,Option.toList_some,Nn,Im,Nat.min_eq_left aA,<- Vr b i] at h1;have h2:((x.toNat*10000 ^ i:Nat):Int)=10000 ^ i*x:=by
  rw [iI,Acj,Fy,kT hxk.1]
 omega
theorem Aqq (b:Nat):lowV b (dig b).length=b:=by
 unfold lowV; rw [C8,Bq]; rfl
theorem Amr (b i:Nat):lowV b i<=b:=by
 have h1:val ((dig b).take i)+10000 ^ ((dig b).take i).length*val ((dig b).drop i)=b:=by
  rw [<- Ew,Ix,Bq]
 have h3:=El (l:=(dig b).drop i) fun d hd=>A5 b d (kM hd);have h4:=Ox (Int.le_of_lt (Jh ((dig b).take i).length)) h3;have:=Vr b i;omega
section
variable (S:List Ent) (tk:List Nat) (k:Nat)
theorem Z9 (a d z:Nat) (hd:d<10000) (ha:(dig a).length<=100000) (hz:z<=100000):cL prog 200 [digA (dig a),.int (d:Nat),.int (z:Nat)] S tk k=some (digA (dig (a*d*10000 ^ z)),S,tk,k):=by
 refine opP func200 ntmps200 ?_;have mc:(A6 prog 58).bind (Ey prog)=some 8:=aK
 have gd:=Nx (P:=prog) (t:=58) (n:=z) aT aT mc aA;have hzf:=Axu 0 z;simp (maxSteps:=10^6)+contextual(disch:=try exact dqd)only[ev1,simprocAttr,Ca,Bo,Cb,results200,↓Yf,digA,gd,hzf];refine loop1 (P:=prog) (fun x st=>st.T.length=43/\(Dg a d z x.1 x.2.1 x.2.2.1)/\(x.1<=(dig a).length+1)/\(Be st.tk x.2.2.2 1=true)/\(x.1=(dig a).length+1->x.2.1=0)/\getT st.T 0=digA (dig a)/\getT st.T 1=.int (d:Nat)/\getT st.T 7=.frz (x.2.2.1.map digC) x.2.2.2/\getT st.T 8=.int x.2.1/\getT st.T 9=.int (x.1:Nat)/\st.S=[]) (fun x=>(dig a).length+1 - x.1) (fun x=>digA (dig (a*d*10000 ^ z))) (0,0,Cg z 0,.tok 0 0 1) ?_ ?_;case refine_2=>exact ⟨rfl,Dg.start a d z,aA,rfl,fun _=>rfl,rfl,rfl,rfl,rfl,rfl,rfl⟩
 rintro ⟨i,w,out,c⟩ ⟨T,S',tk',n'⟩ ⟨hl,hp,hi,ab,hib,e0,e1,e7,e8,e9,eS⟩ IH;simp only at hp hi ab hib e0 e1 e7 e8 e9 eS;subst eS;obtain ⟨g,hg,hT⟩:=Ap hl;rw [hg] at e0 e1 e7 e8 e9;subst hT;clear hg hl;have hlen:=hp.len;have hr:=Df out;have hn:(out.map digC).length+1<=1048576:=aC
 have am:=Ba ab;have bg:=Aw (i:=i) aA;have qf:=hp.c0;have eo:¬ ((10000:Int)=0):=aA
 by_cases ca:i<(dig a).length
 ·have d1:decide ((i:Int)<((dig a).length:Int))=true:=gR
  obtain ⟨x,hx⟩:=Ab ca;have hx':=Bd hx;have hxk:=Bs (A5 a) hx;have hm:=Amy hxk.1 hxk.2 (Od d) aA;obtain ⟨n,ek⟩:∃ n,n=w+x*d:=⟨_,rfl⟩;obtain ⟨ai,b7,bm⟩:=hp.step hd hx ek;have hw1:B8.wrap (x*d)=x*d:=Aa aD;have hw2:B8.wrap (w+x*d)=n:=by rw [Aa aD]; exact ek.symm
  have po:B8.wrap (n.tdiv 10000)=n.tdiv 10000:=by
   exact Ya3h
  simp (maxSteps:=10^6)+contextual(disch:=try exact dqd)only[ev1,simprocAttr,Ca,Bo,Cb,results200,digA,e0,e1,e7,e8,e9,d1,hx',hw1,hw2,po,hr,bg,eo];exact Yat
 ·have d1:decide ((i:Int)<((dig a).length:Int))=false:=gR
  by_cases cw:w > 0
  ·have d3:decide (w > 0)=true:=gU
   obtain ⟨ai,pq⟩:=hp.last aA;have po:B8.wrap (w.tdiv 10000)=w.tdiv 10000:=by
    rw [pq,Aa aD]
   simp (maxSteps:=10^6)+contextual(disch:=try exact dqd)only[ev1,simprocAttr,Ca,Bo,Cb,results200,digA,e0,e1,e7,e8,e9,d1,d3,po,hr,bg,eo];exact IH (i+1,w.tdiv 10000,out++[w.tmod 10000],Ay tk' c 1) _ aF ⟨rfl,ai,aE,am,fun _=>pq,aB,aB,aB,aB,aB,aB⟩
  ·have d3:decide (w > 0)=false:=gU
   have dn:=hp.done aA aA;have hT:=fun S tk k=>Tx S tk k out c aA;simp only [digA,dn] at hT;simp (maxSteps:=10^6)+contextual(disch:=try exact dqd)only[ev1,simprocAttr,Ca,Bo,Cb,results200,digA,e0,e1,e7,e8,e9,d1,d3,hT]
theorem W8 (a d:Nat) (hd:d<10000) (ha:(dig a).length<=100000):cL prog 200 [digA (dig a),.int (d:Nat),.int 0] S tk k=some (digA (dig (a*d)),S,tk,k):=by
 have:=Z9 S tk k a d 0 hd ha aA;rw [Nat.pow_zero,Cw] at this;exact this
theorem Ahn (a b:Nat) (ca:Cap) (ha:(dig a).length<=100000) (hb:(dig b).length<=100000):cL prog 193 [.frz ((dig a).map digC) ca,digA (dig b)] S tk k=some (digA (dig (a+b)),S,tk,k) :=
 (P0 (args:=[.frz ((dig a).map digC) ca,digA (dig b)]) (args':=[digA (dig a),digA (dig b)]) rfl rfl rfl).trans (Ae5 S tk k a b ha hb)
theorem Ajt (a b:Nat) (ha:(dig a).length<=45000) (hb:(dig b).length<=45000):cL prog 196 [digA (dig a),digA (dig b)] S tk k=some (digA (dig (a*b)),S,tk,k):=by
 refine opP func196 ntmps196 ?_;simp (maxSteps:=10^6)+contextual(disch:=try exact dqd)only[ev1,simprocAttr,Ca,Bo,Cb,results196,digA];refine loop1 (P:=prog) (fun x st=>st.T.length=23/\(x.1<=(dig b).length)/\(x.2.1=a*lowV b x.1)/\getT st.T 0=digA (dig a)/\getT st.T 1=digA (dig b)/\getT st.T 5=.frz ((dig x.2.1).map digC) x.2.2/\getT st.T 6=.int (x.1:Nat)/\st.S=[]) (fun x=>(dig b).length - x.1) (fun x=>digA (dig (a*b))) (0,0,.nilc) ?_ ?_;case refine_2=>exact ⟨rfl,Ci _,by rw [Amt,Nat.mul_zero],rfl,rfl,rfl,rfl,rfl⟩
 rintro ⟨i,v,c⟩ ⟨T,S',tk',n'⟩ ⟨hl,hi,hv,e0,e1,e5,e6,eS⟩ IH;simp only at hi hv e0 e1 e5 e6 eS;subst eS;obtain ⟨g,hg,hT⟩:=Ap hl;rw [hg] at e0 e1 e5 e6;subst hT;clear hg hl;subst hv;by_cases hlt:i<(dig b).length
 ·have d1:decide ((i:Int)<((dig b).length:Int))=true:=aI
  obtain ⟨x,hx⟩:=Ab hlt;have hx':=Bd hx;have hxk:=Bs (A5 b) hx;have bg:=Aw (i:=i) aA;have hD:=fun S tk k=>Z9 S tk k a x.toNat i aA aA aA;rw [kT hxk.1] at hD;have e:a*lowV b i+a*x.toNat*10000 ^ i=a*lowV b (i+1):=by rw [Ams hx,Nat.mul_add,Nat.mul_assoc]
  have m1:(dig (a*lowV b i)).length<=90000:=Fh (E9 (Oy a (Amr b i))) (N2 ha hb);have m2:(dig (a*lowV b (i+1))).length<=90000:=Fh (E9 (Oy a (Amr b (i+1)))) (N2 ha hb);have m3:(dig (a*x.toNat*10000 ^ i)).length<=90000:=Fh (E9 aA) m2;have hP:=fun S tk k=>Ahn S tk k (a*lowV b i) (a*x.toNat*10000 ^ i) c aA aA;rw [e] at hP;simp only [digA] at hD hP;simp (maxSteps:=10^6)+contextual(disch:=try exact dqd)only[ev1,simprocAttr,Ca,Bo,Cb,results196,digA,e0,e1,e5,e6,d1,hx',hD,hP,bg];exact IH (i+1,a*lowV b (i+1),.unk) _ aF ⟨rfl,aE,rfl,aB,aB,aB,aB,aB⟩
 ·have d1:decide ((i:Int)<((dig b).length:Int))=false:=aI
  have fv:i=(dig b).length:=aA
  subst fv;rw [Aqq] at e5;simp (maxSteps:=10^6)+contextual(disch:=try exact dqd)only[ev1,simprocAttr,Ca,Bo,Cb,results196,digA,e0,e1,e5,e6,d1]
end
end
section
open Go Tryz
set_option maxHeartbeats 1000000
set_option maxRecDepth 100000
theorem Aen:∀ {l:List Int} {i:Nat} {x:Int},nth l i=some x->l.set i x=l
 | _ :: _,0,_,h=>dL
 | _ :: l,i+1,_,h=>by simp only [nth] at h; simp only [iC,Aen h]
 | [],_,_,h=>bO
section
variable (S:List Ent) (tk:List Nat) (k:Nat)
theorem Aaa (l:List Int) (id ep:Nat) (hlen:l.length<=1000000) (h:entAt S id ep=some (l.map numC)):cL prog 199 [.sref id ep 0 l.length 1] S tk k=some (.sref id ep 0 (Dj l).length 1,S,tk,k):=by
 refine opS func199 ntmps199 ?_;have hid:id<S.length:=by
  exact Ya46
 simp (maxSteps:=10^6)+contextual(disch:=try exact dqd)only[evs1,simprocAttr,Ca,Bo,Cb,results199];refine Vq (P:=prog) (fun x st=>st.T.length=22/\(x<=l.length)/\(∀ j,x<=j->∀ x,nth l j=some x->x=0)/\getT st.T 0=.sref id ep 0 l.length 1/\getT st.T 3=.int (x:Nat)/\st.S=S/\st.tk=tk/\st.n=k) (fun x=>x) (fun x=>(.sref id ep 0 (Dj l).length 1,S,tk,k)) (l.length) ?_ ?_;case refine_2=>exact ⟨rfl,Ce _,K9 l,rfl,rfl,rfl,rfl,rfl⟩
 rintro n ⟨T,S',tk',n'⟩ ⟨hl,hn,hz,e0,e3,eS,eT,eN⟩ IH;subst eS eT eN;obtain ⟨g,hg,hT⟩:=Ap hl;rw [hg] at e0 e3;subst hT;clear hg hl;by_cases h0:n=0
 ·have d1:decide ((n:Int) > 0)=false:=aC
  have ht:=Ed hn hz (.inl h0);simp (maxSteps:=10^6)+contextual(disch:=try exact dqd)only[evs1,simprocAttr,Ca,Bo,Cb,results199,e0,e3,d1,Gw,bound,intN_cast,hn,Ce,Ci,Oh,jV,Ie];rw [ht]; simp [h0]
 ·have d1:decide ((n:Int) > 0)=true:=aC
  have hp:=Ni h0 aA;have b7:n - 1<l.length:=aA
  obtain ⟨x,hx⟩:=Ab b7;have hx':=D6 hx;by_cases fh:x=0
  ·have d2:(x == 0)=true:=bU
   simp (maxSteps:=10^6)+contextual(disch:=try exact dqd)only[evs1,simprocAttr,Ca,Bo,Cb,results199,e0,e3,d1,d2,hp,hx',h,b7,Cw,Fk];exact Ya2q
  ·have d2:(x == 0)=false:=bU
   have ht:=Ed hn hz (.inr ⟨x,hx,fh⟩);simp (maxSteps:=10^6)+contextual(disch:=try exact dqd)only[evs1,simprocAttr,Ca,Bo,Cb,results199,e0,e3,d1,d2,hp,hx',h,b7,Cw,Fk,Gw,bound,intN_cast,hn,Ce,Ci,Oh,jV,Ie];rw [ht]; simp; omega
theorem stepX {r X n:Nat} (hr:(dig r).length<=n) (hX:X<10000*r+10000):(dig X).length<=n+1:=by
 rw [A9] at hr ⊢;rw [O5]; omega
theorem Aqr {lo hi:Nat} (h:lo<hi) (hh:hi<10000):(((lo:Int)+(hi:Int))+1).tdiv 2=(((lo+hi+1) / 2:Nat):Int):=by
 rw [Cz aA]; omega
theorem X8 (A B:Nat) (ha:(dig A).length<=90000) (a0i:(dig B).length<=90000) (hB:0<B):cL prog 192 [digA (dig A),digA (dig B)] S tk k=some (.tup [digA (dig (A / B)),digA (dig (A % B))],S,tk,k):=by
 refine opP func192 ntmps192 (hp3:=rfl) ?_;have mc:(A6 prog 58).bind (Ey prog)=some 8:=aK
 have gd:=Nx (P:=prog) (t:=58) (n:=(dig A).length) aT aT mc aA;have d3:=E2 (n:=(dig A).length) aA;have ai:=Pw.start (A:=A) (b:=(B:Int)) aA;simp (maxSteps:=10^6)+contextual(disch:=try exact dqd)only[ev1,simprocAttr,Ca,Bo,Cb,results192,digA,gd,d3];refine loop1 (P:=prog) (fun x st=>st.T.length=61/\(x.1<=(dig A).length)/\(Pw A B x.1 ((x.2.1:Nat):Int) x.2.2.1)/\(∀ j,j<x.1->nth x.2.2.1 j=some 0)/\getT st.T 0=digA (dig A)/\getT st.T 1=digA (dig B)/\getT st.T 6=.sref 0 0 0 (dig A).length 1/\getT st.T 7=.frz ((dig x.2.1).map digC) x.2.2.2/\getT st.T 8=.int ((x.1:Int) - 1)/\st.S=[⟨0,x.2.2.1.map numC⟩]) (fun x=>x.1) (fun x=>.tup [digA (dig (A / B)),digA (dig (A % B))]) ((dig A).length,0,Cg (dig A).length 0,.nilc) ?_ ?_;case refine_2=>exact ⟨rfl,Ce _,ai,fun j hj=>by rw [Af,List.getElem?_replicate,if_pos hj],rfl,rfl,rfl,rfl,rfl,rfl⟩
 rintro ⟨m,r,out,c⟩ ⟨T,S',tk',n'⟩ ⟨hl,hm,hp,hz,e0,e1,e6,e7,e8,eS⟩ IH;simp only at hm hp hz e0 e1 e6 e7 e8 eS;subst eS;obtain ⟨g,hg,hT⟩:=Ap hl;rw [hg] at e0 e1 e6 e7 e8;subst hT;clear hg hl;have OUT:=IH;clear IH;have hlen:=hp.len;by_cases h0:m=0
 ·have d2:decide ((m:Int) - 1 >= 0)=false:=aC
  subst h0;obtain ⟨q1,q2⟩:=hp.done;have hT:=fun tk k=>Aaa [⟨0,out.map numC⟩] tk k out 0 0 aA rfl;have jo:=Td (m:=0) (id:=0) (ep:=0) (S:=[⟨0,out.map numC⟩]) (Ci _) rfl (G9 out);rw [<- Dl,q1] at jo;rw [hlen,q1] at hT;have q3:r=A % B:=by simpa using q2
  rw [q3] at e7;simp (maxSteps:=10^6)+contextual(disch:=try exact dqd)only[ev1,simprocAttr,Ca,Bo,Cb,results192,digA,e0,e1,e6,e7,e8,d2,hT,jo]
 have d2:decide ((m:Int) - 1 >= 0)=true:=aC
 have hi:(m:Int) - 1=((m - 1:Nat):Int):=aA
 obtain ⟨x,hx⟩:=Ab (show m - 1<(dig A).length by omega);have hx':=Bd hx;have hxk:=Bs (A5 A) hx;have ho:=hz (m - 1) aA;have hrB:r<B:=by have:=hp.r0; omega
 have i6:(dig r).length<=90000:=Fh (E9 (jW hrB)) a0i;obtain ⟨hq,g1,g2,g3,g4⟩:=hp.step h0 hm hx;obtain ⟨X,hX⟩:∃ X:Nat,X=r*10000+x.toNat:=⟨_,rfl⟩;have hXi:((r:Nat):Int)*10000+x=(X:Int):=aA
 rw [hXi] at hq g1 g2 g3 g4;have tu:((X:Nat):Int).tdiv (B:Int)=((X / B:Nat):Int):=by
  rw [Cz (Od _),<- Int.natCast_ediv]
 have q9:((X:Nat):Int).tmod (B:Int)=((X % B:Nat):Int):=by
  rw [Gm (Od _),<- Int.natCast_emod]
 rw [tu,q9] at hq;rw [tu] at g1 g2;have hQ9:X / B<10000:=by have:=Int.ofNat_lt.1 g2; exact this
 clear g1 g2 g3 g4 tu q9;have y4:X - B*(X / B)=X % B:=by have:=Ot X B; omega
 have hXl:(dig X).length<=90000+1:=stepX i6 aA;obtain ⟨Q,hQd⟩:∃ Q,Q=X / B:=⟨_,rfl⟩;rw [<- hQd] at hq hQ9 y4;have htr:Dj (x :: dig r)=dig X:=by
  have hk:okD (x :: dig r):=fun d hd=>by
   rcases C4.1 hd with rfl|hd
   ·exact hxk
   ·exact A5 r d hd
  rw [Dz hk,val,Bq];congr 1; omega
 have hT:=fun c S tk k=>Tx S tk k (x :: dig r) c aC;rw [htr] at hT;simp only [Cm,digC,digA] at hT;have bz:B2 1 ((dig r).map digC)=true:=Df _;have ae:([[(.prim (.int .i64 x):AV)]]).length+((dig r).map digC).length<=1048576:=aC
 have hok1:Be tk' .tight 1=true:=rfl;have hpw:=E2 (n:=m - 1) aA;have hL:=fun S tk k=>X7 S tk k X B aA aA;have eo:∀ (v:Int) j,j<m - 1->nth (out.set (m - 1) v) j=some 0:=fun v j hj=>by
  have:=hz j aA;rw [Af] at this ⊢;rw [List.getElem?_set_ne aA]; exact this
 simp only [digA] at hL;rw [hi] at e8 d2;by_cases w7:X<B
 ·have bw:decide (X<B)=true:=by simpa using w7
  rw [bw] at hL;have hQ0:Q=0:=by rw [hQd,jA w7]
  subst hQ0;have hXm:X % B=X:=O3 w7;have hz0:=eo 0;rw [show ((0:Nat):Int)=0 from rfl,Aen ho,hXm] at hq;rw [Aen ho] at hz0;simp (maxSteps:=10^6)+contextual(disch:=try exact dqd)only[ev1,simprocAttr,Ca,Bo,Cb,results192,digA,e0,e1,e6,e7,e8,d2,hx',hT,bz,hL,hpw,Nd];exact OUT (m - 1,X,out,.unk) _ aF ⟨rfl,aE,hq,hz0,aB,aB,aB,aB,aB,aB⟩
 have bw:decide (X<B)=false:=by simpa using w7
 rw [bw] at hL;simp (maxSteps:=10^6)+contextual(disch:=try exact dqd)only[ev1,simprocAttr,Ca,Bo,Cb,results192,digA,e0,e1,e6,e7,e8,d2,hx',hT,bz,hL,Nd];clear hT bz ae d3 htr ai;refine loop1 (P:=prog) (fun x st=>st.T.length=61/\(x.1<=Q)/\(Q<=x.2)/\(x.2<10000)/\getT st.T 0=digA (dig A)/\getT st.T 1=digA (dig B)/\getT st.T 6=.sref 0 0 0 (dig A).length 1/\getT st.T 7=digA (dig X)/\getT st.T 8=.int ((m - 1:Nat):Int)/\getT st.T 9=.int ((x.1:Nat):Int)/\getT st.T 10=.int ((x.2:Nat):Int)/\st.S=[⟨0,out.map numC⟩]) (fun x=>x.2 - x.1) (fun x=>.tup [digA (dig (A / B)),digA (dig (A % B))]) (0,9999) ?_ ?_;case refine_2=>exact ⟨rfl,Ci _,aA,aA,rfl,rfl,rfl,rfl,rfl,rfl,rfl,rfl⟩
 rintro ⟨lo,hi⟩ ⟨T,S',tk',n'⟩ ⟨hl,rp,hhi,h9,e0,e1,e6,e7,e8,e9,e10,eS⟩ IH;simp only at rp hhi h9 e0 e1 e6 e7 e8 e9 e10 eS;subst eS;obtain ⟨g,hg,hT⟩:=Ap hl;rw [hg] at e0 e1 e6 e7 e8 e9 e10;subst hT;clear hg hl;have a2u:(dig B).length<=100000:=aA
 by_cases hlt:lo<hi
 ·have d3:decide (((lo:Nat):Int)<((hi:Nat):Int))=true:=aI
  have f1:B8.wrap ((lo:Int)+(hi:Int))=(lo:Int)+(hi:Int):=Aa aD;have f2:B8.wrap ((lo:Int)+(hi:Int)+1)=(lo:Int)+(hi:Int)+1:=Aa aD;have f3:=Aqr hlt h9;obtain ⟨mid,a1d⟩:∃ mid,mid=(lo+hi+1) / 2:=⟨_,rfl⟩;rw [<- a1d] at f3;have f4:B8.wrap ((mid:Nat):Int)=(mid:Int):=Aa aD;have f5:B8.wrap ((mid:Int) - 1)=((mid - 1:Nat):Int):=aP
  have eo:¬ ((2:Int)=0):=aA
  have wc:=fun S tk k=>W8 S tk k B mid aA a2u;have hBm:(dig (B*mid)).length<=100000:=by
   have h9:=N2 (X:=B) (Y:=mid) a0i (n:=1) (A9.2 aA); omega
  have hC:=fun S tk k=>X7 S tk k X (B*mid) aA aA;simp only [digA] at wc hC;by_cases hle:B*mid<=X
  ·have d4:decide (X<B*mid)=false:=aC
   rw [d4] at hC;have hmQ:mid<=Q:=by rw [hQd,O1 hB,I5]; exact hle
   simp (maxSteps:=10^6)+contextual(disch:=try exact dqd)only[ev1,simprocAttr,Ca,Bo,Cb,results192,digA,e0,e1,e6,e7,e8,e9,e10,d3,f1,f2,f3,f4,eo,wc,hC];exact IH (mid,hi) _ aF ⟨rfl,hmQ,hhi,h9,aB,aB,aB,aB,aB,aB,aB,aB⟩
  ·have d4:decide (X<B*mid)=true:=aC
   rw [d4] at hC;have hmQ:Q<mid:=by
    rw [hQd,Ih hB,I5]; omega
   simp (maxSteps:=10^6)+contextual(disch:=try exact dqd)only[ev1,simprocAttr,Ca,Bo,Cb,results192,digA,e0,e1,e6,e7,e8,e9,e10,d3,f1,f2,f3,f4,f5,eo,wc,hC];exact IH (lo,mid - 1) _ aF ⟨rfl,rp,aE,aE,aB,aB,aB,aB,aB,aB,aB,aB⟩
 ·have d3:decide (((lo:Nat):Int)<((hi:Nat):Int))=false:=aI
  have a32:lo=Q:=aA
  subst a32;have wc:=fun S tk k=>W8 S tk k B lo aA a2u;have hBQ:B*lo<=X:=by rw [hQd]; exact Nat.mul_div_le _ _
  have hM:=fun S tk k=>Uh S tk k X (B*lo) hBQ aA;rw [y4] at hM;simp only [digA] at wc hM;have c9:=Dn (v:=(lo:Int)) ho;have dd:m - 1<(dig A).length:=aA
  simp (maxSteps:=10^6)+contextual(disch:=try exact dqd)only[ev1,simprocAttr,Ca,Bo,Cb,results192,digA,e0,e1,e6,e7,e8,e9,e10,d3,wc,hM,c9,dd,hpw,Cw];exact OUT (m - 1,X % B,out.set (m - 1) (lo:Int),.unk) _ aF ⟨rfl,aE,hq,eo (lo:Int),aB,aB,aB,aB,aB,aB⟩
theorem W7 (a b:Nat) (ha:(dig a).length<=90000) (hb:(dig b).length<=90000):cL prog 191 [digA (dig a),digA (dig b)] S tk k=some (digA (dig (a.gcd b)),S,tk,k):=by
 refine opP func191 ntmps191 ?_;simp (maxSteps:=10^6)+contextual(disch:=try exact dqd)only[ev1,simprocAttr,Ca,Bo,Cb,results191,digA];refine loop1 (P:=prog) (fun x st=>st.T.length=19/\(x.1.gcd x.2=a.gcd b)/\((dig x.1).length<=90000)/\((dig x.2).length<=90000)/\getT st.T 0=digA (dig x.1)/\getT st.T 1=digA (dig x.2)/\st.S=[]) (fun x=>x.2) (fun x=>digA (dig (a.gcd b))) (a,b) ?_ ?_;case refine_2=>exact ⟨rfl,rfl,ha,hb,rfl,rfl,rfl⟩
 rintro ⟨x,y⟩ ⟨T,S',tk',n'⟩ ⟨hl,hg,hx,hy,e0,e1,eS⟩ IH;simp only at hg hx hy e0 e1 eS;subst eS;obtain ⟨g,hg,hT⟩:=Ap hl;rw [hg] at e0 e1;subst hT;clear hg hl;by_cases h0:y=0
 ·subst h0;have d1:decide ((((dig 0).length:Nat):Int) > 0)=false:=rfl;rw [I6] at hg;simp (maxSteps:=10^6)+contextual(disch:=try exact dqd)only[ev1,simprocAttr,Ca,Bo,Cb,results191,e0,e1,d1,digA];rw [hg]
 ·have hyl:0<(dig y).length:=Ic.2 fun h=>h0 (D4.1 h);have d1:decide (((dig y).length:Int) > 0)=true:=aC
  have hQ:=fun S tk k=>X8 S tk k x y hx hy aA;simp only [digA] at hQ;have hlt:=I7 x (by omega:0<y);have hym:(dig (x % y)).length<=90000:=Fh (A9.2 (Nat.lt_trans hlt (A9.1 (Ce _)))) hy;have hgn:y.gcd (x % y)=a.gcd b:=Za0j
  simp (maxSteps:=10^6)+contextual(disch:=try exact dqd)only[ev1,simprocAttr,Ca,Bo,Cb,results191,e0,e1,d1,digA,hQ];exact Ya28
end
end
section
open Go Tryz
set_option maxRecDepth 100000
theorem At7 {n:Nat} : (decide ((dig n).length=1) && ((nth (dig n) 0).getD 0 == 1))=decide (n=1):=by
 rw [iJ];simp only [Ch,decide_eq_true_eq,beq_iff_eq];constructor
 ·rintro ⟨h1,h2⟩;have h3:val (dig n)=n:=Bq n;match hd:dig n,h1 with
  | [x],_ =>
   rw [hd] at h2 h3;simp only [nth,Oi] at h2;simp only [val] at h3;omega
 ·rintro rfl;have qa:dig 1=[(1:Int)]:=L5 (d:=(1:Int)) aA aA;rw [qa];exact Ya4c
section
variable (S:List Ent) (tk:List Nat) (k:Nat)
theorem Ep (x y:Int) (hx:(dig x.natAbs).length<=45000) (hy:(dig y.natAbs).length<=45000):cL prog 185 [zA x,zA y] S tk k=some (zA (x*y),S,tk,k):=by
 refine opP func185 ntmps185 (hp3:=rfl) ?_;have hT:=fun S tk k=>Ajt S tk k x.natAbs y.natAbs hx hy;have hs:=Anw x y;have hp:=Kc (x.natAbs*y.natAbs);simp only [digA] at hT;rw [<- hs];have tp:(decide (x<0) != decide (y<0))=!(decide (x<0) == decide (y<0)):=rfl;rw [tp];cases d3:decide (x<0) == decide (y<0) with
 | true=>simp (maxSteps:=10^6)+contextual(disch:=try exact dqd)only[ev1,simprocAttr,Ca,Bo,Cb,results185,zA,bigA,digA,hT,d3,tp,hp,Fs,Fu,Fq,Fo]
 | false=>simp (maxSteps:=10^6)+contextual(disch:=try exact dqd)only[ev1,simprocAttr,Ca,Bo,Cb,results185,zA,bigA,digA,hT,d3,tp,hp,Fs,Fu,Fq,Fo]
theorem Ajs (p:Bool) (l:List Int) (q:Bool) (r:List Int) (hl:l.length<=1000000) (hr:r.length<=1000000):cL prog 189 [ratA p l q r] S tk k=some (.bool (Kl p l q r),S,tk,k):=by
 have l6:=fun S tk k=>told (E:=E1) (Z8 S tk k p l .unk hl);have l7:=fun S tk k=>told (E:=E1) (Z8 S tk k q r .unk hr);refine opP func189 ntmps189 (hp3:=rfl) ?_;unfold Kl;cases h1:D1 p l with
 | false =>
  rw [h1] at l6;simp (maxSteps:=10^6)+contextual(disch:=try exact dqd)only[ev1,simprocAttr,Ca,Bo,Cb,results189,ratA,digA,l6,Fo]
 | true =>
 rw [h1] at l6;cases h2:D1 q r with
 | false =>
  rw [h2] at l7;simp (maxSteps:=10^6)+contextual(disch:=try exact dqd)only[ev1,simprocAttr,Ca,Bo,Cb,results189,ratA,digA,l6,l7,Fo,Fq]
 | true =>
 rw [h2] at l7;obtain ⟨hp,eh⟩:=Hh h1;obtain ⟨hq,tq⟩:=Hh h2;have md:=(J0 h1).2.2;have i6:=(J0 h2).2.2;by_cases pq:q=true
 ·subst pq;have hg:No (V p l) (V true r)=false:=by
   have:V true r<0:=fL
   have h3:¬ 0<V true r:=aA
   simp [No,h3]
  rw [hg];simp (maxSteps:=10^6)+contextual(disch:=try exact dqd)only[ev1,simprocAttr,Ca,Bo,Cb,results189,ratA,digA,l6,l7,Fq]
 ·have hqf:q=false:=by simpa using pq
  subst hqf;have de:0<=V false r:=by
   have:¬ V false r<0:=fL
   omega
  by_cases cg:r=[]
  ·subst cg;have hg:No (V p l) (V false [])=false:=by
    have:V false []=0:=Za4m
    simp [No,this]
   rw [hg];simp only [Cp] at l7;have iz:(((0:Nat):Int) == 0)=true:=rfl;simp (maxSteps:=10^6)+contextual(disch:=try exact dqd)only[ev1,simprocAttr,Ca,Bo,Cb,results189,ratA,digA,l6,l7,iz,Fq]
  ·have wz:(((r.length:Nat):Int) == 0)=false:=by
    exact Ya3g
   have hd1:0<V false r:=by
    have:(V false r).natAbs≠0:=fun e=>cg (by rw [tq,e,Bp]);omega
   have hgd:No (V p l) (V false r)=decide ((V p l).natAbs.gcd (V false r).natAbs=1):=by simp [No,hd1]
   rw [hgd,<- At7];have hD:=fun S tk k=>W7 S tk k (V p l).natAbs (V false r).natAbs (by rw [<- eh]; omega) (by rw [<- tq]; omega);rw [<- eh,<- tq] at hD;simp only [digA] at hD;obtain ⟨g,hg⟩:∃ g,g=(V p l).natAbs.gcd (V false r).natAbs:=⟨_,rfl⟩;rw [<- hg] at hD ⊢;by_cases hg1:(dig g).length=1
   ·have g1:(((dig g).length:Int) == 1)=true:=by rw [hg1]; rfl
    obtain ⟨x,hx⟩:=Ab (show 0<(dig g).length by omega);have hx':=Bd hx;rw [hx,Oi];have g2:decide ((dig g).length=1)=true:=by simpa using hg1
    rw [g2];simp (maxSteps:=10^6)+contextual(disch:=try exact dqd)only[ev1,simprocAttr,Ca,Bo,Cb,results189,ratA,digA,l6,l7,wz,hD,g1,hx',Fq]
   ·have g1:(((dig g).length:Int) == 1)=false:=aC
    have g2:decide ((dig g).length=1)=false:=by simpa using hg1
    rw [g2];simp (maxSteps:=10^6)+contextual(disch:=try exact dqd)only[ev1,simprocAttr,Ca,Bo,Cb,results189,ratA,digA,l6,l7,wz,hD,g1,Fo,Fq]
theorem H1 (p:Bool) (l:List Int) (q:Bool) (r:List Int) (hl:l.length<=1000000) (hr:r.length<=1000000):cL prog 182 [ratA p l q r] S tk k=some (qA (nQ p l q r) (dQ p l q r),S,tk,k):=by
 have hV:=fun S tk k=>Ajs S tk k p l q r hl hr;have hZ:=fun S tk k=>Ao2 S tk k;refine opP func182 ntmps182 (hp3:=rfl) ?_;unfold nQ dQ;cases h:Kl p l q r with
 | true =>
  rw [h] at hV;have e:=Xy h;simp only [if_true];rw [<- e];simp only [ratA,digA] at hV;simp (maxSteps:=10^6)+contextual(disch:=try exact dqd)only[ev1,simprocAttr,Ca,Bo,Cb,results182,ratA,digA,hV]
 | false =>
  rw [h] at hV;simp only [C7,if_false];simp only [ratA,qA,digA] at hV hZ;simp (maxSteps:=10^6)+contextual(disch:=try exact dqd)only[ev1,simprocAttr,Ca,Bo,Cb,results182,ratA,qA,digA,hV,hZ]
theorem Rb (n d:Int) (hn:(dig n.natAbs).length<=90000) (hd:(dig d.natAbs).length<=90000):cL prog 183 [zA n,zA d] S tk k=some (resQ n d,S,tk,k):=by
 refine opP func183 ntmps183 (hp3:=rfl) ?_;have hz:dig 0=[]:=Bp;have y3:decide ((0:Int)<0)=false:=aJ
 by_cases de:d=0
 ·subst de;rw [Qx];have iz:(((0:Nat):Int) == 0)=true:=rfl;simp (maxSteps:=10^6)+contextual(disch:=try exact dqd)only[ev1,simprocAttr,Ca,Bo,Cb,results183,zA,bigA,qA,ratA,digA,hz,y3,iz]
 have i0:(((dig d.natAbs).length:Int) == 0)=false:=by
  have:dig d.natAbs≠[]:=fun e=>Za5u
  exact Ya1n
 have kt:0<n.natAbs.gcd d.natAbs:=Iv _ aA;have hD:=fun S tk k=>W7 S tk k n.natAbs d.natAbs hn hd;have hgl:(dig (n.natAbs.gcd d.natAbs)).length<=90000:=by
  exact Ya18
 have tu:=fun S tk k=>X8 S tk k n.natAbs (n.natAbs.gcd d.natAbs) hn hgl kt;have q9:=fun S tk k=>X8 S tk k d.natAbs (n.natAbs.gcd d.natAbs) hd hgl kt;have hla:=Rr n d;have hlb:(lowD n d).natAbs=d.natAbs / n.natAbs.gcd d.natAbs:=rfl;have hs:=Agk n d de;have hp:=Kc (n.natAbs / n.natAbs.gcd d.natAbs);have hdn:decide (lowD n d<0)=false:=by
  have:¬ lowD n d<0:=by unfold lowD; omega
  simp [this]
 unfold resQ resN resD;simp only [digA] at hD tu q9;by_cases h1:(dig (n.natAbs / n.natAbs.gcd d.natAbs)).length<=200
 ·have d1:decide (((dig (n.natAbs / n.natAbs.gcd d.natAbs)).length:Int) > 200)=false:=aC
  by_cases h2:(dig (d.natAbs / n.natAbs.gcd d.natAbs)).length<=200
  ·have d2:decide (((dig (d.natAbs / n.natAbs.gcd d.natAbs)).length:Int) > 200)=false:=aC
   have hf:Ez n d=true:=dM
   rw [hf];simp only [if_true,qA,hla,hlb,<- hs,hdn];have tp:(decide (n<0) != decide (d<0))=!(decide (n<0) == decide (d<0)):=rfl;rw [tp];cases d3:decide (n<0) == decide (d<0) with
   | true=>simp (maxSteps:=10^6)+contextual(disch:=try exact dqd)only[ev1,simprocAttr,Ca,Bo,Cb,results183,zA,bigA,ratA,digA,hD,tu,q9,i0,d1,d2,d3,tp,hp,Fs,Fu,Fq,Fo]
   | false=>simp (maxSteps:=10^6)+contextual(disch:=try exact dqd)only[ev1,simprocAttr,Ca,Bo,Cb,results183,zA,bigA,ratA,digA,hD,tu,q9,i0,d1,d2,d3,tp,hp,Fs,Fu,Fq,Fo]
  ·have d2:decide (((dig (d.natAbs / n.natAbs.gcd d.natAbs)).length:Int) > 200)=true:=aC
   have hf:Ez n d=false:=dM
   rw [hf];simp only [C7,if_false];simp (maxSteps:=10^6)+contextual(disch:=try exact dqd)only[ev1,simprocAttr,Ca,Bo,Cb,results183,zA,bigA,qA,ratA,digA,hz,hD,tu,q9,i0,d1,d2]
 ·have d1:decide (((dig (n.natAbs / n.natAbs.gcd d.natAbs)).length:Int) > 200)=true:=aC
  have hf:Ez n d=false:=dM
  rw [hf];simp only [C7,if_false];simp (maxSteps:=10^6)+contextual(disch:=try exact dqd)only[ev1,simprocAttr,Ca,Bo,Cb,results183,zA,bigA,qA,ratA,digA,hz,hD,tu,q9,i0,d1]
theorem Asp (p1:Bool) (l1:List Int) (q1:Bool) (r1:List Int) (p2:Bool) (l2:List Int) (q2:Bool) (r2:List Int) (h1:l1.length<=1000000) (h2:r1.length<=1000000) (h3:l2.length<=1000000) (h4:r2.length<=1000000) :
  cL prog 176 [ratA p1 l1 q1 r1,ratA p2 l2 q2 r2] S tk k=some (resQ (nQ p1 l1 q1 r1*dQ p2 l2 q2 r2+nQ p2 l2 q2 r2*dQ p1 l1 q1 r1) (dQ p1 l1 q1 r1*dQ p2 l2 q2 r2),S,tk,k):=by
 have hA:=fun S tk k=>H1 S tk k p1 l1 q1 r1 h1 h2;have hB:=fun S tk k=>H1 S tk k p2 l2 q2 r2 h3 h4;have gA:=Gf p1 l1 q1 r1;have gB:=Gf p2 l2 q2 r2;generalize nQ p1 l1 q1 r1=a at *;generalize dQ p1 l1 q1 r1=b at *;generalize nQ p2 l2 q2 r2=c at *;generalize dQ p2 l2 q2 r2=d at *;refine opP func176 ntmps176 (hp3:=rfl) ?_;have l1:=gA.ln;have l2:=gA.ld;have l3:=gB.ln;have l4:=gB.ld;have ba:=fun S tk k=>Ep S tk k a d aA aA;have ah:=fun S tk k=>Ep S tk k b d aA aA;have c8:=fun S tk k=>Ep S tk k c b aA aA;have m1:=D8 l1 l4;have m2:=D8 l2 l4;have m3:=D8 l3 l2;have hP:=fun S tk k=>Aab S tk k (a*d) (c*b) aA aA;have m4:=Agg (x:=a*d) (y:=c*b) (a:=45000) aA aA;have hR:=fun S tk k=>Rb S tk k (a*d+c*b) (b*d) aA aA;simp only [zA,bigA,digA] at ba ah c8 hP hR;simp only [resQ,qA,ratA,digA] at hA hB hR ⊢;simp (maxSteps:=10^6)+contextual(disch:=try exact dqd)only[ev1,simprocAttr,Ca,Bo,Cb,results176,ratA,digA,hA,hB,ba,ah,c8,hP,hR]
theorem Ajq (p1:Bool) (l1:List Int) (q1:Bool) (r1:List Int) (p2:Bool) (l2:List Int) (q2:Bool) (r2:List Int) (h1:l1.length<=1000000) (h2:r1.length<=1000000) (h3:l2.length<=1000000) (h4:r2.length<=1000000) :
  cL prog 197 [ratA p1 l1 q1 r1,ratA p2 l2 q2 r2] S tk k=some (resQ (nQ p1 l1 q1 r1*nQ p2 l2 q2 r2) (dQ p1 l1 q1 r1*dQ p2 l2 q2 r2),S,tk,k):=by
 have hA:=fun S tk k=>H1 S tk k p1 l1 q1 r1 h1 h2;have hB:=fun S tk k=>H1 S tk k p2 l2 q2 r2 h3 h4;have gA:=Gf p1 l1 q1 r1;have gB:=Gf p2 l2 q2 r2;generalize nQ p1 l1 q1 r1=a at *;generalize dQ p1 l1 q1 r1=b at *;generalize nQ p2 l2 q2 r2=c at *;generalize dQ p2 l2 q2 r2=d at *;refine opP func197 ntmps197 (hp3:=rfl) ?_;have l1:=gA.ln;have l2:=gA.ld;have l3:=gB.ln;have l4:=gB.ld;have ba:=fun S tk k=>Ep S tk k a c aA aA;have ah:=fun S tk k=>Ep S tk k b d aA aA;have m1:=D8 l1 l3;have m2:=D8 l2 l4;have hR:=fun S tk k=>Rb S tk k (a*c) (b*d) aA aA;simp only [zA,bigA,digA] at ba ah hR;simp only [resQ,qA,ratA,digA] at hA hB hR ⊢;simp (maxSteps:=10^6)+contextual(disch:=try exact dqd)only[ev1,simprocAttr,Ca,Bo,Cb,results197,ratA,digA,hA,hB,ba,ah,hR]
theorem Ac8 (p1:Bool) (l1:List Int) (q1:Bool) (r1:List Int) (p2:Bool) (l2:List Int) (q2:Bool) (r2:List Int) (h1:l1.length<=1000000) (h2:r1.length<=1000000) (h3:l2.length<=1000000) (h4:r2.length<=1000000) :
  cL prog 187 [ratA p1 l1 q1 r1,ratA p2 l2 q2 r2] S tk k=some (resQ (nQ p1 l1 q1 r1*dQ p2 l2 q2 r2) (dQ p1 l1 q1 r1*nQ p2 l2 q2 r2),S,tk,k):=by
 have hA:=fun S tk k=>H1 S tk k p1 l1 q1 r1 h1 h2;have hB:=fun S tk k=>H1 S tk k p2 l2 q2 r2 h3 h4;have gA:=Gf p1 l1 q1 r1;have gB:=Gf p2 l2 q2 r2;generalize nQ p1 l1 q1 r1=a at *;generalize dQ p1 l1 q1 r1=b at *;generalize nQ p2 l2 q2 r2=c at *;generalize dQ p2 l2 q2 r2=d at *;refine opP func187 ntmps187 (hp3:=rfl) ?_;have l1:=gA.ln;have l2:=gA.ld;have l3:=gB.ln;have l4:=gB.ld;have ba:=fun S tk k=>Ep S tk k a d aA aA;have ah:=fun S tk k=>Ep S tk k b c aA aA;have m1:=D8 l1 l4;have m2:=D8 l2 l3;have hR:=fun S tk k=>Rb S tk k (a*d) (b*c) aA aA;simp only [zA,bigA,digA] at ba ah hR;simp only [resQ,qA,ratA,digA] at hA hB hR ⊢;simp (maxSteps:=10^6)+contextual(disch:=try exact dqd)only[ev1,simprocAttr,Ca,Bo,Cb,results187,ratA,digA,hA,hB,ba,ah,hR]
theorem R7 (p:Bool) (l:List Int) (q:Bool) (r:List Int) (hl:l.length<=1000000) (hr:r.length<=1000000):cL prog 177 [ratA p l q r] S tk k=some (qA (-nQ p l q r) (dQ p l q r),S,tk,k):=by
 have hA:=fun S tk k=>H1 S tk k p l q r hl hr;generalize nQ p l q r=a at *;generalize dQ p l q r=b at *;refine opP func177 ntmps177 (hp3:=rfl) ?_;have hz:=zneg a;have hp:=Kc a.natAbs;simp only [qA,ratA,digA] at hA ⊢;rw [<- hz,Int.natAbs_neg];by_cases ha:a<0
 ·have d1:decide (a<0)=true:=gP
  rw [d1] at hA ⊢;simp (maxSteps:=10^6)+contextual(disch:=try exact dqd)only[ev1,simprocAttr,Ca,Bo,Cb,results177,hA,hp,Fs,Fo]
 ·have d1:decide (a<0)=false:=gP
  rw [d1] at hA ⊢;simp (maxSteps:=10^6)+contextual(disch:=try exact dqd)only[ev1,simprocAttr,Ca,Bo,Cb,results177,hA,hp,Fu,Fq]
theorem Ajr (p1:Bool) (l1:List Int) (q1:Bool) (r1:List Int) (p2:Bool) (l2:List Int) (q2:Bool) (r2:List Int) (h1:l1.length<=1000000) (h2:r1.length<=1000000) (h3:l2.length<=1000000) (h4:r2.length<=1000000) :
  cL prog 168 [ratA p1 l1 q1 r1,ratA p2 l2 q2 r2] S tk k=some (resQ (nQ p1 l1 q1 r1*dQ p2 l2 q2 r2+-nQ p2 l2 q2 r2*dQ p1 l1 q1 r1) (dQ p1 l1 q1 r1*dQ p2 l2 q2 r2),S,tk,k):=by
 have hO:=fun S tk k=>R7 S tk k p2 l2 q2 r2 h3 h4;have gB:=(Gf p2 l2 q2 r2).neg;generalize nQ p2 l2 q2 r2=c at *;generalize dQ p2 l2 q2 r2=d at *;have hA:=fun S tk k=>Asp S tk k p1 l1 q1 r1 (decide (-c<0)) (dig (-c).natAbs) (decide (d<0)) (dig d.natAbs) h1 h2 (by have:=gB.ln; omega) (by have:=gB.ld; omega);rw [gB.nQ,gB.dQ] at hA;refine opP func168 ntmps168 (hp3:=rfl) ?_;simp only [resQ,qA,ratA,digA] at hO hA ⊢;simp (maxSteps:=10^6)+contextual(disch:=try exact dqd)only[ev1,simprocAttr,Ca,Bo,Cb,results168,hO,hA]
theorem Ajp (p1:Bool) (l1:List Int) (q1:Bool) (r1:List Int) (p2:Bool) (l2:List Int) (q2:Bool) (r2:List Int) (h1:l1.length<=1000000) (h2:r1.length<=1000000) (h3:l2.length<=1000000) (h4:r2.length<=1000000) :
  cL prog 186 [ratA p1 l1 q1 r1,ratA p2 l2 q2 r2] S tk k=some (.int (cmpZ (nQ p1 l1 q1 r1*dQ p2 l2 q2 r2) (nQ p2 l2 q2 r2*dQ p1 l1 q1 r1)),S,tk,k):=by
 have hA:=fun S tk k=>H1 S tk k p1 l1 q1 r1 h1 h2;have hB:=fun S tk k=>R7 S tk k p2 l2 q2 r2 h3 h4;have gA:=Gf p1 l1 q1 r1;have gB:=(Gf p2 l2 q2 r2).neg;generalize nQ p1 l1 q1 r1=a at *;generalize dQ p1 l1 q1 r1=b at *;generalize nQ p2 l2 q2 r2=c at *;generalize dQ p2 l2 q2 r2=d at *;refine opP func186 ntmps186 (hp3:=rfl) ?_;have l1:=gA.ln;have l2:=gA.ld;have l3:=gB.ln;have l4:=gB.ld;have ba:=fun S tk k=>Ep S tk k a d aA aA;have ah:=fun S tk k=>Ep S tk k (-c) b aA aA;have m1:=D8 l1 l4;have m2:=D8 l3 l2;have hP:=fun S tk k=>Aab S tk k (a*d) (-c*b) aA aA;have e:a*d+-c*b=a*d - c*b:=by rw [Rp]; omega
 rw [e] at hP;simp only [zA,bigA,digA] at ba ah hP;simp only [qA,ratA,digA] at hA hB;generalize a*d=x at *;generalize c*b=y at *;by_cases g1:x=y
 ·have d0:dig (x - y).natAbs=[]:=by rw [g1]; simp [Bp]
  have d1:(((dig (x - y).natAbs).length:Int) == 0)=true:=by rw [d0]; rfl
  rw [Adl g1];exact Ya07
 ·have d1:(((dig (x - y).natAbs).length:Int) == 0)=false:=by
   have:dig (x - y).natAbs≠[]:=fun e=>Za5u
   exact Ya1n
  by_cases g2:x<y
  ·have d2:decide (x - y<0)=true:=aC
   rw [d2] at hP;rw [Adn g2];exact Ya07
  ·have d2:decide (x - y<0)=false:=aC
   rw [d2] at hP;rw [Adm aA];exact Ya07
end
end
section
open Go
theorem T3 {n d:Int} (hd:d≠0):(lowN n d).natAbs.gcd (lowD n d).natAbs=1:=by
 rw [Rr,show (lowD n d).natAbs=d.natAbs / n.natAbs.gcd d.natAbs from rfl];have hg:0<n.natAbs.gcd d.natAbs:=Iv _ aA;rw [Nat.gcd_div (Nat.gcd_dvd_left _ _) (Nat.gcd_dvd_right _ _)];exact Nat.div_self hg
theorem Ql {n d:Int} (hd:d≠0):0<lowD n d:=by
 have hg:0<n.natAbs.gcd d.natAbs:=Iv _ aA;have h2:n.natAbs.gcd d.natAbs<=d.natAbs:=kJ _ aA;have:=Nat.div_pos h2 hg;unfold lowD; omega
theorem Mb {n d:Int} (hd:d≠0):lowN n d*d=n*lowD n d:=by
 have hg:0<n.natAbs.gcd d.natAbs:=Iv _ aA;obtain ⟨g,hgd⟩:∃ g:Nat,g=n.natAbs.gcd d.natAbs:=⟨_,rfl⟩;have h1:(g:Int) ∣ n:=by rw [hgd]; exact Int.ofNat_dvd_left.2 (Nat.gcd_dvd_left _ _)
 have h2:(g:Int) ∣ d:=by rw [hgd]; exact Int.ofNat_dvd_left.2 (Nat.gcd_dvd_right _ _)
 obtain ⟨a,ha⟩:=h1;obtain ⟨b,hb⟩:=h2;have kt:(g:Int)≠0:=aA
 have hN:lowN n d=if d<0 then -a else a:=by
  unfold lowN;rw [<- hgd];split
  ·rw [ha,Int.neg_tdiv,Int.mul_tdiv_cancel_left _ kt]
  ·rw [ha,Int.mul_tdiv_cancel_left _ kt]
 have hD:lowD n d=if d<0 then -b else b:=by
  unfold lowD;rw [<- hgd];have:d.natAbs=g*b.natAbs:=by rw [hb,Iq]; simp
  rw [this,Nat.mul_div_cancel_left _ aA];have hs:d<0↔b<0:=by
   rw [hb];constructor
   ·intro h;rcases Int.lt_or_le b 0 with h'|h'
    ·exact h'
    ·have:=Ox (show (0:Int)<=g by omega) h'; omega
   ·intro h;exact Int.mul_neg_of_pos_of_neg aA h
  exact Ya3v
 rw [hN,hD];generalize (g:Int)=G at *;subst ha hb;split
 ·rw [Rp,Int.mul_neg,<- H9,Fy a G]
 ·rw [<- H9,Fy a G]
theorem Qm {a b c d:Int} (hb:0<b) (hd:0<d) (h1:a.natAbs.gcd b.natAbs=1) (h2:c.natAbs.gcd d.natAbs=1) (h:a*d=c*b):a=c/\b=d:=by
 have e:=congrArg Int.natAbs h;rw [Iq,Iq] at e;have k1:d.natAbs ∣ b.natAbs:=(Nat.Coprime.dvd_of_dvd_mul_left (Nat.Coprime.symm h2) ⟨a.natAbs,by rw [<- e,I5]⟩);have k2:b.natAbs ∣ d.natAbs:=(Nat.Coprime.dvd_of_dvd_mul_left (Nat.Coprime.symm h1) ⟨c.natAbs,by rw [e,I5]⟩);have wb:b.natAbs=d.natAbs:=Nat.dvd_antisymm k2 k1;have a33:b=d:=aA
 subst a33;exact ⟨Int.eq_of_mul_eq_mul_right aA h,rfl⟩
theorem J2.low {n d:Int} (h:J2 n d):lowN n d=n/\lowD n d=d:=by
 have hd:=h.pos;exact Qm (Ql aA) hd (T3 aA) h.cop (Mb aA)
theorem Awt {n d n' d':Int} (hd:d≠0) (d8:d'≠0) (h:n*d'=n'*d):lowN n d=lowN n' d'/\lowD n d=lowD n' d':=by
 refine Qm (Ql hd) (Ql d8) (T3 hd) (T3 d8) ?_;have h1:=Mb (n:=n) hd;have h2:=Mb (n:=n') d8;have h3:(lowN n d*lowD n' d')*(d*d')=(lowN n' d'*lowD n d)*(d*d'):=by
  generalize lowN n d=a at *;generalize lowD n d=b at *;generalize lowN n' d'=a' at *;generalize lowD n' d'=b' at *;have e1:(a*b')*(d*d')=(n*d')*(b*b'):=by
   have:(a*b')*(d*d')=(a*d)*(b'*d'):=aL
   rw [this,h1]; grind
  have e2:(a'*b)*(d*d')=(n'*d)*(b*b'):=by
   have:(a'*b)*(d*d')=(a'*d')*(b*d):=aL
   rw [this,h2]; grind
  rw [e1,e2,h]
 exact Int.eq_of_mul_eq_mul_right (Ik hd d8) h3
theorem At1 {n d n' d':Int} (hd:d≠0) (d8:d'≠0) (h:n*d'=n'*d):Ez n d=Ez n' d'/\resN n d=resN n' d'/\resD n d=resD n' d':=by
 obtain ⟨h1,h2⟩:=Awt hd d8 h;have hf:Ez n d=Ez n' d':=by
  unfold Ez;rw [h1,h2];simp [hd,d8]
 exact ⟨hf,by unfold resN; rw [hf,h1],by unfold resD; rw [hf,h2]⟩
theorem Adx {n d:Int} (h:Ez n d=true):d≠0:=by
 unfold Ez at h;simp at h;exact h.1.1
theorem Ag2 {n d:Int} (h:Ez n d=true):J2 (resN n d) (resD n d):=by
 have hd:=Adx h;unfold resN resD;rw [h];simp only [if_true];refine ⟨Ql hd,T3 hd,?_,?_⟩
 ·unfold Ez okZ at h; simp at h; exact h.1.2
 ·unfold Ez okZ at h; simp at h; exact h.2
theorem Anm {n d:Int} (h:Ez n d=true):resN n d*d=n*resD n d:=by
 have hd:=Adx h;unfold resN resD;rw [h];exact Mb hd
theorem J2.fits {n d:Int} (h:J2 n d):Ez n d=true/\resN n d=n/\resD n d=d:=by
 obtain ⟨h1,h2⟩:=h.low;have hf:Ez n d=true:=by
  unfold Ez okZ;rw [h1,h2];have:=h.pos;simp only [Ch,Ig,decide_eq_false_iff_not,decide_eq_true_eq];have h8:=h.ln;have h9:=h.ld;exact ⟨⟨aA,aA⟩,aA⟩
 exact ⟨hf,by unfold resN; rw [hf,h1]; rfl,by unfold resD; rw [hf,h2]; rfl⟩
theorem Aq8 {n d:Int} (h:Ez n d=false):resN n d=0/\resD n d=0:=by
 unfold resN resD; rw [h];exact Ya4c
abbrev Q:=Int × Int
structure Fld where
 whole:Int->Q × Bool
 minus:Q->Q->Q × Bool
 times:Q->Q->Q × Bool
 over:Q->Q->Q × Bool
 ok:Q->Prop
 rat:Q->Q
 stop:Bool
def sgn (a:Q):Int:=if a.1<0 then -1 else if 0<a.1 then 1 else 0
def bigF (n d:Int):Bool:=decide (n<=-2147483648) || decide (n >= 2147483648) || decide (d >= 2147483648) || decide (d=0)
def qn (n d:Int):Q × Bool:=if bigF (lowN n d) (lowD n d)=true then ((0,1),true) else ((lowN n d,lowD n d),false)
def okS (a:Q):Prop:=-2147483648<a.1/\a.1<2147483648/\0<a.2/\a.2<2147483648
def QQ.qF:Fld where
 whole n:=if n<=-2147483648\/n >= 2147483648 then ((0,1),true) else ((n,1),false)
 minus a b:=qn (a.1*b.2 - b.1*a.2) (a.2*b.2)
 times a b:=qn (a.1*b.1) (a.2*b.2)
 over a b:=if b.1=0 then ((0,1),true) else qn (a.1*b.2) (a.2*b.1)
 ok:=okS
 rat a:=(resN a.1 a.2,resD a.1 a.2)
 stop:=true
def wn (n d:Int):Q × Bool:=((resN n d,resD n d),!Ez n d)
def qz (a:Q):Q:=if a.2=0 then (0,1) else a
def okW (a:Q):Prop:=J2 a.1 a.2\/a=(0,0)
def WW.qF:Fld where
 whole n:=((n,1),false)
 minus a b:=wn ((qz a).1*(qz b).2+-(qz b).1*(qz a).2) ((qz a).2*(qz b).2)
 times a b:=wn ((qz a).1*(qz b).1) ((qz a).2*(qz b).2)
 over a b:=wn ((qz a).1*(qz b).2) ((qz a).2*(qz b).1)
 ok:=okW
 rat a:=a
 stop:=false
theorem Abo:J2 0 1:=⟨aJ,rfl,aQ,aQ⟩
theorem Axb {n d:Int} (h:J2 n d):qz (n,d)=(n,d):=by
 have:=h.pos;unfold qz; rw [if_neg bM]
theorem qz_n {a:Q} (h:okW a):nQ (decide (a.1<0)) (dig a.1.natAbs) (decide (a.2<0)) (dig a.2.natAbs)=(qz a).1/\dQ (decide (a.1<0)) (dig a.1.natAbs) (decide (a.2<0)) (dig a.2.natAbs)=(qz a).2:=by
 rcases h with h|rfl
 ·obtain ⟨n,d⟩:=a;rw [Axb h];exact ⟨h.nQ,h.dQ⟩
 ·refine ⟨?_,?_⟩ <;> decide +kernel
theorem Gz {a:Q} (h:okW a):(dig a.1.natAbs).length<=200/\(dig a.2.natAbs).length<=200:=by
 rcases h with h|rfl
 ·exact ⟨h.ln,h.ld⟩
 ·refine ⟨?_,?_⟩ <;> decide +kernel
theorem Axj {a:Q} (h:okW a):sgn (qz a)=sgn a:=by
 rcases h with h|rfl
 ·obtain ⟨n,d⟩:=a;rw [Axb h]
 ·rfl
theorem Au5 (n d:Int):okW (wn n d).1:=by
 unfold wn;cases h:Ez n d with
 | true=>exact .inl (Ag2 h)
 | false=>obtain ⟨h1,h2⟩:=Aq8 h; rw [h1,h2]; exact .inr rfl
theorem Ain (n d:Int):0<=lowD n d:=Od _
theorem Aq2 (n d:Int):okS (qn n d).1:=by
 unfold qn bigF;split
 ·exact ⟨aJ,aJ,aJ,aJ⟩
 ·rename_i h;simp only [Io,decide_eq_true_eq] at h;have:=Ain n d;refine ⟨?_,?_,?_,?_⟩ <;> simp only <;> omega
structure Fld.Keeps (F:Fld):Prop where
 whole:∀ n,i64 n->F.ok (F.whole n).1
 minus:∀ a b,F.ok a->F.ok b->F.ok (F.minus a b).1
 times:∀ a b,F.ok a->F.ok b->F.ok (F.times a b).1
 over:∀ a b,F.ok a->F.ok b->F.ok (F.over a b).1
theorem QQ.Du:QQ.qF.Keeps:=by
 refine ⟨fun n _=>?_,fun a b _ _=>Aq2 _ _,fun a b _ _=>Aq2 _ _,fun a b _ _=>?_⟩
 ·simp only [QQ.qF];split
  ·exact ⟨aJ,aJ,aJ,aJ⟩
  ·refine ⟨?_,?_,?_,?_⟩ <;> simp only <;> omega
 ·simp only [QQ.qF];split
  ·exact ⟨aJ,aJ,aJ,aJ⟩
  ·exact Aq2 _ _
theorem WW.Du:WW.qF.Keeps:=by
 refine ⟨fun n hn=>.inl ?_,fun a b _ _=>Au5 _ _,fun a b _ _=>Au5 _ _,fun a b _ _=>Au5 _ _⟩;simp only [WW.qF];have h1:(dig (1:Int).natAbs).length<=200:=aQ
 refine ⟨by simp,by simp,?_,h1⟩;refine A9.2 ?_;unfold i64 at hn;exact Ya33
end
section
open Go Tryz
set_option maxHeartbeats 4000000
set_option maxRecDepth 100000
def frA (a:Q):AV:=.agg [.int a.1,.int a.2]
def QQ.flS (S:List Ent) (iq eq:Nat) (b:Bool):List Ent:=bif b then put S iq ⟨eq,[.prim (.bool true)]⟩ else S
theorem G0 {S:List Ent} {iq eq:Nat} : QQ.flS S iq eq false=S:=rfl
theorem Bi {S:List Ent} {iq eq:Nat} : QQ.flS S iq eq true=put S iq ⟨eq,[.prim (.bool true)]⟩:=rfl
theorem QQ.Br {S:List Ent} {iq eq:Nat} {b:Bool} : (QQ.flS S iq eq b).length=S.length:=by
 cases b
 ·rfl
 ·exact Am
theorem Bb {S:List Ent} {iq eq j:Nat} {b:Bool} (h:j≠iq):nth (QQ.flS S iq eq b) j=nth S j:=by
 cases b
 ·rfl
 ·exact Ae h.symm
theorem A7 {S:List Ent} {i e:Nat} {cs:List AV} (h:entAt S i e=some cs):i<S.length:=by
 obtain ⟨x,h1,-⟩:=Ds h;exact Bl h1
theorem Dm {α:Type} {l:List α} {i:Nat} {v:α} (h:i<l.length):nth (put l i v) i=some v:=by
 induction l generalizing i with
 | nil=>simp at h
 | cons x l ih=>cases i with
  | zero=>rfl
  | succ i=>exact ih aO
theorem Ah {S:List Ent} {i e:Nat} {cs:List AV} (h:i<S.length):entAt (put S i ⟨e,cs⟩) i e=some cs:=by
 simp [entAt,Dm h]
theorem Ai {S:List Ent} {i j e:Nat} {x:Ent} (h:i≠j):entAt (put S i x) j e=entAt S j e:=by
 simp [entAt,Ae h]
theorem Ac {S S':List Ent} {j e:Nat} (h:nth S' j=nth S j):entAt S' j e=entAt S j e:=by simp [entAt,h]
theorem Alq {S:List Ent} {iq eq:Nat} {b c:Bool} (h:entAt S iq eq=some [.prim (.bool b)]):entAt (QQ.flS S iq eq c) iq eq=some [.prim (.bool (b || c))]:=by
 cases c
 ·rw [G0,F5]; exact h
 ·rw [Bi,Ah (A7 h),Bool.or_true]
theorem Awl {S:List Ent} {iq eq:Nat} {b c:Bool} (h:entAt S iq eq=some [.prim (.bool b)]):gO S (QQ.flS S iq eq c)=some ():=by
 refine Al2 ⟨QQ.Br,fun j=>?_⟩;by_cases e:j=iq
 ·subst e;obtain ⟨x,h1,h2,h3⟩:=Ds h;obtain ⟨ep,cs⟩:=x;simp only at h2 h3;subst h2 h3;cases c
  ·exact .inl rfl
  ·exact .inr ⟨_,b,true,h1,Dm (Bl h1)⟩
 ·exact .inl (Bb e)
theorem Ad {S:List Ent} {L:List Ent} {i e:Nat} {cs:List AV} (h:entAt S i e=some cs):entAt (S++L) i e=some cs:=by
 have hl:=A7 h;unfold entAt at h ⊢;rw [Af] at h ⊢;rw [Cy hl]; exact h
theorem Dq {S L:List Ent} {i:Nat} {x:Ent} (h:i<S.length):put (S++L) i x=put S i x++L:=by
 induction S generalizing i with
 | nil=>simp at h
 | cons y S ih=>cases i with
  | zero=>rfl
  | succ i=>simp only [Co,put,ih aO]
theorem Yy {S L:List Ent} {iq eq:Nat} {b:Bool} (h:iq<S.length):QQ.flS (S++L) iq eq b=QQ.flS S iq eq b++L:=by
 cases b
 ·rfl
 ·exact Dq h
theorem Ji {S L:List Ent} : (S++L).take S.length=S:=by simp
theorem An {S:List Ent} {n k:Nat} {cs:List AV} (h:S.length=n):entAt (S++[⟨k,cs⟩]) n k=some cs:=by subst h; exact Bm
theorem De {S:List Ent} {n:Nat} {e e':Ent} (h:S.length=n):put (S++[e]) n e'=S++[e']:=by subst h; exact put_new
theorem Ky {S L:List Ent} {n:Nat} (h:S.length=n):(S++L).take n=S:=by subst h; exact Ji
theorem Bc (x:Int) (g:Nat):(x.tdiv g).natAbs<=x.natAbs:=by
 rw [kQ]; exact Ou _ _
theorem Aq1 (n d:Int) (hn:n.natAbs<9223372036854775808) (hd:d.natAbs<9223372036854775808) (g:Nat) (hg:g=n.natAbs.gcd d.natAbs) (N:Int) (D:Nat) (hN:N=if d<0 then -n else n) (hD:D=d.natAbs) :
  lowN n d=(if 1<g then N.tdiv (g:Int) else N)/\lowD n d=(if 1<g then (D:Int).tdiv (g:Int) else (D:Int)):=by
 subst hN hD;have hNn:(if d<0 then -n else n).natAbs=n.natAbs:=by split <;> omega
 unfold lowN lowD;rw [<- hg];by_cases h1:1<g
 ·rw [if_pos h1,if_pos h1];exact ⟨rfl,by rw [Cz aA]; rfl⟩
 ·rw [if_neg h1,if_neg h1];rcases Ia 0 g with h0|h0
  ·have:g=1:=aA
   subst this;exact ⟨by simp,by simp⟩
  ·have h00:g=0:=aA
   rw [h00] at hg;have ha:=Nat.gcd_eq_zero_iff.1 hg.symm;have ek:n=0:=aA
   have de:d=0:=aA
   subst ek; subst de;exact ⟨by simp,by simp⟩
section
variable (S:List Ent) (tk:List Nat) (k iq eq:Nat) (b:Bool)
theorem Mk (n d:Int) (hn:n.natAbs<9223372036854775808) (hd:d.natAbs<9223372036854775808) (hq:entAt S iq eq=some [.prim (.bool b)]):cL prog 223 [.ref iq eq 0,.int n,.int d] S tk k=some (frA (qn n d).1,QQ.flS S iq eq (qn n d).2,tk,k+1):=by
 have b6:=A7 hq;have b9:entAt (S++[⟨k,[.prim (.int .i64 0),.prim (.int .i64 0)]⟩]) iq eq=some [.prim (.bool b)]:=Ad hq;refine opS func223 ntmps223 ?_;obtain ⟨N,hN⟩:∃ N,N=if d<0 then -n else n:=⟨_,rfl⟩
 obtain ⟨D,hD⟩:∃ D:Nat,D=d.natAbs:=⟨_,rfl⟩;obtain ⟨g,hg⟩:∃ g:Nat,g=n.natAbs.gcd d.natAbs:=⟨_,rfl⟩;have hNn:N.natAbs=n.natAbs:=by subst hN; split <;> omega
 obtain ⟨f1,f2⟩:=Aq1 n d hn hd g hg N D hN hD;obtain ⟨r,hr⟩:∃ r,r=qn n d:=⟨_,rfl⟩;have ae:=hr;unfold qn bigF at ae;rw [f1,f2] at ae;rw [<- hr];have eh:(put S iq ⟨eq,[.prim (.bool true)]⟩).length=S.length:=Am;have hE:=fun cs=>An (k:=k) (cs:=cs) eh;have hP:=fun e e'=>De (e:=e) (e':=e') eh;have hT:=fun L=>Ky (L:=L) eh;have hA:=fun L x=>Dq (L:=L) (x:=x) b6;by_cases hneg:d<0
 ·have d1:decide (d<0)=true:=bA
  have w1':B8.wrap (0 - n)=N:=by rw [hN,if_pos hneg,Aa aD]; omega
  have w2':B8.wrap (0 - d)=((D:Nat):Int):=by rw [hD,Aa aD]; omega
  by_cases ek:N<0
  ·have d2:decide (N<0)=true:=cK
   have w3':B8.wrap (0 - N)=((N.natAbs:Nat):Int):=aP
   simp (maxSteps:=10^6)+contextual(disch:=try exact dqd)only[evs0,simprocAttr,Ca,Bo,Cb,results223,d1,w1',w2',d2,w3'];refine Vq (P:=prog) (fun x st=>st.T.length=56/\(x.1.gcd x.2=g)/\(x.1<9223372036854775808)/\(x.2<9223372036854775808)/\getT st.T 0=.ref iq eq 0/\getT st.T 1=.int N/\getT st.T 2=.int (D:Nat)/\getT st.T 6=.ref S.length k 0/\getT st.T 7=.int (x.1:Nat)/\getT st.T 8=.int (x.2:Nat)/\st.S=S++[⟨k,[.int 0,.int 0]⟩]/\st.tk=tk/\st.n=k+1) (fun x=>x.2) (fun x=>(frA r.1,QQ.flS S iq eq r.2,tk,k+1)) (N.natAbs,D) ?_ ?_;case refine_2=>exact ⟨rfl,cX,aA,aA,rfl,rfl,rfl,rfl,rfl,rfl,rfl,rfl,rfl⟩
   rintro ⟨x,y⟩ ⟨T,S',tk',n'⟩ ⟨hl,gg,hx,hy,e0,e1,e2,e6,e7,e8,eS,eT,eN⟩ IH;simp only at gg hx hy e0 e1 e2 e6 e7 e8 eS eT eN;subst eS eT eN;obtain ⟨g,hg,hT⟩:=Ap hl;rw [hg] at e0 e1 e2 e6 e7 e8;subst hT;clear hg hl;by_cases h0:y=0
   ·subst h0;have c1:(((0:Nat):Int) != 0)=false:=rfl;rw [I6] at gg;subst gg;by_cases h1:1<x
    ·rw [if_pos h1,if_pos h1] at ae;have c2:decide ((x:Int) > 1)=true:=aC
     have hz:¬ ((x:Int)=0):=aA
     have v1:=Bc N x;have v2:=Bc (D:Int) x;have w5:B8.wrap (N.tdiv (x:Int))=N.tdiv (x:Int):=Aa aD;have w6:B8.wrap ((D:Int).tdiv (x:Int))=(D:Int).tdiv (x:Int):=Aa aD;by_cases b1:N.tdiv (x:Int)<=-2147483648
     ·have k1:decide (N.tdiv (x:Int)<=-2147483648)=true:=bC
      exact Yah
     have k1:decide (N.tdiv (x:Int)<=-2147483648)=false:=bC
     by_cases b2:N.tdiv (x:Int) >= 2147483648
     ·have k2:decide (N.tdiv (x:Int) >= 2147483648)=true:=bD
      exact Yag
     have k2:decide (N.tdiv (x:Int) >= 2147483648)=false:=bD
     exact Ya1
    ·rw [if_neg h1,if_neg h1] at ae;have c2:decide ((x:Int) > 1)=false:=aC
     by_cases b1:N<=-2147483648
     ·have k1:decide (N<=-2147483648)=true:=bC
      exact Yaj
     have k1:decide (N<=-2147483648)=false:=bC
     by_cases b2:N >= 2147483648
     ·have k2:decide (N >= 2147483648)=true:=bD
      exact Yai
     have k2:decide (N >= 2147483648)=false:=bD
     exact Ya2
   ·exact Ya8
  ·have d2:decide (N<0)=false:=cK
   simp (maxSteps:=10^6)+contextual(disch:=try exact dqd)only[evs0,simprocAttr,Ca,Bo,Cb,results223,d1,w1',w2',d2];obtain ⟨M,hM⟩:∃ M:Nat,N=M:=⟨N.natAbs,aA⟩;exact Ya0
 ·have d1:decide (d<0)=false:=bA
  have a1f:n=N:=by rw [hN,if_neg hneg]
  have hDd:d=(D:Int):=aA
  subst a1f;subst hDd;by_cases ek:n<0
  ·have d2:decide (n<0)=true:=cK
   have w3':B8.wrap (0 - n)=((n.natAbs:Nat):Int):=aP
   simp (maxSteps:=10^6)+contextual(disch:=try exact dqd)only[evs0,simprocAttr,Ca,Bo,Cb,results223,d1,d2,w3'];refine Vq (P:=prog) (fun x st=>st.T.length=56/\(x.1.gcd x.2=g)/\(x.1<9223372036854775808)/\(x.2<9223372036854775808)/\getT st.T 0=.ref iq eq 0/\getT st.T 1=.int n/\getT st.T 2=.int (D:Nat)/\getT st.T 6=.ref S.length k 0/\getT st.T 7=.int (x.1:Nat)/\getT st.T 8=.int (x.2:Nat)/\st.S=S++[⟨k,[.int 0,.int 0]⟩]/\st.tk=tk/\st.n=k+1) (fun x=>x.2) (fun x=>(frA r.1,QQ.flS S iq eq r.2,tk,k+1)) (n.natAbs,D) ?_ ?_;case refine_2=>exact ⟨rfl,cX,aA,aA,rfl,rfl,rfl,rfl,rfl,rfl,rfl,rfl,rfl⟩
   rintro ⟨x,y⟩ ⟨T,S',tk',n'⟩ ⟨hl,gg,hx,hy,e0,e1,e2,e6,e7,e8,eS,eT,eN⟩ IH;simp only at gg hx hy e0 e1 e2 e6 e7 e8 eS eT eN;subst eS eT eN;obtain ⟨g,hg,hT⟩:=Ap hl;rw [hg] at e0 e1 e2 e6 e7 e8;subst hT;clear hg hl;by_cases h0:y=0
   ·subst h0;have c1:(((0:Nat):Int) != 0)=false:=rfl;rw [I6] at gg;subst gg;by_cases h1:1<x
    ·rw [if_pos h1,if_pos h1] at ae;have c2:decide ((x:Int) > 1)=true:=aC
     have hz:¬ ((x:Int)=0):=aA
     have v1:=Bc n x;have v2:=Bc (D:Int) x;have w5:B8.wrap (n.tdiv (x:Int))=n.tdiv (x:Int):=Aa aD;have w6:B8.wrap ((D:Int).tdiv (x:Int))=(D:Int).tdiv (x:Int):=Aa aD;by_cases b1:n.tdiv (x:Int)<=-2147483648
     ·have k1:decide (n.tdiv (x:Int)<=-2147483648)=true:=bC
      exact Yah
     have k1:decide (n.tdiv (x:Int)<=-2147483648)=false:=bC
     by_cases b2:n.tdiv (x:Int) >= 2147483648
     ·have k2:decide (n.tdiv (x:Int) >= 2147483648)=true:=bD
      exact Yag
     have k2:decide (n.tdiv (x:Int) >= 2147483648)=false:=bD
     exact Ya1
    ·rw [if_neg h1,if_neg h1] at ae;have c2:decide ((x:Int) > 1)=false:=aC
     by_cases b1:n<=-2147483648
     ·have k1:decide (n<=-2147483648)=true:=bC
      exact Yaj
     have k1:decide (n<=-2147483648)=false:=bC
     by_cases b2:n >= 2147483648
     ·have k2:decide (n >= 2147483648)=true:=bD
      exact Yai
     have k2:decide (n >= 2147483648)=false:=bD
     exact Ya2
   ·exact Ya8
  ·have d2:decide (n<0)=false:=cK
   simp (maxSteps:=10^6)+contextual(disch:=try exact dqd)only[evs0,simprocAttr,Ca,Bo,Cb,results223,d1,d2];obtain ⟨M,hM⟩:∃ M:Nat,n=M:=⟨n.natAbs,aA⟩;exact Ya0
end
end
section
open Go Tryz
theorem Pf {a b:Int} (ha:a.natAbs<2147483648) (hb:b.natAbs<2147483648):(a*b).natAbs<4611686018427387904:=by
 rw [Iq];exact Nat.mul_lt_mul'' ha hb
theorem Pe {a:Q} (h:okS a):a.1.natAbs<2147483648/\a.2.natAbs<2147483648:=by
 obtain ⟨h1,h2,h3,h4⟩:=h;omega
theorem new3a {S:List Ent} {e2 e3:Ent} {k:Nat} {c:List AV} : entAt (S++[⟨k,c⟩]++[e2]++[e3]) S.length k=some c:=Ad (Ad Bm)
theorem new3b {S:List Ent} {e1 e3:Ent} {k:Nat} {c:List AV} : entAt (S++[e1]++[⟨k,c⟩]++[e3]) (S++[e1]).length k=some c:=Ad Bm
theorem new3c {S S':List Ent} {e1 e2 x1 x2:Ent} {k:Nat} {c:List AV} (h:S'.length=S.length):entAt (S'++[e1]++[e2]++[⟨k,c⟩]) (S++[x1]++[x2]).length k=some c:=An cF
theorem put3c {S S':List Ent} {e1 e2 x1 x2 e e':Ent} (h:S'.length=S.length):put (S'++[e1]++[e2]++[e]) (S++[x1]++[x2]).length e'=S'++[e1]++[e2]++[e']:=De cF
theorem take3 {S S':List Ent} {e1 e2 e3:Ent} (h:S'.length=S.length):(S'++[e1]++[e2]++[e3]).take S.length=S':=by rw [<- h]; simp
theorem flS3 {S:List Ent} {e1 e2 e3:Ent} {iq eq:Nat} {b:Bool} (h:iq<S.length):QQ.flS (S++[e1]++[e2]++[e3]) iq eq b=QQ.flS S iq eq b++[e1]++[e2]++[e3]:=by
 rw [Yy aC,Yy aC,Yy h]
theorem new1a {S:List Ent} {k:Nat} {c:List AV} : entAt (S++[⟨k,c⟩]) S.length k=some c:=Bm
section
variable (S:List Ent) (tk:List Nat) (k iq eq:Nat) (fl:Bool)
theorem Aeh (a b:Q) (ha:okS a) (hb:okS b) (hq:entAt S iq eq=some [.prim (.bool fl)]):cL prog 217 [.ref iq eq 0,frA a,frA b] S tk k=some (frA (QQ.qF.minus a b).1,QQ.flS S iq eq (QQ.qF.minus a b).2,tk,k+4):=by
 obtain ⟨su,o7⟩:=Pe ha;obtain ⟨hb1,hb2⟩:=Pe hb;obtain ⟨an,ad⟩:=a;obtain ⟨bn,bd⟩:=b;simp only at su o7 hb1 hb2;have p1:=Pf su hb2;have p2:=Pf hb1 o7;have p3:=Pf o7 hb2;have p4:=Pf su hb1;have p5:=Pf o7 hb1;have v1:B8.wrap (an*bd)=an*bd:=Aa aD;have v2:B8.wrap (bn*ad)=bn*ad:=Aa aD;have v3:B8.wrap (ad*bd)=ad*bd:=Aa aD;have v4:B8.wrap (an*bn)=an*bn:=Aa aD;have v5:B8.wrap (ad*bn)=ad*bn:=Aa aD;have v6:B8.wrap (an*bd - bn*ad)=an*bd - bn*ad:=Aa aD;have b6:=A7 hq;have hq3:entAt (S++[⟨k,[.int an,.int ad]⟩]++[⟨k+1,[.int bn,.int bd]⟩]++[⟨k+1+1,[.int 0,.int 0]⟩]) iq eq=some [.prim (.bool fl)]:=Ad (Ad (Ad hq));refine opS func217 ntmps217 ?_;have hN:=Mk _ tk (k+1+1+1) iq eq fl (an*bd - bn*ad) (ad*bd) aA aA hq3;rw [flS3 b6] at hN;have eh:=QQ.Br (S:=S) (iq:=iq) (eq:=eq) (b:=(qn (an*bd - bn*ad) (ad*bd)).2);simp only [frA] at hN;simp (maxSteps:=10^6)+contextual(disch:=try exact dqd)only[evs0,simprocAttr,Ca,Bo,Cb,results217,frA,v1,v2,v3,v6,hN,new3a,new3b,new3c eh,put3c eh,take3 eh,QQ.qF]
theorem Aei (a b:Q) (ha:okS a) (hb:okS b) (hq:entAt S iq eq=some [.prim (.bool fl)]):cL prog 221 [.ref iq eq 0,frA a,frA b] S tk k=some (frA (QQ.qF.times a b).1,QQ.flS S iq eq (QQ.qF.times a b).2,tk,k+4):=by
 obtain ⟨su,o7⟩:=Pe ha;obtain ⟨hb1,hb2⟩:=Pe hb;obtain ⟨an,ad⟩:=a;obtain ⟨bn,bd⟩:=b;simp only at su o7 hb1 hb2;have p1:=Pf su hb2;have p2:=Pf hb1 o7;have p3:=Pf o7 hb2;have p4:=Pf su hb1;have p5:=Pf o7 hb1;have v1:B8.wrap (an*bd)=an*bd:=Aa aD;have v2:B8.wrap (bn*ad)=bn*ad:=Aa aD;have v3:B8.wrap (ad*bd)=ad*bd:=Aa aD;have v4:B8.wrap (an*bn)=an*bn:=Aa aD;have v5:B8.wrap (ad*bn)=ad*bn:=Aa aD;have v6:B8.wrap (an*bd - bn*ad)=an*bd - bn*ad:=Aa aD;have b6:=A7 hq;have hq3:entAt (S++[⟨k,[.int an,.int ad]⟩]++[⟨k+1,[.int bn,.int bd]⟩]++[⟨k+1+1,[.int 0,.int 0]⟩]) iq eq=some [.prim (.bool fl)]:=Ad (Ad (Ad hq));refine opS func221 ntmps221 ?_;have hN:=Mk _ tk (k+1+1+1) iq eq fl (an*bn) (ad*bd) aA aA hq3;rw [flS3 b6] at hN;have eh:=QQ.Br (S:=S) (iq:=iq) (eq:=eq) (b:=(qn (an*bn) (ad*bd)).2);simp only [frA] at hN;simp (maxSteps:=10^6)+contextual(disch:=try exact dqd)only[evs0,simprocAttr,Ca,Bo,Cb,results221,frA,v3,v4,hN,new3a,new3b,new3c eh,put3c eh,take3 eh,QQ.qF]
def QQ.Abs (b:Q):Nat:=if b.1=0 then 3 else 4
theorem Aix (a b:Q) (ha:okS a) (hb:okS b) (hq:entAt S iq eq=some [.prim (.bool fl)]):cL prog 218 [.ref iq eq 0,frA a,frA b] S tk k=some (frA (QQ.qF.over a b).1,QQ.flS S iq eq (QQ.qF.over a b).2,tk,k+QQ.Abs b):=by
 obtain ⟨su,o7⟩:=Pe ha;obtain ⟨hb1,hb2⟩:=Pe hb;obtain ⟨an,ad⟩:=a;obtain ⟨bn,bd⟩:=b;simp only at su o7 hb1 hb2;have p1:=Pf su hb2;have p2:=Pf hb1 o7;have p3:=Pf o7 hb2;have p4:=Pf su hb1;have p5:=Pf o7 hb1;have v1:B8.wrap (an*bd)=an*bd:=Aa aD;have v2:B8.wrap (bn*ad)=bn*ad:=Aa aD;have v3:B8.wrap (ad*bd)=ad*bd:=Aa aD;have v4:B8.wrap (an*bn)=an*bn:=Aa aD;have v5:B8.wrap (ad*bn)=ad*bn:=Aa aD;have v6:B8.wrap (an*bd - bn*ad)=an*bd - bn*ad:=Aa aD;have b6:=A7 hq;have hq3:entAt (S++[⟨k,[.int an,.int ad]⟩]++[⟨k+1,[.int bn,.int bd]⟩]++[⟨k+1+1,[.int 0,.int 0]⟩]) iq eq=some [.prim (.bool fl)]:=Ad (Ad (Ad hq));refine opS func218 ntmps218 ?_;by_cases hz:bn=0
 ·have d1:(bn == 0)=true:=cW
  have c9:QQ.qF.over (an,ad) (bn,bd)=((0,1),true):=by simp [QQ.qF,hz]
  have hko:QQ.Abs (bn,bd)=3:=by simp [QQ.Abs,hz]
  have ed:∀ e1 e2 e3,put (S++[e1]++[e2]++[e3]) iq ⟨eq,[.prim (.bool true)]⟩=QQ.flS S iq eq true++[e1]++[e2]++[e3]:=fun e1 e2 e3=>flS3 (b:=true) b6;have eh:=QQ.Br (S:=S) (iq:=iq) (eq:=eq) (b:=true);rw [c9,hko];simp (maxSteps:=10^6)+contextual(disch:=try exact dqd)only[evs0,simprocAttr,Ca,Bo,Cb,results218,frA,d1,hq3,ed,new3a,new3b,new3c eh,put3c eh,take3 eh]
 ·have d1:(bn == 0)=false:=cW
  have c9:QQ.qF.over (an,ad) (bn,bd)=qn (an*bd) (ad*bn):=by simp [QQ.qF,hz]
  have hko:QQ.Abs (bn,bd)=4:=by simp [QQ.Abs,hz]
  have hN:=Mk _ tk (k+1+1+1) iq eq fl (an*bd) (ad*bn) aA aA hq3;rw [flS3 b6] at hN;have eh:=QQ.Br (S:=S) (iq:=iq) (eq:=eq) (b:=(qn (an*bd) (ad*bn)).2);simp only [frA] at hN;rw [c9,hko];simp (maxSteps:=10^6)+contextual(disch:=try exact dqd)only[evs0,simprocAttr,Ca,Bo,Cb,results218,frA,d1,v1,v5,hN,new3a,new3b,new3c eh,put3c eh,take3 eh]
theorem Aej (n:Int) (hq:entAt S iq eq=some [.prim (.bool fl)]):cL prog 222 [.ref iq eq 0,.int n] S tk k=some (frA (QQ.qF.whole n).1,QQ.flS S iq eq (QQ.qF.whole n).2,tk,k+1):=by
 have b6:=A7 hq;have b9:entAt (S++[⟨k,[.int 0,.int 0]⟩]) iq eq=some [.prim (.bool fl)]:=Ad hq;have eh:(put S iq ⟨eq,[.prim (.bool true)]⟩).length=S.length:=Am;have hE:=fun cs=>An (k:=k) (cs:=cs) eh;have hP:=fun e e'=>De (e:=e) (e':=e') eh;have hT:=fun L=>Ky (L:=L) eh;have hA:=fun L x=>Dq (L:=L) (x:=x) b6;refine opS func222 ntmps222 ?_;by_cases b1:n<=-2147483648
 ·have k1:decide (n<=-2147483648)=true:=bC
  have hr:QQ.qF.whole n=((0,1),true):=by simp [QQ.qF,b1]
  rw [hr];simp (maxSteps:=10^6)+contextual(disch:=try exact dqd)only[evs0,simprocAttr,Ca,Bo,Cb,results222,frA,Bi,k1,b9,hE,hP,hT,hA]
 have k1:decide (n<=-2147483648)=false:=bC
 by_cases b2:n >= 2147483648
 ·have k2:decide (n >= 2147483648)=true:=bD
  have hr:QQ.qF.whole n=((0,1),true):=by simp only [QQ.qF]; rw [if_pos (.inr b2)]
  rw [hr];simp (maxSteps:=10^6)+contextual(disch:=try exact dqd)only[evs0,simprocAttr,Ca,Bo,Cb,results222,frA,Bi,k1,k2,b9,hE,hP,hT,hA]
 have k2:decide (n >= 2147483648)=false:=bD
 have hr:QQ.qF.whole n=((n,1),false):=by simp only [QQ.qF]; rw [if_neg aA]
 rw [hr];simp (maxSteps:=10^6)+contextual(disch:=try exact dqd)only[evs0,simprocAttr,Ca,Bo,Cb,results222,frA,G0,k1,k2,b9]
theorem Aiy (a:Q) (hq:entAt S iq eq=some [.prim (.bool fl)]):cL prog 220 [.ref iq eq 0,frA a] S tk k=some (.int (sgn a),S,tk,k+1):=by
 obtain ⟨an,ad⟩:=a;refine opS func220 ntmps220 ?_;by_cases h1:an<0
 ·have k1:decide (an<0)=true:=aY
  have hr:sgn (an,ad)=-1:=by simp [sgn,h1]
  rw [hr];simp (maxSteps:=10^6)+contextual(disch:=try exact dqd)only[evs0,simprocAttr,Ca,Bo,Cb,results220,frA,k1,new1a,Ji]
 have k1:decide (an<0)=false:=aY
 by_cases h2:an > 0
 ·have k2:decide (an > 0)=true:=cA
  have hr:sgn (an,ad)=1:=by simp only [sgn]; rw [if_neg h1,if_pos h2]
  exact Ya1b
 have k2:decide (an > 0)=false:=cA
 have hr:sgn (an,ad)=0:=by simp only [sgn]; rw [if_neg h1,if_neg h2]
 exact Ya1b
theorem Aeg (hq:entAt S iq eq=some [.prim (.bool fl)]):cL prog 216 [.ref iq eq 0] S tk k=some (.bool (!fl),S,tk,k):=by
 refine opS func216 ntmps216 ?_;simp (maxSteps:=10^6)+contextual(disch:=try exact dqd)only[evs0,simprocAttr,Ca,Bo,Cb,results216,hq]
theorem Of_z (n d:Int) (hn:(dig n.natAbs).length<=200) (hd:(dig d.natAbs).length<=200):cL prog 224 [zA n,zA d] S tk k=some (resQ n d,S,tk,k):=by
 have h:=Axc S tk k (decide (n<0)) (dig n.natAbs) (decide (d<0)) (dig d.natAbs) aA aA;unfold ofQ at h;rw [V_of _ hn,V_of _ hd] at h;by_cases h0:D1 (decide (n<0)) (dig n.natAbs)=true
 ·rw [if_pos h0] at h; exact h
 ·exact absurd (Uc n hn) h0
theorem digS {n:Int} (h:n.natAbs<2147483648):(dig n.natAbs).length<=200:=by
 refine A9.2 ?_;exact Ya33
theorem Wy (a:Q) (ha:okS a) (_:entAt S iq eq=some [.prim (.bool fl)]):cL prog 219 [.ref iq eq 0,frA a] S tk k=some (qA (resN a.1 a.2) (resD a.1 a.2),S,tk,k+3):=by
 obtain ⟨su,o7⟩:=Pe ha;obtain ⟨an,ad⟩:=a;simp only at su o7;have h1:=fun S tk k=>R9 S tk k an aD;have h2:=fun S tk k=>R9 S tk k ad aD;have h3:=fun S tk k=>Of_z S tk k an ad (digS su) (digS o7);simp only [zA,bigA,digA] at h1 h2 h3;simp only [resQ,qA,ratA,digA] at h3 ⊢;refine opS func219 ntmps219 ?_;simp (maxSteps:=10^6)+contextual(disch:=try exact dqd)only[evs1,simprocAttr,Ca,Bo,Cb,results219,frA,digA,h1,h2,h3,new1a,Ji];rw [take3 rfl]
end
end
end Go.Proofs.YthelkgdmgihhiaaGreat
