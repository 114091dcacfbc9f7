/- Part 17. -/
import Derived.OpenShut
import Derived.ChangeArms
import Derived.Test.YtcandeobhlfkbaaGreatZF16
open And renaming intro->Bu
open Bool renaming and_eq_true->Ch,false_eq_true->C8,false_and->Fk,true_and->Fs,or_false->Fv,or_eq_true->F8,not_eq_true'->Ir,false_ne_true->Ob,not_true->Sz,not_false->T3,eq_iff_iff->iI,or_true->iN
open Go.Addr renaming add->iB
open Go.DataW renaming trod->gE,Trod->gU
open Go.IntKind renaming i64->Cf,u64->Sp
open Go.Proofs.YtcandeobhlfkbaaGreat.AV renaming bool->Cb,int->Cd,str->Ce
open Go.Value renaming int->Sl,oneCell'->S8
open Go.World renaming cell?->Fz
open Int renaming tdiv_eq_ediv_of_nonneg->Fp,mul_comm->F6,natAbs_mul->Ie,mul_assoc->Ii,tmod_eq_emod_of_nonneg->Iq,mul_ne_zero->Iw,reduceNeg->Ou,mul_add->Ow,mul_zero->Su,add_zero->gI,add_assoc->gZ,neg_mul->iD,mul_nonneg->iX
open List renaming replicate->Ci,length_cons->Ck,mem_cons->Cn,map_cons->Cp,cons_append->Cr,getElem?_append_left->Ct,all_eq_true->Cv,nil_append->Cw,mem_append->C4,getElem?_append_right->C6,getElem?_eq_none->C9,range->De,length_eq_zero_iff->Fh,map_nil->Fi,drop_length->Fo,drop_eq_nil_of_le->Ft,getElem?_map->Fw,flatten_cons->Fx,getElem?_cons_zero->F2,append_nil->F4,drop_zero->F7,mem_map->F9,map_append->Ij,mem_of_getElem?->Ik,getElem?_eq_getElem->Il,mem_replicate->Im,getElem?_take->Iu,length_pos_iff->Lo,take_append_drop->Mh,drop_append->fP,set_append_right->gK,mem_of_mem_take->iE
open List.cons renaming injEq->I6
open Nat renaming le_refl->Cc,zero_le->Co,le_trans->Fb,lt_of_lt_of_le->Ff,zero_add->Fg,lt_or_ge->F3,reduceAdd->I2,reduceSub->I3,sub_self->I4,lt_of_le_of_lt->I5,reduceEqDiff->I8,reduceLeDiff->I9,gcd_pos_of_pos_right->M4,add_zero->M9,succ_mul->Od,reduceBEq->Oq,reduceMul->Ot,strongRecOn->Oy,zero_mul->O0,mul_comm->O1,reduceLT->O2,div_le_self->Se,add_mul->Sg,pow_succ->Ss,gcd_zero_right->Sv,add_right_cancel_iff->fW,eq_zero_or_pos->gF,mod_lt->gT,gcd_le_right->gV,add_assoc->gY
open Ne renaming symm->Oo
open Option renaming map_eq_some_iff->Ca,map_some->C3,bind_eq_some_iff->Ig
open Option.some renaming injEq->A2
open Prod.mk renaming injEq->Cg
namespace Go.Proofs.YtcandeobhlfkbaaGreat
section
open Go
inductive Sh (P:Program):TypeId->List AV->Prop
 | bool {t b} : P.underlying t=some .bool->Sh P t [.prim (.bool b)]
 | int {t k n} : P.underlying t=some (.int k)->(Lit.int k n).wf=true->Sh P t [.prim (.int k n)]
 | str {t s} : P.underlying t=some .string->s.size<=maxLen->Sh P t [.prim (.string s)]
 | slice {t e es} : P.underlying t=some (.slice e)->(∀ x ∈ es,Sh P e x)->es.length<=maxLen->Sh P t [.frz es .unk]
 | struct {t fs} {pss:List (List AV)} : P.underlying t=some (.struct fs)->pss.length=fs.size->(∀ i f p,fs[i]?=some f->nth pss i=some p->Sh P f.type p)->Sh P t pss.flatten
 | array {t n e} {pss:List (List AV)} : P.underlying t=some (.array n e)->pss.length=n->(∀ p ∈ pss,Sh P e p)->Sh P t pss.flatten
def Zd (P:Program):List Field->Nat->Nat->Bool
 | [],o,n=>o == n
 | f :: fs,o,n=>f.offset == o && Zd P fs (o+P.cellsOf f.type) n
def Alg (P:Program) (F:List TypeId) (t:TypeId):Bool :=
 match P.underlying t with
 | some .bool=>true
 | some (.int k)=>k != .u64
 | some .string=>true
 | some (.slice e)=>F.contains e && decide (0<P.cellsOf e)
 | some (.struct fs)=>Zd P fs.toList 0 (P.cellsOf t) && fs.toList.all fun f=>F.contains f.type
 | some (.array n e)=>F.contains e && P.cellsOf t == n*P.cellsOf e
 | _=>false
def Abi (P:Program) (F:List TypeId):Bool:=F.all (Alg P F)
def R4:AV->Bool
 | .prim (.int k _)=>k != .u64
 | .prim _=>true
 | .frz _ _=>true
 | _=>false
theorem Aof {w:World} {A:Nat->Nat->Prop} {b:Nat} : ∀ (vs:List Value) (o:Nat),(∀ j v,nth vs j=some v->w.cell? ⟨b,o+j,none⟩=some v/\¬ A b (o+j))->Lie w A b o vs
 | [],_,_=>trivial
 | v :: vs,o,h=>by
  have h0:=h 0 v rfl;refine ⟨h0.1,h0.2,Aof vs (o+1) fun j u hu=>?_⟩;have:=h (j+1) u hu;rwa [show o+(j+1)=o+1+j by omega] at this
theorem Ac1 {w:World} {A:Nat->Nat->Prop} {b sz:Nat} : ∀ (es:List (List AV)) (o:Nat),(∀ i e,nth es i=some e->e.length=sz/\∃ vs,Lie w A b (o+i*sz) vs/\PRs w A e vs)->Bf w A b sz o es
 | [],_,_=>by simp only [Bf]
 | e :: es,o,h=>by
  simp only [Bf];have h0:=h 0 e rfl;rw [O0,M9] at h0;refine ⟨h0.1,h0.2,Ac1 es (o+sz) fun i f hf=>?_⟩;have:=h (i+1) f hf;exact Ya3e
theorem Aa8 {w:World} {A:Nat->Nat->Prop} : ∀ {cs ds:List AV} {us vs:List Value},PRs w A cs us->PRs w A ds vs->PRs w A (cs++ds) (us++vs)
 | [],_,[],_,_,h=>h
 | _ :: _,_,_ :: _,_,h1,h2=>by simp only [PRs,Cr] at h1 ⊢; exact ⟨h1.1,Aa8 h1.2 h2⟩
 | [],_,_ :: _,_,h1,_=>by simp only [PRs] at h1
 | _ :: _,_,[],_,h1,_=>by simp only [PRs] at h1
theorem Ad3 {w:World} {A:Nat->Nat->Prop} : ∀ {cs:List AV} {vs:List Value},PRs w A cs vs->(∀ c ∈ cs,R4 c=true)->∀ v ∈ vs,∀ n,v≠.int .u64 n
 | [],[],_,_,v,hv=>by simp at hv
 | c :: cs,x :: vs,h,hg,v,hv=>by
  simp only [PRs] at h;rcases Cn.1 hv with rfl|hv
  ·intro n e;subst e;have hc:=hg c (by simp);have hp:=h.1;cases c with
   | prim y=>simp only [PR] at hp; rw [<- hp.1] at hc; simp [R4] at hc
   | frz es q=>cases q <;> simp only [PR] at hp; obtain ⟨a,l,q,e,-⟩:=hp; cases e
   | _=>simp [R4] at hc
  ·exact Ad3 h.2 (fun d hd=>hg d (by simp [hd])) v hv
 | [],_ :: _,h,_,_,_=>bL
 | _ :: _,[],h,_,_,_=>bL
theorem Ab2 {α β:Type} {f:α->Option β} : ∀ {l:List α} {ys:List β},l.mapM f=some ys->ys.length=l.length/\∀ i x y,nth l i=some x->nth ys i=some y->f x=some y
 | [],ys,h=>by simp at h; subst h; exact ⟨rfl,fun i x y hx=>by simp [nth] at hx⟩
 | a :: l,ys,h=>by
  rw [List.mapM_cons] at h;simp only [Option.pure_def,Option.bind_eq_bind,Ig] at h;obtain ⟨b,hb,bs,p6,e⟩:=h;simp only [A2] at e;subst e;obtain ⟨h1,h2⟩:=Ab2 p6;refine ⟨dR,fun i x y hx hy=>?_⟩;cases i with
  | zero=>simp only [nth,A2] at hx hy; subst hx hy; exact hb
  | succ i=>exact h2 i x y hx hy
theorem Aai {n i:Nat} (h:i<n):nth (De n) i=some i:=by rw [Ae,List.getElem?_range h]
theorem Amm {w:World} {b off n:Nat} {vs:List Value} (h:w.cells? 0 ⟨b,off,none⟩ n=some vs):vs.length=n/\∀ j v,nth vs j=some v->w.cell? ⟨b,off+j,none⟩=some v:=by
 unfold World.cells? at h;rw [if_pos (Co _)] at h;obtain ⟨h1,h2⟩:=Ab2 h;rw [List.length_range] at h1;refine ⟨h1,fun j v hv=>?_⟩;have hj:j<n:=by have:=Bh hv; omega
 have:=h2 j j v (Aai hj) hv;unfold iB at this;split at this
 ·rename_i h0; subst h0; exact this
 ·exact this
theorem spot0 {w:World} {a:Addr} {v:Value} (h:w.cell? a=some v):a.spot=none:=by
 unfold Fz at h;split at h
 ·split at h
  ·cases h
  ·rename_i hs; simpa using hs
 ·cases h
section
variable {H:Type} {enc:TypeId × Value->H} {P:Program} {w:World} {sp:Nat->Bool} {iu:Bool} {A:Nat->Nat->Prop} {F:List TypeId}
def Rd (P:Program) (w:World) (A:Nat->Nat->Prop) (t:TypeId) (cs:List Value) (avs:List AV):Prop:=Sh P t avs/\PRs w A avs cs/\∀ c ∈ avs,R4 c=true
theorem Zm {n:Nat} {cs:List Value} (ih:∀ t ds x,t ∈ F->gE enc P w 0 sp iu n t ds=some x->∃ avs,Rd P w A t ds avs) :
  ∀ (fs:List Field) (o:Nat) (xs:List (DataW H × List MemPlace)),Zd P fs o cs.length=true->(∀ f ∈ fs,f.type ∈ F)->xs.length=fs.length ->
   (∀ i f,nth fs i=some f->gE enc P w 0 sp iu n f.type ((cs.drop f.offset).take (P.cellsOf f.type))=nth xs i) ->
   ∃ pss:List (List AV),pss.length=fs.length/\(∀ i f p,nth fs i=some f->nth pss i=some p->Sh P f.type p)/\PRs w A pss.flatten (cs.drop o)/\∀ c ∈ pss.flatten,R4 c=true
 | [],o,xs,hc,_,_,_=>by
  simp only [Zd,beq_iff_eq] at hc;exact ⟨[],rfl,fun i f p hf=>by simp [nth] at hf,by rw [hc,Fo]; simp only [List.flatten_nil,PRs],by simp⟩
 | f :: fs,o,xs,hc,hF,hl,h=>by
  simp only [Zd,Ch,beq_iff_eq] at hc;obtain ⟨ho,hc⟩:=hc;cases xs with
  | nil=>simp at hl
  | cons x xs =>
  have h0:=h 0 f rfl;obtain ⟨avs,s1,p1,g1⟩:=ih _ _ _ (hF f (by simp)) h0;obtain ⟨pss,l2,s2,p2,g2⟩:=Zm ih fs (o+P.cellsOf f.type) xs hc (fun g hg=>hF g (by simp [hg])) bP fun i g hg=>h (i+1) g hg;refine ⟨avs :: pss,by simp [l2],fun i g p hg hp=>?_,?_,?_⟩
  ·cases i with
   | zero=>simp only [nth,A2] at hg hp; subst hg hp; exact s1
   | succ i=>exact s2 i g p hg hp
  ·rw [ho] at p1;have e:cs.drop o=(cs.drop o).take (P.cellsOf f.type)++cs.drop (o+P.cellsOf f.type):=by
    rw [<- List.drop_drop,Mh]
   rw [e,Fx];exact Aa8 p1 p2
  ·intro c hc;exact Ya1m
theorem Adr {n sz:Nat} {e:TypeId} {cs:List Value} (ih:∀ t ds x,t ∈ F->gE enc P w 0 sp iu n t ds=some x->∃ avs,Rd P w A t ds avs) (he:e ∈ F) :
  ∀ (k o:Nat),cs.length=o+k*sz->(∀ i,i<k->∃ x,gE enc P w 0 sp iu n e ((cs.drop (o+i*sz)).take sz)=some x) ->
   ∃ pss:List (List AV),pss.length=k/\(∀ p ∈ pss,Sh P e p)/\PRs w A pss.flatten (cs.drop o)/\∀ c ∈ pss.flatten,R4 c=true
 | 0,o,hl,_=>⟨[],rfl,by simp,by rw [Ft aA]; simp only [List.flatten_nil,PRs],by simp⟩
 | k+1,o,hl,h=>by
  obtain ⟨x,h0⟩:=h 0 aA;rw [O0,M9] at h0;obtain ⟨avs,s1,p1,g1⟩:=ih _ _ _ he h0;obtain ⟨pss,l2,s2,p2,g2⟩:=Adr (sz:=sz) ih he k (o+sz) (by rw [hl,Sg]; omega) fun i hi=>by
   have:=h (i+1) aA;exact Ya3e
  refine ⟨avs :: pss,by simp [l2],fun p hp=>?_,?_,?_⟩
  ·rcases Cn.1 hp with rfl|hp
   ·exact s1
   ·exact s2 p hp
  ·have e:cs.drop o=(cs.drop o).take sz++cs.drop (o+sz):=by rw [<- List.drop_drop,Mh]
   rw [e,Fx];exact Aa8 p1 p2
  ·intro c hc;exact Ya1m
theorem Alf (hF:Abi P F=true) (hA:∀ b o v,A b o->w.cell? ⟨b,o,none⟩=some v->∃ n,v=.int .u64 n):∀ (fuel:Nat) (t:TypeId) (cs:List Value) (x:DataW H × List MemPlace),t ∈ F->gE enc P w 0 sp iu fuel t cs=some x->∃ avs,Rd P w A t cs avs
 | 0,_,_,_,_,h=>by simp [gE] at h
 | n+1,t,cs,x,ht,h=>by
  have fv:Alg P F t=true:=Cv.1 hF t ht;have ih:∀ t ds x,t ∈ F->gE enc P w 0 sp iu n t ds=some x->∃ avs,Rd P w A t ds avs:=fun t ds x ht h=>Alf hF hA n t ds x ht h;unfold Alg at fv;split at fv
  ·rename_i hu;obtain ⟨b,rfl,-⟩:=DataW.trod_bool hu h;exact ⟨[.prim (.bool b)],.bool hu,Za30,by simp [R4]⟩
  ·rename_i k hu;obtain ⟨q,rfl,-,hw⟩:=DataW.trod_int hu h;exact ⟨[.prim (.int k q)],.int hu hw,Za30,by simpa [R4] using fv⟩
  ·rename_i hu;obtain ⟨s,rfl,-,hw⟩:=DataW.trod_string hu h;exact ⟨[.prim (.string s)],.str hu hw,Za30,by simp [R4]⟩
  ·rename_i e hu;simp only [Ch,decide_eq_true_eq] at fv;obtain ⟨fv,hpos⟩:=fv;have he:e ∈ F:=by simpa using fv
   rcases DataW.trod_slice hu h with ⟨rfl,-⟩|⟨a,len,cap,elems,rest,n',hn,rfl,-,-,hl,hcap,hel,hi,-,-⟩
   ·exact ⟨[.frz [] .unk],.slice hu (by simp) (by simp),by simp only [PRs,PR,and_true]; exact ⟨none,0,0,rfl,rfl,Cc _,.inl trivial⟩,by simp [R4]⟩
   ·simp only [fW] at hn;subst hn;have gn:∀ i,i<len->∃ vs avs,w.cells? 0 (a.add (i*P.cellsOf e)) (P.cellsOf e)=some vs/\Rd P w A e vs avs:=fun i a8=>by
     have h1:=hi i a8;rw [Il aA] at h1;obtain ⟨vs,h2,h3⟩:=Ig.1 h1;obtain ⟨avs,h4⟩:=ih _ _ _ he h3;exact ⟨vs,avs,h2,h4⟩
    have ua:∃ es:List (List AV),es.length=len/\∀ i av,nth es i=some av->∃ vs,w.cells? 0 (a.add (i*P.cellsOf e)) (P.cellsOf e)=some vs/\Rd P w A e vs av:=by
     clear hi hel hl hcap h;induction len with
     | zero=>exact ⟨[],rfl,fun i av db=>by simp [nth] at db⟩
     | succ len ihl =>
      obtain ⟨es,l1,l2⟩:=ihl fun i a8=>gn i aA;obtain ⟨vs,avs,h1,h2⟩:=gn len aA;refine ⟨es++[avs],by simp [l1],fun i av db=>?_⟩;rw [Ae] at db;rcases F3 i len with hlt|f9
      ·rw [Ct aA,<- Ae] at db; exact l2 i av db
      ·rw [C6 aA,l1] at db;have:i - len=0:=by
        rcases gF (i - len) with h0|h0
        ·exact h0
        ·rw [C9 aB] at db; cases db
       rw [this] at db;have e1:i=len:=aA
       simp only [F2,A2] at db;subst db e1;exact ⟨vs,h1,h2⟩
    obtain ⟨es,l1,l2⟩:=ua;refine ⟨[.frz es .unk],.slice hu (fun x hx=>?_) aA,?_,by simp [R4]⟩
    ·obtain ⟨i,hx⟩:=List.mem_iff_getElem?.1 hx;obtain ⟨vs,-,h1,-⟩:=l2 i x (by rw [Ae]; exact hx);exact h1
    ·simp only [PRs,PR,and_true];refine ⟨some a,len,cap,rfl,l1,hl,?_⟩;by_cases hlen:es=[]
     ·exact .inl hlen
     right;have ie:0<len:=by
      rcases gF len with h0|h0
      ·rw [h0] at l1; exact absurd (Fh.1 l1) hlen
      ·exact h0
     obtain ⟨b,off,spt⟩:=a;have pf:spt=none:=by
      obtain ⟨vs,avs,h1,-⟩:=gn 0 ie;rw [O0] at h1;unfold World.cells? at h1;rw [if_pos (Co _)] at h1;obtain ⟨h2,h3⟩:=Ab2 h1;rw [List.length_range] at h2;obtain ⟨v,hv⟩:=Af (l:=vs) (i:=0) aA;have h4:=h3 0 0 v (Aai hpos) hv;exact spot0 (a:=(⟨b,off,spt⟩:Addr)) h4
     subst pf;have zt:∀ i,(⟨b,off,none⟩:Addr).add i=⟨b,off+i,none⟩:=fun i=>by
      unfold iB;split
      ·rename_i h0; rw [h0]; rfl
      ·rfl
     refine ⟨b,off,P.cellsOf e,rfl,Ac1 es off fun i av db=>?_⟩;obtain ⟨vs,h1,sw,l9,hgd⟩:=l2 i av db;rw [zt] at h1;obtain ⟨h2,h3⟩:=Amm h1;refine ⟨by rw [Lp l9,h2],vs,Aof vs _ fun j v hv=>⟨h3 j v hv,fun ha=>?_⟩,l9⟩;obtain ⟨q,hq⟩:=hA _ _ v ha (h3 j v hv);exact Ad3 l9 hgd v (Ik (by rw [Ae] at hv; exact hv)) q hq
  ·rename_i fs hu;simp only [Ch] at fv;obtain ⟨xs,n',hn,-,hlen,hxl,hi⟩:=DataW.trod_struct hu h;simp only [fW] at hn;subst hn;rw [<- hlen] at fv;obtain ⟨pss,l1,l2,l3,l4⟩:=Zm ih fs.toList 0 xs fv.1 (fun f hf=>by simpa using Cv.1 fv.2 f hf) (by simpa using hxl) fun i f hf=>by
    rw [Ae] at hf ⊢;exact hi i f cZ
   rw [F7] at l3;exact ⟨pss.flatten,.struct hu (by simpa using l1) (fun i f p hf hp=>l2 i f p (by rw [Ae]; simpa using hf) hp),l3,l4⟩
  ·rename_i k e hu;simp only [Ch,beq_iff_eq] at fv;obtain ⟨fv,hsz⟩:=fv;have he:e ∈ F:=by simpa using fv
   obtain ⟨xs,n',hn,-,hlen,hxl,hi⟩:=DataW.trod_array hu h;simp only [fW] at hn;subst hn;obtain ⟨pss,l1,l2,l3,l4⟩:=Adr (sz:=P.cellsOf e) ih he k 0 (by rw [hlen,hsz]; omega) fun i nq=>by
    have:=hi i nq;rw [Il aA] at this;rw [Fg];exact ⟨_,this⟩
   rw [F7] at l3;exact ⟨pss.flatten,.array hu l1 l2,l3,l4⟩
  ·cases fv
theorem Aqg (hF:Abi P F=true) (hA:∀ b o v,A b o->w.cell? ⟨b,o,none⟩=some v->∃ n,v=.int .u64 n) {t:TypeId} {v:Value} {d:DataW H} {p:List MemPlace} (ht:t ∈ F) (h:gU enc P w 0 sp iu t v d p):∃ avs,Sh P t avs/\PRs w A avs v.cells.toList:=by
 obtain ⟨fuel,hf⟩:=h;obtain ⟨avs,h1,h2,-⟩:=Alf hF hA fuel t _ _ ht hf;exact ⟨avs,h1,h2⟩
theorem Aqx {t:TypeId} {avs:List AV} (hu:P.underlying t=some .bool) (h:Sh P t avs):∃ b,avs=[.prim (.bool b)]:=by
 cases h <;> rename_i h <;> rw [hu] at h <;> cases h;exact ⟨_,rfl⟩
theorem As9 {t:TypeId} {avs:List AV} (hu:P.underlying t=some .string) (h:Sh P t avs):∃ s:ByteArray,avs=[.prim (.string s)]/\s.size<=maxLen:=by
 cases h with
 | str _ h=>exact ⟨_,rfl,h⟩
 | bool h|int h|slice h|struct h|array h=>rw [hu] at h; cases h
theorem Ao2 {t:TypeId} {k:IntKind} {avs:List AV} (hu:P.underlying t=some (.int k)) (h:Sh P t avs):∃ n,avs=[.prim (.int k n)]/\(Lit.int k n).wf=true:=by
 cases h with
 | int h h'=>rw [hu] at h; cases h; exact ⟨_,rfl,h'⟩
 | bool h|str h|slice h|struct h|array h=>rw [hu] at h; cases h
theorem Ae1 {t e:TypeId} {avs:List AV} (hu:P.underlying t=some (.slice e)) (h:Sh P t avs):∃ es,avs=[.frz es .unk]/\(∀ x ∈ es,Sh P e x)/\es.length<=maxLen:=by
 cases h with
 | slice h h' hl=>rw [hu] at h; cases h; exact ⟨_,rfl,h',hl⟩
 | bool h|str h|int h|struct h|array h=>rw [hu] at h; cases h
theorem Aky {t:TypeId} {fs:Array Field} {avs:List AV} (hu:P.underlying t=some (.struct fs)) (h:Sh P t avs):∃ pss:List (List AV),avs=pss.flatten/\pss.length=fs.size/\∀ i f p,fs[i]?=some f->nth pss i=some p->Sh P f.type p:=by
 cases h with
 | struct h h1 h2=>rw [hu] at h; cases h; exact ⟨_,rfl,h1,h2⟩
 | bool h|str h|int h|slice h|array h=>rw [hu] at h; cases h
theorem Pv {t:TypeId} {f0 f1:Field} {avs:List AV} (hu:P.underlying t=some (.struct #[f0,f1])) (h:Sh P t avs):∃ p0 p1,avs=p0++p1/\Sh P f0.type p0/\Sh P f1.type p1:=by
 obtain ⟨pss,rfl,hl,hp⟩:=Aky hu h;match pss,hl with
 | [p0,p1],_=>exact ⟨p0,p1,by simp,hp 0 f0 p0 rfl rfl,hp 1 f1 p1 rfl rfl⟩
theorem Aj1 {α:Type} {f:α->List AV} {Q:α->Prop} : ∀ {es:List (List AV)},(∀ x ∈ es,∃ c,x=f c/\Q c)->∃ cs:List α,es=cs.map f/\∀ c ∈ cs,Q c
 | [],_=>⟨[],rfl,by simp⟩
 | x :: es,h=>by
  obtain ⟨c,hc,hq⟩:=h x (by simp);obtain ⟨cs,h1,h2⟩:=Aj1 (es:=es) fun y hy=>h y dE;exact ⟨c :: cs,by rw [h1,hc]; rfl,fun d hd=>by
   rcases Cn.1 hd with rfl|hd
   ·exact hq
   ·exact h2 d hd⟩
theorem Asq {C:Cx} {c:AV} {v:Value} (hv:v.cells.toList=[v]) (h:PRs C.w C.Avoid [c] v.cells.toList):VR C c v:=by
 rw [hv] at h; simp only [PRs,and_true] at h; exact Wa h
end
end
section
open Go Tryz Go.RowKit
theorem Lie.other {w:World} {A A':Nat->Nat->Prop} {b:Nat} (h:∀ o,¬ A' b o):∀ {vs:List Value} {o:Nat},Lie w A b o vs->Lie w A' b o vs
 | [],_,_=>trivial
 | _ :: _,_,⟨h1,_,h3⟩=>⟨h1,h _,Lie.other h h3⟩
theorem Bf.other {w:World} {A A':Nat->Nat->Prop} {b:Nat} (h:∀ o,¬ A' b o):∀ (l:List Int) (o:Nat),Bf w A b 1 o (l.map digC)->Bf w A' b 1 o (l.map digC)
 | [],_,_=>Za37
 | x :: l,o,hr=>by
  simp only [Cp,Bf] at hr ⊢;obtain ⟨h1,⟨vs,h2,h3⟩,h4⟩:=hr;refine ⟨h1,⟨vs,h2.other h,?_⟩,Bf.other h l _ h4⟩;match vs,h3 with
  | [v],h3 =>
   simp only [digC,PRs,PR,and_true] at h3 ⊢;exact h3
theorem Arj {C:Cx} (hs:SR C) {l:List Int} {c:Cap} {v:Value} (h:VR C (.frz (l.map digC) c) v):RD C.w v l:=by
 simp only [VR] at h;obtain ⟨a,len,cap,rfl,h1,h2,-,h4⟩:=h;simp only [RD,digA,VR];refine ⟨a,len,cap,rfl,h1,h2,trivial,h4.imp id ?_⟩;rintro ⟨b,o,sz,ea,hr⟩;exact ⟨b,o,sz,ea,Bf.stays (A:=C.Avoid) (fun b' o' v hv ha=>⟨hv,V1⟩) b sz o _ hr⟩
theorem Yp {C:Cx} (hs:SR C) {w':World} {v:Value} {l:List Int} (h:RD w' v l) (hn:NewB C.w.heap.size v):VR (C.at w') (digA l) v:=by
 obtain ⟨a,cap,rfl,h2,hc⟩:=Lq h;by_cases hl:l=[]
 ·subst hl;simp only [digA,Fi,VR];exact ⟨a,0,cap,rfl,rfl,Co _,trivial,.inl trivial⟩
 ·simp only [RD,digA,VR] at h ⊢;obtain ⟨a',len,cap',e,h1,h3,-,h4⟩:=h;refine ⟨a',len,cap',e,h1,h3,trivial,.inr ?_⟩;rcases h4 with h4|⟨b,o,sz,ea,hr⟩
  ·exact absurd eV hl
  ·have hsz:sz=1:=by
    cases l with
    | nil=>exact absurd rfl hl
    | cons y l=>simp only [Cp,Bf,digC] at hr; exact hr.1.symm
   subst hsz;subst ea;have hb:=hn b o _ _ e;exact ⟨b,o,1,rfl,Bf.other (fun o' ha=>by
    rcases ha with ha|ha
    ·have:=hs.avlt b o' ha; omega
    ·have:=Aed hs (show C.Mut b o' from ha); omega) l o hr⟩
theorem Ao5 {C:Cx} {vs:Array Value} (hs:SR C) (l r:List Int) (c d:Cap) (hl:l=dig (val l).toNat) (hr:r=dig (val r).toNat) (bw:r≠[]) (h1:l.length<=90000) (h2:r.length<=90000) (hv:VRs C [.frz (l.map digC) c,.frz (r.map digC) d] vs.toList) :
  Calls prog 174 vs C.w fun e w'=>∃ v C',e=.returned v/\C'.w=w'/\Le C C'/\SR C'/\C'.S=C.S/\C'.tk=C.tk/\C'.n=C.n/\VR C' (.tup [digA (dig ((val l).toNat / (val r).toNat)),digA (dig ((val l).toNat % (val r).toNat))]) v:=by
 obtain ⟨vl⟩:=vs;match vl,hv with
 | [x,y],hv =>
 simp only [VRs,and_true] at hv;obtain ⟨hx,hy⟩:=hv;have hb0:0<(val r).toNat:=by
  rcases gF (val r).toNat with h|h
  ·rw [h,Dv] at hr; exact absurd hr bw
  ·exact h
 have qe:0<C.w.heap.size:=by
  simp only [VR] at hy;obtain ⟨a,len,cap,rfl,h1,h2,-,h4⟩:=hy;rcases h4 with h4|⟨b,o,sz,rfl,hr⟩
  ·exact absurd eV bw
  ·cases r with
   | nil=>exact absurd rfl bw
   | cons z r =>
    simp only [Cp,Bf,digC] at hr;obtain ⟨-,⟨vs,m6,hp⟩,-⟩:=hr;match vs,hp with
    | [u],_=>exact I5 (Co _) (Ea m6.1)
 refine (Aaq C.w x y (val l).toNat (val r).toNat qe (by rw [<- hl]; exact Arj hs hx) (by rw [<- hr]; exact Arj hs hy) hb0 (by rw [<- hl]; exact h1) (by rw [<- hr]; exact h2)).mono ?_;rintro e w' ⟨v1,v2,rfl,g1,g2,hb,n1,n2⟩;refine ⟨_,C.at w',rfl,rfl,Le.of_below hb,SR.of_below hs hb,rfl,rfl,rfl,?_⟩;unfold VR;refine ⟨_,rfl,?_⟩;simp only [VRs,and_true];refine ⟨Yp hs g1 n1,?_⟩;rcases n2 with ⟨rfl,e2⟩|n2
 ·rw [e2,<- hl];have xi:=VR.mono (Le.of_below hb) _ _ hx;simp only [digA,VR] at xi ⊢;obtain ⟨a,len,cap,q1,q2,q3,-,q4⟩:=xi;exact ⟨a,len,cap,q1,q2,q3,trivial,q4⟩
 ·exact Yp hs g2 n2
theorem Mn:∀ {es:List (List AV)} {l:List Int},P2 es=some l->es=l.map digC
 | [],l,h=>by simp only [P2,A2] at h; subst h; rfl
 | e :: es,l,h=>by
  unfold P2 at h;split at h
  ·rename_i he; simp at he
  ·rename_i x r he;simp only [I6] at he;obtain ⟨rfl,rfl⟩:=he;simp only [Ca] at h;obtain ⟨l',h1,rfl⟩:=h;rw [Mn h1]; rfl
  ·simp at h
theorem Anq {l r:List Int} {v:AV} (h:quoF l r=some v):l=dig (val l).toNat/\r=dig (val r).toNat/\r≠[]/\l.length<=90000/\r.length<=90000/\v=.tup [digA (dig ((val l).toNat / (val r).toNat)),digA (dig ((val l).toNat % (val r).toNat))]:=by
 unfold quoF at h;split at h
 ·rename_i hh;simp only [A2] at h;exact ⟨hh.1,hh.2.1,hh.2.2.1,hh.2.2.2.1,hh.2.2.2.2,h.symm⟩
 ·simp at h
theorem Xr {args:List AV} {S:List Ent} {tk:List Nat} {n:Nat} {r:AV} {S':List Ent} {tk':List Nat} {n':Nat} (h:quoC args S tk n=some (r,S',tk',n')):∃ l y c d,args=[.frz (l.map digC) c,.frz (y.map digC) d]/\quoF l y=some r/\S'=S/\tk'=tk/\n'=n:=by
 unfold quoC at h;split at h
 ·rename_i es c ys d;split at h
  ·rename_i l y hl hy;split at h
   ·rename_i v hv;simp only [A2,Cg] at h;obtain ⟨rfl,rfl,rfl,rfl⟩:=h;exact ⟨l,y,c,d,by rw [Mn hl,Mn hy],hv,rfl,rfl,rfl⟩
   ·simp at h
  ·simp at h
 ·simp at h
theorem X8 {args:List AV} {S:List Ent} {tk:List Nat} {n:Nat} {r:AV} {S':List Ent} {tk':List Nat} {n':Nat} (h:uniC args S tk n=some (r,S',tk',n')):∃ l c,args=[.frz (l.map strC) c,.frz [] .nilc]/\l.length<=1000000/\(!l.isEmpty || R7 c)=true/\r=Ar (uniS l)/\S'=S/\tk'=tk/\n'=n:=by
 unfold uniC at h;split at h
 ·rename_i es c;split at h
  ·rename_i l hl;split at h
   ·rename_i hlen;simp only [Ch,decide_eq_true_eq] at hlen;simp only [A2,Cg] at h;obtain ⟨rfl,rfl,rfl,rfl⟩:=h;exact ⟨l,c,by rw [Uc hl],hlen.1,hlen.2,rfl,rfl,rfl,rfl⟩
   ·simp at h
  ·simp at h
 ·simp at h
theorem Aoz {l y:List Int} {c d:Cap} {r:AV} (hq:quoF l y=some r) (S:List Ent) (tk:List Nat) (n:Nat):quoC [.frz (l.map digC) c,.frz (y.map digC) d] S tk n=some (r,S,tk,n):=by simp [quoC,Pi,hq]
theorem Alh {l:List ByteArray} {c:Cap} (hlen:l.length<=1000000) (hc:(!l.isEmpty || R7 c)=true) (S:List Ent) (tk:List Nat) (n:Nat):uniC [.frz (l.map strC) c,.frz [] .nilc] S tk n=some (Ar (uniS l),S,tk,n):=by
 simp only [uniC,Vz];rw [if_pos (by rw [hc]; simpa using hlen)]
theorem Rp {f:FuncId} {args:List AV} {S:List Ent} {tk:List Nat} {n:Nat} {r:AV} {S':List Ent} {tk':List Nat} {n':Nat} (h:@extC prog E1 f args S tk n=some (r,S',tk',n')) :
  (f=48/\uniC args S tk n=some (r,S',tk',n'))\/(f=174/\quoC args S tk n=some (r,S',tk',n')):=by
 unfold extC at h;split at h
 ·simp only [Ext.call] at h;split at h
  ·rename_i hf; exact .inl ⟨cZ,h⟩
  ·split at h
   ·rename_i hf; exact .inr ⟨cZ,h⟩
   ·simp at h
 ·simp at h
theorem Adx (args:List AV) (S:List Ent) (tk:List Nat) (n:Nat):@extC prog E1 48 args S tk n=uniC args S tk n:=by
 simp [extC,Ext.on,Ext.call]
theorem Adw (args:List AV) (S:List Ent) (tk:List Nat) (n:Nat):@extC prog E1 174 args S tk n=quoC args S tk n:=by
 simp [extC,Ext.on,Ext.call]
@[reducible] noncomputable instance E1i:Ext prog:=E1
instance ok1:Aa7 prog:={
 ok:=fun f args S tk n r S' tk' n' h=>by
  rcases Rp h with ⟨rfl,hh⟩|⟨rfl,hh⟩
  ·obtain ⟨l,c,rfl,hlen,hc,rfl,rfl,rfl,rfl⟩:=X8 hh;refine ⟨⟨_,func48,aO,aO⟩,fun C vs h1 h2 h3 hs hv=>?_⟩;subst h1 h2 h3;refine Ahq hs l c hlen (fun e=>?_) hv;subst e;cases c <;> simp [R7] at hc;rfl
  ·obtain ⟨l,y,c,d,rfl,hq,rfl,rfl,rfl⟩:=Xr hh;refine ⟨⟨_,func174,aO,aO⟩,fun C vs h1 h2 h3 hs hv=>?_⟩;subst h1 h2 h3;obtain ⟨q1,q2,q3,q4,q5,rfl⟩:=Anq hq;exact Ao5 hs l y c d q1 q2 q3 q4 q5 hv
 indep:=fun M f args S tk n r S' tk' n' h=>by
  unfold Eg at h;split at h
  ·rename_i hp;rcases Rp h with ⟨rfl,hh⟩|⟨rfl,hh⟩
   ·obtain ⟨l,c,rfl,hlen,hc,rfl,rfl,rfl,rfl⟩:=X8 hh;refine ⟨rfl,rfl,.inr ⟨rfl,fun S2 tk2 n2=>?_⟩⟩;unfold Eg;rw [if_pos hp,Adx];exact Alh hlen hc S2 tk2 n2
   ·obtain ⟨l,y,c,d,rfl,hq,rfl,rfl,rfl⟩:=Xr hh;refine ⟨rfl,rfl,.inr ⟨rfl,fun S2 tk2 n2=>?_⟩⟩;unfold Eg;rw [if_pos hp,Adw];exact Aoz hq S2 tk2 n2
  ·simp at h }
section
variable (S:List Ent) (tk:List Nat) (k:Nat)
theorem Ab5 (l:List ByteArray) (c:Cap) (hlen:l.length<=1000000) (hc:(!l.isEmpty || R7 c)=true):cL prog 48 [.frz (l.map strC) c,.frz [] .nilc] S tk k=some (Ar (uniS l),S,tk,k):=by
 refine Wi rfl ?_;simp only [Ext.call,beq_self_eq_true,if_true];exact Alh hlen hc S tk k
theorem Lj (a b:Nat) (c d:Cap) (hb:0<b) (ha:(dig a).length<=90000) (hb2:(dig b).length<=90000):cL prog 174 [.frz ((dig a).map digC) c,.frz ((dig b).map digC) d] S tk k=some (.tup [digA (dig (a / b)),digA (dig (a % b))],S,tk,k):=by
 refine Wi rfl ?_;have e1:(val (dig a)).toNat=a:=by rw [Dm]; rfl
 have e2:(val (dig b)).toNat=b:=by rw [Dm]; rfl
 have hq:quoF (dig a) (dig b)=some (.tup [digA (dig (a / b)),digA (dig (a % b))]):=by
  unfold quoF;rw [e1,e2,if_pos ⟨rfl,rfl,fun h=>by have:=Hs.1 h; omega,ha,hb2⟩]
 simp [Ext.call,quoC,Pi,hq]
end
end
section
open Go Tryz
set_option maxRecDepth 100000
theorem Nd {a n:Nat} (h:(dig a).length<=n):a<10000 ^ n:=Bt.1 h
theorem Ale {a k:Nat} : topV (dig a) k<=a:=by
 have h1:val ((dig a).take k)+10000 ^ ((dig a).take k).length*val ((dig a).drop k)=a:=by
  rw [<- Gn,Mh,Dm]
 have h2:=Gp (l:=(dig a).take k) fun d hd=>Da a d (iE hd);have h3:=Gp (l:=(dig a).drop k) fun d hd=>Da a d (List.mem_of_mem_drop hd);have h4:val ((dig a).drop k)<=10000 ^ ((dig a).take k).length*val ((dig a).drop k):=by
  have hp:(1:Int)<=10000 ^ ((dig a).take k).length:=by
   have:=Xo ((dig a).take k).length; omega
  have:=Int.mul_le_mul_of_nonneg_right hp h3;omega
 unfold topV;omega
theorem An7 (A:List Int):topV A A.length=0:=Za3i
section
variable (S:List Ent) (tk:List Nat) (k:Nat)
theorem Pr (a:Nat) (ha:(dig a).length<=4):cL prog 178 [digA (dig a)] S tk k=some (.int (a:Nat),S,tk,k):=by
 have hsm:a<10000000000000000:=Nd ha;have d3:=X5 (n:=(dig a).length) aA;refine opP func178 ntmps178 ?_;simp (maxSteps:=10^6)+contextual(disch:=try exact dqd)only[ev0,simprocAttr,Cd,Cb,Ce,results178,digA,d3];refine loop1 (P:=prog) (fun x st=>st.T.length=20/\(x.1<=(dig a).length)/\(x.2=((topV (dig a) x.1:Nat):Int))/\getT st.T 0=digA (dig a)/\getT st.T 3=.int x.2/\getT st.T 4=.int ((x.1:Int) - 1)/\st.S=[]) (fun x=>x.1) (fun x=>.int (a:Nat)) ((dig a).length,(0:Int)) ?_ ?_;case refine_2=>exact ⟨rfl,Cc _,by rw [An7]; rfl,rfl,rfl,rfl,rfl⟩
 rintro ⟨n,v⟩ ⟨T,S',tk',n'⟩ ⟨hl,hn,hv,e0,e3,e4,eS⟩ IH;simp only at hn hv e0 e3 e4 eS;subst eS;obtain ⟨g,hg,hT⟩:=Au hl;rw [hg] at e0 e3 e4;subst hT;clear hg hl;subst hv;by_cases h0:n=0
 ·subst h0;have d2:decide (((0:Nat):Int) - 1 >= 0)=false:=rfl;have ht:topV (dig a) 0=a:=Za3d
  rw [ht] at e3;simp (maxSteps:=10^6)+contextual(disch:=try exact dqd)only[ev0,simprocAttr,Cd,Cb,Ce,results178,e0,e3,e4,d2,digA]
 ·have d2:decide ((n:Int) - 1 >= 0)=true:=aB
  have hi:(n:Int) - 1=((n - 1:Nat):Int):=aA
  obtain ⟨x,hx⟩:=Af (show n - 1<(dig a).length by omega);have hx':=Gj hx;have hxk:=Gb (Da a) hx;have ah:=Aa2 (Da a) hx;rw [show n - 1+1=n by omega] at ah;have hb1:=Ale (a:=a) (k:=n);have hb2:=Ale (a:=a) (k:=n - 1);have hp:=X5 (n:=n - 1) aA;have hw1:Cf.wrap ((topV (dig a) n:Int)*10000)=(topV (dig a) n:Int)*10000:=Ab aC;have hw2:Cf.wrap ((topV (dig a) n:Int)*10000+x)=((topV (dig a) (n - 1):Nat):Int):=by
   rw [Ab aC]; omega
  rw [hi] at e4 d2;simp (maxSteps:=10^6)+contextual(disch:=try exact dqd)only[ev0,simprocAttr,Cd,Cb,Ce,results178,e0,e3,e4,d2,digA,hx',hp,hw1,hw2];exact IH (n - 1,((topV (dig a) (n - 1):Nat):Int)) _ aF ⟨rfl,aE,rfl,aD,aD,aD,aD⟩
theorem Agm (a:Nat) (ha:a<10000000000000000):cL prog 176 [.int (a:Nat)] S tk k=some (digA (dig a),S,tk,k):=by
 refine opP func176 ntmps176 ?_;simp (maxSteps:=10^6)+contextual(disch:=try exact dqd)only[ev0,simprocAttr,Cd,Cb,Ce,results176];refine loop1 (P:=prog) (fun x st=>st.T.length=14/\(x.1<=a)/\(x.2.1++dig x.1=dig a)/\(Bd st.tk x.2.2 1=true)/\getT st.T 0=.int (x.1:Nat)/\getT st.T 3=.frz (x.2.1.map digC) x.2.2/\st.S=[]) (fun x=>x.1) (fun x=>digA (dig a)) (a,[],.nilc) ?_ ?_;case refine_2=>exact ⟨rfl,Cc _,rfl,rfl,rfl,rfl,rfl⟩
 rintro ⟨m,zs,cp⟩ ⟨T,S',tk',n'⟩ ⟨hl,hm,he,hok,e0,e3,eS⟩ IH;simp only at hm he hok e0 e3 eS;subst eS;obtain ⟨g,hg,hT⟩:=Au hl;rw [hg] at e0 e3;subst hT;clear hg hl;have hr:=G2 zs;have c8:=Dj hok;have hla:(dig a).length<=4:=Bt.2 ha;have hzl:zs.length<=4:=by
  have:=congrArg List.length he;simp at this; omega
 have b8:(zs.map digC).length+1<=1048576:=aB
 by_cases h0:m=0
 ·subst h0;have d1:decide (((0:Nat):Int) > 0)=false:=rfl;rw [Dv,F4] at he;subst he;simp (maxSteps:=10^6)+contextual(disch:=try exact dqd)only[ev0,simprocAttr,Cd,Cb,Ce,results176,e0,e3,d1];rfl
 ·have d1:decide ((m:Int) > 0)=true:=aB
  have lp:¬ ((10000:Int)=0):=aA
  have hq:Cf.wrap ((m:Int).tdiv 10000)=((m / 10000:Nat):Int):=by
   rw [Fp aA,Ab aC]; rfl
  have da:(m:Int).tmod 10000=((m % 10000:Nat):Int):=dF
  simp (maxSteps:=10^6)+contextual(disch:=try exact dqd)only[ev0,simprocAttr,Cd,Cb,Ce,results176,e0,e3,d1,lp,hq,da,hr];exact IH (m / 10000,zs++[((m % 10000:Nat):Int)],Bg tk' cp 1) _ aF ⟨rfl,aE,by rw [<- he,H7 h0]; simp,c8,aD,aD,aD⟩
theorem Ty (a b:Nat) (ha:(dig a).length<=90000) (hb:(dig b).length<=90000):cL prog 173 [digA (dig a),digA (dig b)] S tk k=some (digA (dig (a.gcd b)),S,tk,k):=by
 refine opP func173 ntmps173 ?_;simp (maxSteps:=10^6)+contextual(disch:=try exact dqd)only[ev0,simprocAttr,Cd,Cb,Ce,results173,digA];refine loop1 (P:=prog) (fun x st=>st.T.length=33/\(x.1.gcd x.2=a.gcd b)/\((dig x.1).length<=90000)/\((dig x.2).length<=90000)/\getT st.T 0=digA (dig x.1)/\getT st.T 1=digA (dig x.2)/\st.S=[]) (fun x=>x.2) (fun x=>digA (dig (a.gcd b))) (a,b) ?_ ?_;case refine_2=>exact ⟨rfl,rfl,ha,hb,rfl,rfl,rfl⟩
 rintro ⟨x,y⟩ ⟨T,S',tk',n'⟩ ⟨hl,hg,hx,hy,e0,e1,eS⟩ IH;simp only at hg hx hy e0 e1 eS;subst eS;obtain ⟨g,hg,hT⟩:=Au hl;rw [hg] at e0 e1;subst hT;clear hg hl;by_cases h0:y=0
 ·subst h0;have d1:decide ((((dig 0).length:Nat):Int) > 0)=false:=rfl;rw [Sv] at hg;simp (maxSteps:=10^6)+contextual(disch:=try exact dqd)only[ev0,simprocAttr,Cd,Cb,Ce,results173,e0,e1,d1,digA];rw [hg]
 ·have hyl:0<(dig y).length:=Lo.2 fun h=>h0 (Hs.1 h);have d1:decide (((dig y).length:Int) > 0)=true:=aB
  have hQ:=fun c d S tk k=>Lj S tk k x y c d aA hx hy;simp only [digA] at hQ;have hlt:=gT x (by omega:0<y);have hym:(dig (x % y)).length<=90000:=Fb (Bt.2 (Nat.lt_trans hlt (Bt.1 (Cc _)))) hy;have hgn:y.gcd (x % y)=a.gcd b:=Za0s
  by_cases h4:(dig x).length<=4
  ·have d2:decide (((dig x).length:Int)<=4)=true:=aB
   by_cases h5:(dig y).length<=4
   ·have d3:decide (((dig y).length:Int)<=4)=true:=aB
    have zd:x<10000000000000000:=Nd h4;have hy1:y<10000000000000000:=Nd h5;have hN1:=fun S tk k=>Pr S tk k x h4;have hN2:=fun S tk k=>Pr S tk k y h5;have hC:=fun S tk k=>told (E:=E1) (Pq S tk k x y aA aA);have hD:=fun S tk k=>Agm S tk k (x.gcd y) (I5 (gV x aA) hy1);simp only [digA] at hN1 hN2 hD;simp (maxSteps:=10^6)+contextual(disch:=try exact dqd)only[ev0,simprocAttr,Cd,Cb,Ce,results173,e0,e1,d1,d2,d3,digA,hN1,hN2,hC,hD];rw [hg]
   ·have d3:decide (((dig y).length:Int)<=4)=false:=aB
    simp (maxSteps:=10^6)+contextual(disch:=try exact dqd)only[ev0,simprocAttr,Cd,Cb,Ce,results173,e0,e1,d1,d2,d3,digA,hQ];exact IH (y,x % y) _ aF ⟨rfl,hgn,hy,hym,aD,aD,aD⟩
  ·have d2:decide (((dig x).length:Int)<=4)=false:=aB
   simp (maxSteps:=10^6)+contextual(disch:=try exact dqd)only[ev0,simprocAttr,Cd,Cb,Ce,results173,e0,e1,d1,d2,digA,hQ];exact IH (y,x % y) _ aF ⟨rfl,hgn,hy,hym,aD,aD,aD⟩
end
end
section
open Go Tryz
def smB (z:Int):Bool:=!decide (2<(dig z.natAbs).length)
def smN (z:Int):Int:=if smB z=true then z else 0
theorem Vx {z:Int} (h:smB z=true):z.natAbs<100000000:=by
 have h2:(dig z.natAbs).length<=2:=by simpa [smB] using h
 exact Nd h2
theorem zneg (z:Int):(!decide (z<0) && !decide (dig z.natAbs=[]))=decide (-z<0):=by
 have h1:dig z.natAbs=[]↔z.natAbs=0:=Hs;by_cases h:z<0
 ·have h2:¬ (-z<0):=aA
  simp [h]; omega
 ·by_cases h0:z=0
  ·subst h0; rfl
  ·have h2 : -z<0:=aA
   have h3:¬ dig z.natAbs=[]:=fun e=>by have:=h1.1 e; omega
   simp [h,h3]; omega
theorem Wq (n:Nat):decide (((dig n).length:Int) > 0)=!decide (dig n=[]):=by
 cases h:dig n with
 | nil=>rfl
 | cons x l=>simp
theorem An1 (z:Int):sg (decide (z<0)) z.natAbs=z:=by
 by_cases h:z<0 <;> simp [sg,h] <;> omega
theorem Aag {x y:Int} (h:decide (x<0)=decide (y<0)):decide (x+y<0)=decide (x<0)/\(x+y).natAbs=x.natAbs+y.natAbs:=by
 have h':(x<0)↔(y<0):=aJ
 constructor
 ·rw [decide_eq_decide]; omega
 ·omega
section
variable (S:List Ent) (tk:List Nat) (k:Nat)
theorem T1 (z:Int):cL prog 209 [zA z] S tk k=some (.tup [.int (smN z),.bool (smB z)],S,tk,k):=by
 refine opP func209 ntmps209 (hp3:=rfl) ?_;by_cases h:(dig z.natAbs).length<=2
 ·have hN:=fun S tk k=>Pr S tk k z.natAbs aA;have hb:smB z=true:=by simp [smB]; omega
  have hlt:=Vx hb;have d1:decide (((dig z.natAbs).length:Int) > 2)=false:=aB
  have e1:smN z=z:=by simp [smN,hb]
  rw [e1,hb];simp only [digA] at hN;by_cases hn:z<0
  ·have d2:decide (z<0)=true:=dM
   have hw:Cf.wrap (0 - (z.natAbs:Int))=z:=aS
   have hw2:Cf.wrap (-(z.natAbs:Int))=z:=aS
   simp (maxSteps:=10^6)+contextual(disch:=try exact dqd)only[ev0,simprocAttr,Cd,Cb,Ce,results209,zA,bigA,digA,d1,d2,hN,hw,hw2]
  ·have d2:decide (z<0)=false:=dM
   have hz:(z.natAbs:Int)=z:=aA
   rw [hz] at hN;simp (maxSteps:=10^6)+contextual(disch:=try exact dqd)only[ev0,simprocAttr,Cd,Cb,Ce,results209,zA,bigA,digA,d1,d2,hN]
 ·have hb:smB z=false:=by simp [smB]; omega
  have d1:decide (((dig z.natAbs).length:Int) > 2)=true:=aB
  have e1:smN z=0:=by simp [smN,hb]
  rw [e1,hb];simp (maxSteps:=10^6)+contextual(disch:=try exact dqd)only[ev0,simprocAttr,Cd,Cb,Ce,results209,zA,bigA,digA,d1]
theorem Gx (z:Int):cL prog 172 [zA z] S tk k=some (zA z,S,tk,k):=by
 refine opP func172 ntmps172 (hp3:=rfl) ?_;simp (maxSteps:=10^6)+contextual(disch:=try exact dqd)only[ev0,simprocAttr,Cd,Cb,Ce,results172,zA,bigA,digA]
theorem Uv (z:Int):cL prog 210 [zA z] S tk k=some (zA (-z),S,tk,k):=by
 refine opP func210 ntmps210 (hp3:=rfl) ?_;have hz:=zneg z;have hp:=Wq z.natAbs;have ha:(-z).natAbs=z.natAbs:=aA
 simp only [zA,ha];rw [<- hz];cases d1:decide (z<0) with
 | true=>simp (maxSteps:=10^6)+contextual(disch:=try exact dqd)only[ev0,simprocAttr,Cd,Cb,Ce,results210,bigA,digA,d1]
 | false=>simp (maxSteps:=10^6)+contextual(disch:=try exact dqd)only[ev0,simprocAttr,Cd,Cb,Ce,results210,bigA,digA,d1,hp]
end
theorem ext_mv1 (f:FuncId) (h:mvF0 f=false):Ext.mv prog f=false:=h
set_option linter.defProp false in
def ev1:=Bu ext_mv1 ev0
set_option linter.defProp false in
def evs1:=Bu ext_mv1 evs0
theorem iq1:((-1:Int) == 1)=false:=rfl
theorem iq2:((0:Int) == 1)=false:=rfl
theorem iq3:((0:Int) == -1)=false:=rfl
theorem iq4:((1:Int) == 1)=true:=rfl
theorem iq5:((-1:Int) == -1)=true:=rfl
theorem Aq7 {p:Bool} {n:Nat} (h:n=0->p=false):bigA p (dig n)=zA (sg p n):=by
 unfold zA;rw [As6];cases p with
 | false =>
  have:¬ ((n:Int)<0):=aA
  simp [sg,this]
 | true =>
  have h0:n≠0:=fun e=>by simpa using h e
  have:(sg true n<0):=by simp [sg]; omega
  simp [this]
theorem Atd {p q:Bool} (h:p≠q) {X Y:Nat} (hl:Y<X):bigA p (dig (X - Y))=zA (sg p X+sg q Y):=by
 rw [<- Ary h aA];exact Aq7 (fun e=>aA)
theorem Atc {p q:Bool} (h:p≠q) {X Y:Nat} (hl:X<Y):bigA q (dig (Y - X))=zA (sg p X+sg q Y):=by
 rw [<- Arz h aA];exact Aq7 (fun e=>aA)
theorem Aqw (x y:Int):bigA (decide (x<0) != decide (y<0) && !decide (dig (x.natAbs*y.natAbs)=[])) (dig (x.natAbs*y.natAbs))=zA (x*y):=by
 rw [Aq7 (fun e=>by rw [e,Dv]; simp)];congr 1;have h:=Asp (decide (x<0)) (decide (y<0)) x.natAbs y.natAbs;rw [An1,An1] at h;rw [<- h];by_cases h0:x.natAbs*y.natAbs=0
 ·rw [h0]; simp [sg]
 ·have:¬ dig (x.natAbs*y.natAbs)=[]:=fun e=>h0 (Hs.1 e);simp [this]
section
variable (S:List Ent) (tk:List Nat) (k:Nat)
theorem Ag2 (x y:Int) (hx:(dig x.natAbs).length<=90000) (hy:(dig y.natAbs).length<=90000):cL prog 206 [zA x,zA y] S tk k=some (zA (x+y),S,tk,k):=by
 refine opP func206 ntmps206 (hp3:=rfl) ?_;by_cases hpq:decide (x<0)=decide (y<0)
 ·obtain ⟨h1,h2⟩:=Aag hpq;have hP:=fun S tk k=>told (E:=E1) (Aqp S tk k x.natAbs y.natAbs aA aA);have d1:(decide (x<0) == decide (y<0))=true:=by simpa using hpq
  simp only [zA,h1,h2];simp only [digA] at hP;simp (maxSteps:=10^6)+contextual(disch:=try exact dqd)only[ev1,simprocAttr,Cd,Cb,Ce,results206,iq1,iq2,iq3,iq4,iq5,bigA,digA,d1,hP]
 ·have d1:(decide (x<0) == decide (y<0))=false:=by simpa using hpq
  have hC:=fun S tk k=>told (E:=E1) (N2 S tk k x.natAbs y.natAbs aA aA);have hs:=An1 x;have ht:=An1 y;by_cases xk:y.natAbs<x.natAbs
  ·have hM:=fun S tk k=>told (E:=E1) (Aes S tk k x.natAbs y.natAbs aA aA);have hz:=Atd hpq xk;rw [hs,ht] at hz;rw [<- hz];have hc:cmpN x.natAbs y.natAbs=1:=by unfold cmpN; rw [if_neg aA,if_pos xk]
   exact Ya09
  ·by_cases hlt:x.natAbs<y.natAbs
   ·have hM:=fun S tk k=>told (E:=E1) (Aes S tk k y.natAbs x.natAbs aA aA);have hz:=Atc hpq hlt;rw [hs,ht] at hz;rw [<- hz];have hc:cmpN x.natAbs y.natAbs=-1:=by unfold cmpN; rw [if_pos hlt]
    exact Ya09
   ·have hc:cmpN x.natAbs y.natAbs=0:=by unfold cmpN; rw [if_neg hlt,if_neg xk]
    have h0:x+y=0:=by
     have h5:¬ ((x<0)↔(y<0)):=by simpa using hpq
     omega
    rw [hc] at hC;rw [h0];simp only [digA] at hC;simp (maxSteps:=10^6)+contextual(disch:=try exact dqd)only[ev1,simprocAttr,Cd,Cb,Ce,results206,iq1,iq2,iq3,iq4,iq5,zA,bigA,digA,d1,hC];first|rfl|(rw [show Int.natAbs 0=0 from rfl,Dv]; rfl)|(rw [Dv]; rfl)
theorem Ef (x y:Int) (hx:(dig x.natAbs).length<=90000) (hy:(dig y.natAbs).length<=90000):cL prog 203 [zA x,zA y] S tk k=some (zA (x*y),S,tk,k):=by
 refine opP func203 ntmps203 (hp3:=rfl) ?_;have hP:=fun S tk k=>told (E:=E1) (Tz S tk k x.natAbs y.natAbs aA aA);have hz:=Aqw x y;have hp:=Wq (x.natAbs*y.natAbs);simp only [digA] at hP;rw [<- hz];have hbn:(decide (x<0) != decide (y<0))=!(decide (x<0) == decide (y<0)):=rfl;rw [hbn];cases d1:decide (x<0) == decide (y<0) with
 | true=>simp (maxSteps:=10^6)+contextual(disch:=try exact dqd)only[ev1,simprocAttr,Cd,Cb,Ce,results203,iq1,iq2,iq3,iq4,iq5,zA,bigA,digA,d1,hbn,hp,hP,Sz,T3,Fs,Fk]
 | false=>simp (maxSteps:=10^6)+contextual(disch:=try exact dqd)only[ev1,simprocAttr,Cd,Cb,Ce,results203,iq1,iq2,iq3,iq4,iq5,zA,bigA,digA,d1,hbn,hp,hP,Sz,T3,Fs,Fk]
theorem Ui (x y:Int) (hx:(dig x.natAbs).length<=90000) (hy:(dig y.natAbs).length<=90000):cL prog 205 [zA x,zA y] S tk k=some (zA (x - y),S,tk,k):=by
 refine opP func205 ntmps205 (hp3:=rfl) ?_;have hO:=fun S tk k=>Uv S tk k y;have hP:=fun S tk k=>Ag2 S tk k x (-y) hx (by rw [show (-y).natAbs=y.natAbs by omega]; exact hy);rw [show x+-y=x - y by omega] at hP;simp only [zA,bigA,digA] at hO hP;simp (maxSteps:=10^6)+contextual(disch:=try exact dqd)only[ev1,simprocAttr,Cd,Cb,Ce,results205,iq1,iq2,iq3,iq4,iq5,zA,bigA,digA,hO,hP]
theorem X1 (l:List Int) (c:Cap) (hlen:l.length<=1048576):cL prog 175 [.frz (l.map digC) c] S tk k=some (digA l,S,tk,k):=by
 have hr:=fun cs=>Gm (f:=digC) (sz:=1) (fun _=>rfl) cs;cases l with
 | nil =>
  simp only [Fi];refine Y2 func175 rfl rfl aO aO ntmps175 rfl rfl _ _ _ ?_ ?_ <;> rw [Ark]
  ·exact Ya0z
  ·exact Ya0z
 | cons x l =>
  simp only [Cp];refine Wj func175 rfl rfl aO aO ntmps175 rfl rfl _ _ _ rfl ?_; rw [Ark];have ig:=hr (x :: l);simp only [Cp] at ig;have hl:([]:List (List AV)).length+(digC x :: l.map digC).length<=1048576:=by simp at hlen ⊢; omega
  simp (maxSteps:=10^6)+contextual(disch:=try exact dqd)only[ev1,simprocAttr,Cd,Cb,Ce,results175,iq1,iq2,iq3,iq4,iq5,Xd,digA,ig]
end
end
section
open Go Tryz
set_option maxRecDepth 100000
theorem X9 {n:Int} (h0:0<=n) (h1:n<18446744073709551616):Sp.wrap n=n:=by
 have e:(n.toNat:Int)=n:=aA
 rw [<- e];exact Go.IntWalk.u64_in _ aA
theorem uwrap (n:Int):Sp.wrap n=n % 18446744073709551616:=by
 simp [IntKind.wrap,IntKind.bits,IntKind.signed]
theorem Ais {n:Nat} (h:n<10000000000000000000):(dig n).length<=5:=Bt.2 (Ff h aH)
theorem Aka {u N:Nat} {out:List Int} (he:out++dig u=dig N) (h:u≠0):(out++[((u % 10000:Nat):Int)])++dig (u / 10000)=dig N:=by
 rw [<- he,H7 h]; simp
theorem Aow {u N:Nat} {out:List Int} (he:out++dig u=dig N) (hN:N<10000000000000000000):out.length<=5:=by
 have:=Ais hN;rw [<- he] at this; simp at this; omega
theorem Aj9 {N:Nat} {out:List Int} (he:out++dig 0=dig N):out=dig N:=by rw [<- he,Dv,F4]
section
variable (S:List Ent) (tk:List Nat) (k:Nat)
theorem Rc (n:Int) (hn:i64 n):cL prog 107 [.int n] S tk k=some (zA n,S,tk,k):=by
 refine opP func107 ntmps107 (hp3:=rfl) ?_;have hn':=hn;unfold i64 at hn';have hN:n.natAbs<10000000000000000000:=aA
 cases d0:decide (n<0) with
 | true =>
  simp only [decide_eq_true_eq] at d0;have d0':decide (n<0)=true:=by simpa using d0
  have q0:Sp.wrap (0 - Sp.wrap n)=((n.natAbs:Nat):Int):=by rw [uwrap,uwrap]; omega
  exact Ya3
 | false =>
  simp only [decide_eq_false_iff_not] at d0;have d0':decide (n<0)=false:=by simpa using d0
  have q0:Sp.wrap n=((n.natAbs:Nat):Int):=by rw [X9 aA aA]; omega
  exact Ya3
end
end
section
open Go Tryz
def ratA (p:Bool) (l:List Int) (q:Bool) (r:List Int):AV:=.agg [.prim (.bool p),digA l,.prim (.bool q),digA r]
def qA (n d:Int):AV:=ratA (decide (n<0)) (dig n.natAbs) (decide (d<0)) (dig d.natAbs)
def lowN (n d:Int):Int:=(if d<0 then -n else n).tdiv ((n.natAbs.gcd d.natAbs:Nat):Int)
def lowD (n d:Int):Int:=((d.natAbs / n.natAbs.gcd d.natAbs:Nat):Int)
section
variable (S:List Ent) (tk:List Nat) (k:Nat)
theorem Acg (n:Int) (hn:i64 n):cL prog 92 [.int n] S tk k=some (qA n 1,S,tk,k):=by
 refine opP func92 ntmps92 (hp3:=rfl) ?_;have h1:=fun S tk k=>Rc S tk k n hn;have h2:=fun S tk k=>Rc S tk k 1 aC;simp only [zA,bigA,digA] at h1 h2;simp (maxSteps:=10^6)+contextual(disch:=try exact dqd)only[ev1,simprocAttr,Cd,Cb,Ce,results92,qA,ratA,digA,h1,h2]
theorem Anu:cL prog 208 [] S tk k=some (qA 0 1,S,tk,k):=by
 refine opP func208 ntmps208 (hp3:=rfl) ?_;have h1:=fun S tk k=>Acg S tk k 0 aC;simp only [qA,ratA,digA] at h1;simp (maxSteps:=10^6)+contextual(disch:=try exact dqd)only[ev1,simprocAttr,Cd,Cb,Ce,results208,qA,ratA,digA,h1]
theorem N3 (a b c d:Int):cL prog 201 [qA a b,qA c d] S tk k=some (.tup [.agg [.int (smN a),.int (smN b),.int (smN c),.int (smN d)],.bool (smB a && smB b && smB c && smB d)],S,tk,k):=by
 refine opP func201 ntmps201 (hp3:=rfl) ?_;have h:=fun z S tk k=>T1 S tk k z;simp only [zA,bigA,digA] at h;cases d1:smB a with
 | false=>simp (maxSteps:=10^6)+contextual(disch:=try exact dqd)only[ev1,simprocAttr,Cd,Cb,Ce,results201,qA,ratA,digA,h,d1,Fk]
 | true =>
  cases d2:smB b with
  | false=>simp (maxSteps:=10^6)+contextual(disch:=try exact dqd)only[ev1,simprocAttr,Cd,Cb,Ce,results201,qA,ratA,digA,h,d1,d2,Fk,Fs]
  | true =>
   cases d3:smB c with
   | false=>simp (maxSteps:=10^6)+contextual(disch:=try exact dqd)only[ev1,simprocAttr,Cd,Cb,Ce,results201,qA,ratA,digA,h,d1,d2,d3,Fk,Fs]
   | true=>simp (maxSteps:=10^6)+contextual(disch:=try exact dqd)only[ev1,simprocAttr,Cd,Cb,Ce,results201,qA,ratA,digA,h,d1,d2,d3,Fk,Fs]
theorem Li (n d:Int) (hn:n.natAbs<=100000000000000000) (hd:d.natAbs<=100000000000000000) (cq:d≠0):cL prog 202 [.int n,.int d] S tk k=some (qA (lowN n d) (lowD n d),S,tk,k):=by
 refine opP func202 ntmps202 (hp3:=rfl) ?_;have hC:=fun S tk k=>told (E:=E1) (Pq S tk k n.natAbs d.natAbs aA aA);have lz:0<n.natAbs.gcd d.natAbs:=M4 _ aA;have hgz:¬ (((n.natAbs.gcd d.natAbs:Nat):Int)=0):=aA
 have hm:∀ x:Int,x.natAbs=n.natAbs->(if -x > x then -x else x)=(n.natAbs:Int):=fun x hx=>eZ
 have hwn:∀ x:Int,x.natAbs=n.natAbs->Cf.wrap (0 - x)=-x:=fun x hx=>aS
 have jo:Cf.wrap (0 - d)=-d:=aS
 have hq:∀ x:Int,x.natAbs=n.natAbs->i64 (x.tdiv ((n.natAbs.gcd d.natAbs:Nat):Int)):=fun x hx=>by
  have h1:(x.tdiv ((n.natAbs.gcd d.natAbs:Nat):Int)).natAbs<=x.natAbs:=by
   rw [Int.natAbs_tdiv]; exact Se _ _
  unfold i64; omega
 have hld:i64 (lowD n d):=by
  have:=Se d.natAbs (n.natAbs.gcd d.natAbs);unfold i64 lowD;generalize d.natAbs / n.natAbs.gcd d.natAbs=z at *;omega
 have hdq:∀ x:Int,x=(d.natAbs:Int)->x.tdiv ((n.natAbs.gcd d.natAbs:Nat):Int)=lowD n d:=fun x hx=>by
  subst hx;rw [Fp aA]; rfl
 have hB:=fun S tk k=>Rc S tk k (lowD n d) hld;by_cases h:d<0
 ·have d1:decide (d<0)=true:=aJ
  have hN:lowN n d=(-n).tdiv ((n.natAbs.gcd d.natAbs:Nat):Int):=by unfold lowN; rw [if_pos h]
  have hA:=fun S tk k=>Rc S tk k (lowN n d) (by rw [hN]; exact hq _ aA);have da:=hm (-n) aA;have hw1:=hwn n rfl;have hw2:=hwn (-n) aA;have hw3:Cf.wrap ((-n).tdiv ((n.natAbs.gcd d.natAbs:Nat):Int))=lowN n d:=by
   rw [hN]; have:=hq (-n) aA; exact Ab this
  have hw4:Cf.wrap ((-d).tdiv ((n.natAbs.gcd d.natAbs:Nat):Int))=lowD n d:=by
   rw [hdq (-d) aA]; exact Ab hld
  have hda:(-d)=(d.natAbs:Int):=aA
  have hC':∀ S tk k,cL prog 177 [.int (n.natAbs:Int),.int (-d)] S tk k=some (.int ((n.natAbs.gcd d.natAbs:Nat):Int),S,tk,k):=fun S tk k=>by
   have:=hC S tk k;rwa [<- hda] at this
  simp only [zA,bigA,digA] at hA hB;simp (maxSteps:=10^6)+contextual(disch:=try exact dqd)only[ev1,simprocAttr,Cd,Cb,Ce,results202,maxA_int,qA,ratA,digA,d1,hw1,hw2,jo,da,hC',hgz,hw3,hw4,hA,hB]
 ·have d1:decide (d<0)=false:=aJ
  have hN:lowN n d=n.tdiv ((n.natAbs.gcd d.natAbs:Nat):Int):=by unfold lowN; rw [if_neg h]
  have hA:=fun S tk k=>Rc S tk k (lowN n d) (by rw [hN]; exact hq _ aA);have da:=hm n aA;have hw1:=hwn n rfl;have hw3:Cf.wrap (n.tdiv ((n.natAbs.gcd d.natAbs:Nat):Int))=lowN n d:=by
   rw [hN]; have:=hq n aA; exact Ab this
  have hw4:Cf.wrap (d.tdiv ((n.natAbs.gcd d.natAbs:Nat):Int))=lowD n d:=by
   rw [hdq d aA]; exact Ab hld
  have hda:d=(d.natAbs:Int):=aA
  have hC2:∀ S tk k,cL prog 177 [.int (n.natAbs:Int),.int d] S tk k=some (.int ((n.natAbs.gcd d.natAbs:Nat):Int),S,tk,k):=fun S tk k=>by
   have:=hC S tk k;rwa [<- hda] at this
  simp only [zA,bigA,digA] at hA hB;simp (maxSteps:=10^6)+contextual(disch:=try exact dqd)only[ev1,simprocAttr,Cd,Cb,Ce,results202,maxA_int,qA,ratA,digA,d1,hw1,da,hC2,hgz,hw3,hw4,hA,hB]
end
theorem Hp {p:Bool} {l:List Int} (h:Ei p l=true):p=decide (V p l<0)/\l=dig (V p l).natAbs:=by
 have ha:=Arx p l;rw [if_pos h] at ha;refine ⟨?_,ha.symm⟩;have hs:=V_sg p l;cases p with
 | false =>
  have:¬ V false l<0:=by rw [hs]; simp [sg]
  simp [this]
 | true =>
  have hl:l≠[]:=fun e=>by subst e; simp [Ei] at h
  have h0:(V true l).natAbs≠0:=fun e=>by rw [e,Dv] at ha; exact hl ha.symm
  have:V true l<0:=by rw [hs]; simp only [sg,if_true]; omega
  simp [this]
def Um (n d:Int):Bool:=decide (0<d) && decide (n.natAbs.gcd d.natAbs=1)
def Ll (p:Bool) (l:List Int) (q:Bool) (r:List Int):Bool:=Ei p l && Ei q r && Um (V p l) (V q r)
def nQ (p:Bool) (l:List Int) (q:Bool) (r:List Int):Int:=if Ll p l q r=true then V p l else 0
def dQ (p:Bool) (l:List Int) (q:Bool) (r:List Int):Int:=if Ll p l q r=true then V q r else 1
theorem Apo (g:Nat):decide (cmpN g 1=0)=decide (g=1):=by
 rw [decide_eq_decide];unfold cmpN;split
 ·omega
 ·split <;> omega
section
variable (S:List Ent) (tk:List Nat) (k:Nat)
theorem Xs (a:Nat) (ha:(dig a).length<=1000000):cL prog 179 [digA (dig a),.frz [[.prim (.int .i64 1)]] .tight] S tk k=some (.int (cmpN a 1),S,tk,k):=by
 have yb:dig 1=[(1:Int)]:=Wp (d:=(1:Int)) aA aA;have h2:=told (E:=E1) (N2 S tk k a 1 ha (by rw [yb]; simp));rw [yb] at h2;exact (Apm (args:=[digA (dig a),.frz [[.prim (.int .i64 1)]] .tight]) (args':=[digA (dig a),digA [(1:Int)]]) rfl rfl rfl).trans h2
theorem Akq (p:Bool) (l:List Int) (q:Bool) (r:List Int) (hl:l.length<=1000000) (hr:r.length<=1000000):cL prog 207 [ratA p l q r] S tk k=some (.bool (Ll p l q r),S,tk,k):=by
 have ph:=fun S tk k=>told (E:=E1) (Na S tk k p l .unk hl);have pm:=fun S tk k=>told (E:=E1) (Na S tk k q r .unk hr);refine opP func207 ntmps207 (hp3:=rfl) ?_;unfold Ll;cases h1:Ei p l with
 | false =>
  rw [h1] at ph;simp (maxSteps:=10^6)+contextual(disch:=try exact dqd)only[ev1,simprocAttr,Cd,Cb,Ce,results207,ratA,digA,ph,Fk]
 | true =>
 rw [h1] at ph;cases h2:Ei q r with
 | false =>
  rw [h2] at pm;simp (maxSteps:=10^6)+contextual(disch:=try exact dqd)only[ev1,simprocAttr,Cd,Cb,Ce,results207,ratA,digA,ph,pm,Fk,Fs]
 | true =>
 rw [h2] at pm;obtain ⟨hp,hpl⟩:=Hp h1;obtain ⟨hq,xp⟩:=Hp h2;have pn:=(Lm h1).2.2;have jp:=(Lm h2).2.2;by_cases hq0:q=true
 ·subst hq0;have hg:Um (V p l) (V true r)=false:=by
   have:V true r<0:=by simpa using hq.symm
   have h3:¬ 0<V true r:=aA
   simp [Um,h3]
  rw [hg];simp (maxSteps:=10^6)+contextual(disch:=try exact dqd)only[ev1,simprocAttr,Cd,Cb,Ce,results207,ratA,digA,ph,pm,Fs]
 ·have hqf:q=false:=by simpa using hq0
  subst hqf;have cq:0<=V false r:=by
   have:¬ V false r<0:=by simpa using hq.symm
   omega
  by_cases bw:r=[]
  ·subst bw;have hg:Um (V p l) (V false [])=false:=by
    have:V false []=0:=by have:=Hs.1 xp.symm; omega
    simp [Um,this]
   rw [hg];simp only [Fi] at pm;have iz:(((0:Nat):Int) == 0)=true:=rfl;simp (maxSteps:=10^6)+contextual(disch:=try exact dqd)only[ev1,simprocAttr,Cd,Cb,Ce,results207,ratA,digA,ph,pm,iz,Fs]
  ·have a0h:(((r.length:Nat):Int) == 0)=false:=by
    have:=Lo.2 bw;simp; omega
   have hd1:0<V false r:=by
    have:(V false r).natAbs≠0:=fun e=>bw (by rw [xp,e,Dv]);omega
   have hgd:Um (V p l) (V false r)=decide ((V p l).natAbs.gcd (V false r).natAbs=1):=by simp [Um,hd1]
   rw [hgd];have cj:=fun S tk k=>T1 S tk k (V p l);have a7:=fun S tk k=>T1 S tk k (V false r);simp only [zA,bigA,digA,<- hp,<- hpl,<- hq,<- xp] at cj a7;by_cases hs:smB (V p l)=true/\smB (V false r)=true
   ·obtain ⟨s1,s2⟩:=hs;have e1:smN (V p l)=V p l:=by simp [smN,s1]
    have e2:smN (V false r)=V false r:=by simp [smN,s2]
    have b1:=Vx s1;have b2:=Vx s2;rw [e1,s1] at cj;rw [e2,s2] at a7;have hw:Cf.wrap (0 - V p l)=- V p l:=aS
    have hm:(if - V p l > V p l then - V p l else V p l)=((V p l).natAbs:Int):=eZ
    have hC:=fun S tk k=>told (E:=E1) (Pq S tk k (V p l).natAbs (V false r).natAbs aA aA);have hda:((V false r).natAbs:Int)=V false r:=aA
    rw [hda] at hC;have f9:((((V p l).natAbs.gcd (V false r).natAbs:Nat):Int) == 1)=decide ((V p l).natAbs.gcd (V false r).natAbs=1):=by
     rw [iI]; simp; omega
    simp (maxSteps:=10^6)+contextual(disch:=try exact dqd)only[ev1,simprocAttr,Cd,Cb,Ce,results207,maxA_int,ratA,digA,ph,pm,a0h,cj,a7,hw,hm,hC,f9,Fs]
   ·have hD:=fun S tk k=>Ty S tk k (V p l).natAbs (V false r).natAbs (by rw [<- hpl]; omega) (by rw [<- xp]; omega);rw [<- hpl,<- xp] at hD;have hgl:(dig ((V p l).natAbs.gcd (V false r).natAbs)).length<=200:=by
     have h3:(V p l).natAbs.gcd (V false r).natAbs<=(V false r).natAbs:=gV _ aA;have h4:(dig (V false r).natAbs).length<=200:=by rw [<- xp]; exact jp
     exact Bt.2 (I5 h3 (Bt.1 h4))
    have hO:=fun S tk k=>Xs S tk k ((V p l).natAbs.gcd (V false r).natAbs) aA;have cd:(cmpN ((V p l).natAbs.gcd (V false r).natAbs) 1 == 0)=decide ((V p l).natAbs.gcd (V false r).natAbs=1):=by
     rw [<- Apo]; rfl
    simp only [digA] at hD hO;cases s1:smB (V p l) with
    | false =>
     rw [s1] at cj;exact Ya0g
    | true =>
     have s2:smB (V false r)=false:=by simpa [s1] using hs
     rw [s1] at cj;rw [s2] at a7;exact Ya0g
end
theorem Ue {p:Bool} {l:List Int} {q:Bool} {r:List Int} (h:Ll p l q r=true):Ei p l=true/\Ei q r=true/\Um (V p l) (V q r)=true:=by
 unfold Ll at h;simp only [Ch] at h;exact ⟨h.1.1,h.1.2,h.2⟩
theorem Agl {p:Bool} {l:List Int} {q:Bool} {r:List Int} (h:Ll p l q r=true):ratA p l q r=qA (V p l) (V q r):=by
 obtain ⟨h1,h2,-⟩:=Ue h;obtain ⟨a1,a2⟩:=Hp h1;obtain ⟨b1,b2⟩:=Hp h2;unfold qA;rw [<- a1,<- a2,<- b1,<- b2]
structure Jd (n d:Int):Prop where
 pos:0<d
 cop:n.natAbs.gcd d.natAbs=1
 ln:(dig n.natAbs).length<=200
 ld:(dig d.natAbs).length<=200
theorem K0 (p:Bool) (l:List Int) (q:Bool) (r:List Int):Jd (nQ p l q r) (dQ p l q r):=by
 unfold nQ dQ;cases h:Ll p l q r with
 | false =>
  simp only [C8,if_false];exact ⟨aA,rfl,aO,aO⟩
 | true =>
  obtain ⟨h1,h2,h3⟩:=Ue h;simp only [Um,Ch,decide_eq_true_eq] at h3;exact ⟨h3.1,h3.2,Amc p l,Amc q r⟩
def Gi (n d:Int):Bool:=!decide (d=0) && okZ (lowN n d) && okZ (lowD n d)
def resN (n d:Int):Int:=if Gi n d=true then lowN n d else 0
def resD (n d:Int):Int:=if Gi n d=true then lowD n d else 0
def resQ (n d:Int):AV:=.tup [qA (resN n d) (resD n d),.bool (Gi n d)]
theorem Th (n d:Int):(lowN n d).natAbs=n.natAbs / n.natAbs.gcd d.natAbs:=by
 unfold lowN;rw [Int.natAbs_tdiv];split <;> simp <;> rfl
theorem Anb (n d:Int) (hd:d≠0):(decide (n<0) != decide (d<0) && !decide (dig (n.natAbs / n.natAbs.gcd d.natAbs)=[]))=decide (lowN n d<0):=by
 have ha:=Th n d;have lz:0<n.natAbs.gcd d.natAbs:=M4 _ aA;have hz:dig (n.natAbs / n.natAbs.gcd d.natAbs)=[]↔lowN n d=0:=by rw [Hs,<- ha]; omega
 have hsg:∀ x:Int,0<=x->0<=x.tdiv ((n.natAbs.gcd d.natAbs:Nat):Int):=fun x hx=>Int.tdiv_nonneg hx aA;have hneg:∀ x:Int,x<=0->x.tdiv ((n.natAbs.gcd d.natAbs:Nat):Int)<=0:=fun x hx=>by
  have h1:=hsg (-x) aA;rw [Int.neg_tdiv] at h1;omega
 rw [iI];simp only [Ch,bne_iff_ne,ne_eq,decide_eq_decide,Ir,decide_eq_false_iff_not,decide_eq_true_eq,hz];by_cases h:d<0
 ·have e:lowN n d=(-n).tdiv ((n.natAbs.gcd d.natAbs:Nat):Int):=by unfold lowN; rw [if_pos h]
  have h1:=hsg (-n);have h2:=hneg (-n);rw [<- e] at h1 h2;constructor
  ·rintro ⟨h3,h4⟩; have:0<=n:=aA
   have:=h2 aA; omega
  ·intro h3;have:¬ 0<=-n:=fun h4=>by have:=h1 h4; omega
   omega
 ·have e:lowN n d=n.tdiv ((n.natAbs.gcd d.natAbs:Nat):Int):=by unfold lowN; rw [if_neg h]
  have h1:=hsg n;have h2:=hneg n;rw [<- e] at h1 h2;constructor
  ·rintro ⟨h3,h4⟩; have:n<0:=aA
   have:=h2 aA; omega
  ·intro h3;have:¬ 0<=n:=fun h4=>by have:=h1 h4; omega
   omega
section
variable (S:List Ent) (tk:List Nat) (k:Nat)
theorem Hb (p:Bool) (l:List Int) (q:Bool) (r:List Int) (hl:l.length<=1000000) (hr:r.length<=1000000):cL prog 200 [ratA p l q r] S tk k=some (qA (nQ p l q r) (dQ p l q r),S,tk,k):=by
 have hV:=fun S tk k=>Akq S tk k p l q r hl hr;have hZ:=fun S tk k=>Anu S tk k;refine opP func200 ntmps200 (hp3:=rfl) ?_;unfold nQ dQ;cases h:Ll p l q r with
 | true =>
  rw [h] at hV;have e:=Agl h;simp only [if_true];rw [<- e];simp only [ratA,digA] at hV;simp (maxSteps:=10^6)+contextual(disch:=try exact dqd)only[ev1,simprocAttr,Cd,Cb,Ce,results200,ratA,digA,hV]
 | false =>
  rw [h] at hV;simp only [C8,if_false];simp only [ratA,qA,digA] at hV hZ;simp (maxSteps:=10^6)+contextual(disch:=try exact dqd)only[ev1,simprocAttr,Cd,Cb,Ce,results200,ratA,qA,digA,hV,hZ]
theorem L5 (n d:Int) (hn:(dig n.natAbs).length<=90000) (hd:(dig d.natAbs).length<=90000) (cq:d≠0):cL prog 171 [zA n,zA d] S tk k=some (resQ n d,S,tk,k):=by
 refine opP func171 ntmps171 (hp3:=rfl) ?_;have lz:0<n.natAbs.gcd d.natAbs:=M4 _ aA;have hD:=fun S tk k=>Ty S tk k n.natAbs d.natAbs hn hd;have hgl:(dig (n.natAbs.gcd d.natAbs)).length<=90000:=by
  have h3:n.natAbs.gcd d.natAbs<=d.natAbs:=gV _ aA;exact Fb (Bt.2 (I5 h3 (Bt.1 (Cc _)))) hd
 have hQ1:=fun S tk k=>Lj S tk k n.natAbs (n.natAbs.gcd d.natAbs) .unk .unk lz hn hgl;have yh:=fun S tk k=>Lj S tk k d.natAbs (n.natAbs.gcd d.natAbs) .unk .unk lz hd hgl;have hla:=Th n d;have hlb:(lowD n d).natAbs=d.natAbs / n.natAbs.gcd d.natAbs:=rfl;have hs:=Anb n d cq;have hp:=Wq (n.natAbs / n.natAbs.gcd d.natAbs);have hdn:decide (lowD n d<0)=false:=by
  have:¬ lowD n d<0:=by unfold lowD; omega
  simp [this]
 have hC:=fun (m:Nat) (h:(dig m).length<=200) S tk k=>X1 S tk k (dig m) .unk aA;unfold resQ resN resD;simp only [digA] at hD hQ1 yh hC;by_cases h1:(dig (n.natAbs / n.natAbs.gcd d.natAbs)).length<=200
 ·have d1:decide (((dig (n.natAbs / n.natAbs.gcd d.natAbs)).length:Int) > 200)=false:=aB
  by_cases h2:(dig (d.natAbs / n.natAbs.gcd d.natAbs)).length<=200
  ·have d2:decide (((dig (d.natAbs / n.natAbs.gcd d.natAbs)).length:Int) > 200)=false:=aB
   have hf:Gi n d=true:=Za1f
   have hC1:=hC _ h1;have hC2:=hC _ h2;rw [hf];simp only [if_true,qA,hla,hlb,<- hs,hdn];have hbn:(decide (n<0) != decide (d<0))=!(decide (n<0) == decide (d<0)):=rfl;rw [hbn];cases d3:decide (n<0) == decide (d<0) with
   | true=>simp (maxSteps:=10^6)+contextual(disch:=try exact dqd)only[ev1,simprocAttr,Cd,Cb,Ce,results171,zA,bigA,ratA,digA,hD,hQ1,yh,d1,d2,d3,hbn,hp,hC1,hC2,Sz,T3,Fs,Fk]
   | false=>simp (maxSteps:=10^6)+contextual(disch:=try exact dqd)only[ev1,simprocAttr,Cd,Cb,Ce,results171,zA,bigA,ratA,digA,hD,hQ1,yh,d1,d2,d3,hbn,hp,hC1,hC2,Sz,T3,Fs,Fk]
  ·have d2:decide (((dig (d.natAbs / n.natAbs.gcd d.natAbs)).length:Int) > 200)=true:=aB
   have hf:Gi n d=false:=Za1f
   rw [hf];simp only [C8,if_false];have hz:dig 0=[]:=Dv;simp (maxSteps:=10^6)+contextual(disch:=try exact dqd)only[ev1,simprocAttr,Cd,Cb,Ce,results171,zA,bigA,qA,ratA,digA,hz,hD,hQ1,yh,d1,d2]
 ·have d1:decide (((dig (n.natAbs / n.natAbs.gcd d.natAbs)).length:Int) > 200)=true:=aB
  have hf:Gi n d=false:=Za1f
  rw [hf];simp only [C8,if_false];have hz:dig 0=[]:=Dv;simp (maxSteps:=10^6)+contextual(disch:=try exact dqd)only[ev1,simprocAttr,Cd,Cb,Ce,results171,zA,bigA,qA,ratA,digA,hz,hD,hQ1,yh,d1]
end
theorem Hi {x y:Int} {a b:Nat} (hx:(dig x.natAbs).length<=a) (hy:(dig y.natAbs).length<=b):(dig (x*y).natAbs).length<=a+b:=by
 rw [Bt] at hx hy ⊢;rw [Ie,Nat.pow_add];exact Nat.mul_lt_mul_of_lt_of_le hx aA (Nat.pow_pos aH)
theorem Am7 {x y:Int} {a:Nat} (hx:(dig x.natAbs).length<=a) (hy:(dig y.natAbs).length<=a):(dig (x+y).natAbs).length<=a+1:=by
 rw [Bt] at hx hy ⊢;rw [Ss];omega
theorem Am9 {y:Int} {a:Nat} (hy:(dig y.natAbs).length<=a):(dig (-y).natAbs).length<=a:=by
 rw [show (-y).natAbs=y.natAbs by omega]; exact hy
theorem Afs {n d:Int} (hn:n.natAbs<=100000000000000000) (hd:d.natAbs<=100000000000000000) (cq:d≠0):Gi n d=true:=by
 have h1:(dig (lowN n d).natAbs).length<=5:=Bt.2 (by
  have:=Se n.natAbs (n.natAbs.gcd d.natAbs);rw [<- Th] at this;omega)
 have h2:(dig (lowD n d).natAbs).length<=5:=Bt.2 (by
  have:=Se d.natAbs (n.natAbs.gcd d.natAbs);have e:(lowD n d).natAbs=d.natAbs / n.natAbs.gcd d.natAbs:=rfl;rw [e];omega)
 simp only [Gi,okZ];simp [cq];omega
theorem T5 {n d:Int} (hn:n.natAbs<=100000000000000000) (hd:d.natAbs<=100000000000000000) (cq:d≠0):resQ n d=.tup [qA (lowN n d) (lowD n d),.bool true]:=by
 have h:=Afs hn hd cq;unfold resQ resN resD;rw [h]; rfl
theorem Qt (n:Int):resQ n 0=.tup [qA 0 0,.bool false]:=rfl
theorem Gt {a b:Int} (ha:smB a=true) (hb:smB b=true):(a*b).natAbs<10000000000000000:=by
 have h1:=Vx ha;have h2:=Vx hb;rw [Ie];have:=Nat.mul_lt_mul_of_lt_of_le h1 (Nat.le_of_lt h2) (by omega:0<100000000);omega
theorem L9 {z:Int} (h:smB z=true):smN z=z:=by simp [smN,h]
def ofQ (p:Bool) (l:List Int) (q:Bool) (r:List Int):AV:=resQ (V p l) (if Ei p l=true then V q r else 0)
section
variable (S:List Ent) (tk:List Nat) (k:Nat)
theorem As3 (p:Bool) (l:List Int) (q:Bool) (r:List Int) (hl:l.length<=1000000) (hr:r.length<=1000000):cL prog 169 [bigA p l,bigA q r] S tk k=some (ofQ p l q r,S,tk,k):=by
 have ph:=fun S tk k=>told (E:=E1) (Na S tk k p l .unk hl);have pm:=fun S tk k=>told (E:=E1) (Na S tk k q r .unk hr);refine opP func169 ntmps169 (hp3:=rfl) ?_;have hz:dig 0=[]:=Dv;have yi:decide ((0:Int)<0)=false:=aH
 unfold ofQ;cases h1:Ei p l with
 | false =>
  rw [h1] at ph;rw [if_neg (by simp),Qt];simp (maxSteps:=10^6)+contextual(disch:=try exact dqd)only[ev1,simprocAttr,Cd,Cb,Ce,results169,qA,ratA,bigA,digA,hz,yi,ph]
 | true =>
 rw [h1] at ph;rw [if_pos rfl];cases h2:Ei q r with
 | false =>
  rw [h2] at pm;rw [V_bad h2,Qt];simp (maxSteps:=10^6)+contextual(disch:=try exact dqd)only[ev1,simprocAttr,Cd,Cb,Ce,results169,qA,ratA,bigA,digA,hz,yi,ph,pm]
 | true =>
 rw [h2] at pm;obtain ⟨hp,hpl⟩:=Hp h1;obtain ⟨hq,xp⟩:=Hp h2;by_cases bw:r=[]
 ·subst bw;have e0:V q []=0:=by have:=Hs.1 xp.symm; omega
  rw [e0,Qt];simp only [Fi] at pm;have iz:(((0:Nat):Int) == 0)=true:=rfl;simp (maxSteps:=10^6)+contextual(disch:=try exact dqd)only[ev1,simprocAttr,Cd,Cb,Ce,results169,qA,ratA,bigA,digA,hz,yi,iz,ph,pm]
 ·have iz:(((r.length:Nat):Int) == 0)=false:=by
   have:=Lo.2 bw;simp; omega
  have cq:V q r≠0:=fun e=>bw (by rw [xp,e]; rfl);have hR:=fun S tk k=>L5 S tk k (V p l) (V q r) (by have:=Amc p l; omega) (by have:=Amc q r; omega) cq;have hO1:=fun S tk k=>Gx S tk k (V p l);have hO2:=fun S tk k=>Gx S tk k (V q r);simp only [zA,bigA,digA,<- hp,<- hpl,<- hq,<- xp] at hR hO1 hO2;simp only [resQ,qA,ratA,digA] at hR ⊢;simp (maxSteps:=10^6)+contextual(disch:=try exact dqd)only[ev1,simprocAttr,Cd,Cb,Ce,results169,qA,ratA,bigA,digA,iz,ph,pm,hO1,hO2,hR]
theorem Aqn (p1:Bool) (l1:List Int) (q1:Bool) (r1:List Int) (p2:Bool) (l2:List Int) (q2:Bool) (r2:List Int) (h1:l1.length<=1000000) (h2:r1.length<=1000000) (h3:l2.length<=1000000) (h4:r2.length<=1000000) :
  cL prog 198 [ratA p1 l1 q1 r1,ratA p2 l2 q2 r2] S tk k=some (resQ (nQ p1 l1 q1 r1*nQ p2 l2 q2 r2) (dQ p1 l1 q1 r1*dQ p2 l2 q2 r2),S,tk,k):=by
 have hA:=fun S tk k=>Hb S tk k p1 l1 q1 r1 h1 h2;have hB:=fun S tk k=>Hb S tk k p2 l2 q2 r2 h3 h4;have gA:=K0 p1 l1 q1 r1;have gB:=K0 p2 l2 q2 r2;generalize nQ p1 l1 q1 r1=a at *;generalize dQ p1 l1 q1 r1=b at *;generalize nQ p2 l2 q2 r2=c at *;generalize dQ p2 l2 q2 r2=d at *;have ny:b*d≠0:=Iw Za4h (by have:=gB.pos; omega);refine opP func198 ntmps198 (hp3:=rfl) ?_;have hK:=fun S tk k=>N3 S tk k a b c d;cases hs:smB a && smB b && smB c && smB d with
 | true =>
  rw [hs] at hK;simp only [Ch] at hs;obtain ⟨⟨⟨s1,s2⟩,s3⟩,s4⟩:=hs;rw [L9 s1,L9 s2,L9 s3,L9 s4] at hK;have b1:=Gt s1 s3;have b2:=Gt s2 s4;have hw1:Cf.wrap (a*c)=a*c:=Ab aC;have hw2:Cf.wrap (b*d)=b*d:=Ab aC;have hF:=fun S tk k=>Li S tk k (a*c) (b*d) aA aA ny;rw [T5 aA aA ny];simp only [qA,ratA,digA] at hA hB hK hF ⊢;simp (maxSteps:=10^6)+contextual(disch:=try exact dqd)only[ev1,simprocAttr,Cd,Cb,Ce,results198,ratA,digA,hA,hB,hK,hF,hw1,hw2]
 | false =>
  rw [hs] at hK;have hO1:=fun S tk k=>Gx S tk k a;have hO2:=fun S tk k=>Gx S tk k b;have po:=fun S tk k=>Gx S tk k c;have hO4:=fun S tk k=>Gx S tk k d;have l1:=gA.ln;have l2:=gA.ld;have l3:=gB.ln;have l4:=gB.ld;have fk:=fun S tk k=>Ef S tk k a c aA aA;have au:=fun S tk k=>Ef S tk k b d aA aA;have m1:=Hi l1 l3;have m2:=Hi l2 l4;have hR:=fun S tk k=>L5 S tk k (a*c) (b*d) aA aA ny;simp only [zA,bigA,digA] at hO1 hO2 po hO4 fk au hR;simp only [resQ,qA,ratA,digA] at hA hB hK hR ⊢;simp (maxSteps:=10^6)+contextual(disch:=try exact dqd)only[ev1,simprocAttr,Cd,Cb,Ce,results198,ratA,digA,hA,hB,hK,hO1,hO2,po,hO4,fk,au,hR]
end
theorem Y7 {x y:Int} (hs:decide (x<0)=decide (y<0)):(cmpN x.natAbs y.natAbs == 0)=decide (x=y):=by
 have h1:(x<0)↔(y<0):=fC
 rw [iI];simp only [beq_iff_eq,decide_eq_true_eq];unfold cmpN;split
 ·omega
 ·split <;> omega
theorem Aij {x y:Int} (h:x<y):cmpZ x y=-1:=by simp [cmpZ,h]
theorem Aii {x y:Int} (h:y<x):cmpZ x y=1:=by unfold cmpZ; rw [if_neg aA,if_pos h]
theorem Aih {x y:Int} (h:x=y):cmpZ x y=0:=by unfold cmpZ; rw [if_neg aA,if_neg aA]
section
variable (S:List Ent) (tk:List Nat) (k:Nat)
theorem Aqm (p1:Bool) (l1:List Int) (q1:Bool) (r1:List Int) (p2:Bool) (l2:List Int) (q2:Bool) (r2:List Int) (h1:l1.length<=1000000) (h2:r1.length<=1000000) (h3:l2.length<=1000000) (h4:r2.length<=1000000) :
  cL prog 196 [ratA p1 l1 q1 r1,ratA p2 l2 q2 r2] S tk k=some (resQ (nQ p1 l1 q1 r1*dQ p2 l2 q2 r2) (dQ p1 l1 q1 r1*nQ p2 l2 q2 r2),S,tk,k):=by
 have hA:=fun S tk k=>Hb S tk k p1 l1 q1 r1 h1 h2;have hB:=fun S tk k=>Hb S tk k p2 l2 q2 r2 h3 h4;have gA:=K0 p1 l1 q1 r1;have gB:=K0 p2 l2 q2 r2;generalize nQ p1 l1 q1 r1=a at *;generalize dQ p1 l1 q1 r1=b at *;generalize nQ p2 l2 q2 r2=c at *;generalize dQ p2 l2 q2 r2=d at *;refine opP func196 ntmps196 (hp3:=rfl) ?_;have hz:dig 0=[]:=Dv;have yi:decide ((0:Int)<0)=false:=aH
 by_cases hc:c=0
 ·subst hc;have iz:((((dig (Int.natAbs 0)).length:Nat):Int) == 0)=true:=rfl;have iz2:(((0:Nat):Int) == 0)=true:=rfl;rw [Su,Qt];simp only [qA,ratA,digA,hz,Fi] at hA hB ⊢;simp (maxSteps:=10^6)+contextual(disch:=try exact dqd)only[ev1,simprocAttr,Cd,Cb,Ce,results196,ratA,digA,hz,yi,hA,hB,iz,iz2]
 have iz:((((dig c.natAbs).length:Nat):Int) == 0)=false:=by
  have:(dig c.natAbs)≠[]:=fun e=>hc (by have:=Hs.1 e; omega);have:=Lo.2 this;simp; omega
 have ny:b*c≠0:=Iw Za4h hc;have hK:=fun S tk k=>N3 S tk k a b c d;cases hs:smB a && smB b && smB c && smB d with
 | true =>
  rw [hs] at hK;simp only [Ch] at hs;obtain ⟨⟨⟨s1,s2⟩,s3⟩,s4⟩:=hs;rw [L9 s1,L9 s2,L9 s3,L9 s4] at hK;have b1:=Gt s1 s4;have b2:=Gt s2 s3;have hw1:Cf.wrap (a*d)=a*d:=Ab aC;have hw2:Cf.wrap (b*c)=b*c:=Ab aC;have hF:=fun S tk k=>Li S tk k (a*d) (b*c) aA aA ny;rw [T5 aA aA ny];simp only [qA,ratA,digA] at hA hB hK hF ⊢;simp (maxSteps:=10^6)+contextual(disch:=try exact dqd)only[ev1,simprocAttr,Cd,Cb,Ce,results196,ratA,digA,hA,hB,hK,hF,hw1,hw2,iz]
 | false =>
  rw [hs] at hK;have hO1:=fun S tk k=>Gx S tk k a;have hO2:=fun S tk k=>Gx S tk k b;have po:=fun S tk k=>Gx S tk k c;have hO4:=fun S tk k=>Gx S tk k d;have l1:=gA.ln;have l2:=gA.ld;have l3:=gB.ln;have l4:=gB.ld;have fk:=fun S tk k=>Ef S tk k a d aA aA;have au:=fun S tk k=>Ef S tk k b c aA aA;have m1:=Hi l1 l4;have m2:=Hi l2 l3;have hR:=fun S tk k=>L5 S tk k (a*d) (b*c) aA aA ny;simp only [zA,bigA,digA] at hO1 hO2 po hO4 fk au hR;simp only [resQ,qA,ratA,digA] at hA hB hK hR ⊢;simp (maxSteps:=10^6)+contextual(disch:=try exact dqd)only[ev1,simprocAttr,Cd,Cb,Ce,results196,ratA,digA,hA,hB,hK,hO1,hO2,po,hO4,fk,au,hR,iz]
theorem Ant (x y:Int) (hx:(dig x.natAbs).length<=90000) (hy:(dig y.natAbs).length<=90000):cL prog 204 [zA x,zA y] S tk k=some (.bool (decide (x=y)),S,tk,k):=by
 refine opP func204 ntmps204 (hp3:=rfl) ?_;have hO:=fun S tk k=>told (E:=E1) (N2 S tk k x.natAbs y.natAbs aA aA);simp only [digA] at hO;by_cases hs:decide (x<0)=decide (y<0)
 ·have d1:(decide (x<0) == decide (y<0))=true:=fC
  by_cases hl:(dig x.natAbs).length=(dig y.natAbs).length
  ·have d2:(((dig x.natAbs).length:Int) == ((dig y.natAbs).length:Int))=true:=by rw [beq_iff_eq]; omega
   have hz:=Y7 hs;simp (maxSteps:=10^6)+contextual(disch:=try exact dqd)only[ev1,simprocAttr,Cd,Cb,Ce,results204,zA,bigA,digA,d1,d2,hO,hz]
  ·have d2:(((dig x.natAbs).length:Int) == ((dig y.natAbs).length:Int))=false:=by
    rw [Bool.eq_false_iff]; intro h; exact hl (by have:=beq_iff_eq.1 h; omega)
   have hne:decide (x=y)=false:=by
    have:x≠y:=fun e=>hl (by rw [e]);simp [this]
   rw [hne];simp (maxSteps:=10^6)+contextual(disch:=try exact dqd)only[ev1,simprocAttr,Cd,Cb,Ce,results204,zA,bigA,digA,d1,d2]
 ·have d1:(decide (x<0) == decide (y<0))=false:=fC
  have hne:decide (x=y)=false:=by
   have:x≠y:=fun e=>hs (by rw [e]);simp [this]
  rw [hne];simp (maxSteps:=10^6)+contextual(disch:=try exact dqd)only[ev1,simprocAttr,Cd,Cb,Ce,results204,zA,bigA,digA,d1]
theorem Aql (p1:Bool) (l1:List Int) (q1:Bool) (r1:List Int) (p2:Bool) (l2:List Int) (q2:Bool) (r2:List Int) (h1:l1.length<=1000000) (h2:r1.length<=1000000) (h3:l2.length<=1000000) (h4:r2.length<=1000000) :
  cL prog 197 [ratA p1 l1 q1 r1,ratA p2 l2 q2 r2] S tk k=some (.int (cmpZ (nQ p1 l1 q1 r1*dQ p2 l2 q2 r2) (nQ p2 l2 q2 r2*dQ p1 l1 q1 r1)),S,tk,k):=by
 have hA:=fun S tk k=>Hb S tk k p1 l1 q1 r1 h1 h2;have hB:=fun S tk k=>Hb S tk k p2 l2 q2 r2 h3 h4;have gA:=K0 p1 l1 q1 r1;have gB:=K0 p2 l2 q2 r2;generalize nQ p1 l1 q1 r1=a at *;generalize dQ p1 l1 q1 r1=b at *;generalize nQ p2 l2 q2 r2=c at *;generalize dQ p2 l2 q2 r2=d at *;refine opP func197 ntmps197 (hp3:=rfl) ?_;have hK:=fun S tk k=>N3 S tk k a b c d;cases hs:smB a && smB b && smB c && smB d with
 | true =>
  rw [hs] at hK;simp only [Ch] at hs;obtain ⟨⟨⟨s1,s2⟩,s3⟩,s4⟩:=hs;rw [L9 s1,L9 s2,L9 s3,L9 s4] at hK;have b1:=Gt s1 s4;have b2:=Gt s3 s2;have hw1:Cf.wrap (a*d)=a*d:=Ab aC;have hw2:Cf.wrap (c*b)=c*b:=Ab aC;simp only [qA,ratA,digA] at hA hB hK;by_cases g1:a*d<c*b
  ·have d1:decide (a*d<c*b)=true:=fG
   rw [Aij g1];simp (maxSteps:=10^6)+contextual(disch:=try exact dqd)only[ev1,simprocAttr,Cd,Cb,Ce,results197,ratA,digA,hA,hB,hK,hw1,hw2,d1]
  ·have d1:decide (a*d<c*b)=false:=fG
   by_cases g2:a*d > c*b
   ·have d2:decide (a*d > c*b)=true:=dP
    rw [Aii g2];exact Ya0x
   ·have d2:decide (a*d > c*b)=false:=dP
    rw [Aih aA];exact Ya0x
 | false =>
  rw [hs] at hK;have hO1:=fun S tk k=>Gx S tk k a;have hO2:=fun S tk k=>Gx S tk k b;have po:=fun S tk k=>Gx S tk k c;have hO4:=fun S tk k=>Gx S tk k d;have l1:=gA.ln;have l2:=gA.ld;have l3:=gB.ln;have l4:=gB.ld;have fk:=fun S tk k=>Ef S tk k a d aA aA;have au:=fun S tk k=>Ef S tk k c b aA aA;have m1:=Hi l1 l4;have m2:=Hi l3 l2;have hS:=fun S tk k=>Ant S tk k (a*d) (c*b) aA aA;have hM:=fun S tk k=>Ui S tk k (a*d) (c*b) aA aA;simp only [zA,bigA,digA] at hO1 hO2 po hO4 fk au hS hM;simp only [qA,ratA,digA] at hA hB hK;by_cases g1:a*d=c*b
  ·have d1:decide (a*d=c*b)=true:=fG
   rw [d1] at hS;rw [Aih g1];simp (maxSteps:=10^6)+contextual(disch:=try exact dqd)only[ev1,simprocAttr,Cd,Cb,Ce,results197,ratA,digA,hA,hB,hK,hO1,hO2,po,hO4,fk,au,hS]
  ·have d1:decide (a*d=c*b)=false:=fG
   rw [d1] at hS;by_cases g2:a*d<c*b
   ·have d2:decide (a*d - c*b<0)=true:=aB
    rw [d2] at hM;rw [Aij g2];exact Ya0r
   ·have d2:decide (a*d - c*b<0)=false:=aB
    rw [d2] at hM;rw [Aii aA];exact Ya0r
end
end
section
open Go
theorem Jd.valid {n d:Int} (h:Jd n d):Ll (decide (n<0)) (dig n.natAbs) (decide (d<0)) (dig d.natAbs)=true:=by
 unfold Ll Um;rw [Qz _ h.ln,Qz _ h.ld,V_of _ h.ln,V_of _ h.ld];simp [h.pos,h.cop]
theorem Jd.nQ {n d:Int} (h:Jd n d):nQ (decide (n<0)) (dig n.natAbs) (decide (d<0)) (dig d.natAbs)=n:=by
 unfold Proofs.YtcandeobhlfkbaaGreat.nQ;rw [if_pos h.valid,V_of _ h.ln]
theorem Jd.dQ {n d:Int} (h:Jd n d):dQ (decide (n<0)) (dig n.natAbs) (decide (d<0)) (dig d.natAbs)=d:=by
 unfold Proofs.YtcandeobhlfkbaaGreat.dQ;rw [if_pos h.valid,V_of _ h.ld]
theorem Jd.neg {n d:Int} (h:Jd n d):Jd (-n) d:=by
 have e:(-n).natAbs=n.natAbs:=aA
 exact ⟨h.pos,by rw [e]; exact h.cop,by rw [e]; exact h.ln,h.ld⟩
end
section
open Go
end
section
open Go
end
section
open Go
end
section
open Go Tryz
set_option maxHeartbeats 1000000
theorem Aj3 {a:Int} (ha:smB a=true):smB (-a)=true:=by
 simp only [smB,Int.natAbs_neg] at ha ⊢; exact ha
section
variable (S:List Ent) (tk:List Nat) (k:Nat)
theorem Aqo (p1:Bool) (l1:List Int) (q1:Bool) (r1:List Int) (p2:Bool) (l2:List Int) (q2:Bool) (r2:List Int) (h1:l1.length<=1000000) (h2:r1.length<=1000000) (h3:l2.length<=1000000) (h4:r2.length<=1000000) :
  cL prog 199 [ratA p1 l1 q1 r1,ratA p2 l2 q2 r2,.bool true] S tk k=some (resQ (nQ p1 l1 q1 r1*dQ p2 l2 q2 r2+-nQ p2 l2 q2 r2*dQ p1 l1 q1 r1) (dQ p1 l1 q1 r1*dQ p2 l2 q2 r2),S,tk,k):=by
 have hA:=fun S tk k=>Hb S tk k p1 l1 q1 r1 h1 h2;have hB:=fun S tk k=>Hb S tk k p2 l2 q2 r2 h3 h4;have gA:=K0 p1 l1 q1 r1;have gB:=K0 p2 l2 q2 r2;generalize nQ p1 l1 q1 r1=a at *;generalize dQ p1 l1 q1 r1=b at *;generalize nQ p2 l2 q2 r2=c at *;generalize dQ p2 l2 q2 r2=d at *;have ny:b*d≠0:=Iw Za4h (by have:=gB.pos; omega);refine opP func199 ntmps199 (hp3:=rfl) ?_;have hK:=fun S tk k=>N3 S tk k a b c d;cases hs:smB a && smB b && smB c && smB d with
 | true =>
  rw [hs] at hK;simp only [Ch] at hs;obtain ⟨⟨⟨s1,s2⟩,s3⟩,s4⟩:=hs;rw [L9 s1,L9 s2,L9 s3,L9 s4] at hK;have b0:=Vx s3;have b1:=Gt s1 s4;have b2:=Gt (Aj3 s3) s2;have b3:=Gt s2 s4;have qe:Cf.wrap (0 - c)=-c:=aS
  have hw1:Cf.wrap (a*d)=a*d:=Ab aC;have hw2:Cf.wrap (-c*b)=-c*b:=Ab aC;have hw3:Cf.wrap (b*d)=b*d:=Ab aC;have hw4:Cf.wrap (a*d+-c*b)=a*d+-c*b:=Ab aC;have hF:=fun S tk k=>Li S tk k (a*d+-c*b) (b*d) aA aA ny;rw [T5 aA aA ny];simp only [qA,ratA,digA] at hA hB hK hF ⊢;simp (maxSteps:=10^6)+contextual(disch:=try exact dqd)only[ev1,simprocAttr,Cd,Cb,Ce,results199,ratA,digA,hA,hB,hK,hF,qe,hw1,hw2,hw3,hw4]
 | false =>
  rw [hs] at hK;have hO1:=fun S tk k=>Gx S tk k a;have hO2:=fun S tk k=>Gx S tk k b;have po:=fun S tk k=>Gx S tk k c;have hO4:=fun S tk k=>Gx S tk k d;have l1:=gA.ln;have l2:=gA.ld;have l3:=gB.ln;have l4:=gB.ld;have fk:=fun S tk k=>Ef S tk k a d aA aA;have au:=fun S tk k=>Ef S tk k b d aA aA;have dk:=fun S tk k=>Ef S tk k c b aA aA;have m1:=Hi l1 l4;have m2:=Hi l2 l4;have m3:=Hi l3 l2;have m5:=Am9 m3;have hP:=fun S tk k=>Ui S tk k (a*d) (c*b) aA aA;have e1:a*d - c*b=a*d+-c*b:=by rw [iD]; omega
  rw [e1] at hP;rw [<- iD] at m5;have m4:=Am7 (x:=a*d) (y:=-c*b) (a:=45000) aA aA;have hR:=fun S tk k=>L5 S tk k (a*d+-c*b) (b*d) aA aA ny;simp only [zA,bigA,digA] at hO1 hO2 po hO4 fk au dk hP hR;simp only [resQ,qA,ratA,digA] at hA hB hK hR ⊢;simp (maxSteps:=10^6)+contextual(disch:=try exact dqd)only[ev1,simprocAttr,Cd,Cb,Ce,results199,ratA,digA,hA,hB,hK,hO1,hO2,po,hO4,fk,au,dk,hP,hR]
theorem Anr (p1:Bool) (l1:List Int) (q1:Bool) (r1:List Int) (p2:Bool) (l2:List Int) (q2:Bool) (r2:List Int) (h1:l1.length<=1000000) (h2:r1.length<=1000000) (h3:l2.length<=1000000) (h4:r2.length<=1000000) :
  cL prog 195 [ratA p1 l1 q1 r1,ratA p2 l2 q2 r2] S tk k=some (resQ (nQ p1 l1 q1 r1*dQ p2 l2 q2 r2+-nQ p2 l2 q2 r2*dQ p1 l1 q1 r1) (dQ p1 l1 q1 r1*dQ p2 l2 q2 r2),S,tk,k):=by
 have hJ:=fun S tk k=>Aqo S tk k p1 l1 q1 r1 p2 l2 q2 r2 h1 h2 h3 h4;refine opP func195 ntmps195 (hp3:=rfl) ?_;simp only [resQ,qA,ratA,digA] at hJ ⊢;simp (maxSteps:=10^6)+contextual(disch:=try exact dqd)only[ev1,simprocAttr,Cd,Cb,Ce,results195,ratA,digA,hJ]
end
end
section
open Go
theorem Ul {l:List Int} {i:Nat} {x:Int} (h:i<l.length):(l.set i x).drop i=x :: l.drop (i+1):=by
 rw [Ay (Aaj h)];congr 1;rw [List.drop_set]; simp
theorem Vr (n:Nat):okD (Ci n 0):=fun d hd=>by
 have:=(Im.1 hd).2; omega
structure Q8 (A:Nat) (b:Int) (m:Nat) (r:Int) (out:List Int):Prop where
 len:out.length=(dig A).length
 ok:okD out
 r0:0<=r/\r<b
 eqv:val ((dig A).drop m)=val (out.drop m)*b+r
theorem Q8.start {A:Nat} {b:Int} (h:0<b):Q8 A b (dig A).length 0 (Ci (dig A).length 0):=by
 refine ⟨by simp,Vr _,aA,?_⟩;rw [Fo,Ft (by simp)]; simp [val]
theorem Q8.step {A:Nat} {b:Int} {m:Nat} {r x:Int} {out:List Int} (h:Q8 A b m r out) (hm:m≠0) (tv:m<=(dig A).length) (hx:nth (dig A) (m - 1)=some x) :
  Q8 A b (m - 1) ((r*10000+x).tmod b) (out.set (m - 1) ((r*10000+x).tdiv b))/\0<=(r*10000+x).tdiv b/\(r*10000+x).tdiv b<10000/\0<=(r*10000+x).tmod b/\(r*10000+x).tmod b<b:=by
 have hr:=h.r0;have hxk:=Gb (Da A) hx;have hn:0<=r*10000+x:=aA
 have e1:(r*10000+x).tdiv b=(r*10000+x) / b:=Fp hn;have e2:(r*10000+x).tmod b=(r*10000+x) % b:=Iq hn;have m0:=Int.emod_nonneg (r*10000+x) (show b≠0 by omega);have m1:=Int.emod_lt_of_pos (r*10000+x) (show 0<b by omega);have q0:0<=(r*10000+x) / b:=Int.ediv_nonneg hn aA;have q1:(r*10000+x) / b<10000:=Int.ediv_lt_of_lt_mul aA aA;have cu:m - 1+1=m:=aA
 have hlen:m - 1<out.length:=by have:=h.len; omega
 rw [e1,e2];refine ⟨⟨cR,Xj h.ok q0 q1,⟨m0,m1⟩,?_⟩,q0,q1,m0,m1⟩;have hv:=h.eqv;rw [Ay hx,Ul hlen,val,val,cu,hv];have hd:=Int.emod_add_mul_ediv (r*10000+x) b;rw [Int.add_mul,Ow,<- Ii,F6 ((r*10000+x) / b)];generalize b*((r*10000+x) / b)=t at *;generalize (r*10000+x) % b=u at *;rw [Ii];generalize val (out.drop m)*b=w at *;omega
theorem Apt {A B Q R:Int} (h:A=Q*B+R) (h0:0<=R) (h1:R<B):A / B=Q/\A % B=R:=by
 have hb:0<B:=aA
 subst h;constructor
 ·rw [Int.add_comm,Int.add_mul_ediv_right _ _ aA,Int.ediv_eq_zero_of_lt h0 h1]; omega
 ·rw [Int.add_comm,Int.add_mul_emod_self_right,Int.emod_eq_of_lt h0 h1]
theorem Amt {A B:Nat} {Q R:Int} (h:(A:Int)=Q*B+R) (h0:0<=R) (h1:R<B):Q=((A / B:Nat):Int)/\R=((A % B:Nat):Int):=by
 obtain ⟨e1,e2⟩:=Apt h h0 h1;rw [<- e1,<- e2]; exact ⟨rfl,rfl⟩
theorem Q8.done {A B:Nat} {r:Int} {out:List Int} (h:Q8 A B 0 r out):Dx out=dig (A / B)/\r.toNat=A % B:=by
 have hv:=h.eqv;rw [F7,F7,Dm] at hv;obtain ⟨e1,e2⟩:=Amt hv h.r0.1 h.r0.2;rw [En h.ok,e1];exact ⟨by congr 1,aA⟩
theorem Akk (n:Nat):((10000 ^ n:Nat):Int)=(10000:Int) ^ n:=Int.natCast_pow ..
structure Dg (a d z i:Nat) (c:Int) (out:List Int):Prop where
 len:out.length=z+i
 ok:okD out
 c0:0<=c/\c<=9999
 eqv:val out+10000 ^ (z+i)*(c+d*val ((dig a).drop i))=(a*d*10000 ^ z:Nat)
theorem Dg.start (a d z:Nat):Dg a d z 0 0 (Ci z 0):=by
 refine ⟨by simp,Vr _,aA,?_⟩;rw [Hl,F7,Dm,Int.natCast_mul,Int.natCast_mul,Akk,M9,Int.zero_add,Int.zero_add,F6,F6 (a:Int)]
theorem Aqd {x d:Int} (h0:0<=x) (h1:x<10000) (h2:0<=d) (h3:d<10000):0<=x*d/\x*d<=99980001:=by
 have a:=iX h0 h2;have b:=Int.mul_le_mul (a:=x) (b:=d) (c:=9999) (d:=9999) aA aA h2 aA;omega
theorem Dg.step {a d z i:Nat} {c x n:Int} {out:List Int} (h:Dg a d z i c out) (hd:d<10000) (hx:nth (dig a) i=some x) (hn:n=c+x*d) :
  Dg a d z (i+1) (n.tdiv 10000) (out++[n.tmod 10000])/\0<=n/\n<=99990000:=by
 have hxk:=Gb (Da a) hx;have hm:=Aqd hxk.1 hxk.2 (Int.natCast_nonneg d) aA;have h3:=h.c0;have e1:n.tdiv 10000=n / 10000:=Fp aA;have e2:n.tmod 10000=n % 10000:=Iq aA;refine ⟨⟨by simp [h.len]; omega,Qr h.ok aA aA,aA,?_⟩,aA,aA⟩;have hv:=h.eqv;rw [Ay hx,val] at hv;have e3:(d:Int)*(x+10000*val ((dig a).drop (i+1)))=x*d+10000*(d*val ((dig a).drop (i+1))):=by
  rw [Ow,F6 (d:Int) x,<- Ii,F6 (d:Int) 10000,Ii]
 rw [e3] at hv;have:n.tmod 10000+10000*(n.tdiv 10000+d*val ((dig a).drop (i+1)))=c+(x*d+10000*(d*val ((dig a).drop (i+1)))):=aA
 rw [Qy,h.len,gZ,<- gY,L3,this];exact hv
theorem Dg.done {a d z i:Nat} {c:Int} {out:List Int} (h:Dg a d z i c out) (hi:(dig a).length<=i) (hc:c=0):Dx out=dig (a*d*10000 ^ z):=by
 have hv:=h.eqv;rw [Ft hi,val,hc] at hv;rw [En h.ok];congr 1;have e:(10000:Int) ^ (z+i)*(0+d*0)=0:=by rw [Su,gI,Su]
 rw [e] at hv;omega
end
section
open Go
end
section
open Go
end
section
open Go
theorem Qn {n d:Int} (hd:d≠0):(lowN n d).natAbs.gcd (lowD n d).natAbs=1:=by
 rw [Th,show (lowD n d).natAbs=d.natAbs / n.natAbs.gcd d.natAbs from rfl];have hg:0<n.natAbs.gcd d.natAbs:=M4 _ aA;rw [Nat.gcd_div (Nat.gcd_dvd_left _ _) (Nat.gcd_dvd_right _ _)];exact Nat.div_self hg
theorem Nr {n d:Int} (hd:d≠0):0<lowD n d:=by
 have hg:0<n.natAbs.gcd d.natAbs:=M4 _ aA;have h2:n.natAbs.gcd d.natAbs<=d.natAbs:=gV _ aA;have:=Nat.div_pos h2 hg;unfold lowD; omega
theorem K6 {n d:Int} (hd:d≠0):lowN n d*d=n*lowD n d:=by
 have hg:0<n.natAbs.gcd d.natAbs:=M4 _ aA;obtain ⟨g,hgd⟩:∃ g:Nat,g=n.natAbs.gcd d.natAbs:=⟨_,rfl⟩;have h1:(g:Int) ∣ n:=by rw [hgd]; exact Int.ofNat_dvd_left.2 (Nat.gcd_dvd_left _ _)
 have h2:(g:Int) ∣ d:=by rw [hgd]; exact Int.ofNat_dvd_left.2 (Nat.gcd_dvd_right _ _)
 obtain ⟨a,ha⟩:=h1;obtain ⟨b,hb⟩:=h2;have lz:(g:Int)≠0:=aA
 have hN:lowN n d=if d<0 then -a else a:=by
  unfold lowN;rw [<- hgd];split
  ·rw [ha,Int.neg_tdiv,Int.mul_tdiv_cancel_left _ lz]
  ·rw [ha,Int.mul_tdiv_cancel_left _ lz]
 have hD:lowD n d=if d<0 then -b else b:=by
  unfold lowD;rw [<- hgd];have:d.natAbs=g*b.natAbs:=by rw [hb,Ie]; simp
  rw [this,Nat.mul_div_cancel_left _ aA];have hs:d<0↔b<0:=by
   rw [hb];constructor
   ·intro h;rcases Int.lt_or_le b 0 with h'|h'
    ·exact h'
    ·have:=iX (show (0:Int)<=g by omega) h'; omega
   ·intro h;exact Int.mul_neg_of_pos_of_neg aA h
  split <;> omega
 rw [hN,hD];generalize (g:Int)=G at *;subst ha hb;split
 ·rw [iD,Int.mul_neg,<- Ii,F6 a G]
 ·rw [<- Ii,F6 a G]
theorem Ns {a b c d:Int} (hb:0<b) (hd:0<d) (h1:a.natAbs.gcd b.natAbs=1) (h2:c.natAbs.gcd d.natAbs=1) (h:a*d=c*b):a=c/\b=d:=by
 have e:=congrArg Int.natAbs h;rw [Ie,Ie] at e;have k1:d.natAbs ∣ b.natAbs:=(Nat.Coprime.dvd_of_dvd_mul_left (Nat.Coprime.symm h2) ⟨a.natAbs,by rw [<- e,O1]⟩);have k2:b.natAbs ∣ d.natAbs:=(Nat.Coprime.dvd_of_dvd_mul_left (Nat.Coprime.symm h1) ⟨c.natAbs,by rw [e,O1]⟩);have ny:b.natAbs=d.natAbs:=Nat.dvd_antisymm k2 k1;have a2c:b=d:=aA
 subst a2c;exact ⟨Int.eq_of_mul_eq_mul_right aA h,rfl⟩
theorem Jd.low {n d:Int} (h:Jd n d):lowN n d=n/\lowD n d=d:=by
 have hd:=h.pos;exact Ns (Nr aA) hd (Qn aA) h.cop (K6 aA)
theorem Asn {n d n' d':Int} (hd:d≠0) (dd:d'≠0) (h:n*d'=n'*d):lowN n d=lowN n' d'/\lowD n d=lowD n' d':=by
 refine Ns (Nr hd) (Nr dd) (Qn hd) (Qn dd) ?_;have h1:=K6 (n:=n) hd;have h2:=K6 (n:=n') dd;have h3:(lowN n d*lowD n' d')*(d*d')=(lowN n' d'*lowD n d)*(d*d'):=by
  generalize lowN n d=a at *;generalize lowD n d=b at *;generalize lowN n' d'=a' at *;generalize lowD n' d'=b' at *;have e1:(a*b')*(d*d')=(n*d')*(b*b'):=by
   have:(a*b')*(d*d')=(a*d)*(b'*d'):=aM
   rw [this,h1]; grind
  have e2:(a'*b)*(d*d')=(n'*d)*(b*b'):=by
   have:(a'*b)*(d*d')=(a'*d')*(b*d):=aM
   rw [this,h2]; grind
  rw [e1,e2,h]
 exact Int.eq_of_mul_eq_mul_right (Iw hd dd) h3
theorem Ap7 {n d n' d':Int} (hd:d≠0) (dd:d'≠0) (h:n*d'=n'*d):Gi n d=Gi n' d'/\resN n d=resN n' d'/\resD n d=resD n' d':=by
 obtain ⟨h1,h2⟩:=Asn hd dd h;have hf:Gi n d=Gi n' d':=by
  unfold Gi;rw [h1,h2];simp [hd,dd]
 exact ⟨hf,by unfold resN; rw [hf,h1],by unfold resD; rw [hf,h2]⟩
theorem Abr {n d:Int} (h:Gi n d=true):d≠0:=by
 unfold Gi at h;simp at h;exact h.1.1
theorem Aeu {n d:Int} (h:Gi n d=true):Jd (resN n d) (resD n d):=by
 have hd:=Abr h;unfold resN resD;rw [h];simp only [if_true];refine ⟨Nr hd,Qn hd,?_,?_⟩
 ·unfold Gi okZ at h; simp at h; exact h.1.2
 ·unfold Gi okZ at h; simp at h; exact h.2
theorem Aks {n d:Int} (h:Gi n d=true):resN n d*d=n*resD n d:=by
 have hd:=Abr h;unfold resN resD;rw [h];exact K6 hd
theorem Jd.fits {n d:Int} (h:Jd n d):Gi n d=true/\resN n d=n/\resD n d=d:=by
 obtain ⟨h1,h2⟩:=h.low;have hf:Gi n d=true:=by
  unfold Gi okZ;rw [h1,h2];have:=h.pos;simp only [Ch,Ir,decide_eq_false_iff_not,decide_eq_true_eq];have h8:=h.ln;have h9:=h.ld;exact ⟨⟨aA,aA⟩,aA⟩
 exact ⟨hf,by unfold resN; rw [hf,h1]; rfl,by unfold resD; rw [hf,h2]; rfl⟩
theorem Anv {n d:Int} (h:Gi n d=false):resN n d=0/\resD n d=0:=by
 unfold resN resD; rw [h]; exact ⟨rfl,rfl⟩
abbrev Q:=Int × Int
structure Fld where
 whole:Int->Q × Bool
 minus:Q->Q->Q × Bool
 times:Q->Q->Q × Bool
 over:Q->Q->Q × Bool
 ok:Q->Prop
 rat:Q->Q
 stop:Bool
def sgn (a:Q):Int:=if a.1<0 then -1 else if 0<a.1 then 1 else 0
def bigF (n d:Int):Bool:=decide (n<=-2147483648) || decide (n >= 2147483648) || decide (d >= 2147483648) || decide (d=0)
def qn (n d:Int):Q × Bool:=if bigF (lowN n d) (lowD n d)=true then ((0,1),true) else ((lowN n d,lowD n d),false)
def okS (a:Q):Prop:=-2147483648<a.1/\a.1<2147483648/\0<a.2/\a.2<2147483648
def QQ.qF:Fld where
 whole n:=if n<=-2147483648\/n >= 2147483648 then ((0,1),true) else ((n,1),false)
 minus a b:=qn (a.1*b.2 - b.1*a.2) (a.2*b.2)
 times a b:=qn (a.1*b.1) (a.2*b.2)
 over a b:=if b.1=0 then ((0,1),true) else qn (a.1*b.2) (a.2*b.1)
 ok:=okS
 rat a:=(resN a.1 a.2,resD a.1 a.2)
 stop:=true
def wn (n d:Int):Q × Bool:=((resN n d,resD n d),!Gi n d)
def qz (a:Q):Q:=if a.2=0 then (0,1) else a
def okW (a:Q):Prop:=Jd a.1 a.2\/a=(0,0)
def WW.qF:Fld where
 whole n:=((n,1),false)
 minus a b:=wn ((qz a).1*(qz b).2+-(qz b).1*(qz a).2) ((qz a).2*(qz b).2)
 times a b:=wn ((qz a).1*(qz b).1) ((qz a).2*(qz b).2)
 over a b:=wn ((qz a).1*(qz b).2) ((qz a).2*(qz b).1)
 ok:=okW
 rat a:=a
 stop:=false
theorem Zz:Jd 0 1:=⟨aH,rfl,aO,aO⟩
theorem As2 {n d:Int} (h:Jd n d):qz (n,d)=(n,d):=by
 have:=h.pos;unfold qz; rw [if_neg aT]
theorem qz_n {a:Q} (h:okW a):nQ (decide (a.1<0)) (dig a.1.natAbs) (decide (a.2<0)) (dig a.2.natAbs)=(qz a).1/\dQ (decide (a.1<0)) (dig a.1.natAbs) (decide (a.2<0)) (dig a.2.natAbs)=(qz a).2:=by
 rcases h with h|rfl
 ·obtain ⟨n,d⟩:=a;rw [As2 h];exact ⟨h.nQ,h.dQ⟩
 ·refine ⟨?_,?_⟩ <;> decide +kernel
theorem Mt {a:Q} (h:okW a):(dig a.1.natAbs).length<=200/\(dig a.2.natAbs).length<=200:=by
 rcases h with h|rfl
 ·exact ⟨h.ln,h.ld⟩
 ·refine ⟨?_,?_⟩ <;> decide +kernel
theorem As7 {a:Q} (h:okW a):sgn (qz a)=sgn a:=by
 rcases h with h|rfl
 ·obtain ⟨n,d⟩:=a;rw [As2 h]
 ·rfl
theorem Aq5 (n d:Int):okW (wn n d).1:=by
 unfold wn;cases h:Gi n d with
 | true=>exact .inl (Aeu h)
 | false=>obtain ⟨h1,h2⟩:=Anv h; rw [h1,h2]; exact .inr rfl
theorem Af7 (n d:Int):0<=lowD n d:=Int.natCast_nonneg _
theorem Ano (n d:Int):okS (qn n d).1:=by
 unfold qn bigF;split
 ·exact ⟨aH,aH,aH,aH⟩
 ·rename_i h;simp only [F8,decide_eq_true_eq] at h;have:=Af7 n d;refine ⟨?_,?_,?_,?_⟩ <;> simp only <;> omega
structure Fld.Keeps (F:Fld):Prop where
 whole:∀ n,i64 n->F.ok (F.whole n).1
 minus:∀ a b,F.ok a->F.ok b->F.ok (F.minus a b).1
 times:∀ a b,F.ok a->F.ok b->F.ok (F.times a b).1
 over:∀ a b,F.ok a->F.ok b->F.ok (F.over a b).1
theorem QQ.Dh:QQ.qF.Keeps:=by
 refine ⟨fun n _=>?_,fun a b _ _=>Ano _ _,fun a b _ _=>Ano _ _,fun a b _ _=>?_⟩
 ·simp only [QQ.qF];split
  ·exact ⟨aH,aH,aH,aH⟩
  ·refine ⟨?_,?_,?_,?_⟩ <;> simp only <;> omega
 ·simp only [QQ.qF];split
  ·exact ⟨aH,aH,aH,aH⟩
  ·exact Ano _ _
theorem WW.Dh:WW.qF.Keeps:=by
 refine ⟨fun n hn=>.inl ?_,fun a b _ _=>Aq5 _ _,fun a b _ _=>Aq5 _ _,fun a b _ _=>Aq5 _ _⟩;simp only [WW.qF];have h1:(dig (1:Int).natAbs).length<=200:=aO
 refine ⟨by simp,by simp,?_,h1⟩;refine Bt.2 ?_;unfold i64 at hn;exact Ya2d
end
section
open Go Tryz
set_option maxHeartbeats 4000000
set_option maxRecDepth 100000
def frA (a:Q):AV:=.agg [.int a.1,.int a.2]
def QQ.flS (S:List Ent) (iq eq:Nat) (b:Bool):List Ent:=bif b then put S iq ⟨eq,[.prim (.bool true)]⟩ else S
theorem E7 {S:List Ent} {iq eq:Nat} : QQ.flS S iq eq false=S:=rfl
theorem A4 {S:List Ent} {iq eq:Nat} : QQ.flS S iq eq true=put S iq ⟨eq,[.prim (.bool true)]⟩:=rfl
theorem QQ.Bj {S:List Ent} {iq eq:Nat} {b:Bool} : (QQ.flS S iq eq b).length=S.length:=by
 cases b
 ·rfl
 ·exact Ao
theorem A0 {S:List Ent} {iq eq j:Nat} {b:Bool} (h:j≠iq):nth (QQ.flS S iq eq b) j=nth S j:=by
 cases b
 ·rfl
 ·exact Ad h.symm
theorem A9 {S:List Ent} {i e:Nat} {cs:List AV} (h:entAt S i e=some cs):i<S.length:=by
 obtain ⟨x,h1,-⟩:=Dz h;exact Bh h1
theorem Dq {α:Type} {l:List α} {i:Nat} {v:α} (h:i<l.length):nth (put l i v) i=some v:=by
 induction l generalizing i with
 | nil=>simp at h
 | cons x l ih=>cases i with
  | zero=>rfl
  | succ i=>exact ih aJ
theorem Ai {S:List Ent} {i e:Nat} {cs:List AV} (h:i<S.length):entAt (put S i ⟨e,cs⟩) i e=some cs:=by
 simp [entAt,Dq h]
theorem Ah {S:List Ent} {i j e:Nat} {x:Ent} (h:i≠j):entAt (put S i x) j e=entAt S j e:=by
 simp [entAt,Ad h]
theorem Aa {S S':List Ent} {j e:Nat} (h:nth S' j=nth S j):entAt S' j e=entAt S j e:=by simp [entAt,h]
theorem Aix {S:List Ent} {iq eq:Nat} {b c:Bool} (h:entAt S iq eq=some [.prim (.bool b)]):entAt (QQ.flS S iq eq c) iq eq=some [.prim (.bool (b || c))]:=by
 cases c
 ·rw [E7,Fv]; exact h
 ·rw [A4,Ai (A9 h),iN]
theorem Asg {S:List Ent} {iq eq:Nat} {b c:Bool} (h:entAt S iq eq=some [.prim (.bool b)]):gO S (QQ.flS S iq eq c)=some ():=by
 refine Aje ⟨QQ.Bj,fun j=>?_⟩;by_cases e:j=iq
 ·subst e;obtain ⟨x,h1,h2,h3⟩:=Dz h;obtain ⟨ep,cs⟩:=x;simp only at h2 h3;subst h2 h3;cases c
  ·exact .inl rfl
  ·exact .inr ⟨_,b,true,h1,Dq (Bh h1)⟩
 ·exact .inl (A0 e)
theorem Ac {S:List Ent} {L:List Ent} {i e:Nat} {cs:List AV} (h:entAt S i e=some cs):entAt (S++L) i e=some cs:=by
 have hl:=A9 h;unfold entAt at h ⊢;rw [Ae] at h ⊢;rw [Ct hl]; exact h
theorem Dt {S L:List Ent} {i:Nat} {x:Ent} (h:i<S.length):put (S++L) i x=put S i x++L:=by
 induction S generalizing i with
 | nil=>simp at h
 | cons y S ih=>cases i with
  | zero=>rfl
  | succ i=>simp only [Cr,put,ih aJ]
theorem Wy {S L:List Ent} {iq eq:Nat} {b:Bool} (h:iq<S.length):QQ.flS (S++L) iq eq b=QQ.flS S iq eq b++L:=by
 cases b
 ·rfl
 ·exact Dt h
theorem Hk {S L:List Ent} : (S++L).take S.length=S:=by simp
theorem Al {S:List Ent} {n k:Nat} {cs:List AV} (h:S.length=n):entAt (S++[⟨k,cs⟩]) n k=some cs:=by subst h; exact Bz
theorem Dl {S:List Ent} {n:Nat} {e e':Ent} (h:S.length=n):put (S++[e]) n e'=S++[e']:=by subst h; exact put_new
theorem Js {S L:List Ent} {n:Nat} (h:S.length=n):(S++L).take n=S:=by subst h; exact Hk
theorem Dp (x:Int) (g:Nat):(x.tdiv g).natAbs<=x.natAbs:=by
 rw [Int.natAbs_tdiv]; exact Se _ _
theorem Ann (n d:Int) (hn:n.natAbs<9223372036854775808) (hd:d.natAbs<9223372036854775808) (g:Nat) (hg:g=n.natAbs.gcd d.natAbs) (N:Int) (D:Nat) (hN:N=if d<0 then -n else n) (hD:D=d.natAbs) :
  lowN n d=(if 1<g then N.tdiv (g:Int) else N)/\lowD n d=(if 1<g then (D:Int).tdiv (g:Int) else (D:Int)):=by
 subst hN hD;have hNn:(if d<0 then -n else n).natAbs=n.natAbs:=eZ
 unfold lowN lowD;rw [<- hg];by_cases h1:1<g
 ·rw [if_pos h1,if_pos h1];exact ⟨rfl,by rw [Fp aA]; rfl⟩
 ·rw [if_neg h1,if_neg h1];rcases F3 0 g with h0|h0
  ·have:g=1:=aA
   subst this;exact ⟨by simp,by simp⟩
  ·have yd:g=0:=aA
   rw [yd] at hg;have ha:=Nat.gcd_eq_zero_iff.1 hg.symm;have hn0:n=0:=aA
   have cq:d=0:=aA
   subst hn0; subst cq;exact ⟨by simp,by simp⟩
section
variable (S:List Ent) (tk:List Nat) (k iq eq:Nat) (b:Bool)
theorem Ld (n d:Int) (hn:n.natAbs<9223372036854775808) (hd:d.natAbs<9223372036854775808) (hq:entAt S iq eq=some [.prim (.bool b)]):cL prog 168 [.ref iq eq 0,.int n,.int d] S tk k=some (frA (qn n d).1,QQ.flS S iq eq (qn n d).2,tk,k+1):=by
 have a8:=A9 hq;have bj:entAt (S++[⟨k,[.prim (.int .i64 0),.prim (.int .i64 0)]⟩]) iq eq=some [.prim (.bool b)]:=Ac hq;refine opS func168 ntmps168 ?_;obtain ⟨N,hN⟩:∃ N,N=if d<0 then -n else n:=⟨_,rfl⟩
 obtain ⟨D,hD⟩:∃ D:Nat,D=d.natAbs:=⟨_,rfl⟩;obtain ⟨g,hg⟩:∃ g:Nat,g=n.natAbs.gcd d.natAbs:=⟨_,rfl⟩;have hNn:N.natAbs=n.natAbs:=by subst hN; split <;> omega
 obtain ⟨f1,f2⟩:=Ann n d hn hd g hg N D hN hD;obtain ⟨r,hr⟩:∃ r,r=qn n d:=⟨_,rfl⟩;have ab:=hr;unfold qn bigF at ab;rw [f1,f2] at ab;rw [<- hr];have hpl:(put S iq ⟨eq,[.prim (.bool true)]⟩).length=S.length:=Ao;have hE:=fun cs=>Al (k:=k) (cs:=cs) hpl;have hP:=fun e e'=>Dl (e:=e) (e':=e') hpl;have hT:=fun L=>Js (L:=L) hpl;have hA:=fun L x=>Dt (L:=L) (x:=x) a8;by_cases hneg:d<0
 ·have d1:decide (d<0)=true:=cD
  have w1':Cf.wrap (0 - n)=N:=by rw [hN,if_pos hneg,Ab aC]; omega
  have w2':Cf.wrap (0 - d)=((D:Nat):Int):=by rw [hD,Ab aC]; omega
  by_cases hn0:N<0
  ·have d2:decide (N<0)=true:=fA
   have w3':Cf.wrap (0 - N)=((N.natAbs:Nat):Int):=aS
   simp (maxSteps:=10^6)+contextual(disch:=try exact dqd)only[evs0,simprocAttr,Cd,Cb,Ce,results168,d1,w1',w2',d2,w3'];refine Af5 (P:=prog) (fun x st=>st.T.length=56/\(x.1.gcd x.2=g)/\(x.1<9223372036854775808)/\(x.2<9223372036854775808)/\getT st.T 0=.ref iq eq 0/\getT st.T 1=.int N/\getT st.T 2=.int (D:Nat)/\getT st.T 6=.ref S.length k 0/\getT st.T 7=.int (x.1:Nat)/\getT st.T 8=.int (x.2:Nat)/\st.S=S++[⟨k,[.int 0,.int 0]⟩]/\st.tk=tk/\st.n=k+1) (fun x=>x.2) (fun x=>(frA r.1,QQ.flS S iq eq r.2,tk,k+1)) (N.natAbs,D) ?_ ?_;case refine_2=>exact ⟨rfl,fH,aA,aA,rfl,rfl,rfl,rfl,rfl,rfl,rfl,rfl,rfl⟩
   rintro ⟨x,y⟩ ⟨T,S',tk',n'⟩ ⟨hl,mh,hx,hy,e0,e1,e2,e6,e7,e8,eS,eT,eN⟩ IH;simp only at mh hx hy e0 e1 e2 e6 e7 e8 eS eT eN;subst eS eT eN;obtain ⟨g,hg,hT⟩:=Au hl;rw [hg] at e0 e1 e2 e6 e7 e8;subst hT;clear hg hl;by_cases h0:y=0
   ·subst h0;have c1:(((0:Nat):Int) != 0)=false:=rfl;rw [Sv] at mh;subst mh;by_cases h1:1<x
    ·rw [if_pos h1,if_pos h1] at ab;have c2:decide ((x:Int) > 1)=true:=aB
     have hz:¬ ((x:Int)=0):=aA
     have v1:=Dp N x;have v2:=Dp (D:Int) x;have w5:Cf.wrap (N.tdiv (x:Int))=N.tdiv (x:Int):=Ab aC;have w6:Cf.wrap ((D:Int).tdiv (x:Int))=(D:Int).tdiv (x:Int):=Ab aC;by_cases b1:N.tdiv (x:Int)<=-2147483648
     ·have k1:decide (N.tdiv (x:Int)<=-2147483648)=true:=aY
      exact Yad
     have k1:decide (N.tdiv (x:Int)<=-2147483648)=false:=aY
     by_cases b2:N.tdiv (x:Int) >= 2147483648
     ·have k2:decide (N.tdiv (x:Int) >= 2147483648)=true:=aZ
      exact Yac
     have k2:decide (N.tdiv (x:Int) >= 2147483648)=false:=aZ
     exact Ya1
    ·rw [if_neg h1,if_neg h1] at ab;have c2:decide ((x:Int) > 1)=false:=aB
     by_cases b1:N<=-2147483648
     ·have k1:decide (N<=-2147483648)=true:=aY
      exact Yaf
     have k1:decide (N<=-2147483648)=false:=aY
     by_cases b2:N >= 2147483648
     ·have k2:decide (N >= 2147483648)=true:=aZ
      exact Yae
     have k2:decide (N >= 2147483648)=false:=aZ
     exact Ya2
   ·exact Ya5
  ·have d2:decide (N<0)=false:=fA
   simp (maxSteps:=10^6)+contextual(disch:=try exact dqd)only[evs0,simprocAttr,Cd,Cb,Ce,results168,d1,w1',w2',d2];obtain ⟨M,hM⟩:∃ M:Nat,N=M:=⟨N.natAbs,aA⟩;exact Ya0
 ·have d1:decide (d<0)=false:=cD
  have a2d:n=N:=by rw [hN,if_neg hneg]
  have hDd:d=(D:Int):=aA
  subst a2d;subst hDd;by_cases hn0:n<0
  ·have d2:decide (n<0)=true:=fA
   have w3':Cf.wrap (0 - n)=((n.natAbs:Nat):Int):=aS
   simp (maxSteps:=10^6)+contextual(disch:=try exact dqd)only[evs0,simprocAttr,Cd,Cb,Ce,results168,d1,d2,w3'];refine Af5 (P:=prog) (fun x st=>st.T.length=56/\(x.1.gcd x.2=g)/\(x.1<9223372036854775808)/\(x.2<9223372036854775808)/\getT st.T 0=.ref iq eq 0/\getT st.T 1=.int n/\getT st.T 2=.int (D:Nat)/\getT st.T 6=.ref S.length k 0/\getT st.T 7=.int (x.1:Nat)/\getT st.T 8=.int (x.2:Nat)/\st.S=S++[⟨k,[.int 0,.int 0]⟩]/\st.tk=tk/\st.n=k+1) (fun x=>x.2) (fun x=>(frA r.1,QQ.flS S iq eq r.2,tk,k+1)) (n.natAbs,D) ?_ ?_;case refine_2=>exact ⟨rfl,fH,aA,aA,rfl,rfl,rfl,rfl,rfl,rfl,rfl,rfl,rfl⟩
   rintro ⟨x,y⟩ ⟨T,S',tk',n'⟩ ⟨hl,mh,hx,hy,e0,e1,e2,e6,e7,e8,eS,eT,eN⟩ IH;simp only at mh hx hy e0 e1 e2 e6 e7 e8 eS eT eN;subst eS eT eN;obtain ⟨g,hg,hT⟩:=Au hl;rw [hg] at e0 e1 e2 e6 e7 e8;subst hT;clear hg hl;by_cases h0:y=0
   ·subst h0;have c1:(((0:Nat):Int) != 0)=false:=rfl;rw [Sv] at mh;subst mh;by_cases h1:1<x
    ·rw [if_pos h1,if_pos h1] at ab;have c2:decide ((x:Int) > 1)=true:=aB
     have hz:¬ ((x:Int)=0):=aA
     have v1:=Dp n x;have v2:=Dp (D:Int) x;have w5:Cf.wrap (n.tdiv (x:Int))=n.tdiv (x:Int):=Ab aC;have w6:Cf.wrap ((D:Int).tdiv (x:Int))=(D:Int).tdiv (x:Int):=Ab aC;by_cases b1:n.tdiv (x:Int)<=-2147483648
     ·have k1:decide (n.tdiv (x:Int)<=-2147483648)=true:=aY
      exact Yad
     have k1:decide (n.tdiv (x:Int)<=-2147483648)=false:=aY
     by_cases b2:n.tdiv (x:Int) >= 2147483648
     ·have k2:decide (n.tdiv (x:Int) >= 2147483648)=true:=aZ
      exact Yac
     have k2:decide (n.tdiv (x:Int) >= 2147483648)=false:=aZ
     exact Ya1
    ·rw [if_neg h1,if_neg h1] at ab;have c2:decide ((x:Int) > 1)=false:=aB
     by_cases b1:n<=-2147483648
     ·have k1:decide (n<=-2147483648)=true:=aY
      exact Yaf
     have k1:decide (n<=-2147483648)=false:=aY
     by_cases b2:n >= 2147483648
     ·have k2:decide (n >= 2147483648)=true:=aZ
      exact Yae
     have k2:decide (n >= 2147483648)=false:=aZ
     exact Ya2
   ·exact Ya5
  ·have d2:decide (n<0)=false:=fA
   simp (maxSteps:=10^6)+contextual(disch:=try exact dqd)only[evs0,simprocAttr,Cd,Cb,Ce,results168,d1,d2];obtain ⟨M,hM⟩:∃ M:Nat,n=M:=⟨n.natAbs,aA⟩;exact Ya0
end
end
section
open Go Tryz
theorem Mu {a b:Int} (ha:a.natAbs<2147483648) (hb:b.natAbs<2147483648):(a*b).natAbs<4611686018427387904:=by
 rw [Ie];exact Nat.mul_lt_mul'' ha hb
theorem Ms {a:Q} (h:okS a):a.1.natAbs<2147483648/\a.2.natAbs<2147483648:=by
 obtain ⟨h1,h2,h3,h4⟩:=h;omega
theorem new3a {S:List Ent} {e2 e3:Ent} {k:Nat} {c:List AV} : entAt (S++[⟨k,c⟩]++[e2]++[e3]) S.length k=some c:=Ac (Ac Bz)
theorem new3b {S:List Ent} {e1 e3:Ent} {k:Nat} {c:List AV} : entAt (S++[e1]++[⟨k,c⟩]++[e3]) (S++[e1]).length k=some c:=Ac Bz
theorem new3c {S S':List Ent} {e1 e2 x1 x2:Ent} {k:Nat} {c:List AV} (h:S'.length=S.length):entAt (S'++[e1]++[e2]++[⟨k,c⟩]) (S++[x1]++[x2]).length k=some c:=Al cJ
theorem put3c {S S':List Ent} {e1 e2 x1 x2 e e':Ent} (h:S'.length=S.length):put (S'++[e1]++[e2]++[e]) (S++[x1]++[x2]).length e'=S'++[e1]++[e2]++[e']:=Dl cJ
theorem take3 {S S':List Ent} {e1 e2 e3:Ent} (h:S'.length=S.length):(S'++[e1]++[e2]++[e3]).take S.length=S':=by rw [<- h]; simp
theorem flS3 {S:List Ent} {e1 e2 e3:Ent} {iq eq:Nat} {b:Bool} (h:iq<S.length):QQ.flS (S++[e1]++[e2]++[e3]) iq eq b=QQ.flS S iq eq b++[e1]++[e2]++[e3]:=by
 rw [Wy aB,Wy aB,Wy h]
theorem new1a {S:List Ent} {k:Nat} {c:List AV} : entAt (S++[⟨k,c⟩]) S.length k=some c:=Bz
section
variable (S:List Ent) (tk:List Nat) (k iq eq:Nat) (fl:Bool)
theorem Acd (a b:Q) (ha:okS a) (hb:okS b) (hq:entAt S iq eq=some [.prim (.bool fl)]):cL prog 162 [.ref iq eq 0,frA a,frA b] S tk k=some (frA (QQ.qF.minus a b).1,QQ.flS S iq eq (QQ.qF.minus a b).2,tk,k+4):=by
 obtain ⟨pp,iv⟩:=Ms ha;obtain ⟨hb1,hb2⟩:=Ms hb;obtain ⟨an,ad⟩:=a;obtain ⟨bn,bd⟩:=b;simp only at pp iv hb1 hb2;have p1:=Mu pp hb2;have p2:=Mu hb1 iv;have p3:=Mu iv hb2;have p4:=Mu pp hb1;have p5:=Mu iv hb1;have v1:Cf.wrap (an*bd)=an*bd:=Ab aC;have v2:Cf.wrap (bn*ad)=bn*ad:=Ab aC;have v3:Cf.wrap (ad*bd)=ad*bd:=Ab aC;have v4:Cf.wrap (an*bn)=an*bn:=Ab aC;have v5:Cf.wrap (ad*bn)=ad*bn:=Ab aC;have v6:Cf.wrap (an*bd - bn*ad)=an*bd - bn*ad:=Ab aC;have a8:=A9 hq;have hq3:entAt (S++[⟨k,[.int an,.int ad]⟩]++[⟨k+1,[.int bn,.int bd]⟩]++[⟨k+1+1,[.int 0,.int 0]⟩]) iq eq=some [.prim (.bool fl)]:=Ac (Ac (Ac hq));refine opS func162 ntmps162 ?_;have hN:=Ld _ tk (k+1+1+1) iq eq fl (an*bd - bn*ad) (ad*bd) aA aA hq3;rw [flS3 a8] at hN;have hpl:=QQ.Bj (S:=S) (iq:=iq) (eq:=eq) (b:=(qn (an*bd - bn*ad) (ad*bd)).2);simp only [frA] at hN;simp (maxSteps:=10^6)+contextual(disch:=try exact dqd)only[evs0,simprocAttr,Cd,Cb,Ce,results162,frA,v1,v2,v3,v6,hN,new3a,new3b,new3c hpl,put3c hpl,take3 hpl,QQ.qF]
theorem Ace (a b:Q) (ha:okS a) (hb:okS b) (hq:entAt S iq eq=some [.prim (.bool fl)]):cL prog 166 [.ref iq eq 0,frA a,frA b] S tk k=some (frA (QQ.qF.times a b).1,QQ.flS S iq eq (QQ.qF.times a b).2,tk,k+4):=by
 obtain ⟨pp,iv⟩:=Ms ha;obtain ⟨hb1,hb2⟩:=Ms hb;obtain ⟨an,ad⟩:=a;obtain ⟨bn,bd⟩:=b;simp only at pp iv hb1 hb2;have p1:=Mu pp hb2;have p2:=Mu hb1 iv;have p3:=Mu iv hb2;have p4:=Mu pp hb1;have p5:=Mu iv hb1;have v1:Cf.wrap (an*bd)=an*bd:=Ab aC;have v2:Cf.wrap (bn*ad)=bn*ad:=Ab aC;have v3:Cf.wrap (ad*bd)=ad*bd:=Ab aC;have v4:Cf.wrap (an*bn)=an*bn:=Ab aC;have v5:Cf.wrap (ad*bn)=ad*bn:=Ab aC;have v6:Cf.wrap (an*bd - bn*ad)=an*bd - bn*ad:=Ab aC;have a8:=A9 hq;have hq3:entAt (S++[⟨k,[.int an,.int ad]⟩]++[⟨k+1,[.int bn,.int bd]⟩]++[⟨k+1+1,[.int 0,.int 0]⟩]) iq eq=some [.prim (.bool fl)]:=Ac (Ac (Ac hq));refine opS func166 ntmps166 ?_;have hN:=Ld _ tk (k+1+1+1) iq eq fl (an*bn) (ad*bd) aA aA hq3;rw [flS3 a8] at hN;have hpl:=QQ.Bj (S:=S) (iq:=iq) (eq:=eq) (b:=(qn (an*bn) (ad*bd)).2);simp only [frA] at hN;simp (maxSteps:=10^6)+contextual(disch:=try exact dqd)only[evs0,simprocAttr,Cd,Cb,Ce,results166,frA,v3,v4,hN,new3a,new3b,new3c hpl,put3c hpl,take3 hpl,QQ.qF]
def QQ.Z1 (b:Q):Nat:=if b.1=0 then 3 else 4
theorem Agh (a b:Q) (ha:okS a) (hb:okS b) (hq:entAt S iq eq=some [.prim (.bool fl)]):cL prog 163 [.ref iq eq 0,frA a,frA b] S tk k=some (frA (QQ.qF.over a b).1,QQ.flS S iq eq (QQ.qF.over a b).2,tk,k+QQ.Z1 b):=by
 obtain ⟨pp,iv⟩:=Ms ha;obtain ⟨hb1,hb2⟩:=Ms hb;obtain ⟨an,ad⟩:=a;obtain ⟨bn,bd⟩:=b;simp only at pp iv hb1 hb2;have p1:=Mu pp hb2;have p2:=Mu hb1 iv;have p3:=Mu iv hb2;have p4:=Mu pp hb1;have p5:=Mu iv hb1;have v1:Cf.wrap (an*bd)=an*bd:=Ab aC;have v2:Cf.wrap (bn*ad)=bn*ad:=Ab aC;have v3:Cf.wrap (ad*bd)=ad*bd:=Ab aC;have v4:Cf.wrap (an*bn)=an*bn:=Ab aC;have v5:Cf.wrap (ad*bn)=ad*bn:=Ab aC;have v6:Cf.wrap (an*bd - bn*ad)=an*bd - bn*ad:=Ab aC;have a8:=A9 hq;have hq3:entAt (S++[⟨k,[.int an,.int ad]⟩]++[⟨k+1,[.int bn,.int bd]⟩]++[⟨k+1+1,[.int 0,.int 0]⟩]) iq eq=some [.prim (.bool fl)]:=Ac (Ac (Ac hq));refine opS func163 ntmps163 ?_;by_cases hz:bn=0
 ·have d1:(bn == 0)=true:=bN
  have jy:QQ.qF.over (an,ad) (bn,bd)=((0,1),true):=by simp [QQ.qF,hz]
  have hko:QQ.Z1 (bn,bd)=3:=by simp [QQ.Z1,hz]
  have de:∀ e1 e2 e3,put (S++[e1]++[e2]++[e3]) iq ⟨eq,[.prim (.bool true)]⟩=QQ.flS S iq eq true++[e1]++[e2]++[e3]:=fun e1 e2 e3=>flS3 (b:=true) a8;have hpl:=QQ.Bj (S:=S) (iq:=iq) (eq:=eq) (b:=true);rw [jy,hko];simp (maxSteps:=10^6)+contextual(disch:=try exact dqd)only[evs0,simprocAttr,Cd,Cb,Ce,results163,frA,d1,hq3,de,new3a,new3b,new3c hpl,put3c hpl,take3 hpl]
 ·have d1:(bn == 0)=false:=bN
  have jy:QQ.qF.over (an,ad) (bn,bd)=qn (an*bd) (ad*bn):=by simp [QQ.qF,hz]
  have hko:QQ.Z1 (bn,bd)=4:=by simp [QQ.Z1,hz]
  have hN:=Ld _ tk (k+1+1+1) iq eq fl (an*bd) (ad*bn) aA aA hq3;rw [flS3 a8] at hN;have hpl:=QQ.Bj (S:=S) (iq:=iq) (eq:=eq) (b:=(qn (an*bd) (ad*bn)).2);simp only [frA] at hN;rw [jy,hko];simp (maxSteps:=10^6)+contextual(disch:=try exact dqd)only[evs0,simprocAttr,Cd,Cb,Ce,results163,frA,d1,v1,v5,hN,new3a,new3b,new3c hpl,put3c hpl,take3 hpl]
theorem Acf (n:Int) (hq:entAt S iq eq=some [.prim (.bool fl)]):cL prog 167 [.ref iq eq 0,.int n] S tk k=some (frA (QQ.qF.whole n).1,QQ.flS S iq eq (QQ.qF.whole n).2,tk,k+1):=by
 have a8:=A9 hq;have bj:entAt (S++[⟨k,[.int 0,.int 0]⟩]) iq eq=some [.prim (.bool fl)]:=Ac hq;have hpl:(put S iq ⟨eq,[.prim (.bool true)]⟩).length=S.length:=Ao;have hE:=fun cs=>Al (k:=k) (cs:=cs) hpl;have hP:=fun e e'=>Dl (e:=e) (e':=e') hpl;have hT:=fun L=>Js (L:=L) hpl;have hA:=fun L x=>Dt (L:=L) (x:=x) a8;refine opS func167 ntmps167 ?_;by_cases b1:n<=-2147483648
 ·have k1:decide (n<=-2147483648)=true:=aY
  have hr:QQ.qF.whole n=((0,1),true):=by simp [QQ.qF,b1]
  rw [hr];simp (maxSteps:=10^6)+contextual(disch:=try exact dqd)only[evs0,simprocAttr,Cd,Cb,Ce,results167,frA,A4,k1,bj,hE,hP,hT,hA]
 have k1:decide (n<=-2147483648)=false:=aY
 by_cases b2:n >= 2147483648
 ·have k2:decide (n >= 2147483648)=true:=aZ
  have hr:QQ.qF.whole n=((0,1),true):=by simp only [QQ.qF]; rw [if_pos (.inr b2)]
  rw [hr];simp (maxSteps:=10^6)+contextual(disch:=try exact dqd)only[evs0,simprocAttr,Cd,Cb,Ce,results167,frA,A4,k1,k2,bj,hE,hP,hT,hA]
 have k2:decide (n >= 2147483648)=false:=aZ
 have hr:QQ.qF.whole n=((n,1),false):=by simp only [QQ.qF]; rw [if_neg aA]
 rw [hr];simp (maxSteps:=10^6)+contextual(disch:=try exact dqd)only[evs0,simprocAttr,Cd,Cb,Ce,results167,frA,E7,k1,k2,bj]
theorem Agi (a:Q) (hq:entAt S iq eq=some [.prim (.bool fl)]):cL prog 165 [.ref iq eq 0,frA a] S tk k=some (.int (sgn a),S,tk,k+1):=by
 obtain ⟨an,ad⟩:=a;refine opS func165 ntmps165 ?_;by_cases h1:an<0
 ·have k1:decide (an<0)=true:=aR
  have hr:sgn (an,ad)=-1:=by simp [sgn,h1]
  rw [hr];simp (maxSteps:=10^6)+contextual(disch:=try exact dqd)only[evs0,simprocAttr,Cd,Cb,Ce,results165,frA,k1,new1a,Hk]
 have k1:decide (an<0)=false:=aR
 by_cases h2:an > 0
 ·have k2:decide (an > 0)=true:=bR
  have hr:sgn (an,ad)=1:=by simp only [sgn]; rw [if_neg h1,if_pos h2]
  exact Ya10
 have k2:decide (an > 0)=false:=bR
 have hr:sgn (an,ad)=0:=by simp only [sgn]; rw [if_neg h1,if_neg h2]
 exact Ya10
theorem Acb (hq:entAt S iq eq=some [.prim (.bool fl)]):cL prog 161 [.ref iq eq 0] S tk k=some (.bool (!fl),S,tk,k):=by
 refine opS func161 ntmps161 ?_;simp (maxSteps:=10^6)+contextual(disch:=try exact dqd)only[evs0,simprocAttr,Cd,Cb,Ce,results161,hq]
theorem Of_z (n d:Int) (hn:(dig n.natAbs).length<=200) (hd:(dig d.natAbs).length<=200):cL prog 169 [zA n,zA d] S tk k=some (resQ n d,S,tk,k):=by
 have h:=As3 S tk k (decide (n<0)) (dig n.natAbs) (decide (d<0)) (dig d.natAbs) aA aA;unfold ofQ at h;rw [V_of _ hn,V_of _ hd] at h;by_cases h0:Ei (decide (n<0)) (dig n.natAbs)=true
 ·rw [if_pos h0] at h; exact h
 ·exact absurd (Qz n hn) h0
theorem digS {n:Int} (h:n.natAbs<2147483648):(dig n.natAbs).length<=200:=by
 refine Bt.2 ?_;exact Ya2d
theorem Us (a:Q) (ha:okS a) (_:entAt S iq eq=some [.prim (.bool fl)]):cL prog 164 [.ref iq eq 0,frA a] S tk k=some (qA (resN a.1 a.2) (resD a.1 a.2),S,tk,k+3):=by
 obtain ⟨pp,iv⟩:=Ms ha;obtain ⟨an,ad⟩:=a;simp only at pp iv;have h1:=fun S tk k=>Rc S tk k an aC;have h2:=fun S tk k=>Rc S tk k ad aC;have h3:=fun S tk k=>Of_z S tk k an ad (digS pp) (digS iv);simp only [zA,bigA,digA] at h1 h2 h3;simp only [resQ,qA,ratA,digA] at h3 ⊢;refine opS func164 ntmps164 ?_;simp (maxSteps:=10^6)+contextual(disch:=try exact dqd)only[evs1,simprocAttr,Cd,Cb,Ce,results164,frA,digA,h1,h2,h3,new1a,Hk];rw [take3 rfl]
end
def raA (a:Q):AV:=qA a.1 a.2
section
variable (S:List Ent) (tk:List Nat) (k:Nat)
theorem Agt (a b:Q) (ha:okW a) (hb:okW b):cL prog 189 [.agg [],raA a,raA b] S tk k=some (raA (WW.qF.minus a b).1,S,tk,k):=by
 obtain ⟨l1,l2⟩:=Mt ha;obtain ⟨l3,l4⟩:=Mt hb;obtain ⟨g1,g2⟩:=qz_n ha;obtain ⟨g3,g4⟩:=qz_n hb;obtain ⟨an,ad⟩:=a;obtain ⟨bn,bd⟩:=b;simp only at l1 l2 l3 l4 g1 g2 g3 g4;have hJ:=fun S tk k=>Anr S tk k (decide (an<0)) (dig an.natAbs) (decide (ad<0)) (dig ad.natAbs) (decide (bn<0)) (dig bn.natAbs) (decide (bd<0)) (dig bd.natAbs) aA aA aA aA;rw [g1,g2,g3,g4] at hJ;refine opP func189 ntmps189 (hp3:=rfl) ?_;simp only [resQ,raA,qA,ratA,digA] at hJ ⊢;simp (maxSteps:=10^6)+contextual(disch:=try exact dqd)only[ev1,simprocAttr,Cd,Cb,Ce,results189,raA,qA,ratA,digA,WW.qF,wn,hJ];exact ⟨rfl,rfl⟩
theorem Agu (a b:Q) (ha:okW a) (hb:okW b):cL prog 193 [.agg [],raA a,raA b] S tk k=some (raA (WW.qF.times a b).1,S,tk,k):=by
 obtain ⟨l1,l2⟩:=Mt ha;obtain ⟨l3,l4⟩:=Mt hb;obtain ⟨g1,g2⟩:=qz_n ha;obtain ⟨g3,g4⟩:=qz_n hb;obtain ⟨an,ad⟩:=a;obtain ⟨bn,bd⟩:=b;simp only at l1 l2 l3 l4 g1 g2 g3 g4;have hJ:=fun S tk k=>Aqn S tk k (decide (an<0)) (dig an.natAbs) (decide (ad<0)) (dig ad.natAbs) (decide (bn<0)) (dig bn.natAbs) (decide (bd<0)) (dig bd.natAbs) aA aA aA aA;rw [g1,g2,g3,g4] at hJ;refine opP func193 ntmps193 (hp3:=rfl) ?_;simp only [resQ,raA,qA,ratA,digA] at hJ ⊢;simp (maxSteps:=10^6)+contextual(disch:=try exact dqd)only[ev1,simprocAttr,Cd,Cb,Ce,results193,raA,qA,ratA,digA,WW.qF,wn,hJ];exact ⟨rfl,rfl⟩
theorem Ak0 (a b:Q) (ha:okW a) (hb:okW b):cL prog 190 [.agg [],raA a,raA b] S tk k=some (raA (WW.qF.over a b).1,S,tk,k):=by
 obtain ⟨l1,l2⟩:=Mt ha;obtain ⟨l3,l4⟩:=Mt hb;obtain ⟨g1,g2⟩:=qz_n ha;obtain ⟨g3,g4⟩:=qz_n hb;obtain ⟨an,ad⟩:=a;obtain ⟨bn,bd⟩:=b;simp only at l1 l2 l3 l4 g1 g2 g3 g4;have hJ:=fun S tk k=>Aqm S tk k (decide (an<0)) (dig an.natAbs) (decide (ad<0)) (dig ad.natAbs) (decide (bn<0)) (dig bn.natAbs) (decide (bd<0)) (dig bd.natAbs) aA aA aA aA;rw [g1,g2,g3,g4] at hJ;refine opP func190 ntmps190 (hp3:=rfl) ?_;simp only [resQ,raA,qA,ratA,digA] at hJ ⊢;simp (maxSteps:=10^6)+contextual(disch:=try exact dqd)only[ev1,simprocAttr,Cd,Cb,Ce,results190,raA,qA,ratA,digA,WW.qF,wn,hJ];exact ⟨rfl,rfl⟩
theorem Agv (n:Int) (hn:i64 n):cL prog 194 [.agg [],.int n] S tk k=some (raA (WW.qF.whole n).1,S,tk,k):=by
 have hJ:=fun S tk k=>Acg S tk k n hn;refine opP func194 ntmps194 (hp3:=rfl) ?_;simp only [raA,qA,ratA,digA,WW.qF] at hJ ⊢;simp (maxSteps:=10^6)+contextual(disch:=try exact dqd)only[ev1,simprocAttr,Cd,Cb,Ce,results194,raA,qA,ratA,digA,WW.qF,hJ];first|rfl|exact ⟨rfl,rfl⟩
theorem Ak2 (a:Q) (ha:okW a):cL prog 192 [.agg [],raA a] S tk k=some (.int (sgn a),S,tk,k):=by
 have hI:=fun S tk k=>Acg S tk k 0 aC;obtain ⟨l1,l2⟩:=Mt ha;obtain ⟨g1,g2⟩:=qz_n ha;have lu:=As7 ha;obtain ⟨an,ad⟩:=a;simp only at l1 l2 g1 g2;have g0:Jd 0 1:=Zz;have hJ:=fun S tk k=>Aql S tk k (decide (an<0)) (dig an.natAbs) (decide (ad<0)) (dig ad.natAbs) (decide ((0:Int)<0)) (dig (0:Int).natAbs) (decide ((1:Int)<0)) (dig (1:Int).natAbs) aA aA aO aO;rw [g1,g2,g0.nQ,g0.dQ] at hJ;have hs:cmpZ ((qz (an,ad)).1*1) (0*(qz (an,ad)).2)=sgn (an,ad):=by rw [<- lu]; simp only [cmpZ,sgn,Int.mul_one,Int.zero_mul]
 rw [hs] at hJ;refine opP func192 ntmps192 (hp3:=rfl) ?_;have z1:decide ((0:Int)<0)=false:=rfl;have z2:decide ((1:Int)<0)=false:=rfl;have z3:(0:Int).natAbs=0:=rfl;have z4:(1:Int).natAbs=1:=rfl;simp only [raA,qA,ratA,digA,z1,z2,z3,z4] at hI hJ ⊢;simp (maxSteps:=10^6)+contextual(disch:=try exact dqd)only[ev1,simprocAttr,Cd,Cb,Ce,results192,raA,qA,ratA,digA,hI,hJ]
theorem X2 (a:Q):cL prog 191 [.agg [],raA a] S tk k=some (raA a,S,tk,k):=by
 refine opP func191 ntmps191 (hp3:=rfl) ?_;simp (maxSteps:=10^6)+contextual(disch:=try exact dqd)only[ev1,simprocAttr,Cd,Cb,Ce,results191,raA,qA,ratA,digA]
theorem Ags:cL prog 188 [.agg []] S tk k=some (.bool true,S,tk,k):=by
 refine opP func188 ntmps188 (hp3:=rfl) ?_;simp (maxSteps:=10^6)+contextual(disch:=try exact dqd)only[ev1,simprocAttr,Cd,Cb,Ce,results188]
end
end
section
open Go
section
variable {P:Program} {fn:Func} {k:List Kont}
abbrev Rs:=AV × List Ent × List Nat × Nat
def Gd (fin:Option (AV × St)->Option Rs) (Φ:Rs->Prop) (x:Option (AV × St)):Prop:=∃ r,fin x=some r/\Φ r
theorem Are {m:Nat} {Φ:Rs->Prop} {t:Bool} {a b:Option (AV × St)} {tg:Tag (a,b)} : Gd (finS m) Φ (BR (some t) a b tg)↔(t=true->Gd (finS m) Φ a)/\(t=false->Gd (finS m) Φ b):=by
 cases t <;> simp [BR,br]
theorem Ard {Φ:Rs->Prop} {t:Bool} {a b:Option (AV × St)} {tg:Tag (a,b)} : Gd finM Φ (BR (some t) a b tg)↔(t=true->Gd finM Φ a)/\(t=false->Gd finM Φ b):=by
 cases t <;> simp [BR,br]
theorem Als {m:Nat} {Φ:Rs->Prop} {r:AV} {s:St} : Gd (finS m) Φ (some (r,s))↔Φ (fz3 m s.S r,s.S.take m,s.tk,s.n):=by simp [Gd,finS]
theorem Alr {Φ:Rs->Prop} {r:AV} {s:St} : Gd finM Φ (some (r,s))↔Φ (r,s.S,s.tk,s.n):=by simp [Gd,finM]
theorem Ga [Globs] [Ext P] {ι:Type} {c:Code} {fin:Option (AV × St)->Option Rs} {Φ:Rs->Prop} {tg:Tag (Code.loop c,k)} (I:ι->St->Prop) (μ:ι->Nat) (x:ι)
  (h:∀ x st,I x st->(∀ y st',μ y<μ x->I y st'->Gd fin Φ (KX P fn (.loop c) st' k .mk))->Gd fin Φ (KX P fn c st (.loop c st.S.length :: k) .mk)) {st:St} (h0:I x st):Gd fin Φ (KX P fn (.loop c) st k tg):=by
 have key:∀ n x st,μ x=n->I x st->Gd fin Φ (KX P fn (.loop c) st k .mk):=by
  intro n;induction n using Oy with
  | _ n ih =>
   intro x st hn hI;show Gd fin Φ (RK P fn (.loop c) st k);exact Ya0v
 exact key _ x st rfl h0
theorem Y3 [Globs] [Ext P] {f : FuncId} {c : Code} (hf : P.funcs[f]? = some fn) (hx : (Ext.on P f || Ext.mv P f) = false) (hb : fn.body = some c) (ao : (fn.name == "runtime.NumGoroutine") = false) {args : List AV} {nt : Nat} (jn : fn.ntmps = nt) (hp : (args.map w2).all pure2 = false) {S : List Ent} {tk : List Nat} {n : Nat} {Φ : Rs → Prop}
  (h:Gd (finS S.length) Φ (RK P fn c ⟨args++bots (nt - args.length),S,tk,n⟩ [])):∃ r,cL P f args S tk n=some r/\Φ r:=by
 obtain ⟨r,h1,h2⟩:=h;exact ⟨r,Re hf hx hb ao jn hp h1,h2⟩
theorem Aml [Globs] [Ext P] {f : FuncId} {c : Code} (hf : P.funcs[f]? = some fn) (hx : (!Ext.on P f && Ext.mv P f) = true) (hb : fn.body = some c) (ao : (fn.name == "runtime.NumGoroutine") = false) {args : List AV} {nt : Nat} (jn : fn.ntmps = nt) {S : List Ent} {tk : List Nat} {n : Nat} {Φ : Rs → Prop}
  (h:Gd finM Φ (RK P fn c ⟨args++bots (nt - args.length),S,tk,n⟩ [])):∃ r,cL P f args S tk n=some r/\Φ r:=by
 obtain ⟨r,h1,h2⟩:=h;exact ⟨r,Apn hf hx hb ao jn h1,h2⟩
end
section
variable {P:Program} {fn:Func} [Globs] [Ext P] {f:FuncId} {c:Code} {args:List AV} {nt:Nat} {S:List Ent} {tk:List Nat} {n:Nat} {Φ:Rs->Prop}
theorem opG (hf : P.funcs[f]? = some fn) (jn : fn.ntmps = nt) (h : Gd (finS S.length) Φ (KX P fn c ⟨args ++ bots (nt - args.length), S, tk, n⟩ [] .mk)) (hx : (Ext.on P f || Ext.mv P f) = false := by exact rfl) (hb : fn.body = some c := by exact rfl) (ao : (fn.name == "runtime.NumGoroutine") = false := by decide +kernel) (hp : (args.map w2).all pure2 = false := by exact rfl) : ∃ r, cL P f args S tk n = some r ∧ Φ r := Y3 hf hx hb ao jn hp h
theorem opM (hf : P.funcs[f]? = some fn) (jn : fn.ntmps = nt) (h : Gd finM Φ (KX P fn c ⟨args ++ bots (nt - args.length), S, tk, n⟩ [] .mk)) (hx : (!Ext.on P f && Ext.mv P f) = true := by exact rfl) (hb : fn.body = some c := by exact rfl) (ao : (fn.name == "runtime.NumGoroutine") = false := by decide +kernel) : ∃ r, cL P f args S tk n = some r ∧ Φ r := Aml hf hx hb ao jn h
end
set_option linter.defProp false in
def evg1:=Bu @Are <| Bu @Ard <| Bu @Als <| Bu @Alr evs1
/- rows of cells -/
theorem Aa0 {sz:Nat} : ∀ {e r:List AV},e.length=sz->takeN sz (e++r)=some e:=by
 induction sz with
 | zero=>intro e r h; rw [Fh.1 h]; rfl
 | succ n ih =>
  intro e r h;cases e with
  | nil=>simp at h
  | cons x e=>simp only [Cr,takeN,ih aJ,C3]
theorem Qs {e':List AV} : ∀ {e r:List AV},e.length=e'.length->over (e++r) 0 e'=some (e'++r):=by
 induction e' with
 | nil=>intro e r h; rw [Fh.1 h]; simp [over]
 | cons x e' ih =>
  intro e r h;cases e with
  | nil=>simp at h
  | cons y e=>simp only [Cr,over,ih aJ,C3]
section
variable {sz:Nat}
theorem Zr:∀ {es:List (List AV)} {k:Nat} {e:List AV},(∀ e ∈ es,e.length=sz)->nth es k=some e->takeN sz (es.flatten.drop (k*sz))=some e
 | x :: es,0,e,h,hk=>by
  simp only [nth,A2] at hk;subst hk;simp only [O0,F7,Fx];exact Aa0 (h _ (by simp))
 | x :: es,k+1,e,h,hk=>by
  have hx:=h x (by simp);have e1:(k+1)*sz=x.length+k*sz:=by rw [hx,Od,Nat.add_comm]
  rw [e1,Fx,fP];simp only [Nat.add_sub_cancel_left];rw [Ft aA,Cw];exact Zr (fun e he=>h e (by simp [he])) hk
 | [],_,_,_,hk=>by simp [nth] at hk
theorem Ni:∀ {es:List (List AV)} {k:Nat} {e e':List AV},(∀ e ∈ es,e.length=sz)->nth es k=some e->e'.length=sz->over es.flatten (k*sz) e'=some (put es k e').flatten
 | x :: es,0,e,e',h,_,he=>by
  simp only [O0,Fx,put];exact Qs (by rw [h x (by simp),he])
 | x :: es,k+1,e,e',h,hk,he=>by
  have hx:=h x (by simp);have e1:(k+1)*sz=x.length+k*sz:=by rw [hx,Od,Nat.add_comm]
  have ih:=Ni (es:=es) (k:=k) (fun e he=>h e (by simp [he])) hk he;have gen:∀ (p cs:List AV) (o:Nat) (r:List AV),over cs o e'=some r->over (p++cs) (p.length+o) e'=some (p++r):=by
   intro p;induction p with
   | nil=>intro cs o r h; simpa using h
   | cons y p ih =>
    intro cs o r h;have:=ih cs o r h;have e2:(y :: p).length+o=(p.length+o)+1:=aB
    rw [e2];cases e' <;> simp only [Cr,over,this,C3]
  rw [e1,Fx];simp only [put,Fx];exact gen x _ _ _ ih
 | [],_,_,_,_,hk,_=>by simp [nth] at hk
end
def flat (ce:Q->List AV) (l:List Q):List AV:=(l.map ce).flatten
section
variable {ce:Q->List AV} {sz:Nat} (zp:∀ q,(ce q).length=sz)
include zp
theorem Aw {l:List Q} {k:Nat} {q:Q} (h:nth l k=some q):takeN sz ((flat ce l).drop (k*sz))=some (ce q):=by
 unfold flat;refine Zr (fun e he=>?_) ?_
 ·obtain ⟨x,-,rfl⟩:=F9.1 he;exact zp x
 ·rw [Ae] at h ⊢; rw [Fw,h]; rfl
theorem Bc {l:List Q} {k:Nat} {q':Q} (h:k<l.length):over (flat ce l) (k*sz) (ce q')=some (flat ce (put l k q')):=by
 unfold flat;rw [<- Pp];refine Ni (e:=ce l[k]) (fun e he=>?_) ?_ (zp q')
 ·obtain ⟨x,-,rfl⟩:=F9.1 he;exact zp x
 ·rw [Ae,Fw,Il h]; rfl
end
abbrev QQ.rcvQ (i e:Nat):AV:=.ref i e 0
abbrev WW.rcvQ (_ _:Nat):AV:=.agg []
abbrev QQ.zeroQ:List AV:=[.int 0,.int 0]
abbrev WW.zeroQ:List AV:=[.prim (.bool false),.frz [] .nilc,.prim (.bool false),.frz [] .nilc]
end
section
open Go Tryz
def ceQ (a:Q):List AV:=[.int a.1,.int a.2]
def ceW (a:Q):List AV:=[.prim (.bool (decide (a.1<0))),digA (dig a.1.natAbs),.prim (.bool (decide (a.2<0))),digA (dig a.2.natAbs)]
theorem Av (a:Q):(ceQ a).length=2:=rfl
theorem Aq (a:Q):(ceW a).length=4:=rfl
theorem Bs (a:Q):(ceQ a).all leafOk=true:=rfl
theorem Be (a:Q):(ceW a).all leafOk=true:=rfl
theorem QQ.Aok (m:Nat) (S:List Ent) (a:Q):(ceQ a).map (fz1 m S)=ceQ a:=rfl
theorem WW.Aok (m:Nat) (S:List Ent) (a:Q):(ceW a).map (fz1 m S)=ceW a:=rfl
theorem QQ.ovQ (a:Q):over [.int 0,.int 0] 0 (ceQ a)=some (ceQ a):=rfl
theorem QQ.ovQ2 (a b:Q):over (ceQ b) 0 (ceQ a)=some (ceQ a):=rfl
theorem WW.ovQ (a:Q):over [.prim (.bool false),.frz [] .nilc,.prim (.bool false),.frz [] .nilc] 0 (ceW a)=some (ceW a):=rfl
theorem WW.ovQ2 (a b:Q):over (ceW b) 0 (ceW a)=some (ceW a):=rfl
theorem QQ.tkQ (a:Q):takeN 2 (ceQ a)=some (ceQ a):=rfl
theorem WW.tkQ (a:Q):takeN 4 (ceW a)=some (ceW a):=rfl
theorem QQ.puQ (a:Q):((ceQ a).map w1).all pure1=true:=rfl
theorem WW.puQ (a:Q):((ceW a).map w1).all pure1=true:=rfl
theorem U9 (a:Q):(ceW a).all pure1=true:=rfl
theorem Va (a:Q):(ceW a).map w1=ceW a:=rfl
def QQ.FAq (S:List Ent) (iq eq:Nat) (b:Bool):Prop:=entAt S iq eq=some [.prim (.bool b)]
structure WW.FAq (_:List Ent) (_ _:Nat) (_:Bool):Prop where
def WW.flS (S:List Ent) (_ _:Nat) (_:Bool):List Ent:=S
theorem WW.El {S:List Ent} {iq eq:Nat} {b c:Bool} (_:WW.FAq S iq eq b):gO S (WW.flS S iq eq c)=some ():=gO_refl
theorem QQ.El {S:List Ent} {iq eq:Nat} {b c:Bool} (h:QQ.FAq S iq eq b):gO S (QQ.flS S iq eq c)=some ():=Asg h
theorem QQ.FAq.fS {S:List Ent} {iq eq:Nat} {b c:Bool} (h:QQ.FAq S iq eq b):QQ.FAq (QQ.flS S iq eq c) iq eq (b || c):=Aix h
theorem WW.FAq.fS {S:List Ent} {iq eq:Nat} {b c:Bool} (_:WW.FAq S iq eq b):WW.FAq (WW.flS S iq eq c) iq eq (b || c):=⟨⟩
theorem QQ.FAq.app {S L:List Ent} {iq eq:Nat} {b:Bool} (h:QQ.FAq S iq eq b):QQ.FAq (S++L) iq eq b:=Ac h
theorem WW.FAq.app {S L:List Ent} {iq eq:Nat} {b:Bool} (_:WW.FAq S iq eq b):WW.FAq (S++L) iq eq b:=⟨⟩
theorem QQ.Hd {S L:List Ent} {iq eq:Nat} {b c:Bool} (h:QQ.FAq S iq eq c):QQ.flS (S++L) iq eq b=QQ.flS S iq eq b++L:=Wy (A9 h)
theorem WW.Hd {S L:List Ent} {iq eq:Nat} {b c:Bool} (_:WW.FAq S iq eq c):WW.flS (S++L) iq eq b=WW.flS S iq eq b++L:=rfl
theorem WW.Bj {S:List Ent} {iq eq:Nat} {b:Bool} : (WW.flS S iq eq b).length=S.length:=rfl
theorem Bm {S:List Ent} {iq eq j:Nat} {b:Bool} (_:j≠iq):nth (WW.flS S iq eq b) j=nth S j:=rfl
theorem QQ.FAq.put {S:List Ent} {iq eq i:Nat} {b:Bool} {x:Ent} (h:QQ.FAq S iq eq b) (hne:i≠iq):QQ.FAq (put S i x) iq eq b:=by unfold QQ.FAq; rw [Ah hne]; exact h
theorem WW.FAq.put {S:List Ent} {iq eq i:Nat} {b:Bool} {x:Ent} (_:WW.FAq S iq eq b) (_:i≠iq):WW.FAq (put S i x) iq eq b:=⟨⟩
theorem QQ.FAq.of {S S':List Ent} {iq eq:Nat} {b:Bool} (h:QQ.FAq S iq eq b) (hne:nth S' iq=nth S iq):QQ.FAq S' iq eq b:=by unfold QQ.FAq; rw [Aa hne]; exact h
theorem WW.FAq.of {S S':List Ent} {iq eq:Nat} {b:Bool} (_:WW.FAq S iq eq b) (_:nth S' iq=nth S iq):WW.FAq S' iq eq b:=⟨⟩
section
variable (S:List Ent) (tk:List Nat) (k iq eq:Nat) (fl:Bool)
theorem QQ.Mg (a b:Q) (ha:QQ.qF.ok a) (hb:QQ.qF.ok b) (hq:QQ.FAq S iq eq fl):cL prog 162 [.ref iq eq 0,.agg (ceQ a),.agg (ceQ b)] S tk k=some (.agg (ceQ (QQ.qF.minus a b).1),QQ.flS S iq eq (QQ.qF.minus a b).2,tk,k+4):=Acd S tk k iq eq fl a b ha hb hq
theorem QQ.Ae4 (a b:Q) (ha:QQ.qF.ok a) (hb:QQ.qF.ok b) (hq:QQ.FAq S iq eq fl):cL prog 166 [.ref iq eq 0,.agg (ceQ a),.agg (ceQ b)] S tk k=some (.agg (ceQ (QQ.qF.times a b).1),QQ.flS S iq eq (QQ.qF.times a b).2,tk,k+4):=Ace S tk k iq eq fl a b ha hb hq
theorem QQ.Asr (a b:Q) (ha:QQ.qF.ok a) (hb:QQ.qF.ok b) (hq:QQ.FAq S iq eq fl):cL prog 163 [.ref iq eq 0,.agg (ceQ a),.agg (ceQ b)] S tk k=some (.agg (ceQ (QQ.qF.over a b).1),QQ.flS S iq eq (QQ.qF.over a b).2,tk,k+QQ.Z1 b):=Agh S tk k iq eq fl a b ha hb hq
theorem QQ.Ln (n:Int) (_:i64 n) (hq:QQ.FAq S iq eq fl):cL prog 167 [.ref iq eq 0,.int n] S tk k=some (.agg (ceQ (QQ.qF.whole n).1),QQ.flS S iq eq (QQ.qF.whole n).2,tk,k+1):=Acf S tk k iq eq fl n hq
theorem QQ.Acm (a:Q) (_:QQ.qF.ok a) (hq:QQ.FAq S iq eq fl):cL prog 165 [.ref iq eq 0,.agg (ceQ a)] S tk k=some (.int (sgn a),S,tk,k+1):=Agi S tk k iq eq fl a hq
theorem QQ.Adt (hq:QQ.FAq S iq eq fl):cL prog 161 [.ref iq eq 0] S tk k=some (.bool (!(QQ.qF.stop && fl)),S,tk,k):=Acb S tk k iq eq fl hq
theorem WW.Adt (_:WW.FAq S iq eq fl):cL prog 188 [.agg []] S tk k=some (.bool (!(WW.qF.stop && fl)),S,tk,k):=Ags S tk k
theorem QQ.T2 (a:Q) (ha:QQ.qF.ok a) (hq:QQ.FAq S iq eq fl):cL prog 164 [.ref iq eq 0,.agg (ceQ a)] S tk k=some (.agg (ceW (QQ.qF.rat a)),S,tk,k+3):=Us S tk k iq eq fl a ha hq
theorem WW.T2 (a:Q) (_:WW.qF.ok a) (_:WW.FAq S iq eq fl):cL prog 191 [.agg [],.agg (ceW a)] S tk k=some (.agg (ceW (WW.qF.rat a)),S,tk,k+0):=X2 S tk k a
def WW.Z1 (_:Q):Nat:=0
theorem WW.Mg (a b:Q) (ha:WW.qF.ok a) (hb:WW.qF.ok b) (_:WW.FAq S iq eq fl):cL prog 189 [.agg [],.agg (ceW a),.agg (ceW b)] S tk k=some (.agg (ceW (WW.qF.minus a b).1),WW.flS S iq eq (WW.qF.minus a b).2,tk,k+0):=Agt S tk k a b ha hb
theorem WW.Ae4 (a b:Q) (ha:WW.qF.ok a) (hb:WW.qF.ok b) (_:WW.FAq S iq eq fl):cL prog 193 [.agg [],.agg (ceW a),.agg (ceW b)] S tk k=some (.agg (ceW (WW.qF.times a b).1),WW.flS S iq eq (WW.qF.times a b).2,tk,k+0):=Agu S tk k a b ha hb
theorem WW.Asr (a b:Q) (ha:WW.qF.ok a) (hb:WW.qF.ok b) (_:WW.FAq S iq eq fl):cL prog 190 [.agg [],.agg (ceW a),.agg (ceW b)] S tk k=some (.agg (ceW (WW.qF.over a b).1),WW.flS S iq eq (WW.qF.over a b).2,tk,k+WW.Z1 b):=Ak0 S tk k a b ha hb
theorem WW.Ln (n:Int) (hn:i64 n) (_:WW.FAq S iq eq fl):cL prog 194 [.agg [],.int n] S tk k=some (.agg (ceW (WW.qF.whole n).1),WW.flS S iq eq (WW.qF.whole n).2,tk,k+0):=Agv S tk k n hn
theorem WW.Acm (a:Q) (ha:WW.qF.ok a) (_:WW.FAq S iq eq fl):cL prog 192 [.agg [],.agg (ceW a)] S tk k=some (.int (sgn a),S,tk,k+0):=Ak2 S tk k a ha
end
/- the algorithm -/
def Jr (F:Fld) (b a r:Q):Q × Bool:=if sgn r=0 then (a,false) else ((F.minus a (F.times b r).1).1,(F.times b r).2 || (F.minus a (F.times b r).1).2)
def lessL (F:Fld) (b:Q):List Q->List Q->List Q × Bool
 | a :: l,r :: m=>((Jr F b a r).1 :: (lessL F b l m).1,(Jr F b a r).2 || (lessL F b l m).2)
 | l,_=>(l,false)
def lessT (F:Fld) (a r:List Q) (c:Nat):List Q × Bool:=match nth a c with|some b=>if sgn b=0 then (a,false) else lessL F b a r|none=>(a,false)
theorem Ek {α:Type} {p u:List α} {x:α} : nth (p++x :: u) p.length=some x:=by
 rw [Ae,C6 (Cc _),I4]; rfl
theorem Gu {α:Type} {p u:List α} {x y:α} : put (p++x :: u) p.length y=p++y :: u:=by
 rw [Tt,gK _ _ (Cc _),I4]; rfl
def okL (F:Fld) (l:List Q):Prop:=∀ q ∈ l,F.ok q
theorem An4 {F:Fld} (hF:F.Keeps) {b a r:Q} (hb:F.ok b) (ha:F.ok a) (hr:F.ok r):F.ok (Jr F b a r).1:=by
 unfold Jr;split
 ·exact ha
 ·exact hF.minus _ _ ha (hF.times _ _ hb hr)
theorem Np {F:Fld} {b:Q} : ∀ {l m:List Q},(lessL F b l m).1.length=l.length
 | [],_=>by simp [lessL]
 | a :: l,[]=>rfl
 | a :: l,r :: m=>by simp only [lessL,Ck,Np]
theorem Xa {F:Fld} (hF:F.Keeps) {b:Q} (hb:F.ok b):∀ {l m:List Q},okL F l->okL F m->okL F (lessL F b l m).1
 | [],_,h,_=>by simpa [lessL] using h
 | a :: l,[],h,_=>h
 | a :: l,r :: m,h,h'=>by
  intro q hq;simp only [lessL,Cn] at hq;rcases hq with rfl|hq
  ·exact An4 hF hb (h _ (by simp)) (h' _ (by simp))
  ·exact Xa hF hb (fun q hq=>h q bV) (fun q hq=>h' q bV) q hq
theorem QQ.Eu : mRow prog 84 "liquidcheck/simplex.whole" = some 167 ∧ mRow prog 84 "liquidcheck/simplex.minus" = some 162 ∧
  mRow prog 84 "liquidcheck/simplex.times" = some 166 ∧ mRow prog 84 "liquidcheck/simplex.over" = some 163 ∧
  mRow prog 84 "liquidcheck/simplex.sign" = some 165 ∧ mRow prog 84 "liquidcheck/simplex.rational" = some 164 ∧
  mRow prog 84 "liquidcheck/simplex.exact" = some 161 := aO
theorem WW.Eu : mRow prog 89 "liquidcheck/simplex.whole" = some 194 ∧ mRow prog 89 "liquidcheck/simplex.minus" = some 189 ∧
  mRow prog 89 "liquidcheck/simplex.times" = some 193 ∧ mRow prog 89 "liquidcheck/simplex.over" = some 190 ∧
  mRow prog 89 "liquidcheck/simplex.sign" = some 192 ∧ mRow prog 89 "liquidcheck/simplex.rational" = some 191 ∧
  mRow prog 89 "liquidcheck/simplex.exact" = some 188 := aO
theorem xfs:xF 161=true/\xF 162=true/\xF 163=true/\xF 164=true/\xF 165=true/\xF 166=true/\xF 167=true/\xF 89=true/\xF 95=true/\xF 55=true/\xF 54=true/\xF 104=true/\xF 82=true/\xF 58=true/\xF 160=true/\xF 91=true/\xF 97=true:=⟨rfl,rfl,rfl,rfl,rfl,rfl,rfl,rfl,rfl,rfl,rfl,rfl,rfl,rfl,rfl,rfl,rfl⟩
end
section
open Go
structure Tb where
 vars:Nat
 real:Nat
 rows:List (List Q)
 cost:List Q
 basis:List Nat
 flip:List Bool
 fl:Bool
def dvS (F:Fld) (b x:Q):Q × Bool:=if sgn x=0 then (x,false) else F.over x b
def divL (F:Fld) (b:Q):List Q->List Q × Bool
 | []=>([],false)
 | x :: l=>((dvS F b x).1 :: (divL F b l).1,(dvS F b x).2 || (divL F b l).2)
def lessK (F:Fld) (row:List Q) (c i k:Nat) (r:List Q):List Q × Bool:=if k=i then (r,false) else lessT F r row c
def lessRows (F:Fld) (row:List Q) (c i:Nat):Nat->List (List Q)->List (List Q) × Bool
 | _,[]=>([],false)
 | k,r :: l=>((lessK F row c i k r).1 :: (lessRows F row c i (k+1) l).1,(lessK F row c i k r).2 || (lessRows F row c i (k+1) l).2)
def at_ {α:Type} (d:α) (l:List α) (k:Nat):α:=(nth l k).getD d
def q0:Q:=(0,1)
def B7 (t:Tb) (i:Nat):List Q:=at_ [] t.rows i
def D9 (F:Fld) (t:Tb) (i c:Nat):Tb :=
 let d:=divL F (at_ q0 (B7 t i) c) (B7 t i)
 let rs:=lessRows F d.1 c i 0 (put t.rows i d.1)
 let k:=lessT F t.cost d.1 c
 { t with rows:=rs.1,cost:=k.1,basis:=put t.basis i c,fl:=((t.fl || d.2) || rs.2) || k.2 }
def worse (basis:List Nat) (s:Int) (k bi:Nat):Bool:=decide (0<s) || (s == 0 && decide (at_ 0 basis bi<at_ 0 basis k))
def Bv (F:Fld) (basis:List Nat) (c W:Nat):Nat->List (List Q)->Option (Nat × Q)->Option (Nat × Q) × Bool
 | _,[],b=>(b,false)
 | k,r :: l,b =>
  if sgn (at_ q0 r c)<=0 then Bv F basis c W (k+1) l b else
   let q:=F.over (at_ q0 r (W - 1)) (at_ q0 r c)
   match b with
   | none=>((Bv F basis c W (k+1) l (some (k,q.1))).1,q.2 || (Bv F basis c W (k+1) l (some (k,q.1))).2)
   | some (bi,least) =>
    let d:=F.minus q.1 least
    let b':=if worse basis (sgn d.1) k bi=true then some (bi,least) else some (k,q.1)
    ((Bv F basis c W (k+1) l b').1,(q.2 || d.2) || (Bv F basis c W (k+1) l b').2)
def Bn (F:Fld) (t:Tb) (c:Nat):Option (Nat × Q) × Bool:=Bv F t.basis c t.cost.length 0 t.rows none
def colF (cost:List Q):Nat->Nat->Option Nat
 | 0,_=>none
 | n+1,k=>if sgn (at_ q0 cost k)<0 then some k else colF cost n (k+1)
def H2 (F:Fld):Nat->Tb->Option (Bool × Tb)
 | 0,_=>none
 | n+1,t=>if (F.stop && t.fl)=true then some (true,t) else
  match colF t.cost t.real 0 with
  | none=>some (true,t)
  | some c=>match Bn F t c with
   | (none,f)=>some (false,{ t with fl:=t.fl || f })
   | (some (i,_),f)=>H2 F n (D9 F { t with fl:=t.fl || f } i c)
def J3 (t:Tb):Bool:=sgn (at_ q0 t.cost (t.cost.length - 1)) == 0
def Km (basis:List Nat) (k:Nat):Nat->List (List Q)->Option Nat
 | _,[]=>none
 | i,_ :: l=>if at_ 0 basis i=k then some i else Km basis k (i+1) l
def Df (F:Fld) (t:Tb) (k:Nat):Q × Bool:=match Km t.basis k 0 t.rows with|some i=>(at_ q0 (B7 t i) (t.cost.length - 1),false)|none=>F.whole 0
def ptF (F:Fld) (t:Tb) (k:Nat):Q × Bool :=
 let a:=Df F t (2*k)
 let b:=Df F t (2*k+1)
 let d:=F.minus a.1 b.1
 (d.1,(a.2 || b.2) || d.2)
def Ep (f:Nat->Q × Bool):Nat->Nat->List Q × Bool
 | 0,_=>([],false)
 | n+1,k=>((f k).1 :: (Ep f n (k+1)).1,(f k).2 || (Ep f n (k+1)).2)
def E3 (F:Fld) (t:Tb):List Q × Bool:=Ep (ptF F t) t.vars 0
def mulF (F:Fld) (t:Tb) (i:Nat):Q × Bool :=
 let y:=F.minus (at_ q0 t.cost (t.real+i)) (F.whole 1).1
 if at_ false t.flip i=true then
  let z:=F.minus (F.whole 0).1 y.1
  (z.1,y.2 || ((F.whole 0).2 || z.2))
 else y
def H3 (F:Fld) (t:Tb):List Q × Bool:=((Ep (mulF F t) t.rows.length 0).1,(F.whole 1).2 || (Ep (mulF F t) t.rows.length 0).2)
structure TI where
 it:Nat
 et:Nat
 ir:Nat
 er:Nat
 ic:Nat
 ec:Nat
 ib:Nat
 eb:Nat
 ids:List (Nat × Nat)
structure Apart (I:TI) (iq:Nat):Prop where
 tr:I.it≠I.ir
 tc:I.it≠I.ic
 tb:I.it≠I.ib
 rc:I.ir≠I.ic
 rb:I.ir≠I.ib
 cb:I.ic≠I.ib
 qt:iq≠I.it
 qr:iq≠I.ir
 qc:iq≠I.ic
 qb:iq≠I.ib
 row:∀ p ∈ I.ids,p.1≠I.it/\p.1≠I.ir/\p.1≠I.ic/\p.1≠I.ib/\p.1≠iq
 rows:∀ i j p q,nth I.ids i=some p->nth I.ids j=some q->i≠j->p.1≠q.1
def fo (W sz:Nat) (x:Nat × Nat):AV:=.sref x.1 x.2 0 W sz
def cq (id ep sz:Nat):Nat->AV
 | 0=>.frz [] .nilc
 | n+1=>.sref id ep 0 (n+1) sz
def Dw (b:Bool):List AV:=[.bool b]
def intA (n:Nat):AV:=.int (n:Int)
theorem Am {α:Type} {l:List α} {i:Nat} {x:α} (h:nth l i=some x):x ∈ l:=by rw [Ae] at h; exact Ik h
theorem Ba {α:Type} {d:α} {l:List α} {k:Nat} {x:α} (h:nth l k=some x):at_ d l k=x:=by unfold at_; rw [h]; rfl
theorem K8 {α:Type} {l:List α} {i j:Nat} {x:α} (h:i<l.length):nth (put l i x) j=if j=i then some x else nth l j:=by
 by_cases e:j=i
 ·subst e; rw [if_pos rfl,Dq h]
 ·rw [if_neg e,Ad (Oo e)]
theorem Aj {α:Type} {l:List α} {i:Nat} {x:α} : (put l i x).length=l.length:=Ao
theorem Nz {α:Type} {l:List α} {i:Nat} {x y:α} : put (put l i x) i y=put l i y:=by
 induction l generalizing i with
 | nil=>rfl
 | cons z l ih=>cases i with
  | zero=>rfl
  | succ i=>simp only [put,ih]
theorem Aan {α:Type} {l:List α} {i:Nat} {x:α} (h:nth l i=some x):put l i x=l:=by
 induction l generalizing i with
 | nil=>rfl
 | cons z l ih=>cases i with
  | zero=>simp only [nth,A2] at h; subst h; rfl
  | succ i=>simp only [nth] at h; simp only [put,ih h]
theorem Bp {α:Type} {l:List α} {i:Nat} {x y:α} (h:y ∈ put l i x):y=x\/y ∈ l:=by
 rw [Tt] at h;rcases List.mem_or_eq_of_mem_set h with h|h
 ·exact .inr h
 ·exact .inl h
theorem Bl {id ep sz n:Nat} (h:0<n):cq id ep sz n=.sref id ep 0 n sz:=by
 cases n with
 | zero=>omega
 | succ n=>rfl
theorem D4 {S:List Ent} {n i e:Nat} (h:i<n):entAt (S.take n) i e=entAt S i e:=by
 unfold entAt;rw [Ae,Ae,Iu]; simp [h]
theorem QQ.FAq.take {S:List Ent} {n iq eq:Nat} {b:Bool} (h:QQ.FAq S iq eq b) (hi:iq<n):QQ.FAq (S.take n) iq eq b:=by unfold QQ.FAq; rw [D4 hi]; exact h
theorem WW.FAq.take {S:List Ent} {n iq eq:Nat} {b:Bool} (_:WW.FAq S iq eq b) (_:True):WW.FAq (S.take n) iq eq b:=⟨⟩
theorem Gc {α:Type} {l:List α} {n j:Nat} (h:j<n):nth (l.take n) j=nth l j:=by
 rw [Ae,Ae,Iu]; simp [h]
theorem Bo {α:Type} {l m:List α} {j:Nat} (h:j<l.length):nth (l++m) j=nth l j:=by
 rw [Ae,Ae,Ct h]
theorem Akm {α:Type} {l:List α} {i:Nat} {x:α} : put l i x=[]↔l=[]:=by
 cases l with
 | nil=>simp [put]
 | cons y l=>cases i <;> simp [put]
end
section
open Go Tryz
def Bi (c:ByteArray × Int):List AV:=[.prim (.string c.1),.prim (.int .i64 c.2)]
def Ag (cs:List (ByteArray × Int)):AV:=.frz (cs.map Bi) .unk
def linA (cs:List (ByteArray × Int)) (n:Int):AV:=.agg [Ag cs,.prim (.int .i64 n)]
def rowA (cs:List (ByteArray × Int)) (n:Int) (eq:Bool):AV:=.agg [Ag cs,.prim (.int .i64 n),.prim (.bool eq)]
def Ds (s:ByteArray):Bool:=sEq s ⟨#[]⟩ || decide ((s.size:Int) > 400)
def Ja:Option ByteArray->ByteArray->Bool
 | none,_=>false
 | some p,s=>sLt s p || sEq s p
def A8 (n:Int):Option ByteArray->List (ByteArray × Int)->Int
 | _,[]=>if inB n then 0 else 2
 | p,c :: cs=>if Ds c.1 then 3 else if c.2 == 0 || !inB c.2 then 2 else if Ja p c.1 then 9 else A8 n (some c.1) cs
def B5 (cs:List (ByteArray × Int)) (n:Int):Int:=if 24<cs.length then 7 else A8 n none cs
def Gf (cs:List (ByteArray × Int)):Nat->Option ByteArray
 | 0=>none
 | j+1=>(nth cs j).map (·.1)
section
variable (S:List Ent) (tk:List Nat) (k:Nat)
theorem Ab6 (n:Int):cL prog 49 [.int n] S tk k=some (.bool (inB n),S,tk,k):=by
 refine opP func49 ntmps49 ?_;simp +contextual only [ev0,reduceIte,reduceCtorEq,I2,I3,Oq,I8,Ot,O2,I9,Ou,Cd,Cb,Ce,results49];exact Ya2u
theorem Ac3 (n:Int):cL prog 12 [.int n] S tk k=some (.bool (inB n),S,tk,k):=by
 refine opP func12 ntmps12 ?_;simp +contextual only [ev0,reduceIte,reduceCtorEq,I2,I3,Oq,I8,Ot,O2,I9,Ou,Cd,Cb,Ce,results12];exact Ya2u
theorem K3 (cs:List (ByteArray × Int)) (n:Int) (hlen:cs.length<=1048576):cL prog 28 [linA cs n] S tk k=some (.int (B5 cs n),S,tk,k):=by
 refine opP func28 ntmps28 ?_;simp (maxSteps:=10^6)+contextual(disch:=try exact dqd)only[ev1,reduceIte,reduceCtorEq,I2,I3,Oq,I8,Ot,O2,I9,Ou,Cd,Cb,Ce,results28,linA,Ag];refine ⟨fun h=>?_,fun h=>?_⟩
 ·unfold B5; rw [if_pos eO]
 have hc:B5 cs n=A8 n none cs:=by unfold B5; rw [if_neg eO]
 rw [hc];refine loop1 (fun i st=>st.T.length=57/\i<=cs.length/\getT st.T 1=.ref 0 0 0/\getT st.T 10=Ag cs/\getT st.T 11=.int cs.length/\getT st.T 12=.int (i:Nat)/\st.S=[⟨0,[Ag cs,.int n]⟩]) (fun i=>cs.length - i) (fun i=>.int (A8 n (Gf cs i) (cs.drop i))) 0 ?_ ?_;case refine_2=>exact ⟨rfl,Co _,rfl,rfl,rfl,rfl,rfl⟩
 rintro i ⟨T,S',tk',n'⟩ ⟨hl,hi,e1,e10,e11,e12,rfl⟩ IH;obtain ⟨g,hg,hT⟩:=Au hl;rw [hg] at e1 e10 e11 e12;subst hT;clear hg hl h hc;by_cases hlt:i<cs.length
 ·have d1:decide ((i:Int)<(cs.length:Int))=true:=aI
  obtain ⟨c,hc⟩:=Af hlt;have b9:nth (cs.map Bi) i=some (Bi c):=cN
  have hw:=Bb (i:=i) aA;have hp:Gf cs (i+1)=some c.1:=by simp [Gf,hc]
  rw [Ay hc];rcases i with _|j
  ·have d2:decide (((0:Nat):Int) > 0)=false:=rfl;simp (maxSteps:=10^6)+contextual(disch:=try exact dqd)only[ev1,reduceIte,reduceCtorEq,I2,I3,Oq,I8,Ot,O2,I9,Ou,Cd,Cb,Ce,results28,e1,e10,e11,e12,d1,d2,Ag,b9,hw,Bi,Ab6];refine ⟨fun h1=>?_,fun h1=>⟨fun h2=>?_,fun h2=>⟨fun h3=>?_,fun h3=>⟨fun h4=>?_,fun h4=>?_⟩⟩⟩⟩
   ·simp [A8,Ds,h1]
   ·exact Ya3f
   ·exact Ya2v
   ·rw [IH 1 _ aA ⟨rfl,aA,rfl,rfl,rfl,rfl,rfl⟩,hp];simp only [A8,Ds,h1,h2,h3,h4,Gf,Ja]; rfl
   ·exact Ya2e
  ·have d2:decide (((j+1:Nat):Int) > 0)=true:=decide_eq_true aA;obtain ⟨p,l9⟩:=Af (show j<cs.length by omega);have ed:nth (cs.map Bi) j=some (Bi p):=by rw [D3,l9]; rfl
   have hw':=Aa5 (j:=j) aA;have zz:Gf cs (j+1)=some p.1:=by simp [Gf,l9]
   simp (maxSteps:=10^6)+contextual(disch:=try exact dqd)only[ev1,reduceIte,reduceCtorEq,I2,I3,Oq,I8,Ot,O2,I9,Ou,Cd,Cb,Ce,results28,e1,e10,e11,e12,d1,d2,Ag,b9,hw,Bi,Ab6,ed,hw'];refine ⟨fun h1=>?_,fun h1=>⟨fun h2=>?_,fun h2=>⟨fun h3=>?_,fun h3=>⟨fun h4=>?_,fun h4=>?_⟩⟩⟩⟩
   ·simp [A8,Ds,h1]
   ·exact Ya3f
   ·exact Ya2v
   ·refine ⟨fun h5=>?_,fun h5=>?_⟩
    ·exact Ya19
    ·rw [IH (j+1+1) _ aA ⟨rfl,aA,rfl,rfl,rfl,rfl,rfl⟩,hp];exact Ya19
   ·exact Ya2e
 ·have d1:decide ((i:Int)<(cs.length:Int))=false:=aI
  have he:i=cs.length:=aA
  simp (maxSteps:=10^6)+contextual(disch:=try exact dqd)only[ev1,reduceIte,reduceCtorEq,I2,I3,Oq,I8,Ot,O2,I9,Ou,Cd,Cb,Ce,results28,e1,e10,e11,e12,d1,Ag,Ab6];exact Ya2m
theorem Ahi (cs:List (ByteArray × Int)) (n:Int) (hlen:cs.length<=1048576):cL prog 13 [linA cs n] S tk k=some (.int (B5 cs n),S,tk,k):=by
 refine opP func13 ntmps13 ?_;simp (maxSteps:=10^6)+contextual(disch:=try exact dqd)only[ev1,reduceIte,reduceCtorEq,I2,I3,Oq,I8,Ot,O2,I9,Ou,Cd,Cb,Ce,results13,linA,Ag];refine ⟨fun h=>?_,fun h=>?_⟩
 ·unfold B5; rw [if_pos eO]
 have hc:B5 cs n=A8 n none cs:=by unfold B5; rw [if_neg eO]
 rw [hc];refine loop1 (fun i st=>st.T.length=60/\i<=cs.length/\getT st.T 1=.ref 0 0 0/\getT st.T 3=.int (i:Nat)/\st.S=[⟨0,[Ag cs,.int n]⟩]) (fun i=>cs.length - i) (fun i=>.int (A8 n (Gf cs i) (cs.drop i))) 0 ?_ ?_;case refine_2=>exact ⟨rfl,Co _,rfl,rfl,rfl⟩
 rintro i ⟨T,S',tk',n'⟩ ⟨hl,hi,e1,e3,rfl⟩ IH;obtain ⟨g,hg,hT⟩:=Au hl;rw [hg] at e1 e3;subst hT;clear hg hl h hc;by_cases hlt:i<cs.length
 ·have d1:decide ((i:Int)<(cs.length:Int))=true:=aI
  obtain ⟨c,hc⟩:=Af hlt;have b9:nth (cs.map Bi) i=some (Bi c):=cN
  have hw:=Bb (i:=i) aA;have hp:Gf cs (i+1)=some c.1:=by simp [Gf,hc]
  rw [Ay hc];rcases i with _|j
  ·have d2:decide (((0:Nat):Int) > 0)=false:=rfl;simp (maxSteps:=10^6)+contextual(disch:=try exact dqd)only[ev1,reduceIte,reduceCtorEq,I2,I3,Oq,I8,Ot,O2,I9,Ou,Cd,Cb,Ce,results13,e1,e3,d1,d2,Ag,b9,hw,Bi,Ac3];refine ⟨fun h1=>?_,fun h1=>⟨fun h2=>?_,fun h2=>⟨fun h3=>?_,fun h3=>⟨fun h4=>?_,fun h4=>?_⟩⟩⟩⟩
   ·simp [A8,Ds,h1]
   ·exact Ya3f
   ·exact Ya2v
   ·rw [IH 1 _ aA ⟨rfl,aA,rfl,rfl,rfl⟩,hp];simp only [A8,Ds,h1,h2,h3,h4,Gf,Ja]; rfl
   ·exact Ya2e
  ·have d2:decide (((j+1:Nat):Int) > 0)=true:=decide_eq_true aA;obtain ⟨p,l9⟩:=Af (show j<cs.length by omega);have ed:nth (cs.map Bi) j=some (Bi p):=by rw [D3,l9]; rfl
   have hw':=Aa5 (j:=j) aA;have zz:Gf cs (j+1)=some p.1:=by simp [Gf,l9]
   simp (maxSteps:=10^6)+contextual(disch:=try exact dqd)only[ev1,reduceIte,reduceCtorEq,I2,I3,Oq,I8,Ot,O2,I9,Ou,Cd,Cb,Ce,results13,e1,e3,d1,d2,Ag,b9,hw,Bi,Ac3,ed,hw'];refine ⟨fun h1=>?_,fun h1=>⟨fun h2=>?_,fun h2=>⟨fun h3=>?_,fun h3=>⟨fun h4=>?_,fun h4=>?_⟩⟩⟩⟩
   ·simp [A8,Ds,h1]
   ·exact Ya3f
   ·exact Ya2v
   ·refine ⟨fun h5=>?_,fun h5=>?_⟩
    ·exact Ya19
    ·rw [IH (j+1+1) _ aA ⟨rfl,aA,rfl,rfl,rfl⟩,hp];exact Ya19
   ·exact Ya2e
 ·have d1:decide ((i:Int)<(cs.length:Int))=false:=aI
  have he:i=cs.length:=aA
  simp (maxSteps:=10^6)+contextual(disch:=try exact dqd)only[ev1,reduceIte,reduceCtorEq,I2,I3,Oq,I8,Ot,O2,I9,Ou,Cd,Cb,Ce,results13,e1,e3,d1,Ag,Ac3];exact Ya2m
end
theorem Am2 {n:Int} (h:inB n=true):i64 n:=by rw [J5] at h; unfold i64; omega
section
variable (S:List Ent) (tk:List Nat) (k:Nat)
theorem Ab7 (n:Int):cL prog 49 [.int n] S tk k=some (.bool (inB n),S,tk,k):=by
 refine opP func49 ntmps49 ?_;simp (maxSteps:=10^6)+contextual(disch:=try exact dqd)only[ev1,simprocAttr,Cd,Cb,Ce,results49];exact Ya2u
theorem Tl (n:Int) (ok:Bool):cL prog 51 [.int n,.bool ok] S tk k=some (.tup [.int (chk ok n).1,.bool (chk ok n).2],S,tk,k):=by
 refine opP func51 ntmps51 ?_;simp (maxSteps:=10^6)+contextual(disch:=try exact dqd)only[ev1,simprocAttr,Cd,Cb,Ce,results51,Ab7];simp +contextual [chk]
theorem Ame {a b:Int} (ha:inB a=true) (hb:inB b=true):Cf.wrap (a+b)=a+b:=by
 rw [J5] at ha hb; exact Ab aC
theorem Aj7 (a b:Int):cL prog 32 [.int a,.int b] S tk k=some (.tup [.int (addS a b).1,.bool (addS a b).2],S,tk,k):=by
 refine opP func32 ntmps32 ?_;simp (maxSteps:=10^6)+contextual(disch:=try exact dqd)only[ev1,simprocAttr,Cd,Cb,Ce,results32,Ab7,Tl,Ame];simp +contextual [addS,chk]
theorem Aqf (n:Int) (h:i64 n):cL prog 50 [.int n] S tk k=some (.int (absS n),S,tk,k):=by
 refine opP func50 ntmps50 ?_;simp (maxSteps:=10^6)+contextual(disch:=try exact dqd)only[ev1,simprocAttr,Cd,Cb,Ce,results50];simp only [IntKind.wrap_i64,absS,AV.prim.injEq,Sl.injEq,A2,true_and,decide_eq_true_eq,decide_eq_false_iff_not];unfold i64 at h;refine ⟨fun h1=>?_,fun h1=>⟨fun h2=>?_,fun h2=>?_⟩⟩ <;> (split <;> try split) <;> omega
theorem Anh {n:Int} (h:inB n=true):cL prog 50 [.int n] S tk k=some (.int n.natAbs,S,tk,k):=by rw [Aqf S tk k n (Am2 h),Apj h]
theorem Anc {a b:Int} (ha:inB a=true) (hb:inB b=true) (h0:¬ a=0) (v:Int) (hv:v=(a.natAbs:Int)) :
  (decide ((b.natAbs:Int) > Cf.wrap (Int.tdiv 1000000000000 v))=false->Cf.wrap (a*b)=a*b/\inB (a*b)=true)/\(decide ((b.natAbs:Int) > Cf.wrap (Int.tdiv 1000000000000 v))=true->inB (a*b)=false):=by
 subst hv;have hp:0<(a.natAbs:Int):=aA
 have e:Int.tdiv 1000000000000 (a.natAbs:Int)=1000000000000 / (a.natAbs:Int):=Fp aA;have h1:0<=1000000000000 / (a.natAbs:Int):=Int.ediv_nonneg aA aA;have h2:1000000000000 / (a.natAbs:Int)<=1000000000000:=Int.ediv_le_self _ aA;rw [e,Ab aC];rcases Ane a b h0 with ⟨h3,h4,h5,h6⟩|⟨h3,h4⟩
 ·exact ⟨fun _=>⟨Ab aC,h6⟩,fun h=>Za25⟩
 ·exact ⟨fun h=>Za25,fun _=>h4⟩
theorem Aj8 (a b:Int):cL prog 31 [.int a,.int b] S tk k=some (.tup [.int (mulS a b).1,.bool (mulS a b).2],S,tk,k):=by
 refine opP func31 ntmps31 ?_;simp (maxSteps:=10^6)+contextual(disch:=try exact dqd)only[ev1,simprocAttr,Cd,Cb,Ce,results31,Ab7,Tl,Anh];refine ⟨fun ha=>⟨fun hb=>⟨fun h0=>?_,fun h0=>⟨fun h1=>?_,fun h1=>?_⟩⟩,fun hb=>?_⟩,fun ha=>?_⟩
 ·simp at h0; subst h0; simp [mulS,chk,hb]; decide
 ·simp at h1; subst h1; simp [mulS,chk,ha]; decide
 ·have h0':¬ a=0:=aX
  obtain ⟨c1,c2⟩:=Anc ha hb h0' _ rfl;refine ⟨aA,fun h=>?_,fun h=>?_⟩
  ·simp [mulS,chk,ha,hb,c2 h]
  ·simp [mulS,chk,ha,hb,(c1 h).1,(c1 h).2]
 ·simp [mulS,chk,hb]
 ·simp [mulS,chk,ha]
end
def findS (name:ByteArray):List (ByteArray × Int)->Int
 | []=>0
 | p :: r=>if sEq p.1 name then p.2 else findS name r
def R5 (name:ByteArray):List (ByteArray × Int)->Nat->Int × Nat
 | [],_=>(-1,0)
 | p :: r,i=>if sEq p.1 name then (i,1) else ((R5 name r (i+1)).1,(R5 name r (i+1)).2+1)
def Ee (pt:List (ByteArray × Int)):Int->List (ByteArray × Int)->Int × Bool
 | s,[]=>(s,true)
 | s,c :: r=>if (mulS c.2 (findS c.1 pt)).2 then (if (addS s (mulS c.2 (findS c.1 pt)).1).2 then Ee pt (addS s (mulS c.2 (findS c.1 pt)).1).1 r else (0,false)) else (0,false)
def Hz (cs:List (ByteArray × Int)) (n:Int) (pt:List (ByteArray × Int)):Int × Bool:=if B5 cs n=0 then Ee pt n cs else (0,false)
section
variable (S:List Ent) (tk:List Nat) (k:Nat)
theorem Amd (p c:ByteArray × Int) (id ep:Nat) (h:entAt S id ep=some (Bi c)):cL prog 30 [.agg (Bi p),.ref id ep 0] S tk k=some (.bool (sEq p.1 c.1),S,tk,k+1):=by
 refine opS func30 ntmps30 ?_;simp (maxSteps:=10^6)+contextual(disch:=try exact dqd)only[evs1,simprocAttr,Cd,Cb,Ce,results30,Bi,h]
theorem Q3 (pt:List (ByteArray × Int)) (c:ByteArray × Int) (id ep:Nat) (hlen:pt.length<=1048576) (h:entAt S id ep=some (Bi c)) :
  cL prog 29 [Ag pt,.fn 30 [.ref id ep 0]] S tk k=some (.int (R5 c.1 pt 0).1,S,tk,k+(R5 c.1 pt 0).2):=by
 refine opS func29 ntmps29 ?_;simp (maxSteps:=10^6)+contextual(disch:=try exact dqd)only[evs1,simprocAttr,Cd,Cb,Ce,results29,Ag];refine Af5 (P:=prog) (fun x st=>st.T.length=19/\x.1<=pt.length/\getT st.T 0=Ag pt/\getT st.T 1=.fn 30 [.ref id ep 0]/\getT st.T 7=.int pt.length/\getT st.T 8=.int (x.1:Nat)/\st.S=S/\st.tk=tk/\st.n=x.2) (fun x=>pt.length - x.1)
  (fun x=>(.int (R5 c.1 (pt.drop x.1) x.1).1,S,tk,x.2+(R5 c.1 (pt.drop x.1) x.1).2)) (0,k) ?_ ?_
 case refine_2=>exact ⟨rfl,Co _,rfl,rfl,rfl,rfl,rfl,rfl,rfl⟩
 rintro ⟨i,m⟩ ⟨T,S',tk',n'⟩ ⟨hl,hi,e0,e1,e7,e8,eS,eT,eN⟩ IH;simp only at eS eT eN;subst eS eT eN;obtain ⟨g,hg,hT⟩:=Au hl;rw [hg] at e0 e1 e7 e8;subst hT;clear hg hl;simp only at hi e8;by_cases hlt:i<pt.length
 ·have d1:decide ((i:Int)<(pt.length:Int))=true:=aI
  obtain ⟨p,hc⟩:=Af hlt;have b9:nth (pt.map Bi) i=some (Bi p):=cN
  have hw:=Bb (i:=i) aA;have hf:=fun k=>Amd S' tk' k p c id ep h;simp only [Bi] at hf b9;rw [Ay hc];simp (maxSteps:=10^6)+contextual(disch:=try exact dqd)only[evs1,simprocAttr,Cd,Cb,Ce,results29,e0,e1,e7,e8,d1,Ag,b9,hw,hf];refine ⟨fun h1=>by simp [R5,h1],fun h1=>?_⟩;rw [IH (i+1,n'+1) _ aT ⟨rfl,hlt,rfl,rfl,rfl,rfl,rfl,rfl,rfl⟩];simp [R5,h1]; omega
 ·have d1:decide ((i:Int)<(pt.length:Int))=false:=aI
  have he:i=pt.length:=aA
  simp (maxSteps:=10^6)+contextual(disch:=try exact dqd)only[evs1,simprocAttr,Cd,Cb,Ce,results29,e0,e1,e7,e8,d1,Ag];simp only [he,Fo]; rfl
theorem Ad5 (name:ByteArray):∀ (l:List (ByteArray × Int)) (i:Nat),((R5 name l i).1=-1/\findS name l=0)\/∃ j p,(R5 name l i).1=((i+j:Nat):Int)/\nth l j=some p/\findS name l=p.2
 | [],_=>.inl ⟨rfl,rfl⟩
 | p :: r,i=>by
  simp only [R5,findS];by_cases h:sEq p.1 name=true
  ·rw [if_pos h,if_pos h]; exact .inr ⟨0,p,rfl,rfl,rfl⟩
  ·rw [if_neg h,if_neg h];rcases Ad5 name r (i+1) with ⟨h1,h2⟩|⟨j,q,h1,h2,h3⟩
   ·exact .inl ⟨h1,h2⟩
   ·exact .inr ⟨j+1,q,by rw [h1]; omega,h2,h3⟩
theorem P5 (cs:List (ByteArray × Int)) (n:Int) (pt:List (ByteArray × Int)) (hlen:cs.length<=1048576) (jh:pt.length<=1048576):cL prog 11 [linA cs n,Ag pt] S tk k=some (.tup [.int (Hz cs n pt).1,.bool (Hz cs n pt).2],S,tk,k):=by
 refine opP func11 ntmps11 ?_;have hC:=fun S tk k=>K3 S tk k cs n hlen;simp only [linA,Ag] at hC;simp (maxSteps:=10^6)+contextual(disch:=try exact dqd)only[ev1,simprocAttr,Cd,Cb,Ce,results11,linA,Ag,hC];refine ⟨fun h=>?_,fun h=>?_⟩
 ·have:¬ B5 cs n=0:=aJ
  simp [Hz,this]
 have h0:B5 cs n=0:=aJ
 have hv:Hz cs n pt=Ee pt n cs:=by simp [Hz,h0]
 rw [hv];refine loop1 (P:=prog) (fun x st=>st.T.length=54/\x.1<=cs.length/\getT st.T 1=Ag pt/\getT st.T 2=.ref 0 0 0/\getT st.T 6=.int x.2/\getT st.T 19=Ag cs/\getT st.T 20=.int cs.length/\getT st.T 21=.int (x.1:Nat)/\st.S=[⟨0,[Ag cs,.int n]⟩]) (fun x=>cs.length - x.1)
  (fun x=>.tup [.int (Ee pt x.2 (cs.drop x.1)).1,.bool (Ee pt x.2 (cs.drop x.1)).2]) (0,n) ?_ ?_
 case refine_2=>exact ⟨rfl,Co _,rfl,rfl,rfl,rfl,rfl,rfl,rfl⟩
 rintro ⟨i,s⟩ ⟨T,S',tk',n'⟩ ⟨hl,hi,e1,e2,e6,e19,e20,e21,rfl⟩ IH;obtain ⟨g,hg,hT⟩:=Au hl;rw [hg] at e1 e2 e6 e19 e20 e21;subst hT;clear hg hl h hv h0;simp only at hi e6 e21;by_cases hlt:i<cs.length
 ·have d1:decide ((i:Int)<(cs.length:Int))=true:=aI
  obtain ⟨c,hc⟩:=Af hlt;have b9:nth (cs.map Bi) i=some (Bi c):=cN
  have hw:=Bb (i:=i) aA;rw [Ay hc];have hI:=fun k=>Q3 [⟨0,[Ag cs,.int n]⟩,⟨n',Bi c⟩] tk' k pt c 1 n' jh (by simp [entAt,nth]);simp only [Ag,Bi] at hI b9;have step:∀ v:Int,v=findS c.1 pt->True:=fun _ _=>trivial;rcases Ad5 c.1 pt 0 with ⟨h1,h2⟩|⟨j,p,h1,h2,h3⟩
  ·have d2:decide ((-1:Int) >= 0)=false:=rfl;rw [h1] at hI;simp (maxSteps:=10^6)+contextual(disch:=try exact dqd)only[ev1,simprocAttr,Cd,Cb,Ce,results11,e1,e2,e6,e19,e20,e21,d1,Ag,b9,hw,hI,Aj8,Aj7,Kw,d2];refine ⟨fun h5=>⟨fun h6=>?_,fun h6=>?_⟩,fun h5=>?_⟩
   ·rw [IH (i+1,_) _ aT ⟨rfl,hlt,rfl,rfl,rfl,rfl,rfl,rfl,rfl⟩];simp [Ee,h2,h5,h6]
   ·simp [Ee,h2,h5,h6]
   ·simp [Ee,h2,h5]
  ·have h2':nth (pt.map Bi) j=some (Bi p):=by rw [D3,h2]; rfl
   rw [Fg] at h1;have d2:decide ((j:Int) >= 0)=true:=by simp
   rw [h1] at hI;simp only [Bi] at h2';simp (maxSteps:=10^6)+contextual(disch:=try exact dqd)only[ev1,simprocAttr,Cd,Cb,Ce,results11,e1,e2,e6,e19,e20,e21,d1,Ag,b9,hw,hI,Aj8,Aj7,Kw,d2,h2'];refine ⟨fun h5=>⟨fun h6=>?_,fun h6=>?_⟩,fun h5=>?_⟩
   ·rw [IH (i+1,_) _ aT ⟨rfl,hlt,rfl,rfl,rfl,rfl,rfl,rfl,rfl⟩];simp [Ee,h3,h5,h6]
   ·simp [Ee,h3,h5,h6]
   ·simp [Ee,h3,h5]
 ·have d1:decide ((i:Int)<(cs.length:Int))=false:=aI
  have he:i=cs.length:=aA
  simp (maxSteps:=10^6)+contextual(disch:=try exact dqd)only[ev1,simprocAttr,Cd,Cb,Ce,results11,e1,e2,e6,e19,e20,e21,d1,Ag];rw [he,Fo]; exact ⟨rfl,rfl⟩
end
abbrev Pt:=List (ByteArray × Int)
def radG (pt:Pt):Nat->Pt->Nat
 | m,[]=>m
 | m,c :: r=>radG pt (max m (findS c.1 pt).natAbs) r
def radF (pt:Pt):Nat:=radG pt 0 pt
def befF (a b:Int):Bool:=if a.natAbs=b.natAbs then decide (b<a) else decide (a.natAbs<b.natAbs)
def Ajx (o:Option ByteArray) (s:ByteArray):Bool:=match o with|none=>true|some t=>sLt s t
def Gs (a b:Pt):Option ByteArray->Pt->Option ByteArray
 | o,[]=>o
 | o,c :: r=>Gs a b (if (findS c.1 a != findS c.1 b && Ajx o c.1)=true then some c.1 else o) r
def ordF (a b:Pt):Int :=
 if radF a<radF b then -1 else if radF b<radF a then 1 else match Gs a b none (a++b) with
  | none=>0
  | some s=>if befF (findS s a) (findS s b)=true then -1 else 1
def PtI (pt:Pt):Prop:=∀ c ∈ pt,i64 c.2
theorem Rw {pt:Pt} (h:PtI pt) (s:ByteArray):i64 (findS s pt):=by
 induction pt with
 | nil=>simp [findS,i64]
 | cons c r ih =>
  unfold findS;split
  ·exact h c (by simp)
  ·exact ih fun d hd=>h d (by simp [hd])
theorem Aou {q:IntKind} {x y:Int} : maxA (.prim (.int q x)) (.prim (.int q y))=some (.prim (.int q (if y > x then y else x))):=by simp [maxA]
section
variable (S:List Ent) (tk:List Nat) (k:Nat)
theorem D5 (pt:Pt) (name:ByteArray) (hlen:pt.length<=1048576):cL prog 36 [Ag pt,.str name] S tk k=some (.int (findS name pt),S,tk,k):=by
 refine opP func36 ntmps36 ?_;simp (maxSteps:=10^6)+contextual(disch:=try exact dqd)only[ev1,simprocAttr,Cd,Cb,Ce,results36,Ag];refine loop1 (P:=prog) (fun x st=>st.T.length=20/\(x<=pt.length)/\(findS name pt=findS name (pt.drop x))/\getT st.T 0=Ag pt/\getT st.T 1=.str name/\getT st.T 7=Ag pt/\getT st.T 8=.int pt.length/\getT st.T 9=.int (x:Nat)/\st.S=[]) (fun x=>pt.length - x) (fun x=>.int (findS name pt)) (0) ?_ ?_;case refine_2=>exact ⟨rfl,Co _,rfl,rfl,rfl,rfl,rfl,rfl,rfl⟩
 rintro i ⟨T,S',tk',n'⟩ ⟨hl,hi,hE,e0,e1,e7,e8,e9,eS⟩ IH;subst eS;obtain ⟨g,hg,hT⟩:=Au hl;rw [hg] at e0 e1 e7 e8 e9;subst hT;clear hg hl;have dt:=Bb (i:=i) aA;by_cases hlt:i<pt.length
 ·have d1:decide ((i:Int)<(pt.length:Int))=true:=aI
  obtain ⟨c,hc⟩:=Af hlt;have b9:nth (pt.map Bi) i=some (Bi c):=cN
  simp only [Bi] at b9;rw [Ay hc,findS] at hE;cases h0:sEq c.1 name with
  | true =>
   rw [if_pos h0] at hE;simp (maxSteps:=10^6)+contextual(disch:=try exact dqd)only[ev1,simprocAttr,Cd,Cb,Ce,results36,e0,e1,e7,e8,e9,d1,Ag,b9,dt,h0];rw [hE]
  | false =>
   rw [if_neg (by rw [h0]; simp)] at hE;simp (maxSteps:=10^6)+contextual(disch:=try exact dqd)only[ev1,simprocAttr,Cd,Cb,Ce,results36,e0,e1,e7,e8,e9,d1,Ag,b9,dt,h0];exact IH (i+1) _ aF ⟨rfl,aE,hE,rfl,rfl,rfl,rfl,rfl,rfl⟩
 ·have d1:decide ((i:Int)<(pt.length:Int))=false:=aI
  have fh:i=pt.length:=aA
  rw [fh,Fo] at hE;simp (maxSteps:=10^6)+contextual(disch:=try exact dqd)only[ev1,simprocAttr,Cd,Cb,Ce,results36,e0,e1,e7,e8,e9,d1,Ag];rw [hE]; rfl
theorem Mq (n:Int) (hn:i64 n):cL prog 53 [.int n] S tk k=some (.prim (.int .u64 (n.natAbs:Nat)),S,tk,k):=by
 unfold i64 at hn;refine opP func53 ntmps53 ?_;have hw:n<0->Sp.wrap (0 - Sp.wrap n)=((n.natAbs:Nat):Int):=fun h=>by
  exact Ya3h
 have hw2:¬ n<0->Sp.wrap n=((n.natAbs:Nat):Int):=fun h=>by
  exact Ya3h
 by_cases h:n<0
 ·have d1:decide (n<0)=true:=aJ
  have hw:=hw h;simp (maxSteps:=10^6)+contextual(disch:=try exact dqd)only[ev1,simprocAttr,Cd,Cb,Ce,results53,d1,hw]
 ·have d1:decide (n<0)=false:=aJ
  have hw2:=hw2 h;simp (maxSteps:=10^6)+contextual(disch:=try exact dqd)only[ev1,simprocAttr,Cd,Cb,Ce,results53,d1,hw2]
theorem Nv (pt:Pt) (hlen:pt.length<=1048576) (hp:PtI pt):cL prog 35 [Ag pt] S tk k=some (.prim (.int .u64 (radF pt:Nat)),S,tk,k):=by
 refine opP func35 ntmps35 ?_;simp (maxSteps:=10^6)+contextual(disch:=try exact dqd)only[ev1,simprocAttr,Cd,Cb,Ce,results35,Ag];refine loop1 (P:=prog) (fun x st=>st.T.length=21/\(x.1<=pt.length)/\(radF pt=radG pt x.2 (pt.drop x.1))/\getT st.T 0=Ag pt/\getT st.T 3=.prim (.int .u64 (x.2:Nat))/\getT st.T 6=Ag pt/\getT st.T 7=.int pt.length/\getT st.T 8=.int (x.1:Nat)/\st.S=[]) (fun x=>pt.length - x.1) (fun x=>.prim (.int .u64 (radF pt:Nat))) (0,0) ?_ ?_;case refine_2=>exact ⟨rfl,Co _,rfl,rfl,rfl,rfl,rfl,rfl,rfl⟩
 rintro ⟨i,m⟩ ⟨T,S',tk',n'⟩ ⟨hl,hi,hE,e0,e3,e6,e7,e8,eS⟩ IH;simp only at hi hE e0 e3 e6 e7 e8 eS;subst eS;obtain ⟨g,hg,hT⟩:=Au hl;rw [hg] at e0 e3 e6 e7 e8;subst hT;clear hg hl;have dt:=Bb (i:=i) aA;by_cases hlt:i<pt.length
 ·have d1:decide ((i:Int)<(pt.length:Int))=true:=aI
  obtain ⟨c,hc⟩:=Af hlt;have b9:nth (pt.map Bi) i=some (Bi c):=cN
  have hC:=fun S tk k=>D5 S tk k pt c.1 hlen;have hZ:=fun S tk k=>Mq S tk k (findS c.1 pt) (Rw hp c.1);simp only [Bi] at b9;simp only [Ag] at hC;rw [Ay hc,radG] at hE;have hm:(if (((findS c.1 pt).natAbs:Nat):Int) > ((m:Nat):Int) then (((findS c.1 pt).natAbs:Nat):Int) else ((m:Nat):Int))=((max m (findS c.1 pt).natAbs:Nat):Int):=by
   split <;> omega
  simp (maxSteps:=10^6)+contextual(disch:=try exact dqd)only[ev1,simprocAttr,Cd,Cb,Ce,results35,e0,e3,e6,e7,e8,d1,Ag,b9,dt,hC,hZ,Aou,hm];exact IH (i+1,max m (findS c.1 pt).natAbs) _ aF ⟨rfl,aE,hE,rfl,rfl,rfl,rfl,rfl,rfl⟩
 ·have d1:decide ((i:Int)<(pt.length:Int))=false:=aI
  have fh:i=pt.length:=aA
  rw [fh,Fo] at hE;simp (maxSteps:=10^6)+contextual(disch:=try exact dqd)only[ev1,simprocAttr,Cd,Cb,Ce,results35,e0,e3,e6,e7,e8,d1,Ag];rw [hE]; rfl
theorem Xf (a b:Int) (ha:i64 a) (hb:i64 b):cL prog 37 [.int a,.int b] S tk k=some (.bool (befF a b),S,tk,k):=by
 refine opP func37 ntmps37 ?_;have h1:=fun S tk k=>Mq S tk k a ha;have h2:=fun S tk k=>Mq S tk k b hb;by_cases h:a.natAbs=b.natAbs
 ·have d1:(((a.natAbs:Nat):Int) != ((b.natAbs:Nat):Int))=false:=aB
  exact Ya11
 ·have d1:(((a.natAbs:Nat):Int) != ((b.natAbs:Nat):Int))=true:=aB
  exact Ya11
end
end
section
open Go
def strO (o:Option ByteArray):ByteArray:=match o with|none=>⟨#[]⟩|some s=>s
end
end Go.Proofs.YtcandeobhlfkbaaGreat
