/- Part 16. -/
import Derived.OpenShut
import Derived.ChangeArms
import Derived.Test.YthelkgdmgihhiaaGreatZM15
open And renaming intro->Bv
open Bool renaming and_eq_true->Cf,false_eq_true->C4,or_false->Fk,or_eq_true->Fz,false_and->F2,not_eq_true'->F3,not_true->F6,true_and->G4,not_false->Ij,false_ne_true->K2,eq_iff_iff->X7,not_eq_true->gL
open Go.Addr renaming add->gV
open Go.DataW renaming trod->fM,Trod->gJ
open Go.IntKind renaming i64->Ce,u64->hG
open Go.Proofs.YthelkgdmgihhiaaGreat.AV renaming bool->Ca,int->Cg,str->Ch
open Go.Value renaming oneCell'->fU
open Go.World renaming cell?->It
open Int renaming tdiv_eq_ediv_of_nonneg->C9,mul_comm->Fp,mul_assoc->F1,tmod_eq_emod_of_nonneg->F5,natAbs_mul->Ik,mul_ne_zero->Io,mul_add->I7,mul_zero->O1,mul_nonneg->O7,add_zero->Rv,natCast_nonneg->fL,neg_mul->fR,add_assoc->gN,reduceNeg->gU,natCast_mul->iC
open List renaming replicate->Cd,length_cons->Ck,map_cons->Cm,length_append->Cn,cons_append->Co,getElem?_append_left->Cp,mem_append->Cr,nil_append->Ct,map_nil->Cw,mem_cons->Cy,all_eq_true->Cz,length_eq_zero_iff->C5,append_assoc->C7,getElem?_append_right->C8,getElem?_eq_none->E9,drop_eq_nil_of_le->Ff,drop_length->Fh,flatten_cons->Fm,drop_zero->Fs,map_append->Ft,append_nil->Fu,getElem?_map->Fw,mem_map->Fy,take_succ_cons->F4,pairwise_cons->F7,range->F9,length_map->Ib,getElem?_eq_getElem->Ig,mem_replicate->Ih,mem_of_getElem?->Il,take_length->Ir,getElem?_cons_zero->Iv,getElem?_take->Iw,length_pos_iff->I5,take_append_drop->I9,drop_append->Sv,set_append_right->fX,flatten_nil->gE,mem_of_mem_take->gZ
open List.cons renaming injEq->S9
open Nat renaming le_refl->Cb,zero_le->Cs,lt_of_lt_of_le->Fi,zero_add->Fo,le_trans->Fv,lt_or_ge->Ic,lt_of_le_of_lt->Ix,add_zero->I1,mul_comm->I2,sub_self->I3,gcd_pos_of_pos_right->Kt,succ_mul->Mi,zero_mul->Oi,pow_succ->Oj,strongRecOn->Ow,div_le_self->Oz,add_mul->O8,gcd_zero_right->Sa,mod_lt->Sc,add_assoc->Si,reduceEqDiff->Sx,reduceLeDiff->Sy,add_right_cancel_iff->S8,eq_zero_or_pos->fN,gcd_le_right->gK,reduceAdd->gP,reduceSub->gQ,reduceBEq->gR,reduceMul->gS,pow_pos->gY,reduceLT->iJ
open Ne renaming symm->Od
open Option renaming map_eq_some_iff->B6,map_some->Cu,bind_eq_some_iff->Ie
open Option.some renaming injEq->A0
open Prod.mk renaming injEq->Cc
namespace Go.Proofs.YthelkgdmgihhiaaGreat
section
open Go
inductive Sh (P:Program):TypeId->List AV->Prop
 | bool {t b} : P.underlying t=some .bool->Sh P t [.prim (.bool b)]
 | int {t k n} : P.underlying t=some (.int k)->(Lit.int k n).wf=true->Sh P t [.prim (.int k n)]
 | str {t s} : P.underlying t=some .string->s.size<=maxLen->Sh P t [.prim (.string s)]
 | slice {t e es} : P.underlying t=some (.slice e)->(∀ x ∈ es,Sh P e x)->es.length<=maxLen->Sh P t [.frz es .unk]
 | struct {t fs} {pss:List (List AV)} : P.underlying t=some (.struct fs)->pss.length=fs.size->(∀ i f p,fs[i]?=some f->nth pss i=some p->Sh P f.type p)->Sh P t pss.flatten
 | array {t n e} {pss:List (List AV)} : P.underlying t=some (.array n e)->pss.length=n->(∀ p ∈ pss,Sh P e p)->Sh P t pss.flatten
def Xc (P:Program):List Field->Nat->Nat->Bool
 | [],o,n=>o == n
 | f :: fs,o,n=>f.offset == o && Xc P fs (o+P.cellsOf f.type) n
def Ai2 (P:Program) (F:List TypeId) (t:TypeId):Bool :=
 match P.underlying t with
 | some .bool=>true
 | some (.int k)=>k != .u64
 | some .string=>true
 | some (.slice e)=>F.contains e && decide (0<P.cellsOf e)
 | some (.struct fs)=>Xc P fs.toList 0 (P.cellsOf t) && fs.toList.all fun f=>F.contains f.type
 | some (.array n e)=>F.contains e && P.cellsOf t == n*P.cellsOf e
 | _=>false
def Zf (P:Program) (F:List TypeId):Bool:=F.all (Ai2 P F)
def Q4:AV->Bool
 | .prim (.int k _)=>k != .u64
 | .prim _=>true
 | .frz _ _=>true
 | _=>false
theorem Alt {w:World} {A:Nat->Nat->Prop} {b:Nat} : ∀ (vs:List Value) (o:Nat),(∀ j v,nth vs j=some v->w.cell? ⟨b,o+j,none⟩=some v/\¬ A b (o+j))->Lie w A b o vs
 | [],_,_=>trivial
 | v :: vs,o,h=>by
  have h0:=h 0 v rfl;refine ⟨h0.1,h0.2,Alt vs (o+1) fun j u hu=>?_⟩;have:=h (j+1) u hu;rwa [show o+(j+1)=o+1+j by omega] at this
theorem Aaw {w:World} {A:Nat->Nat->Prop} {b sz:Nat} : ∀ (es:List (List AV)) (o:Nat),(∀ i e,nth es i=some e->e.length=sz/\∃ vs,Lie w A b (o+i*sz) vs/\PRs w A e vs)->Bt w A b sz o es
 | [],_,_=>by simp only [Bt]
 | e :: es,o,h=>by
  simp only [Bt];have h0:=h 0 e rfl;rw [Oi,I1] at h0;refine ⟨h0.1,h0.2,Aaw es (o+sz) fun i f hf=>?_⟩;have:=h (i+1) f hf;exact Ya2v
theorem Y6 {w:World} {A:Nat->Nat->Prop} : ∀ {cs ds:List AV} {us vs:List Value},PRs w A cs us->PRs w A ds vs->PRs w A (cs++ds) (us++vs)
 | [],_,[],_,_,h=>h
 | _ :: _,_,_ :: _,_,h1,h2=>by simp only [PRs,Co] at h1 ⊢; exact ⟨h1.1,Y6 h1.2 h2⟩
 | [],_,_ :: _,_,h1,_=>by simp only [PRs] at h1
 | _ :: _,_,[],_,h1,_=>by simp only [PRs] at h1
theorem Abw {w:World} {A:Nat->Nat->Prop} : ∀ {cs:List AV} {vs:List Value},PRs w A cs vs->(∀ c ∈ cs,Q4 c=true)->∀ v ∈ vs,∀ n,v≠.int .u64 n
 | [],[],_,_,v,hv=>by simp at hv
 | c :: cs,x :: vs,h,hg,v,hv=>by
  simp only [PRs] at h;rcases Cy.1 hv with rfl|hv
  ·intro n e;subst e;have hc:=hg c (by simp);have hp:=h.1;cases c with
   | prim y=>simp only [PR] at hp; rw [<- hp.1] at hc; simp [Q4] at hc
   | frz es q=>cases q <;> simp only [PR] at hp; obtain ⟨a,l,q,e,-⟩:=hp; cases e
   | _=>simp [Q4] at hc
  ·exact Abw h.2 (fun d hd=>hg d (by simp [hd])) v hv
 | [],_ :: _,h,_,_,_=>bL
 | _ :: _,[],h,_,_,_=>bL
theorem Zz {α β:Type} {f:α->Option β} : ∀ {l:List α} {ys:List β},l.mapM f=some ys->ys.length=l.length/\∀ i x y,nth l i=some x->nth ys i=some y->f x=some y
 | [],ys,h=>by simp at h; subst h; exact ⟨rfl,fun i x y hx=>by simp [nth] at hx⟩
 | a :: l,ys,h=>by
  rw [List.mapM_cons] at h;simp only [Option.pure_def,Option.bind_eq_bind,Ie] at h;obtain ⟨b,hb,bs,pn,e⟩:=h;simp only [A0] at e;subst e;obtain ⟨h1,h2⟩:=Zz pn;refine ⟨by simp [h1],fun i x y hx hy=>?_⟩;cases i with
  | zero=>simp only [nth,A0] at hx hy; subst hx hy; exact hb
  | succ i=>exact h2 i x y hx hy
theorem Yh {n i:Nat} (h:i<n):nth (F9 n) i=some i:=by rw [Ae,List.getElem?_range h]
theorem Aj1 {w:World} {b off n:Nat} {vs:List Value} (h:w.cells? 0 ⟨b,off,none⟩ n=some vs):vs.length=n/\∀ j v,nth vs j=some v->w.cell? ⟨b,off+j,none⟩=some v:=by
 unfold World.cells? at h;rw [if_pos (Cs _)] at h;obtain ⟨h1,h2⟩:=Zz h;rw [List.length_range] at h1;refine ⟨h1,fun j v hv=>?_⟩;have hj:j<n:=by have:=Bb hv; omega
 have:=h2 j j v (Yh hj) hv;unfold gV at this;split at this
 ·rename_i h0; subst h0; exact this
 ·exact this
theorem spot0 {w:World} {a:Addr} {v:Value} (h:w.cell? a=some v):a.spot=none:=by
 unfold It at h;split at h
 ·split at h
  ·cases h
  ·rename_i hs; simpa using hs
 ·cases h
section
variable {H:Type} {enc:TypeId × Value->H} {P:Program} {w:World} {sp:Nat->Bool} {i5:Bool} {A:Nat->Nat->Prop} {F:List TypeId}
def Rd (P:Program) (w:World) (A:Nat->Nat->Prop) (t:TypeId) (cs:List Value) (avs:List AV):Prop:=Sh P t avs/\PRs w A avs cs/\∀ c ∈ avs,Q4 c=true
theorem Xn {n:Nat} {cs:List Value} (ih:∀ t ds x,t ∈ F->fM enc P w 0 sp i5 n t ds=some x->∃ avs,Rd P w A t ds avs) :
  ∀ (fs:List Field) (o:Nat) (xs:List (DataW H × List MemPlace)),Xc P fs o cs.length=true->(∀ f ∈ fs,f.type ∈ F)->xs.length=fs.length ->
   (∀ i f,nth fs i=some f->fM enc P w 0 sp i5 n f.type ((cs.drop f.offset).take (P.cellsOf f.type))=nth xs i) ->
   ∃ pss:List (List AV),pss.length=fs.length/\(∀ i f p,nth fs i=some f->nth pss i=some p->Sh P f.type p)/\PRs w A pss.flatten (cs.drop o)/\∀ c ∈ pss.flatten,Q4 c=true
 | [],o,xs,hc,_,_,_=>by
  simp only [Xc,beq_iff_eq] at hc;exact ⟨[],rfl,fun i f p hf=>by simp [nth] at hf,by rw [hc,Fh]; simp only [gE,PRs],by simp⟩
 | f :: fs,o,xs,hc,hF,hl,h=>by
  simp only [Xc,Cf,beq_iff_eq] at hc;obtain ⟨ho,hc⟩:=hc;cases xs with
  | nil=>simp at hl
  | cons x xs =>
  have h0:=h 0 f rfl;obtain ⟨avs,s1,p1,g1⟩:=ih _ _ _ (hF f (by simp)) h0;obtain ⟨pss,l2,s2,p2,g2⟩:=Xn ih fs (o+P.cellsOf f.type) xs hc (fun g hg=>hF g (by simp [hg])) bS fun i g hg=>h (i+1) g hg;refine ⟨avs :: pss,by simp [l2],fun i g p hg hp=>?_,?_,?_⟩
  ·cases i with
   | zero=>simp only [nth,A0] at hg hp; subst hg hp; exact s1
   | succ i=>exact s2 i g p hg hp
  ·rw [ho] at p1;have e:cs.drop o=(cs.drop o).take (P.cellsOf f.type)++cs.drop (o+P.cellsOf f.type):=by
    rw [<- List.drop_drop,I9]
   rw [e,Fm];exact Y6 p1 p2
  ·intro c hc;exact Ya1b
theorem Abm {n sz:Nat} {e:TypeId} {cs:List Value} (ih:∀ t ds x,t ∈ F->fM enc P w 0 sp i5 n t ds=some x->∃ avs,Rd P w A t ds avs) (he:e ∈ F) :
  ∀ (k o:Nat),cs.length=o+k*sz->(∀ i,i<k->∃ x,fM enc P w 0 sp i5 n e ((cs.drop (o+i*sz)).take sz)=some x) ->
   ∃ pss:List (List AV),pss.length=k/\(∀ p ∈ pss,Sh P e p)/\PRs w A pss.flatten (cs.drop o)/\∀ c ∈ pss.flatten,Q4 c=true
 | 0,o,hl,_=>⟨[],rfl,by simp,by rw [Ff aA]; simp only [gE,PRs],by simp⟩
 | k+1,o,hl,h=>by
  obtain ⟨x,h0⟩:=h 0 aA;rw [Oi,I1] at h0;obtain ⟨avs,s1,p1,g1⟩:=ih _ _ _ he h0;obtain ⟨pss,l2,s2,p2,g2⟩:=Abm (sz:=sz) ih he k (o+sz) (by rw [hl,O8]; omega) fun i hi=>by
   have:=h (i+1) aA;exact Ya2v
  refine ⟨avs :: pss,by simp [l2],fun p hp=>?_,?_,?_⟩
  ·rcases Cy.1 hp with rfl|hp
   ·exact s1
   ·exact s2 p hp
  ·have e:cs.drop o=(cs.drop o).take sz++cs.drop (o+sz):=by rw [<- List.drop_drop,I9]
   rw [e,Fm];exact Y6 p1 p2
  ·intro c hc;exact Ya1b
theorem Ai1 (hF:Zf P F=true) (hA:∀ b o v,A b o->w.cell? ⟨b,o,none⟩=some v->∃ n,v=.int .u64 n):∀ (fuel:Nat) (t:TypeId) (cs:List Value) (x:DataW H × List MemPlace),t ∈ F->fM enc P w 0 sp i5 fuel t cs=some x->∃ avs,Rd P w A t cs avs
 | 0,_,_,_,_,h=>by simp [fM] at h
 | n+1,t,cs,x,ht,h=>by
  have f9:Ai2 P F t=true:=Cz.1 hF t ht;have ih:∀ t ds x,t ∈ F->fM enc P w 0 sp i5 n t ds=some x->∃ avs,Rd P w A t ds avs:=fun t ds x ht h=>Ai1 hF hA n t ds x ht h;unfold Ai2 at f9;split at f9
  ·rename_i hu;obtain ⟨b,rfl,-⟩:=DataW.trod_bool hu h;exact ⟨[.prim (.bool b)],.bool hu,Za2n,by simp [Q4]⟩
  ·rename_i k hu;obtain ⟨q,rfl,-,hw⟩:=DataW.trod_int hu h;exact ⟨[.prim (.int k q)],.int hu hw,Za2n,by simpa [Q4] using f9⟩
  ·rename_i hu;obtain ⟨s,rfl,-,hw⟩:=DataW.trod_string hu h;exact ⟨[.prim (.string s)],.str hu hw,Za2n,by simp [Q4]⟩
  ·rename_i e hu;simp only [Cf,decide_eq_true_eq] at f9;obtain ⟨f9,hpos⟩:=f9;have he:e ∈ F:=by simpa using f9
   rcases DataW.trod_slice hu h with ⟨rfl,-⟩|⟨a,len,cap,elems,rest,n',hn,rfl,-,-,hl,hcap,hel,hi,-,-⟩
   ·exact ⟨[.frz [] .unk],.slice hu (by simp) (by simp),by simp only [PRs,PR,and_true]; exact ⟨none,0,0,rfl,rfl,Cb _,.inl trivial⟩,by simp [Q4]⟩
   ·simp only [S8] at hn;subst hn;have gv:∀ i,i<len->∃ vs avs,w.cells? 0 (a.add (i*P.cellsOf e)) (P.cellsOf e)=some vs/\Rd P w A e vs avs:=fun i bj=>by
     have h1:=hi i bj;rw [Ig aA] at h1;obtain ⟨vs,h2,h3⟩:=Ie.1 h1;obtain ⟨avs,h4⟩:=ih _ _ _ he h3;exact ⟨vs,avs,h2,h4⟩
    have ub:∃ es:List (List AV),es.length=len/\∀ i av,nth es i=some av->∃ vs,w.cells? 0 (a.add (i*P.cellsOf e)) (P.cellsOf e)=some vs/\Rd P w A e vs av:=by
     clear hi hel hl hcap h;induction len with
     | zero=>exact ⟨[],rfl,fun i av di=>by simp [nth] at di⟩
     | succ len ihl =>
      obtain ⟨es,l1,l2⟩:=ihl fun i bj=>gv i aA;obtain ⟨vs,avs,h1,h2⟩:=gv len aA;refine ⟨es++[avs],by simp [l1],fun i av di=>?_⟩;rw [Ae] at di;rcases Ic i len with hlt|lu
      ·rw [Cp aA,<- Ae] at di; exact l2 i av di
      ·rw [C8 aA,l1] at di;have:i - len=0:=by
        rcases fN (i - len) with h0|h0
        ·exact h0
        ·rw [E9 aB] at di; cases di
       rw [this] at di;have e1:i=len:=aA
       simp only [Iv,A0] at di;subst di e1;exact ⟨vs,h1,h2⟩
    obtain ⟨es,l1,l2⟩:=ub;refine ⟨[.frz es .unk],.slice hu (fun x hx=>?_) aA,?_,by simp [Q4]⟩
    ·obtain ⟨i,hx⟩:=List.mem_iff_getElem?.1 hx;obtain ⟨vs,-,h1,-⟩:=l2 i x (by rw [Ae]; exact hx);exact h1
    ·simp only [PRs,PR,and_true];refine ⟨some a,len,cap,rfl,l1,hl,?_⟩;by_cases hlen:es=[]
     ·exact .inl hlen
     right;have dz:0<len:=by
      rcases fN len with h0|h0
      ·rw [h0] at l1; exact absurd (C5.1 l1) hlen
      ·exact h0
     obtain ⟨b,off,spt⟩:=a;have sv:spt=none:=by
      obtain ⟨vs,avs,h1,-⟩:=gv 0 dz;rw [Oi] at h1;unfold World.cells? at h1;rw [if_pos (Cs _)] at h1;obtain ⟨h2,h3⟩:=Zz h1;rw [List.length_range] at h2;obtain ⟨v,hv⟩:=Ah (l:=vs) (i:=0) aA;have h4:=h3 0 0 v (Yh hpos) hv;exact spot0 (a:=(⟨b,off,spt⟩:Addr)) h4
     subst sv;have sn:∀ i,(⟨b,off,none⟩:Addr).add i=⟨b,off+i,none⟩:=fun i=>by
      unfold gV;split
      ·rename_i h0; rw [h0]; rfl
      ·rfl
     refine ⟨b,off,P.cellsOf e,rfl,Aaw es off fun i av di=>?_⟩;obtain ⟨vs,h1,sx,o5,hgd⟩:=l2 i av di;rw [sn] at h1;obtain ⟨h2,h3⟩:=Aj1 h1;refine ⟨by rw [K3 o5,h2],vs,Alt vs _ fun j v hv=>⟨h3 j v hv,fun ha=>?_⟩,o5⟩;obtain ⟨q,hq⟩:=hA _ _ v ha (h3 j v hv);exact Abw o5 hgd v (Il (by rw [Ae] at hv; exact hv)) q hq
  ·rename_i fs hu;simp only [Cf] at f9;obtain ⟨xs,n',hn,-,hlen,hxl,hi⟩:=DataW.trod_struct hu h;simp only [S8] at hn;subst hn;rw [<- hlen] at f9;obtain ⟨pss,l1,l2,l3,l4⟩:=Xn ih fs.toList 0 xs f9.1 (fun f hf=>by simpa using Cz.1 f9.2 f hf) (by simpa using hxl) fun i f hf=>by
    rw [Ae] at hf ⊢;exact hi i f (by simpa using hf)
   rw [Fs] at l3;exact ⟨pss.flatten,.struct hu (by simpa using l1) (fun i f p hf hp=>l2 i f p (by rw [Ae]; simpa using hf) hp),l3,l4⟩
  ·rename_i k e hu;simp only [Cf,beq_iff_eq] at f9;obtain ⟨f9,hsz⟩:=f9;have he:e ∈ F:=by simpa using f9
   obtain ⟨xs,n',hn,-,hlen,hxl,hi⟩:=DataW.trod_array hu h;simp only [S8] at hn;subst hn;obtain ⟨pss,l1,l2,l3,l4⟩:=Abm (sz:=P.cellsOf e) ih he k 0 (by rw [hlen,hsz]; omega) fun i yc=>by
    have:=hi i yc;rw [Ig aA] at this;rw [Fo];exact ⟨_,this⟩
   rw [Fs] at l3;exact ⟨pss.flatten,.array hu l1 l2,l3,l4⟩
  ·cases f9
theorem An0 (hF:Zf P F=true) (hA:∀ b o v,A b o->w.cell? ⟨b,o,none⟩=some v->∃ n,v=.int .u64 n) {t:TypeId} {v:Value} {d:DataW H} {p:List MemPlace} (ht:t ∈ F) (h:gJ enc P w 0 sp i5 t v d p):∃ avs,Sh P t avs/\PRs w A avs v.cells.toList:=by
 obtain ⟨fuel,hf⟩:=h;obtain ⟨avs,h1,h2,-⟩:=Ai1 hF hA fuel t _ _ ht hf;exact ⟨avs,h1,h2⟩
theorem Aoe {t:TypeId} {avs:List AV} (hu:P.underlying t=some .bool) (h:Sh P t avs):∃ b,avs=[.prim (.bool b)]:=by
 cases h <;> rename_i h <;> rw [hu] at h <;> cases h;exact ⟨_,rfl⟩
theorem Aqx {t:TypeId} {avs:List AV} (hu:P.underlying t=some .string) (h:Sh P t avs):∃ s:ByteArray,avs=[.prim (.string s)]/\s.size<=maxLen:=by
 cases h with
 | str _ h=>exact ⟨_,rfl,h⟩
 | bool h|int h|slice h|struct h|array h=>rw [hu] at h; cases h
theorem Amk {t:TypeId} {k:IntKind} {avs:List AV} (hu:P.underlying t=some (.int k)) (h:Sh P t avs):∃ n,avs=[.prim (.int k n)]/\(Lit.int k n).wf=true:=by
 cases h with
 | int h h'=>rw [hu] at h; cases h; exact ⟨_,rfl,h'⟩
 | bool h|str h|slice h|struct h|array h=>rw [hu] at h; cases h
theorem Ack {t e:TypeId} {avs:List AV} (hu:P.underlying t=some (.slice e)) (h:Sh P t avs):∃ es,avs=[.frz es .unk]/\(∀ x ∈ es,Sh P e x)/\es.length<=maxLen:=by
 cases h with
 | slice h h' hl=>rw [hu] at h; cases h; exact ⟨_,rfl,h',hl⟩
 | bool h|str h|int h|struct h|array h=>rw [hu] at h; cases h
theorem Aij {t:TypeId} {fs:Array Field} {avs:List AV} (hu:P.underlying t=some (.struct fs)) (h:Sh P t avs):∃ pss:List (List AV),avs=pss.flatten/\pss.length=fs.size/\∀ i f p,fs[i]?=some f->nth pss i=some p->Sh P f.type p:=by
 cases h with
 | struct h h1 h2=>rw [hu] at h; cases h; exact ⟨_,rfl,h1,h2⟩
 | bool h|str h|int h|slice h|array h=>rw [hu] at h; cases h
theorem N5 {t:TypeId} {f0 f1:Field} {avs:List AV} (hu:P.underlying t=some (.struct #[f0,f1])) (h:Sh P t avs):∃ p0 p1,avs=p0++p1/\Sh P f0.type p0/\Sh P f1.type p1:=by
 obtain ⟨pss,rfl,hl,hp⟩:=Aij hu h;match pss,hl with
 | [p0,p1],_=>exact ⟨p0,p1,by simp,hp 0 f0 p0 rfl rfl,hp 1 f1 p1 rfl rfl⟩
theorem Ahj {α:Type} {f:α->List AV} {Q:α->Prop} : ∀ {es:List (List AV)},(∀ x ∈ es,∃ c,x=f c/\Q c)->∃ cs:List α,es=cs.map f/\∀ c ∈ cs,Q c
 | [],_=>⟨[],rfl,by simp⟩
 | x :: es,h=>by
  obtain ⟨c,hc,hq⟩:=h x (by simp);obtain ⟨cs,h1,h2⟩:=Ahj (es:=es) fun y hy=>h y (by simp [hy]);exact ⟨c :: cs,by rw [h1,hc]; rfl,fun d hd=>by
   rcases Cy.1 hd with rfl|hd
   ·exact hq
   ·exact h2 d hd⟩
theorem Ape {C:Cx} {avs:List AV} {xs:Array Value} (h:PRs C.w C.Avoid avs (Value.agg xs).cells.toList):VR C (.agg avs) (.agg xs):=by
 simp only [VR]; exact ⟨xs,rfl,Ja h⟩
theorem Aqe {C:Cx} {c:AV} {v:Value} (hv:v.cells.toList=[v]) (h:PRs C.w C.Avoid [c] v.cells.toList):VR C c v:=by
 rw [hv] at h; simp only [PRs,and_true] at h; exact Us h
end
end
section
open Go Tryz Go.RowKit
theorem Lie.other {w:World} {A A':Nat->Nat->Prop} {b:Nat} (h:∀ o,¬ A' b o):∀ {vs:List Value} {o:Nat},Lie w A b o vs->Lie w A' b o vs
 | [],_,_=>trivial
 | _ :: _,_,⟨h1,_,h3⟩=>⟨h1,h _,Lie.other h h3⟩
theorem Bt.other {w:World} {A A':Nat->Nat->Prop} {b:Nat} (h:∀ o,¬ A' b o):∀ (l:List Int) (o:Nat),Bt w A b 1 o (l.map digC)->Bt w A' b 1 o (l.map digC)
 | [],_,_=>by simp only [Cw,Bt]
 | x :: l,o,hr=>by
  simp only [Cm,Bt] at hr ⊢;obtain ⟨h1,⟨vs,h2,h3⟩,h4⟩:=hr;refine ⟨h1,⟨vs,h2.other h,?_⟩,Bt.other h l _ h4⟩;match vs,h3 with
  | [v],h3 =>
   simp only [digC,PRs,PR,and_true] at h3 ⊢;exact h3
theorem Aow {C:Cx} (hs:SR C) {l:List Int} {c:Cap} {v:Value} (h:VR C (.frz (l.map digC) c) v):RD C.w v l:=by
 simp only [VR] at h;obtain ⟨a,len,cap,rfl,h1,h2,-,h4⟩:=h;simp only [RD,digA,VR];refine ⟨a,len,cap,rfl,h1,h2,trivial,h4.imp id ?_⟩;rintro ⟨b,o,sz,ea,hr⟩;exact ⟨b,o,sz,ea,Bt.stays (A:=C.Avoid) (fun b' o' v hv ha=>⟨hv,Ul⟩) b sz o _ hr⟩
theorem Ws {C:Cx} (hs:SR C) {w':World} {v:Value} {l:List Int} (h:RD w' v l) (hn:NewB C.w.heap.size v):VR (C.at w') (digA l) v:=by
 obtain ⟨a,cap,rfl,h2,hc⟩:=K4 h;by_cases hl:l=[]
 ·subst hl;simp only [digA,Cw,VR];exact ⟨a,0,cap,rfl,rfl,Cs _,trivial,.inl trivial⟩
 ·simp only [RD,digA,VR] at h ⊢;obtain ⟨a',len,cap',e,h1,h3,-,h4⟩:=h;refine ⟨a',len,cap',e,h1,h3,trivial,.inr ?_⟩;rcases h4 with h4|⟨b,o,sz,ea,hr⟩
  ·exact absurd (by simpa using h4) hl
  ·have hsz:sz=1:=by
    cases l with
    | nil=>exact absurd rfl hl
    | cons y l=>simp only [Cm,Bt,digC] at hr; exact hr.1.symm
   subst hsz;subst ea;have hb:=hn b o _ _ e;exact ⟨b,o,1,rfl,Bt.other (fun o' ha=>by
    rcases ha with ha|ha
    ·have:=hs.avlt b o' ha; omega
    ·have:=Ahm hs (show C.Mut b o' from ha); omega) l o hr⟩
theorem Amq {C:Cx} {vs:Array Value} (hs:SR C) (l r:List Int) (c d:Cap) (hl:l=dig (val l).toNat) (hr:r=dig (val r).toNat) (b9:r≠[]) (h1:l.length<=90000) (h2:r.length<=90000) (hv:VRs C [.frz (l.map digC) c,.frz (r.map digC) d] vs.toList) :
  Calls prog 228 vs C.w fun e w'=>∃ v C',e=.returned v/\C'.w=w'/\Le C C'/\SR C'/\C'.S=C.S/\C'.tk=C.tk/\C'.n=C.n/\VR C' (.tup [digA (dig ((val l).toNat / (val r).toNat)),digA (dig ((val l).toNat % (val r).toNat))]) v:=by
 obtain ⟨vl⟩:=vs;match vl,hv with
 | [x,y],hv =>
 simp only [VRs,and_true] at hv;obtain ⟨hx,hy⟩:=hv;have hb0:0<(val r).toNat:=by
  rcases fN (val r).toNat with h|h
  ·rw [h,Dm] at hr; exact absurd hr b9
  ·exact h
 have p6:0<C.w.heap.size:=by
  simp only [VR] at hy;obtain ⟨a,len,cap,rfl,h1,h2,-,h4⟩:=hy;rcases h4 with h4|⟨b,o,sz,rfl,hr⟩
  ·exact absurd (by simpa using h4) b9
  ·cases r with
   | nil=>exact absurd rfl b9
   | cons z r =>
    simp only [Cm,Bt,digC] at hr;obtain ⟨-,⟨vs,nh,hp⟩,-⟩:=hr;match vs,hp with
    | [u],_=>exact Ix (Cs _) (E2 nh.1)
 refine (Yn C.w x y (val l).toNat (val r).toNat p6 (by rw [<- hl]; exact Aow hs hx) (by rw [<- hr]; exact Aow hs hy) hb0 (by rw [<- hl]; exact h1) (by rw [<- hr]; exact h2)).mono ?_;rintro e w' ⟨v1,v2,rfl,g1,g2,hb,n1,n2⟩;refine ⟨_,C.at w',rfl,rfl,Le.of_below hb,SR.of_below hs hb,rfl,rfl,rfl,?_⟩;unfold VR;refine ⟨_,rfl,?_⟩;simp only [VRs,and_true];refine ⟨Ws hs g1 n1,?_⟩;rcases n2 with ⟨rfl,e2⟩|n2
 ·rw [e2,<- hl];have xi:=VR.mono (Le.of_below hb) _ _ hx;simp only [digA,VR] at xi ⊢;obtain ⟨a,len,cap,q1,q2,q3,-,q4⟩:=xi;exact ⟨a,len,cap,q1,q2,q3,trivial,q4⟩
 ·exact Ws hs g2 n2
theorem L2:∀ {es:List (List AV)} {l:List Int},Pc es=some l->es=l.map digC
 | [],l,h=>by simp only [Pc,A0] at h; subst h; rfl
 | e :: es,l,h=>by
  unfold Pc at h;split at h
  ·rename_i he; simp at he
  ·rename_i x r he;simp only [S9] at he;obtain ⟨rfl,rfl⟩:=he;simp only [B6] at h;obtain ⟨l',h1,rfl⟩:=h;rw [L2 h1]; rfl
  ·simp at h
theorem Ak7 {l r:List Int} {v:AV} (h:quoF l r=some v):l=dig (val l).toNat/\r=dig (val r).toNat/\r≠[]/\l.length<=90000/\r.length<=90000/\v=.tup [digA (dig ((val l).toNat / (val r).toNat)),digA (dig ((val l).toNat % (val r).toNat))]:=by
 unfold quoF at h;split at h
 ·rename_i hh;simp only [A0] at h;exact ⟨hh.1,hh.2.1,hh.2.2.1,hh.2.2.2.1,hh.2.2.2.2,h.symm⟩
 ·simp at h
theorem Aca {args:List AV} {S:List Ent} {tk:List Nat} {n:Nat} {r:AV} {S':List Ent} {tk':List Nat} {n':Nat} (h:quoC args S tk n=some (r,S',tk',n')):∃ l y c d,args=[.frz (l.map digC) c,.frz (y.map digC) d]/\quoF l y=some r/\S'=S/\tk'=tk/\n'=n:=by
 unfold quoC at h;split at h
 ·rename_i es c ys d;split at h
  ·rename_i l y hl hy;split at h
   ·rename_i v hv;simp only [A0,Cc] at h;obtain ⟨rfl,rfl,rfl,rfl⟩:=h;exact ⟨l,y,c,d,by rw [L2 hl,L2 hy],hv,rfl,rfl,rfl⟩
   ·simp at h
  ·simp at h
 ·simp at h
theorem Acs {args:List AV} {S:List Ent} {tk:List Nat} {n:Nat} {r:AV} {S':List Ent} {tk':List Nat} {n':Nat} (h:uniC args S tk n=some (r,S',tk',n')):∃ l c,args=[.frz (l.map strC) c,.frz [] .nilc]/\l.length<=1000000/\(!l.isEmpty || Q7 c)=true/\r=B2 (uniS l)/\S'=S/\tk'=tk/\n'=n:=by
 unfold uniC at h;split at h
 ·rename_i es c;split at h
  ·rename_i l hl;split at h
   ·rename_i hlen;simp only [Cf,decide_eq_true_eq] at hlen;simp only [A0,Cc] at h;obtain ⟨rfl,rfl,rfl,rfl⟩:=h;exact ⟨l,c,by rw [R4 hl],hlen.1,hlen.2,rfl,rfl,rfl,rfl⟩
   ·simp at h
  ·simp at h
 ·simp at h
theorem Aqn {l y:List Int} {c d:Cap} {r:AV} (hq:quoF l y=some r) (S:List Ent) (tk:List Nat) (n:Nat):quoC [.frz (l.map digC) c,.frz (y.map digC) d] S tk n=some (r,S,tk,n):=by simp [quoC,Nr,hq]
theorem Amm {l:List ByteArray} {c:Cap} (hlen:l.length<=1000000) (hc:(!l.isEmpty || Q7 c)=true) (S:List Ent) (tk:List Nat) (n:Nat):uniC [.frz (l.map strC) c,.frz [] .nilc] S tk n=some (B2 (uniS l),S,tk,n):=by
 simp only [uniC,Uk];rw [if_pos (by rw [hc]; simpa using hlen)]
theorem Xm {f:FuncId} {args:List AV} {S:List Ent} {tk:List Nat} {n:Nat} {r:AV} {S':List Ent} {tk':List Nat} {n':Nat} (h:@extC prog E1 f args S tk n=some (r,S',tk',n')) :
  (f=78/\uniC args S tk n=some (r,S',tk',n'))\/(f=228/\quoC args S tk n=some (r,S',tk',n')):=by
 unfold extC at h;split at h
 ·simp only [Ext.call] at h;split at h
  ·rename_i hf; exact .inl ⟨by simpa using hf,h⟩
  ·split at h
   ·rename_i hf; exact .inr ⟨by simpa using hf,h⟩
   ·simp at h
 ·simp at h
theorem Akd (args:List AV) (S:List Ent) (tk:List Nat) (n:Nat):@extC prog E1 78 args S tk n=uniC args S tk n:=by
 simp [extC,Ext.on,Ext.call]
theorem Akc (args:List AV) (S:List Ent) (tk:List Nat) (n:Nat):@extC prog E1 228 args S tk n=quoC args S tk n:=by
 simp [extC,Ext.on,Ext.call]
@[reducible] noncomputable instance E1i:Ext prog:=E1
instance ok1:Y5 prog:={
 ok:=fun f args S tk n r S' tk' n' h=>by
  rcases Xm h with ⟨rfl,hh⟩|⟨rfl,hh⟩
  ·obtain ⟨l,c,rfl,hlen,hc,rfl,rfl,rfl,rfl⟩:=Acs hh;refine ⟨⟨_,func78,aO,aO⟩,fun C vs h1 h2 h3 hs hv=>?_⟩;subst h1 h2 h3;refine Ae3 hs l c hlen (fun e=>?_) hv;subst e;cases c <;> simp [Q7] at hc;rfl
  ·obtain ⟨l,y,c,d,rfl,hq,rfl,rfl,rfl⟩:=Aca hh;refine ⟨⟨_,func228,aO,aO⟩,fun C vs h1 h2 h3 hs hv=>?_⟩;subst h1 h2 h3;obtain ⟨q1,q2,q3,q4,q5,rfl⟩:=Ak7 hq;exact Amq hs l y c d q1 q2 q3 q4 q5 hv
 indep:=fun M f args S tk n r S' tk' n' h=>by
  unfold Ec at h;split at h
  ·rename_i hp;rcases Xm h with ⟨rfl,hh⟩|⟨rfl,hh⟩
   ·obtain ⟨l,c,rfl,hlen,hc,rfl,rfl,rfl,rfl⟩:=Acs hh;refine ⟨rfl,rfl,.inr ⟨rfl,fun S2 tk2 n2=>?_⟩⟩;unfold Ec;rw [if_pos hp,Akd];exact Amm hlen hc S2 tk2 n2
   ·obtain ⟨l,y,c,d,rfl,hq,rfl,rfl,rfl⟩:=Aca hh;refine ⟨rfl,rfl,.inr ⟨rfl,fun S2 tk2 n2=>?_⟩⟩;unfold Ec;rw [if_pos hp,Akc];exact Aqn hq S2 tk2 n2
  ·simp at h }
section
variable (S:List Ent) (tk:List Nat) (k:Nat)
theorem Z3 (l:List ByteArray) (c:Cap) (hlen:l.length<=1000000) (hc:(!l.isEmpty || Q7 c)=true):cL prog 78 [.frz (l.map strC) c,.frz [] .nilc] S tk k=some (B2 (uniS l),S,tk,k):=by
 refine Pv rfl ?_;simp only [Ext.call,beq_self_eq_true,if_true];exact Amm hlen hc S tk k
theorem Kw (a b:Nat) (c d:Cap) (hb:0<b) (ha:(dig a).length<=90000) (hb2:(dig b).length<=90000):cL prog 228 [.frz ((dig a).map digC) c,.frz ((dig b).map digC) d] S tk k=some (.tup [digA (dig (a / b)),digA (dig (a % b))],S,tk,k):=by
 refine Pv rfl ?_;have e1:(val (dig a)).toNat=a:=by rw [B4]; rfl
 have e2:(val (dig b)).toNat=b:=by rw [B4]; rfl
 have hq:quoF (dig a) (dig b)=some (.tup [digA (dig (a / b)),digA (dig (a % b))]):=by
  unfold quoF;rw [e1,e2,if_pos ⟨rfl,rfl,fun h=>by have:=Gq.1 h; omega,ha,hb2⟩]
 simp [Ext.call,quoC,Nr,hq]
end
end
section
open Go Tryz
set_option maxRecDepth 100000
theorem Mn {a n:Nat} (h:(dig a).length<=n):a<10000 ^ n:=Bg.1 h
theorem Ai0 {a k:Nat} : topV (dig a) k<=a:=by
 have h1:val ((dig a).take k)+10000 ^ ((dig a).take k).length*val ((dig a).drop k)=a:=by
  rw [<- Gc,I9,B4]
 have h2:=En (l:=(dig a).take k) fun d hd=>Br a d (gZ hd);have h3:=En (l:=(dig a).drop k) fun d hd=>Br a d (List.mem_of_mem_drop hd);have h4:val ((dig a).drop k)<=10000 ^ ((dig a).take k).length*val ((dig a).drop k):=by
  have hp:(1:Int)<=10000 ^ ((dig a).take k).length:=by
   have:=Jx ((dig a).take k).length; omega
  have:=Int.mul_le_mul_of_nonneg_right hp h3;omega
 unfold topV;omega
theorem Aln (A:List Int):topV A A.length=0:=Za33
section
variable (S:List Ent) (tk:List Nat) (k:Nat)
theorem N3 (a:Nat) (ha:(dig a).length<=4):cL prog 232 [digA (dig a)] S tk k=some (.int (a:Nat),S,tk,k):=by
 have hsm:a<10000000000000000:=Mn ha;have d3:=Wd (n:=(dig a).length) aA;refine opP func232 ntmps232 ?_;simp (maxSteps:=10^6)+contextual(disch:=try exact dqd)only[ev0,simprocAttr,Cg,Ca,Ch,results232,digA,d3];refine loop1 (P:=prog) (fun x st=>st.T.length=20/\(x.1<=(dig a).length)/\(x.2=((topV (dig a) x.1:Nat):Int))/\getT st.T 0=digA (dig a)/\getT st.T 3=.int x.2/\getT st.T 4=.int ((x.1:Int) - 1)/\st.S=[]) (fun x=>x.1) (fun x=>.int (a:Nat)) ((dig a).length,(0:Int)) ?_ ?_;case refine_2=>exact ⟨rfl,Cb _,by rw [Aln]; rfl,rfl,rfl,rfl,rfl⟩
 rintro ⟨n,v⟩ ⟨T,S',tk',n'⟩ ⟨hl,hn,hv,e0,e3,e4,eS⟩ IH;simp only at hn hv e0 e3 e4 eS;subst eS;obtain ⟨g,hg,hT⟩:=Aw hl;rw [hg] at e0 e3 e4;subst hT;clear hg hl;subst hv;by_cases h0:n=0
 ·subst h0;have d2:decide (((0:Nat):Int) - 1 >= 0)=false:=rfl;have ht:topV (dig a) 0=a:=Za2y
  rw [ht] at e3;simp (maxSteps:=10^6)+contextual(disch:=try exact dqd)only[ev0,simprocAttr,Cg,Ca,Ch,results232,e0,e3,e4,d2,digA]
 ·have d2:decide ((n:Int) - 1 >= 0)=true:=aB
  have hi:(n:Int) - 1=((n - 1:Nat):Int):=aA
  obtain ⟨x,hx⟩:=Ah (show n - 1<(dig a).length by omega);have hx':=E5 hx;have hxk:=Du (Br a) hx;have ah:=Yz (Br a) hx;rw [show n - 1+1=n by omega] at ah;have hb1:=Ai0 (a:=a) (k:=n);have hb2:=Ai0 (a:=a) (k:=n - 1);have hp:=Wd (n:=n - 1) aA;have hw1:Ce.wrap ((topV (dig a) n:Int)*10000)=(topV (dig a) n:Int)*10000:=Ac aD;have hw2:Ce.wrap ((topV (dig a) n:Int)*10000+x)=((topV (dig a) (n - 1):Nat):Int):=by
   rw [Ac aD]; omega
  rw [hi] at e4 d2;simp (maxSteps:=10^6)+contextual(disch:=try exact dqd)only[ev0,simprocAttr,Cg,Ca,Ch,results232,e0,e3,e4,d2,digA,hx',hp,hw1,hw2];exact IH (n - 1,((topV (dig a) (n - 1):Nat):Int)) _ aF ⟨rfl,aE,rfl,aC,aC,aC,aC⟩
theorem Ad5 (a:Nat) (ha:a<10000000000000000):cL prog 230 [.int (a:Nat)] S tk k=some (digA (dig a),S,tk,k):=by
 refine opP func230 ntmps230 ?_;simp (maxSteps:=10^6)+contextual(disch:=try exact dqd)only[ev0,simprocAttr,Cg,Ca,Ch,results230];refine loop1 (P:=prog) (fun x st=>st.T.length=14/\(x.1<=a)/\(x.2.1++dig x.1=dig a)/\(Ba st.tk x.2.2 1=true)/\getT st.T 0=.int (x.1:Nat)/\getT st.T 3=.frz (x.2.1.map digC) x.2.2/\st.S=[]) (fun x=>x.1) (fun x=>digA (dig a)) (a,[],.nilc) ?_ ?_;case refine_2=>exact ⟨rfl,Cb _,rfl,rfl,rfl,rfl,rfl⟩
 rintro ⟨m,zs,cp⟩ ⟨T,S',tk',n'⟩ ⟨hl,hm,he,ae,e0,e3,eS⟩ IH;simp only at hm he ae e0 e3 eS;subst eS;obtain ⟨g,hg,hT⟩:=Aw hl;rw [hg] at e0 e3;subst hT;clear hg hl;have hr:=Gr zs;have cg:=B0 ae;have hla:(dig a).length<=4:=Bg.2 ha;have hzl:zs.length<=4:=by
  have:=congrArg List.length he;simp at this; omega
 have cj:(zs.map digC).length+1<=1048576:=aB
 by_cases h0:m=0
 ·subst h0;have d1:decide (((0:Nat):Int) > 0)=false:=rfl;rw [Dm,Fu] at he;subst he;simp (maxSteps:=10^6)+contextual(disch:=try exact dqd)only[ev0,simprocAttr,Cg,Ca,Ch,results230,e0,e3,d1];rfl
 ·have d1:decide ((m:Int) > 0)=true:=aB
  have lw:¬ ((10000:Int)=0):=aA
  have hq:Ce.wrap ((m:Int).tdiv 10000)=((m / 10000:Nat):Int):=by
   rw [C9 aA,Ac aD]; rfl
  have dx:(m:Int).tmod 10000=((m % 10000:Nat):Int):=dB
  simp (maxSteps:=10^6)+contextual(disch:=try exact dqd)only[ev0,simprocAttr,Cg,Ca,Ch,results230,e0,e3,d1,lw,hq,dx,hr];exact IH (m / 10000,zs++[((m % 10000:Nat):Int)],A4 tk' cp 1) _ aF ⟨rfl,aE,by rw [<- he,Hz h0]; simp,cg,aC,aC,aC⟩
theorem Rq (a b:Nat) (ha:(dig a).length<=90000) (hb:(dig b).length<=90000):cL prog 227 [digA (dig a),digA (dig b)] S tk k=some (digA (dig (a.gcd b)),S,tk,k):=by
 refine opP func227 ntmps227 ?_;simp (maxSteps:=10^6)+contextual(disch:=try exact dqd)only[ev0,simprocAttr,Cg,Ca,Ch,results227,digA];refine loop1 (P:=prog) (fun x st=>st.T.length=33/\(x.1.gcd x.2=a.gcd b)/\((dig x.1).length<=90000)/\((dig x.2).length<=90000)/\getT st.T 0=digA (dig x.1)/\getT st.T 1=digA (dig x.2)/\st.S=[]) (fun x=>x.2) (fun x=>digA (dig (a.gcd b))) (a,b) ?_ ?_;case refine_2=>exact ⟨rfl,rfl,ha,hb,rfl,rfl,rfl⟩
 rintro ⟨x,y⟩ ⟨T,S',tk',n'⟩ ⟨hl,hg,hx,hy,e0,e1,eS⟩ IH;simp only at hg hx hy e0 e1 eS;subst eS;obtain ⟨g,hg,hT⟩:=Aw hl;rw [hg] at e0 e1;subst hT;clear hg hl;by_cases h0:y=0
 ·subst h0;have d1:decide ((((dig 0).length:Nat):Int) > 0)=false:=rfl;rw [Sa] at hg;simp (maxSteps:=10^6)+contextual(disch:=try exact dqd)only[ev0,simprocAttr,Cg,Ca,Ch,results227,e0,e1,d1,digA];rw [hg]
 ·have hyl:0<(dig y).length:=I5.2 fun h=>h0 (Gq.1 h);have d1:decide (((dig y).length:Int) > 0)=true:=aB
  have hQ c d S tk k:=Kw S tk k x y c d aA hx hy;simp only [digA] at hQ;have hlt:=Sc x (by omega:0<y);have hym:(dig (x % y)).length<=90000:=Fv (Bg.2 (Nat.lt_trans hlt (Bg.1 (Cb _)))) hy;have hgn:y.gcd (x % y)=a.gcd b:=Za0r
  by_cases h4:(dig x).length<=4
  ·have d2:decide (((dig x).length:Int)<=4)=true:=aB
   by_cases h5:(dig y).length<=4
   ·have d3:decide (((dig y).length:Int)<=4)=true:=aB
    have y6:x<10000000000000000:=Mn h4;have hy1:y<10000000000000000:=Mn h5;have hN1 S tk k:=N3 S tk k x h4;have hN2 S tk k:=N3 S tk k y h5;have hC S tk k:=told (E:=E1) (N2 S tk k x y aA aA);have hD S tk k:=Ad5 S tk k (x.gcd y) (Ix (gK x aA) hy1);simp only [digA] at hN1 hN2 hD;simp (maxSteps:=10^6)+contextual(disch:=try exact dqd)only[ev0,simprocAttr,Cg,Ca,Ch,results227,e0,e1,d1,d2,d3,digA,hN1,hN2,hC,hD];rw [hg]
   ·have d3:decide (((dig y).length:Int)<=4)=false:=aB
    simp (maxSteps:=10^6)+contextual(disch:=try exact dqd)only[ev0,simprocAttr,Cg,Ca,Ch,results227,e0,e1,d1,d2,d3,digA,hQ];exact IH (y,x % y) _ aF ⟨rfl,hgn,hy,hym,aC,aC,aC⟩
  ·have d2:decide (((dig x).length:Int)<=4)=false:=aB
   simp (maxSteps:=10^6)+contextual(disch:=try exact dqd)only[ev0,simprocAttr,Cg,Ca,Ch,results227,e0,e1,d1,d2,digA,hQ];exact IH (y,x % y) _ aF ⟨rfl,hgn,hy,hym,aC,aC,aC⟩
end
end
section
open Go Tryz
def smB (z:Int):Bool:=!decide (2<(dig z.natAbs).length)
def smN (z:Int):Int:=if smB z=true then z else 0
theorem Ui {z:Int} (h:smB z=true):z.natAbs<100000000:=by
 have h2:(dig z.natAbs).length<=2:=by simpa [smB] using h
 exact Mn h2
theorem zneg (z:Int):(!decide (z<0) && !decide (dig z.natAbs=[]))=decide (-z<0):=by
 have h1:dig z.natAbs=[]↔z.natAbs=0:=Gq;by_cases h:z<0
 ·have h2:¬ (-z<0):=aA
  simp [h]; omega
 ·by_cases h0:z=0
  ·subst h0; rfl
  ·have h2 : -z<0:=aA
   have h3:¬ dig z.natAbs=[]:=fun e=>by have:=h1.1 e; omega
   simp [h,h3]; omega
theorem U8 (n:Nat):decide (((dig n).length:Int) > 0)=!decide (dig n=[]):=by
 cases h:dig n with
 | nil=>rfl
 | cons x l=>simp
theorem Ali (z:Int):sg (decide (z<0)) z.natAbs=z:=by
 by_cases h:z<0 <;> simp [sg,h] <;> omega
theorem Ye {x y:Int} (h:decide (x<0)=decide (y<0)):decide (x+y<0)=decide (x<0)/\(x+y).natAbs=x.natAbs+y.natAbs:=by
 have h':(x<0)↔(y<0):=aI
 constructor
 ·rw [decide_eq_decide]; omega
 ·omega
section
variable (S:List Ent) (tk:List Nat) (k:Nat)
theorem Rt (z:Int):cL prog 263 [zA z] S tk k=some (.tup [.int (smN z),.bool (smB z)],S,tk,k):=by
 refine opP func263 ntmps263 (hp3:=rfl) ?_;by_cases h:(dig z.natAbs).length<=2
 ·have hN S tk k:=N3 S tk k z.natAbs aA;have hb:smB z=true:=by simp [smB]; omega
  have hlt:=Ui hb;have d1:decide (((dig z.natAbs).length:Int) > 2)=false:=aB
  have e1:smN z=z:=by simp [smN,hb]
  rw [e1,hb];simp only [digA] at hN;by_cases hn:z<0
  ·have d2:decide (z<0)=true:=dK
   have hw:Ce.wrap (0 - (z.natAbs:Int))=z:=aT
   have hw2:Ce.wrap (-(z.natAbs:Int))=z:=aT
   simp (maxSteps:=10^6)+contextual(disch:=try exact dqd)only[ev0,simprocAttr,Cg,Ca,Ch,results263,zA,bigA,digA,d1,d2,hN,hw,hw2]
  ·have d2:decide (z<0)=false:=dK
   have hz:(z.natAbs:Int)=z:=aA
   rw [hz] at hN;simp (maxSteps:=10^6)+contextual(disch:=try exact dqd)only[ev0,simprocAttr,Cg,Ca,Ch,results263,zA,bigA,digA,d1,d2,hN]
 ·have hb:smB z=false:=by simp [smB]; omega
  have d1:decide (((dig z.natAbs).length:Int) > 2)=true:=aB
  have e1:smN z=0:=by simp [smN,hb]
  rw [e1,hb];simp (maxSteps:=10^6)+contextual(disch:=try exact dqd)only[ev0,simprocAttr,Cg,Ca,Ch,results263,zA,bigA,digA,d1]
theorem Gl (z:Int):cL prog 226 [zA z] S tk k=some (zA z,S,tk,k):=by
 refine opP func226 ntmps226 (hp3:=rfl) ?_;simp (maxSteps:=10^6)+contextual(disch:=try exact dqd)only[ev0,simprocAttr,Cg,Ca,Ch,results226,zA,bigA,digA]
theorem Tl (z:Int):cL prog 264 [zA z] S tk k=some (zA (-z),S,tk,k):=by
 refine opP func264 ntmps264 (hp3:=rfl) ?_;have hz:=zneg z;have hp:=U8 z.natAbs;have ha:(-z).natAbs=z.natAbs:=aA
 simp only [zA,ha];rw [<- hz];cases d1:decide (z<0) with
 | true=>simp (maxSteps:=10^6)+contextual(disch:=try exact dqd)only[ev0,simprocAttr,Cg,Ca,Ch,results264,bigA,digA,d1]
 | false=>simp (maxSteps:=10^6)+contextual(disch:=try exact dqd)only[ev0,simprocAttr,Cg,Ca,Ch,results264,bigA,digA,d1,hp]
end
theorem ext_mv1 (f:FuncId) (h:mvF0 f=false):Ext.mv prog f=false:=h
set_option linter.defProp false in
def ev1:=Bv ext_mv1 ev0
set_option linter.defProp false in
def evs1:=Bv ext_mv1 evs0
theorem iq1:((-1:Int) == 1)=false:=rfl
theorem iq2:((0:Int) == 1)=false:=rfl
theorem iq3:((0:Int) == -1)=false:=rfl
theorem iq4:((1:Int) == 1)=true:=rfl
theorem iq5:((-1:Int) == -1)=true:=rfl
theorem Aon {p:Bool} {n:Nat} (h:n=0->p=false):bigA p (dig n)=zA (sg p n):=by
 unfold zA;rw [Aqv];cases p with
 | false =>
  have:¬ ((n:Int)<0):=aA
  simp [sg,this]
 | true =>
  have h0:n≠0:=fun e=>by simpa using h e
  have:(sg true n<0):=by simp [sg]; omega
  simp [this]
theorem Aq9 {p q:Bool} (h:p≠q) {X Y:Nat} (hl:Y<X):bigA p (dig (X - Y))=zA (sg p X+sg q Y):=by
 rw [<- Apb h aA];exact Aon (fun e=>aA)
theorem Aq8 {p q:Bool} (h:p≠q) {X Y:Nat} (hl:X<Y):bigA q (dig (Y - X))=zA (sg p X+sg q Y):=by
 rw [<- Apc h aA];exact Aon (fun e=>aA)
theorem Aod (x y:Int):bigA (decide (x<0) != decide (y<0) && !decide (dig (x.natAbs*y.natAbs)=[])) (dig (x.natAbs*y.natAbs))=zA (x*y):=by
 rw [Aon (fun e=>by rw [e,Dm]; simp)];congr 1;have h:=Aqa (decide (x<0)) (decide (y<0)) x.natAbs y.natAbs;rw [Ali,Ali] at h;rw [<- h];by_cases h0:x.natAbs*y.natAbs=0
 ·rw [h0]; simp [sg]
 ·have:¬ dig (x.natAbs*y.natAbs)=[]:=fun e=>h0 (Gq.1 e);simp [this]
section
variable (S:List Ent) (tk:List Nat) (k:Nat)
theorem Ael (x y:Int) (hx:(dig x.natAbs).length<=90000) (hy:(dig y.natAbs).length<=90000):cL prog 260 [zA x,zA y] S tk k=some (zA (x+y),S,tk,k):=by
 refine opP func260 ntmps260 (hp3:=rfl) ?_;by_cases hpq:decide (x<0)=decide (y<0)
 ·obtain ⟨h1,h2⟩:=Ye hpq;have hP S tk k:=told (E:=E1) (An8 S tk k x.natAbs y.natAbs aA aA);have d1:(decide (x<0) == decide (y<0))=true:=by simpa using hpq
  simp only [zA,h1,h2];simp only [digA] at hP;simp (maxSteps:=10^6)+contextual(disch:=try exact dqd)only[ev1,simprocAttr,Cg,Ca,Ch,results260,iq1,iq2,iq3,iq4,iq5,bigA,digA,d1,hP]
 ·have d1:(decide (x<0) == decide (y<0))=false:=by simpa using hpq
  have hC S tk k:=told (E:=E1) (M8 S tk k x.natAbs y.natAbs aA aA);have hs:=Ali x;have ht:=Ali y;by_cases u5:y.natAbs<x.natAbs
  ·have hM S tk k:=told (E:=E1) (Acd S tk k x.natAbs y.natAbs aA aA);have hz:=Aq9 hpq u5;rw [hs,ht] at hz;rw [<- hz];have hc:cmpN x.natAbs y.natAbs=1:=by unfold cmpN; rw [if_neg aA,if_pos u5]
   exact Ya04
  ·by_cases hlt:x.natAbs<y.natAbs
   ·have hM S tk k:=told (E:=E1) (Acd S tk k y.natAbs x.natAbs aA aA);have hz:=Aq8 hpq hlt;rw [hs,ht] at hz;rw [<- hz];have hc:cmpN x.natAbs y.natAbs=-1:=by unfold cmpN; rw [if_pos hlt]
    exact Ya04
   ·have hc:cmpN x.natAbs y.natAbs=0:=by unfold cmpN; rw [if_neg hlt,if_neg u5]
    have h0:x+y=0:=by
     have h5:¬ ((x<0)↔(y<0)):=by simpa using hpq
     omega
    rw [hc] at hC;rw [h0];simp only [digA] at hC;simp (maxSteps:=10^6)+contextual(disch:=try exact dqd)only[ev1,simprocAttr,Cg,Ca,Ch,results260,iq1,iq2,iq3,iq4,iq5,zA,bigA,digA,d1,hC];first|rfl|(rw [show Int.natAbs 0=0 from rfl,Dm]; rfl)|(rw [Dm]; rfl)
theorem D3 (x y:Int) (hx:(dig x.natAbs).length<=90000) (hy:(dig y.natAbs).length<=90000):cL prog 257 [zA x,zA y] S tk k=some (zA (x*y),S,tk,k):=by
 refine opP func257 ntmps257 (hp3:=rfl) ?_;have hP S tk k:=told (E:=E1) (Rr S tk k x.natAbs y.natAbs aA aA);have hz:=Aod x y;have hp:=U8 (x.natAbs*y.natAbs);simp only [digA] at hP;rw [<- hz];have hbn:(decide (x<0) != decide (y<0))=!(decide (x<0) == decide (y<0)):=rfl;rw [hbn];cases d1:decide (x<0) == decide (y<0) with
 | true=>simp (maxSteps:=10^6)+contextual(disch:=try exact dqd)only[ev1,simprocAttr,Cg,Ca,Ch,results257,iq1,iq2,iq3,iq4,iq5,zA,bigA,digA,d1,hbn,hp,hP,F6,Ij,G4,F2]
 | false=>simp (maxSteps:=10^6)+contextual(disch:=try exact dqd)only[ev1,simprocAttr,Cg,Ca,Ch,results257,iq1,iq2,iq3,iq4,iq5,zA,bigA,digA,d1,hbn,hp,hP,F6,Ij,G4,F2]
theorem R9 (x y:Int) (hx:(dig x.natAbs).length<=90000) (hy:(dig y.natAbs).length<=90000):cL prog 259 [zA x,zA y] S tk k=some (zA (x - y),S,tk,k):=by
 refine opP func259 ntmps259 (hp3:=rfl) ?_;have hO S tk k:=Tl S tk k y;have hP S tk k:=Ael S tk k x (-y) hx (by rw [show (-y).natAbs=y.natAbs by omega]; exact hy);rw [show x+-y=x - y by omega] at hP;simp only [zA,bigA,digA] at hO hP;simp (maxSteps:=10^6)+contextual(disch:=try exact dqd)only[ev1,simprocAttr,Cg,Ca,Ch,results259,iq1,iq2,iq3,iq4,iq5,zA,bigA,digA,hO,hP]
theorem V7 (l:List Int) (c:Cap) (hlen:l.length<=1048576):cL prog 229 [.frz (l.map digC) c] S tk k=some (digA l,S,tk,k):=by
 have hr cs:=Gb (f:=digC) (sz:=1) (fun _=>rfl) cs;cases l with
 | nil =>
  simp only [Cw];refine Pa func229 rfl rfl aO aO ntmps229 rfl rfl _ _ _ ?_ ?_ <;> rw [Aox]
  ·exact Ya0r
  ·exact Ya0r
 | cons x l =>
  simp only [Cm];refine Mk func229 rfl rfl aO aO ntmps229 rfl rfl _ _ _ rfl ?_; rw [Aox];have dc:=hr (x :: l);simp only [Cm] at dc;have hl:([]:List (List AV)).length+(digC x :: l.map digC).length<=1048576:=by simp at hlen ⊢; omega
  simp (maxSteps:=10^6)+contextual(disch:=try exact dqd)only[ev1,simprocAttr,Cg,Ca,Ch,results229,iq1,iq2,iq3,iq4,iq5,Vm,digA,dc]
end
end
section
open Go Tryz
set_option maxRecDepth 100000
theorem Wg {n:Int} (h0:0<=n) (h1:n<18446744073709551616):hG.wrap n=n:=by
 have e:(n.toNat:Int)=n:=aA
 rw [<- e];exact Go.IntWalk.u64_in _ aA
theorem uwrap (n:Int):hG.wrap n=n % 18446744073709551616:=by
 simp [IntKind.wrap,IntKind.bits,IntKind.signed]
theorem Af7 {n:Nat} (h:n<10000000000000000000):(dig n).length<=5:=Bg.2 (Fi h aL)
theorem Aht {u N:Nat} {out:List Int} (he:out++dig u=dig N) (h:u≠0):(out++[((u % 10000:Nat):Int)])++dig (u / 10000)=dig N:=by
 rw [<- he,Hz h]; simp
theorem Amg {u N:Nat} {out:List Int} (he:out++dig u=dig N) (hN:N<10000000000000000000):out.length<=5:=by
 have:=Af7 hN;rw [<- he] at this; simp at this; omega
theorem Ahs {N:Nat} {out:List Int} (he:out++dig 0=dig N):out=dig N:=by rw [<- he,Dm,Fu]
section
variable (S:List Ent) (tk:List Nat) (k:Nat)
theorem Qk (n:Int) (hn:i64 n):cL prog 54 [.int n] S tk k=some (zA n,S,tk,k):=by
 refine opP func54 ntmps54 (hp3:=rfl) ?_;have hn':=hn;unfold i64 at hn';have hN:n.natAbs<10000000000000000000:=aA
 cases d0:decide (n<0) with
 | true =>
  simp only [decide_eq_true_eq] at d0;have d0':decide (n<0)=true:=by simpa using d0
  have q0:hG.wrap (0 - hG.wrap n)=((n.natAbs:Nat):Int):=by rw [uwrap,uwrap]; omega
  exact Ya3
 | false =>
  simp only [decide_eq_false_iff_not] at d0;have d0':decide (n<0)=false:=by simpa using d0
  have q0:hG.wrap n=((n.natAbs:Nat):Int):=by rw [Wg aA aA]; omega
  exact Ya3
end
end
section
open Go Tryz
def ratA (p:Bool) (l:List Int) (q:Bool) (r:List Int):AV:=.agg [.prim (.bool p),digA l,.prim (.bool q),digA r]
def qA (n d:Int):AV:=ratA (decide (n<0)) (dig n.natAbs) (decide (d<0)) (dig d.natAbs)
def lowN (n d:Int):Int:=(if d<0 then -n else n).tdiv ((n.natAbs.gcd d.natAbs:Nat):Int)
def lowD (n d:Int):Int:=((d.natAbs / n.natAbs.gcd d.natAbs:Nat):Int)
section
variable (S:List Ent) (tk:List Nat) (k:Nat)
theorem Aaf (n:Int) (hn:i64 n):cL prog 148 [.int n] S tk k=some (qA n 1,S,tk,k):=by
 refine opP func148 ntmps148 (hp3:=rfl) ?_;have h1 S tk k:=Qk S tk k n hn;have h2 S tk k:=Qk S tk k 1 aD;simp only [zA,bigA,digA] at h1 h2;simp (maxSteps:=10^6)+contextual(disch:=try exact dqd)only[ev1,simprocAttr,Cg,Ca,Ch,results148,qA,ratA,digA,h1,h2]
theorem Ala:cL prog 262 [] S tk k=some (qA 0 1,S,tk,k):=by
 refine opP func262 ntmps262 (hp3:=rfl) ?_;have h1 S tk k:=Aaf S tk k 0 aD;simp only [qA,ratA,digA] at h1;simp (maxSteps:=10^6)+contextual(disch:=try exact dqd)only[ev1,simprocAttr,Cg,Ca,Ch,results262,qA,ratA,digA,h1]
theorem M9 (a b c d:Int):cL prog 255 [qA a b,qA c d] S tk k=some (.tup [.agg [.int (smN a),.int (smN b),.int (smN c),.int (smN d)],.bool (smB a && smB b && smB c && smB d)],S,tk,k):=by
 refine opP func255 ntmps255 (hp3:=rfl) ?_;have h z S tk k:=Rt S tk k z;simp only [zA,bigA,digA] at h;cases d1:smB a with
 | false=>simp (maxSteps:=10^6)+contextual(disch:=try exact dqd)only[ev1,simprocAttr,Cg,Ca,Ch,results255,qA,ratA,digA,h,d1,F2]
 | true =>
  cases d2:smB b with
  | false=>simp (maxSteps:=10^6)+contextual(disch:=try exact dqd)only[ev1,simprocAttr,Cg,Ca,Ch,results255,qA,ratA,digA,h,d1,d2,F2,G4]
  | true =>
   cases d3:smB c with
   | false=>simp (maxSteps:=10^6)+contextual(disch:=try exact dqd)only[ev1,simprocAttr,Cg,Ca,Ch,results255,qA,ratA,digA,h,d1,d2,d3,F2,G4]
   | true=>simp (maxSteps:=10^6)+contextual(disch:=try exact dqd)only[ev1,simprocAttr,Cg,Ca,Ch,results255,qA,ratA,digA,h,d1,d2,d3,F2,G4]
theorem Kv (n d:Int) (hn:n.natAbs<=100000000000000000) (hd:d.natAbs<=100000000000000000) (cw:d≠0):cL prog 256 [.int n,.int d] S tk k=some (qA (lowN n d) (lowD n d),S,tk,k):=by
 refine opP func256 ntmps256 (hp3:=rfl) ?_;have hC S tk k:=told (E:=E1) (N2 S tk k n.natAbs d.natAbs aA aA);have lz:0<n.natAbs.gcd d.natAbs:=Kt _ aA;have hgz:¬ (((n.natAbs.gcd d.natAbs:Nat):Int)=0):=aA
 have hm:∀ x:Int,x.natAbs=n.natAbs->(if -x > x then -x else x)=(n.natAbs:Int):=fun x hx=>by split <;> omega
 have hwn:∀ x:Int,x.natAbs=n.natAbs->Ce.wrap (0 - x)=-x:=fun x hx=>aT
 have jq:Ce.wrap (0 - d)=-d:=aT
 have hq:∀ x:Int,x.natAbs=n.natAbs->i64 (x.tdiv ((n.natAbs.gcd d.natAbs:Nat):Int)):=fun x hx=>by
  have h1:(x.tdiv ((n.natAbs.gcd d.natAbs:Nat):Int)).natAbs<=x.natAbs:=by
   rw [Int.natAbs_tdiv]; exact Oz _ _
  unfold i64; omega
 have hld:i64 (lowD n d):=by
  have:=Oz d.natAbs (n.natAbs.gcd d.natAbs);unfold i64 lowD;generalize d.natAbs / n.natAbs.gcd d.natAbs=z at *;omega
 have hdq:∀ x:Int,x=(d.natAbs:Int)->x.tdiv ((n.natAbs.gcd d.natAbs:Nat):Int)=lowD n d:=fun x hx=>by
  subst hx;rw [C9 aA]; rfl
 have hB S tk k:=Qk S tk k (lowD n d) hld;by_cases h:d<0
 ·have d1:decide (d<0)=true:=aI
  have hN:lowN n d=(-n).tdiv ((n.natAbs.gcd d.natAbs:Nat):Int):=by unfold lowN; rw [if_pos h]
  have hA S tk k:=Qk S tk k (lowN n d) (by rw [hN]; exact hq _ aA);have dx:=hm (-n) aA;have hw1:=hwn n rfl;have hw2:=hwn (-n) aA;have hw3:Ce.wrap ((-n).tdiv ((n.natAbs.gcd d.natAbs:Nat):Int))=lowN n d:=by
   rw [hN]; have:=hq (-n) aA; exact Ac this
  have z6:Ce.wrap ((-d).tdiv ((n.natAbs.gcd d.natAbs:Nat):Int))=lowD n d:=by
   rw [hdq (-d) aA]; exact Ac hld
  have hda:(-d)=(d.natAbs:Int):=aA
  have hC':∀ S tk k,cL prog 231 [.int (n.natAbs:Int),.int (-d)] S tk k=some (.int ((n.natAbs.gcd d.natAbs:Nat):Int),S,tk,k):=fun S tk k=>by
   have:=hC S tk k;rwa [<- hda] at this
  simp only [zA,bigA,digA] at hA hB;simp (maxSteps:=10^6)+contextual(disch:=try exact dqd)only[ev1,simprocAttr,Cg,Ca,Ch,results256,maxA_int,qA,ratA,digA,d1,hw1,hw2,jq,dx,hC',hgz,hw3,z6,hA,hB]
 ·have d1:decide (d<0)=false:=aI
  have hN:lowN n d=n.tdiv ((n.natAbs.gcd d.natAbs:Nat):Int):=by unfold lowN; rw [if_neg h]
  have hA S tk k:=Qk S tk k (lowN n d) (by rw [hN]; exact hq _ aA);have dx:=hm n aA;have hw1:=hwn n rfl;have hw3:Ce.wrap (n.tdiv ((n.natAbs.gcd d.natAbs:Nat):Int))=lowN n d:=by
   rw [hN]; have:=hq n aA; exact Ac this
  have z6:Ce.wrap (d.tdiv ((n.natAbs.gcd d.natAbs:Nat):Int))=lowD n d:=by
   rw [hdq d aA]; exact Ac hld
  have hda:d=(d.natAbs:Int):=aA
  have hC2:∀ S tk k,cL prog 231 [.int (n.natAbs:Int),.int d] S tk k=some (.int ((n.natAbs.gcd d.natAbs:Nat):Int),S,tk,k):=fun S tk k=>by
   have:=hC S tk k;rwa [<- hda] at this
  simp only [zA,bigA,digA] at hA hB;simp (maxSteps:=10^6)+contextual(disch:=try exact dqd)only[ev1,simprocAttr,Cg,Ca,Ch,results256,maxA_int,qA,ratA,digA,d1,hw1,dx,hC2,hgz,hw3,z6,hA,hB]
end
theorem Hj {p:Bool} {l:List Int} (h:D5 p l=true):p=decide (V p l<0)/\l=dig (V p l).natAbs:=by
 have ha:=Apa p l;rw [if_pos h] at ha;refine ⟨?_,ha.symm⟩;have hs:=V_sg p l;cases p with
 | false =>
  have:¬ V false l<0:=by rw [hs]; simp [sg]
  simp [this]
 | true =>
  have hl:l≠[]:=fun e=>by subst e; simp [D5] at h
  have h0:(V true l).natAbs≠0:=fun e=>by rw [e,Dm] at ha; exact hl ha.symm
  have:V true l<0:=by rw [hs]; simp only [sg,if_true]; omega
  simp [this]
def Te (n d:Int):Bool:=decide (0<d) && decide (n.natAbs.gcd d.natAbs=1)
def Ky (p:Bool) (l:List Int) (q:Bool) (r:List Int):Bool:=D5 p l && D5 q r && Te (V p l) (V q r)
def nQ (p:Bool) (l:List Int) (q:Bool) (r:List Int):Int:=if Ky p l q r=true then V p l else 0
def dQ (p:Bool) (l:List Int) (q:Bool) (r:List Int):Int:=if Ky p l q r=true then V q r else 1
theorem Ana (g:Nat):decide (cmpN g 1=0)=decide (g=1):=by
 rw [decide_eq_decide];unfold cmpN;split
 ·omega
 ·split <;> omega
section
variable (S:List Ent) (tk:List Nat) (k:Nat)
theorem V1 (a:Nat) (ha:(dig a).length<=1000000):cL prog 233 [digA (dig a),.frz [[.prim (.int .i64 1)]] .tight] S tk k=some (.int (cmpN a 1),S,tk,k):=by
 have x5:dig 1=[(1:Int)]:=U7 (d:=(1:Int)) aA aA;have h2:=told (E:=E1) (M8 S tk k a 1 ha (by rw [x5]; simp));rw [x5] at h2;exact (Am8 (args:=[digA (dig a),.frz [[.prim (.int .i64 1)]] .tight]) (args':=[digA (dig a),digA [(1:Int)]]) rfl rfl rfl).trans h2
theorem Ah7 (p:Bool) (l:List Int) (q:Bool) (r:List Int) (hl:l.length<=1000000) (hr:r.length<=1000000):cL prog 261 [ratA p l q r] S tk k=some (.bool (Ky p l q r),S,tk,k):=by
 have o8 S tk k:=told (E:=E1) (Mj S tk k p l .unk hl);have o9 S tk k:=told (E:=E1) (Mj S tk k q r .unk hr);refine opP func261 ntmps261 (hp3:=rfl) ?_;unfold Ky;cases h1:D5 p l with
 | false =>
  rw [h1] at o8;simp (maxSteps:=10^6)+contextual(disch:=try exact dqd)only[ev1,simprocAttr,Cg,Ca,Ch,results261,ratA,digA,o8,F2]
 | true =>
 rw [h1] at o8;cases h2:D5 q r with
 | false =>
  rw [h2] at o9;simp (maxSteps:=10^6)+contextual(disch:=try exact dqd)only[ev1,simprocAttr,Cg,Ca,Ch,results261,ratA,digA,o8,o9,F2,G4]
 | true =>
 rw [h2] at o9;obtain ⟨hp,dk⟩:=Hj h1;obtain ⟨hq,xo⟩:=Hj h2;have pb:=(Kz h1).2.2;have jr:=(Kz h2).2.2;by_cases hq0:q=true
 ·subst hq0;have hg:Te (V p l) (V true r)=false:=by
   have:V true r<0:=by simpa using hq.symm
   have h3:¬ 0<V true r:=aA
   simp [Te,h3]
  rw [hg];simp (maxSteps:=10^6)+contextual(disch:=try exact dqd)only[ev1,simprocAttr,Cg,Ca,Ch,results261,ratA,digA,o8,o9,G4]
 ·have hqf:q=false:=by simpa using hq0
  subst hqf;have cw:0<=V false r:=by
   have:¬ V false r<0:=by simpa using hq.symm
   omega
  by_cases b9:r=[]
  ·subst b9;have hg:Te (V p l) (V false [])=false:=by
    have:V false []=0:=by have:=Gq.1 xo.symm; omega
    simp [Te,this]
   rw [hg];simp only [Cw] at o9;have iz:(((0:Nat):Int) == 0)=true:=rfl;simp (maxSteps:=10^6)+contextual(disch:=try exact dqd)only[ev1,simprocAttr,Cg,Ca,Ch,results261,ratA,digA,o8,o9,iz,G4]
  ·have a0c:(((r.length:Nat):Int) == 0)=false:=by
    have:=I5.2 b9;simp; omega
   have hd1:0<V false r:=by
    have:(V false r).natAbs≠0:=fun e=>b9 (by rw [xo,e,Dm]);omega
   have hgd:Te (V p l) (V false r)=decide ((V p l).natAbs.gcd (V false r).natAbs=1):=by simp [Te,hd1]
   rw [hgd];have de S tk k:=Rt S tk k (V p l);have bh S tk k:=Rt S tk k (V false r);simp only [zA,bigA,digA,<- hp,<- dk,<- hq,<- xo] at de bh;by_cases hs:smB (V p l)=true/\smB (V false r)=true
   ·obtain ⟨s1,s2⟩:=hs;have e1:smN (V p l)=V p l:=by simp [smN,s1]
    have e2:smN (V false r)=V false r:=by simp [smN,s2]
    have b1:=Ui s1;have b2:=Ui s2;rw [e1,s1] at de;rw [e2,s2] at bh;have hw:Ce.wrap (0 - V p l)=- V p l:=aT
    have hm:(if - V p l > V p l then - V p l else V p l)=((V p l).natAbs:Int):=by split <;> omega
    have hC S tk k:=told (E:=E1) (N2 S tk k (V p l).natAbs (V false r).natAbs aA aA);have hda:((V false r).natAbs:Int)=V false r:=aA
    rw [hda] at hC;have lu:((((V p l).natAbs.gcd (V false r).natAbs:Nat):Int) == 1)=decide ((V p l).natAbs.gcd (V false r).natAbs=1):=by
     rw [X7]; simp; omega
    simp (maxSteps:=10^6)+contextual(disch:=try exact dqd)only[ev1,simprocAttr,Cg,Ca,Ch,results261,maxA_int,ratA,digA,o8,o9,a0c,de,bh,hw,hm,hC,lu,G4]
   ·have hD S tk k:=Rq S tk k (V p l).natAbs (V false r).natAbs (by rw [<- dk]; omega) (by rw [<- xo]; omega);rw [<- dk,<- xo] at hD;have hgl:(dig ((V p l).natAbs.gcd (V false r).natAbs)).length<=200:=by
     have h3:(V p l).natAbs.gcd (V false r).natAbs<=(V false r).natAbs:=gK _ aA;have h4:(dig (V false r).natAbs).length<=200:=by rw [<- xo]; exact jr
     exact Bg.2 (Ix h3 (Bg.1 h4))
    have hO S tk k:=V1 S tk k ((V p l).natAbs.gcd (V false r).natAbs) aA;have cl:(cmpN ((V p l).natAbs.gcd (V false r).natAbs) 1 == 0)=decide ((V p l).natAbs.gcd (V false r).natAbs=1):=by
     rw [<- Ana]; rfl
    simp only [digA] at hD hO;cases s1:smB (V p l) with
    | false =>
     rw [s1] at de;exact Ya09
    | true =>
     have s2:smB (V false r)=false:=by simpa [s1] using hs
     rw [s1] at de;rw [s2] at bh;exact Ya09
end
theorem R8 {p:Bool} {l:List Int} {q:Bool} {r:List Int} (h:Ky p l q r=true):D5 p l=true/\D5 q r=true/\Te (V p l) (V q r)=true:=by
 unfold Ky at h;simp only [Cf] at h;exact ⟨h.1.1,h.1.2,h.2⟩
theorem Ad4 {p:Bool} {l:List Int} {q:Bool} {r:List Int} (h:Ky p l q r=true):ratA p l q r=qA (V p l) (V q r):=by
 obtain ⟨h1,h2,-⟩:=R8 h;obtain ⟨a1,a2⟩:=Hj h1;obtain ⟨b1,b2⟩:=Hj h2;unfold qA;rw [<- a1,<- a2,<- b1,<- b2]
structure H4 (n d:Int):Prop where
 pos:0<d
 cop:n.natAbs.gcd d.natAbs=1
 ln:(dig n.natAbs).length<=200
 ld:(dig d.natAbs).length<=200
theorem Kg (p:Bool) (l:List Int) (q:Bool) (r:List Int):H4 (nQ p l q r) (dQ p l q r):=by
 unfold nQ dQ;cases h:Ky p l q r with
 | false =>
  simp only [C4,if_false];exact ⟨aA,rfl,aO,aO⟩
 | true =>
  obtain ⟨h1,h2,h3⟩:=R8 h;simp only [Te,Cf,decide_eq_true_eq] at h3;exact ⟨h3.1,h3.2,Aju p l,Aju q r⟩
def E3 (n d:Int):Bool:=!decide (d=0) && okZ (lowN n d) && okZ (lowD n d)
def resN (n d:Int):Int:=if E3 n d=true then lowN n d else 0
def resD (n d:Int):Int:=if E3 n d=true then lowD n d else 0
def resQ (n d:Int):AV:=.tup [qA (resN n d) (resD n d),.bool (E3 n d)]
theorem Rf (n d:Int):(lowN n d).natAbs=n.natAbs / n.natAbs.gcd d.natAbs:=by
 unfold lowN;rw [Int.natAbs_tdiv];split <;> simp <;> rfl
theorem Aks (n d:Int) (hd:d≠0):(decide (n<0) != decide (d<0) && !decide (dig (n.natAbs / n.natAbs.gcd d.natAbs)=[]))=decide (lowN n d<0):=by
 have ha:=Rf n d;have lz:0<n.natAbs.gcd d.natAbs:=Kt _ aA;have hz:dig (n.natAbs / n.natAbs.gcd d.natAbs)=[]↔lowN n d=0:=by rw [Gq,<- ha]; omega
 have hsg:∀ x:Int,0<=x->0<=x.tdiv ((n.natAbs.gcd d.natAbs:Nat):Int):=fun x hx=>Int.tdiv_nonneg hx aA;have hneg:∀ x:Int,x<=0->x.tdiv ((n.natAbs.gcd d.natAbs:Nat):Int)<=0:=fun x hx=>by
  have h1:=hsg (-x) aA;rw [Int.neg_tdiv] at h1;omega
 rw [X7];simp only [Cf,bne_iff_ne,ne_eq,decide_eq_decide,F3,decide_eq_false_iff_not,decide_eq_true_eq,hz];by_cases h:d<0
 ·have e:lowN n d=(-n).tdiv ((n.natAbs.gcd d.natAbs:Nat):Int):=by unfold lowN; rw [if_pos h]
  have h1:=hsg (-n);have h2:=hneg (-n);rw [<- e] at h1 h2;constructor
  ·rintro ⟨h3,h4⟩; have:0<=n:=aA
   have:=h2 aA; omega
  ·intro h3;have:¬ 0<=-n:=fun h4=>by have:=h1 h4; omega
   omega
 ·have e:lowN n d=n.tdiv ((n.natAbs.gcd d.natAbs:Nat):Int):=by unfold lowN; rw [if_neg h]
  have h1:=hsg n;have h2:=hneg n;rw [<- e] at h1 h2;constructor
  ·rintro ⟨h3,h4⟩; have:n<0:=aA
   have:=h2 aA; omega
  ·intro h3;have:¬ 0<=n:=fun h4=>by have:=h1 h4; omega
   omega
section
variable (S:List Ent) (tk:List Nat) (k:Nat)
theorem G1 (p:Bool) (l:List Int) (q:Bool) (r:List Int) (hl:l.length<=1000000) (hr:r.length<=1000000):cL prog 254 [ratA p l q r] S tk k=some (qA (nQ p l q r) (dQ p l q r),S,tk,k):=by
 have hV S tk k:=Ah7 S tk k p l q r hl hr;have hZ S tk k:=Ala S tk k;refine opP func254 ntmps254 (hp3:=rfl) ?_;unfold nQ dQ;cases h:Ky p l q r with
 | true =>
  rw [h] at hV;have e:=Ad4 h;simp only [if_true];rw [<- e];simp only [ratA,digA] at hV;simp (maxSteps:=10^6)+contextual(disch:=try exact dqd)only[ev1,simprocAttr,Cg,Ca,Ch,results254,ratA,digA,hV]
 | false =>
  rw [h] at hV;simp only [C4,if_false];simp only [ratA,qA,digA] at hV hZ;simp (maxSteps:=10^6)+contextual(disch:=try exact dqd)only[ev1,simprocAttr,Cg,Ca,Ch,results254,ratA,qA,digA,hV,hZ]
theorem Lk (n d:Int) (hn:(dig n.natAbs).length<=90000) (hd:(dig d.natAbs).length<=90000) (cw:d≠0):cL prog 225 [zA n,zA d] S tk k=some (resQ n d,S,tk,k):=by
 refine opP func225 ntmps225 (hp3:=rfl) ?_;have lz:0<n.natAbs.gcd d.natAbs:=Kt _ aA;have hD S tk k:=Rq S tk k n.natAbs d.natAbs hn hd;have hgl:(dig (n.natAbs.gcd d.natAbs)).length<=90000:=by
  have h3:n.natAbs.gcd d.natAbs<=d.natAbs:=gK _ aA;exact Fv (Bg.2 (Ix h3 (Bg.1 (Cb _)))) hd
 have hQ1 S tk k:=Kw S tk k n.natAbs (n.natAbs.gcd d.natAbs) .unk .unk lz hn hgl;have yd S tk k:=Kw S tk k d.natAbs (n.natAbs.gcd d.natAbs) .unk .unk lz hd hgl;have hla:=Rf n d;have hlb:(lowD n d).natAbs=d.natAbs / n.natAbs.gcd d.natAbs:=rfl;have hs:=Aks n d cw;have hp:=U8 (n.natAbs / n.natAbs.gcd d.natAbs);have hdn:decide (lowD n d<0)=false:=by
  have:¬ lowD n d<0:=by unfold lowD; omega
  simp [this]
 have hC:=fun (m:Nat) (h:(dig m).length<=200) S tk k=>V7 S tk k (dig m) .unk aA;unfold resQ resN resD;simp only [digA] at hD hQ1 yd hC;by_cases h1:(dig (n.natAbs / n.natAbs.gcd d.natAbs)).length<=200
 ·have d1:decide (((dig (n.natAbs / n.natAbs.gcd d.natAbs)).length:Int) > 200)=false:=aB
  by_cases h2:(dig (d.natAbs / n.natAbs.gcd d.natAbs)).length<=200
  ·have d2:decide (((dig (d.natAbs / n.natAbs.gcd d.natAbs)).length:Int) > 200)=false:=aB
   have hf:E3 n d=true:=Za1a
   have hC1:=hC _ h1;have hC2:=hC _ h2;rw [hf];simp only [if_true,qA,hla,hlb,<- hs,hdn];have hbn:(decide (n<0) != decide (d<0))=!(decide (n<0) == decide (d<0)):=rfl;rw [hbn];cases d3:decide (n<0) == decide (d<0) with
   | true=>simp (maxSteps:=10^6)+contextual(disch:=try exact dqd)only[ev1,simprocAttr,Cg,Ca,Ch,results225,zA,bigA,ratA,digA,hD,hQ1,yd,d1,d2,d3,hbn,hp,hC1,hC2,F6,Ij,G4,F2]
   | false=>simp (maxSteps:=10^6)+contextual(disch:=try exact dqd)only[ev1,simprocAttr,Cg,Ca,Ch,results225,zA,bigA,ratA,digA,hD,hQ1,yd,d1,d2,d3,hbn,hp,hC1,hC2,F6,Ij,G4,F2]
  ·have d2:decide (((dig (d.natAbs / n.natAbs.gcd d.natAbs)).length:Int) > 200)=true:=aB
   have hf:E3 n d=false:=Za1a
   rw [hf];simp only [C4,if_false];have hz:dig 0=[]:=Dm;simp (maxSteps:=10^6)+contextual(disch:=try exact dqd)only[ev1,simprocAttr,Cg,Ca,Ch,results225,zA,bigA,qA,ratA,digA,hz,hD,hQ1,yd,d1,d2]
 ·have d1:decide (((dig (n.natAbs / n.natAbs.gcd d.natAbs)).length:Int) > 200)=true:=aB
  have hf:E3 n d=false:=Za1a
  rw [hf];simp only [C4,if_false];have hz:dig 0=[]:=Dm;simp (maxSteps:=10^6)+contextual(disch:=try exact dqd)only[ev1,simprocAttr,Cg,Ca,Ch,results225,zA,bigA,qA,ratA,digA,hz,hD,hQ1,yd,d1]
end
theorem Ha {x y:Int} {a b:Nat} (hx:(dig x.natAbs).length<=a) (hy:(dig y.natAbs).length<=b):(dig (x*y).natAbs).length<=a+b:=by
 rw [Bg] at hx hy ⊢;rw [Ik,Nat.pow_add];exact Nat.mul_lt_mul_of_lt_of_le hx aA (gY aL)
theorem Ako {x y:Int} {a:Nat} (hx:(dig x.natAbs).length<=a) (hy:(dig y.natAbs).length<=a):(dig (x+y).natAbs).length<=a+1:=by
 rw [Bg] at hx hy ⊢;rw [Oj];omega
theorem Akp {y:Int} {a:Nat} (hy:(dig y.natAbs).length<=a):(dig (-y).natAbs).length<=a:=by
 rw [show (-y).natAbs=y.natAbs by omega]; exact hy
theorem Adb {n d:Int} (hn:n.natAbs<=100000000000000000) (hd:d.natAbs<=100000000000000000) (cw:d≠0):E3 n d=true:=by
 have h1:(dig (lowN n d).natAbs).length<=5:=Bg.2 (by
  have:=Oz n.natAbs (n.natAbs.gcd d.natAbs);rw [<- Rf] at this;omega)
 have h2:(dig (lowD n d).natAbs).length<=5:=Bg.2 (by
  have:=Oz d.natAbs (n.natAbs.gcd d.natAbs);have e:(lowD n d).natAbs=d.natAbs / n.natAbs.gcd d.natAbs:=rfl;rw [e];omega)
 simp only [E3,okZ];simp [cw];omega
theorem Rx {n d:Int} (hn:n.natAbs<=100000000000000000) (hd:d.natAbs<=100000000000000000) (cw:d≠0):resQ n d=.tup [qA (lowN n d) (lowD n d),.bool true]:=by
 have h:=Adb hn hd cw;unfold resQ resN resD;rw [h]; rfl
theorem P5 (n:Int):resQ n 0=.tup [qA 0 0,.bool false]:=rfl
theorem Gg {a b:Int} (ha:smB a=true) (hb:smB b=true):(a*b).natAbs<10000000000000000:=by
 have h1:=Ui ha;have h2:=Ui hb;rw [Ik];have:=Nat.mul_lt_mul_of_lt_of_le h1 (Nat.le_of_lt h2) (by omega:0<100000000);omega
theorem Ln {z:Int} (h:smB z=true):smN z=z:=by simp [smN,h]
def ofQ (p:Bool) (l:List Int) (q:Bool) (r:List Int):AV:=resQ (V p l) (if D5 p l=true then V q r else 0)
section
variable (S:List Ent) (tk:List Nat) (k:Nat)
theorem Aqt (p:Bool) (l:List Int) (q:Bool) (r:List Int) (hl:l.length<=1000000) (hr:r.length<=1000000):cL prog 224 [bigA p l,bigA q r] S tk k=some (ofQ p l q r,S,tk,k):=by
 have o8 S tk k:=told (E:=E1) (Mj S tk k p l .unk hl);have o9 S tk k:=told (E:=E1) (Mj S tk k q r .unk hr);refine opP func224 ntmps224 (hp3:=rfl) ?_;have hz:dig 0=[]:=Dm;have ye:decide ((0:Int)<0)=false:=aL
 unfold ofQ;cases h1:D5 p l with
 | false =>
  rw [h1] at o8;rw [if_neg (by simp),P5];simp (maxSteps:=10^6)+contextual(disch:=try exact dqd)only[ev1,simprocAttr,Cg,Ca,Ch,results224,qA,ratA,bigA,digA,hz,ye,o8]
 | true =>
 rw [h1] at o8;rw [if_pos rfl];cases h2:D5 q r with
 | false =>
  rw [h2] at o9;rw [V_bad h2,P5];simp (maxSteps:=10^6)+contextual(disch:=try exact dqd)only[ev1,simprocAttr,Cg,Ca,Ch,results224,qA,ratA,bigA,digA,hz,ye,o8,o9]
 | true =>
 rw [h2] at o9;obtain ⟨hp,dk⟩:=Hj h1;obtain ⟨hq,xo⟩:=Hj h2;by_cases b9:r=[]
 ·subst b9;have e0:V q []=0:=by have:=Gq.1 xo.symm; omega
  rw [e0,P5];simp only [Cw] at o9;have iz:(((0:Nat):Int) == 0)=true:=rfl;simp (maxSteps:=10^6)+contextual(disch:=try exact dqd)only[ev1,simprocAttr,Cg,Ca,Ch,results224,qA,ratA,bigA,digA,hz,ye,iz,o8,o9]
 ·have iz:(((r.length:Nat):Int) == 0)=false:=by
   have:=I5.2 b9;simp; omega
  have cw:V q r≠0:=fun e=>b9 (by rw [xo,e]; rfl);have hR S tk k:=Lk S tk k (V p l) (V q r) (by have:=Aju p l; omega) (by have:=Aju q r; omega) cw;have hO1 S tk k:=Gl S tk k (V p l);have hO2 S tk k:=Gl S tk k (V q r);simp only [zA,bigA,digA,<- hp,<- dk,<- hq,<- xo] at hR hO1 hO2;simp only [resQ,qA,ratA,digA] at hR ⊢;simp (maxSteps:=10^6)+contextual(disch:=try exact dqd)only[ev1,simprocAttr,Cg,Ca,Ch,results224,qA,ratA,bigA,digA,iz,o8,o9,hO1,hO2,hR]
theorem An6 (p1:Bool) (l1:List Int) (q1:Bool) (r1:List Int) (p2:Bool) (l2:List Int) (q2:Bool) (r2:List Int) (h1:l1.length<=1000000) (h2:r1.length<=1000000) (h3:l2.length<=1000000) (h4:r2.length<=1000000) :
  cL prog 252 [ratA p1 l1 q1 r1,ratA p2 l2 q2 r2] S tk k=some (resQ (nQ p1 l1 q1 r1*nQ p2 l2 q2 r2) (dQ p1 l1 q1 r1*dQ p2 l2 q2 r2),S,tk,k):=by
 have hA S tk k:=G1 S tk k p1 l1 q1 r1 h1 h2;have hB S tk k:=G1 S tk k p2 l2 q2 r2 h3 h4;have gA:=Kg p1 l1 q1 r1;have gB:=Kg p2 l2 q2 r2;generalize nQ p1 l1 q1 r1=a at *;generalize dQ p1 l1 q1 r1=b at *;generalize nQ p2 l2 q2 r2=c at *;generalize dQ p2 l2 q2 r2=d at *;have sf:b*d≠0:=Io Za43 (by have:=gB.pos; omega);refine opP func252 ntmps252 (hp3:=rfl) ?_;have hK S tk k:=M9 S tk k a b c d;cases hs:smB a && smB b && smB c && smB d with
 | true =>
  rw [hs] at hK;simp only [Cf] at hs;obtain ⟨⟨⟨s1,s2⟩,s3⟩,s4⟩:=hs;rw [Ln s1,Ln s2,Ln s3,Ln s4] at hK;have b1:=Gg s1 s3;have b2:=Gg s2 s4;have hw1:Ce.wrap (a*c)=a*c:=Ac aD;have hw2:Ce.wrap (b*d)=b*d:=Ac aD;have hF S tk k:=Kv S tk k (a*c) (b*d) aA aA sf;rw [Rx aA aA sf];simp only [qA,ratA,digA] at hA hB hK hF ⊢;simp (maxSteps:=10^6)+contextual(disch:=try exact dqd)only[ev1,simprocAttr,Cg,Ca,Ch,results252,ratA,digA,hA,hB,hK,hF,hw1,hw2]
 | false =>
  rw [hs] at hK;have hO1 S tk k:=Gl S tk k a;have hO2 S tk k:=Gl S tk k b;have td S tk k:=Gl S tk k c;have hO4 S tk k:=Gl S tk k d;have l1:=gA.ln;have l2:=gA.ld;have l3:=gB.ln;have l4:=gB.ld;have fy S tk k:=D3 S tk k a c aA aA;have aw S tk k:=D3 S tk k b d aA aA;have m1:=Ha l1 l3;have m2:=Ha l2 l4;have hR S tk k:=Lk S tk k (a*c) (b*d) aA aA sf;simp only [zA,bigA,digA] at hO1 hO2 td hO4 fy aw hR;simp only [resQ,qA,ratA,digA] at hA hB hK hR ⊢;simp (maxSteps:=10^6)+contextual(disch:=try exact dqd)only[ev1,simprocAttr,Cg,Ca,Ch,results252,ratA,digA,hA,hB,hK,hO1,hO2,td,hO4,fy,aw,hR]
end
theorem W7 {x y:Int} (hs:decide (x<0)=decide (y<0)):(cmpN x.natAbs y.natAbs == 0)=decide (x=y):=by
 have h1:(x<0)↔(y<0):=by simpa using hs
 rw [X7];simp only [beq_iff_eq,decide_eq_true_eq];unfold cmpN;split
 ·omega
 ·split <;> omega
theorem Afy {x y:Int} (h:x<y):cmpZ x y=-1:=by simp [cmpZ,h]
theorem Afx {x y:Int} (h:y<x):cmpZ x y=1:=by unfold cmpZ; rw [if_neg aA,if_pos h]
theorem Afw {x y:Int} (h:x=y):cmpZ x y=0:=by unfold cmpZ; rw [if_neg aA,if_neg aA]
section
variable (S:List Ent) (tk:List Nat) (k:Nat)
theorem An5 (p1:Bool) (l1:List Int) (q1:Bool) (r1:List Int) (p2:Bool) (l2:List Int) (q2:Bool) (r2:List Int) (h1:l1.length<=1000000) (h2:r1.length<=1000000) (h3:l2.length<=1000000) (h4:r2.length<=1000000) :
  cL prog 250 [ratA p1 l1 q1 r1,ratA p2 l2 q2 r2] S tk k=some (resQ (nQ p1 l1 q1 r1*dQ p2 l2 q2 r2) (dQ p1 l1 q1 r1*nQ p2 l2 q2 r2),S,tk,k):=by
 have hA S tk k:=G1 S tk k p1 l1 q1 r1 h1 h2;have hB S tk k:=G1 S tk k p2 l2 q2 r2 h3 h4;have gA:=Kg p1 l1 q1 r1;have gB:=Kg p2 l2 q2 r2;generalize nQ p1 l1 q1 r1=a at *;generalize dQ p1 l1 q1 r1=b at *;generalize nQ p2 l2 q2 r2=c at *;generalize dQ p2 l2 q2 r2=d at *;refine opP func250 ntmps250 (hp3:=rfl) ?_;have hz:dig 0=[]:=Dm;have ye:decide ((0:Int)<0)=false:=aL
 by_cases hc:c=0
 ·subst hc;have iz:((((dig (Int.natAbs 0)).length:Nat):Int) == 0)=true:=rfl;have iz2:(((0:Nat):Int) == 0)=true:=rfl;rw [O1,P5];simp only [qA,ratA,digA,hz,Cw] at hA hB ⊢;simp (maxSteps:=10^6)+contextual(disch:=try exact dqd)only[ev1,simprocAttr,Cg,Ca,Ch,results250,ratA,digA,hz,ye,hA,hB,iz,iz2]
 have iz:((((dig c.natAbs).length:Nat):Int) == 0)=false:=by
  have:(dig c.natAbs)≠[]:=fun e=>hc (by have:=Gq.1 e; omega);have:=I5.2 this;simp; omega
 have sf:b*c≠0:=Io Za43 hc;have hK S tk k:=M9 S tk k a b c d;cases hs:smB a && smB b && smB c && smB d with
 | true =>
  rw [hs] at hK;simp only [Cf] at hs;obtain ⟨⟨⟨s1,s2⟩,s3⟩,s4⟩:=hs;rw [Ln s1,Ln s2,Ln s3,Ln s4] at hK;have b1:=Gg s1 s4;have b2:=Gg s2 s3;have hw1:Ce.wrap (a*d)=a*d:=Ac aD;have hw2:Ce.wrap (b*c)=b*c:=Ac aD;have hF S tk k:=Kv S tk k (a*d) (b*c) aA aA sf;rw [Rx aA aA sf];simp only [qA,ratA,digA] at hA hB hK hF ⊢;simp (maxSteps:=10^6)+contextual(disch:=try exact dqd)only[ev1,simprocAttr,Cg,Ca,Ch,results250,ratA,digA,hA,hB,hK,hF,hw1,hw2,iz]
 | false =>
  rw [hs] at hK;have hO1 S tk k:=Gl S tk k a;have hO2 S tk k:=Gl S tk k b;have td S tk k:=Gl S tk k c;have hO4 S tk k:=Gl S tk k d;have l1:=gA.ln;have l2:=gA.ld;have l3:=gB.ln;have l4:=gB.ld;have fy S tk k:=D3 S tk k a d aA aA;have aw S tk k:=D3 S tk k b c aA aA;have m1:=Ha l1 l4;have m2:=Ha l2 l3;have hR S tk k:=Lk S tk k (a*d) (b*c) aA aA sf;simp only [zA,bigA,digA] at hO1 hO2 td hO4 fy aw hR;simp only [resQ,qA,ratA,digA] at hA hB hK hR ⊢;simp (maxSteps:=10^6)+contextual(disch:=try exact dqd)only[ev1,simprocAttr,Cg,Ca,Ch,results250,ratA,digA,hA,hB,hK,hO1,hO2,td,hO4,fy,aw,hR,iz]
theorem Ak9 (x y:Int) (hx:(dig x.natAbs).length<=90000) (hy:(dig y.natAbs).length<=90000):cL prog 258 [zA x,zA y] S tk k=some (.bool (decide (x=y)),S,tk,k):=by
 refine opP func258 ntmps258 (hp3:=rfl) ?_;have hO S tk k:=told (E:=E1) (M8 S tk k x.natAbs y.natAbs aA aA);simp only [digA] at hO;by_cases hs:decide (x<0)=decide (y<0)
 ·have d1:(decide (x<0) == decide (y<0))=true:=by simpa using hs
  by_cases hl:(dig x.natAbs).length=(dig y.natAbs).length
  ·have d2:(((dig x.natAbs).length:Int) == ((dig y.natAbs).length:Int))=true:=by rw [beq_iff_eq]; omega
   have hz:=W7 hs;simp (maxSteps:=10^6)+contextual(disch:=try exact dqd)only[ev1,simprocAttr,Cg,Ca,Ch,results258,zA,bigA,digA,d1,d2,hO,hz]
  ·have d2:(((dig x.natAbs).length:Int) == ((dig y.natAbs).length:Int))=false:=by
    rw [Bool.eq_false_iff]; intro h; exact hl (by have:=beq_iff_eq.1 h; omega)
   have hne:decide (x=y)=false:=by
    have:x≠y:=fun e=>hl (by rw [e]);simp [this]
   rw [hne];simp (maxSteps:=10^6)+contextual(disch:=try exact dqd)only[ev1,simprocAttr,Cg,Ca,Ch,results258,zA,bigA,digA,d1,d2]
 ·have d1:(decide (x<0) == decide (y<0))=false:=by simpa using hs
  have hne:decide (x=y)=false:=by
   have:x≠y:=fun e=>hs (by rw [e]);simp [this]
  rw [hne];simp (maxSteps:=10^6)+contextual(disch:=try exact dqd)only[ev1,simprocAttr,Cg,Ca,Ch,results258,zA,bigA,digA,d1]
theorem An4 (p1:Bool) (l1:List Int) (q1:Bool) (r1:List Int) (p2:Bool) (l2:List Int) (q2:Bool) (r2:List Int) (h1:l1.length<=1000000) (h2:r1.length<=1000000) (h3:l2.length<=1000000) (h4:r2.length<=1000000) :
  cL prog 251 [ratA p1 l1 q1 r1,ratA p2 l2 q2 r2] S tk k=some (.int (cmpZ (nQ p1 l1 q1 r1*dQ p2 l2 q2 r2) (nQ p2 l2 q2 r2*dQ p1 l1 q1 r1)),S,tk,k):=by
 have hA S tk k:=G1 S tk k p1 l1 q1 r1 h1 h2;have hB S tk k:=G1 S tk k p2 l2 q2 r2 h3 h4;have gA:=Kg p1 l1 q1 r1;have gB:=Kg p2 l2 q2 r2;generalize nQ p1 l1 q1 r1=a at *;generalize dQ p1 l1 q1 r1=b at *;generalize nQ p2 l2 q2 r2=c at *;generalize dQ p2 l2 q2 r2=d at *;refine opP func251 ntmps251 (hp3:=rfl) ?_;have hK S tk k:=M9 S tk k a b c d;cases hs:smB a && smB b && smB c && smB d with
 | true =>
  rw [hs] at hK;simp only [Cf] at hs;obtain ⟨⟨⟨s1,s2⟩,s3⟩,s4⟩:=hs;rw [Ln s1,Ln s2,Ln s3,Ln s4] at hK;have b1:=Gg s1 s4;have b2:=Gg s3 s2;have hw1:Ce.wrap (a*d)=a*d:=Ac aD;have hw2:Ce.wrap (c*b)=c*b:=Ac aD;simp only [qA,ratA,digA] at hA hB hK;by_cases g1:a*d<c*b
  ·have d1:decide (a*d<c*b)=true:=fC
   rw [Afy g1];simp (maxSteps:=10^6)+contextual(disch:=try exact dqd)only[ev1,simprocAttr,Cg,Ca,Ch,results251,ratA,digA,hA,hB,hK,hw1,hw2,d1]
  ·have d1:decide (a*d<c*b)=false:=fC
   by_cases g2:a*d > c*b
   ·have d2:decide (a*d > c*b)=true:=dO
    rw [Afx g2];exact Ya0p
   ·have d2:decide (a*d > c*b)=false:=dO
    rw [Afw aA];exact Ya0p
 | false =>
  rw [hs] at hK;have hO1 S tk k:=Gl S tk k a;have hO2 S tk k:=Gl S tk k b;have td S tk k:=Gl S tk k c;have hO4 S tk k:=Gl S tk k d;have l1:=gA.ln;have l2:=gA.ld;have l3:=gB.ln;have l4:=gB.ld;have fy S tk k:=D3 S tk k a d aA aA;have aw S tk k:=D3 S tk k c b aA aA;have m1:=Ha l1 l4;have m2:=Ha l3 l2;have hS S tk k:=Ak9 S tk k (a*d) (c*b) aA aA;have hM S tk k:=R9 S tk k (a*d) (c*b) aA aA;simp only [zA,bigA,digA] at hO1 hO2 td hO4 fy aw hS hM;simp only [qA,ratA,digA] at hA hB hK;by_cases g1:a*d=c*b
  ·have d1:decide (a*d=c*b)=true:=fC
   rw [d1] at hS;rw [Afw g1];simp (maxSteps:=10^6)+contextual(disch:=try exact dqd)only[ev1,simprocAttr,Cg,Ca,Ch,results251,ratA,digA,hA,hB,hK,hO1,hO2,td,hO4,fy,aw,hS]
  ·have d1:decide (a*d=c*b)=false:=fC
   rw [d1] at hS;by_cases g2:a*d<c*b
   ·have d2:decide (a*d - c*b<0)=true:=aB
    rw [d2] at hM;rw [Afy g2];exact Ya0j
   ·have d2:decide (a*d - c*b<0)=false:=aB
    rw [d2] at hM;rw [Afx aA];exact Ya0j
end
end
section
open Go
theorem H4.valid {n d:Int} (h:H4 n d):Ky (decide (n<0)) (dig n.natAbs) (decide (d<0)) (dig d.natAbs)=true:=by
 unfold Ky Te;rw [Qa _ h.ln,Qa _ h.ld,V_of _ h.ln,V_of _ h.ld];simp [h.pos,h.cop]
theorem H4.nQ {n d:Int} (h:H4 n d):nQ (decide (n<0)) (dig n.natAbs) (decide (d<0)) (dig d.natAbs)=n:=by
 unfold Proofs.YthelkgdmgihhiaaGreat.nQ;rw [if_pos h.valid,V_of _ h.ln]
theorem H4.dQ {n d:Int} (h:H4 n d):dQ (decide (n<0)) (dig n.natAbs) (decide (d<0)) (dig d.natAbs)=d:=by
 unfold Proofs.YthelkgdmgihhiaaGreat.dQ;rw [if_pos h.valid,V_of _ h.ld]
theorem H4.neg {n d:Int} (h:H4 n d):H4 (-n) d:=by
 have e:(-n).natAbs=n.natAbs:=aA
 exact ⟨h.pos,by rw [e]; exact h.cop,by rw [e]; exact h.ln,h.ld⟩
end
section
open Go
end
section
open Go
end
section
open Go
end
section
open Go Tryz
set_option maxHeartbeats 1000000
theorem Ahn {a:Int} (ha:smB a=true):smB (-a)=true:=by
 simp only [smB,Int.natAbs_neg] at ha ⊢; exact ha
section
variable (S:List Ent) (tk:List Nat) (k:Nat)
theorem An7 (p1:Bool) (l1:List Int) (q1:Bool) (r1:List Int) (p2:Bool) (l2:List Int) (q2:Bool) (r2:List Int) (h1:l1.length<=1000000) (h2:r1.length<=1000000) (h3:l2.length<=1000000) (h4:r2.length<=1000000) :
  cL prog 253 [ratA p1 l1 q1 r1,ratA p2 l2 q2 r2,.bool true] S tk k=some (resQ (nQ p1 l1 q1 r1*dQ p2 l2 q2 r2+-nQ p2 l2 q2 r2*dQ p1 l1 q1 r1) (dQ p1 l1 q1 r1*dQ p2 l2 q2 r2),S,tk,k):=by
 have hA S tk k:=G1 S tk k p1 l1 q1 r1 h1 h2;have hB S tk k:=G1 S tk k p2 l2 q2 r2 h3 h4;have gA:=Kg p1 l1 q1 r1;have gB:=Kg p2 l2 q2 r2;generalize nQ p1 l1 q1 r1=a at *;generalize dQ p1 l1 q1 r1=b at *;generalize nQ p2 l2 q2 r2=c at *;generalize dQ p2 l2 q2 r2=d at *;have sf:b*d≠0:=Io Za43 (by have:=gB.pos; omega);refine opP func253 ntmps253 (hp3:=rfl) ?_;have hK S tk k:=M9 S tk k a b c d;cases hs:smB a && smB b && smB c && smB d with
 | true =>
  rw [hs] at hK;simp only [Cf] at hs;obtain ⟨⟨⟨s1,s2⟩,s3⟩,s4⟩:=hs;rw [Ln s1,Ln s2,Ln s3,Ln s4] at hK;have b0:=Ui s3;have b1:=Gg s1 s4;have b2:=Gg (Ahn s3) s2;have b3:=Gg s2 s4;have p6:Ce.wrap (0 - c)=-c:=aT
  have hw1:Ce.wrap (a*d)=a*d:=Ac aD;have hw2:Ce.wrap (-c*b)=-c*b:=Ac aD;have hw3:Ce.wrap (b*d)=b*d:=Ac aD;have z6:Ce.wrap (a*d+-c*b)=a*d+-c*b:=Ac aD;have hF S tk k:=Kv S tk k (a*d+-c*b) (b*d) aA aA sf;rw [Rx aA aA sf];simp only [qA,ratA,digA] at hA hB hK hF ⊢;simp (maxSteps:=10^6)+contextual(disch:=try exact dqd)only[ev1,simprocAttr,Cg,Ca,Ch,results253,ratA,digA,hA,hB,hK,hF,p6,hw1,hw2,hw3,z6]
 | false =>
  rw [hs] at hK;have hO1 S tk k:=Gl S tk k a;have hO2 S tk k:=Gl S tk k b;have td S tk k:=Gl S tk k c;have hO4 S tk k:=Gl S tk k d;have l1:=gA.ln;have l2:=gA.ld;have l3:=gB.ln;have l4:=gB.ld;have fy S tk k:=D3 S tk k a d aA aA;have aw S tk k:=D3 S tk k b d aA aA;have dq S tk k:=D3 S tk k c b aA aA;have m1:=Ha l1 l4;have m2:=Ha l2 l4;have m3:=Ha l3 l2;have m5:=Akp m3;have hP S tk k:=R9 S tk k (a*d) (c*b) aA aA;have e1:a*d - c*b=a*d+-c*b:=by rw [fR]; omega
  rw [e1] at hP;rw [<- fR] at m5;have m4:=Ako (x:=a*d) (y:=-c*b) (a:=45000) aA aA;have hR S tk k:=Lk S tk k (a*d+-c*b) (b*d) aA aA sf;simp only [zA,bigA,digA] at hO1 hO2 td hO4 fy aw dq hP hR;simp only [resQ,qA,ratA,digA] at hA hB hK hR ⊢;simp (maxSteps:=10^6)+contextual(disch:=try exact dqd)only[ev1,simprocAttr,Cg,Ca,Ch,results253,ratA,digA,hA,hB,hK,hO1,hO2,td,hO4,fy,aw,dq,hP,hR]
theorem Ak8 (p1:Bool) (l1:List Int) (q1:Bool) (r1:List Int) (p2:Bool) (l2:List Int) (q2:Bool) (r2:List Int) (h1:l1.length<=1000000) (h2:r1.length<=1000000) (h3:l2.length<=1000000) (h4:r2.length<=1000000) :
  cL prog 249 [ratA p1 l1 q1 r1,ratA p2 l2 q2 r2] S tk k=some (resQ (nQ p1 l1 q1 r1*dQ p2 l2 q2 r2+-nQ p2 l2 q2 r2*dQ p1 l1 q1 r1) (dQ p1 l1 q1 r1*dQ p2 l2 q2 r2),S,tk,k):=by
 have hJ S tk k:=An7 S tk k p1 l1 q1 r1 p2 l2 q2 r2 h1 h2 h3 h4;refine opP func249 ntmps249 (hp3:=rfl) ?_;simp only [resQ,qA,ratA,digA] at hJ ⊢;simp (maxSteps:=10^6)+contextual(disch:=try exact dqd)only[ev1,simprocAttr,Cg,Ca,Ch,results249,ratA,digA,hJ]
end
end
section
open Go
theorem Tc {l:List Int} {i:Nat} {x:Int} (h:i<l.length):(l.set i x).drop i=x :: l.drop (i+1):=by
 rw [Av (Pf h)];congr 1;rw [List.drop_set]; simp
theorem Ud (n:Nat):okD (Cd n 0):=fun d hd=>by
 exact Ya2m
structure Qg (A:Nat) (b:Int) (m:Nat) (r:Int) (out:List Int):Prop where
 len:out.length=(dig A).length
 ok:okD out
 r0:0<=r/\r<b
 eqv:val ((dig A).drop m)=val (out.drop m)*b+r
theorem Qg.start {A:Nat} {b:Int} (h:0<b):Qg A b (dig A).length 0 (Cd (dig A).length 0):=by
 refine ⟨by simp,Ud _,aA,?_⟩;exact Ya2u
theorem Qg.step {A:Nat} {b:Int} {m:Nat} {r x:Int} {out:List Int} (h:Qg A b m r out) (hm:m≠0) (sk:m<=(dig A).length) (hx:nth (dig A) (m - 1)=some x) :
  Qg A b (m - 1) ((r*10000+x).tmod b) (out.set (m - 1) ((r*10000+x).tdiv b))/\0<=(r*10000+x).tdiv b/\(r*10000+x).tdiv b<10000/\0<=(r*10000+x).tmod b/\(r*10000+x).tmod b<b:=by
 have hr:=h.r0;have hxk:=Du (Br A) hx;have hn:0<=r*10000+x:=aA
 have e1:(r*10000+x).tdiv b=(r*10000+x) / b:=C9 hn;have e2:(r*10000+x).tmod b=(r*10000+x) % b:=F5 hn;have m0:=Int.emod_nonneg (r*10000+x) (show b≠0 by omega);have m1:=Int.emod_lt_of_pos (r*10000+x) (show 0<b by omega);have q0:0<=(r*10000+x) / b:=Int.ediv_nonneg hn aA;have q1:(r*10000+x) / b<10000:=Int.ediv_lt_of_lt_mul aA aA;have cq:m - 1+1=m:=aA
 have hlen:m - 1<out.length:=by have:=h.len; omega
 rw [e1,e2];refine ⟨⟨bK,L5 h.ok q0 q1,⟨m0,m1⟩,?_⟩,q0,q1,m0,m1⟩;have hv:=h.eqv;rw [Av hx,Tc hlen,val,val,cq,hv];exact Yas
theorem Ang {A B Q R:Int} (h:A=Q*B+R) (h0:0<=R) (h1:R<B):A / B=Q/\A % B=R:=by
 exact Ya03
theorem Aj8 {A B:Nat} {Q R:Int} (h:(A:Int)=Q*B+R) (h0:0<=R) (h1:R<B):Q=((A / B:Nat):Int)/\R=((A % B:Nat):Int):=by
 obtain ⟨e1,e2⟩:=Ang h h0 h1;rw [<- e1,<- e2]; exact ⟨rfl,rfl⟩
theorem Qg.done {A B:Nat} {r:Int} {out:List Int} (h:Qg A B 0 r out):Dk out=dig (A / B)/\r.toNat=A % B:=by
 have hv:=h.eqv;rw [Fs,Fs,B4] at hv;obtain ⟨e1,e2⟩:=Aj8 hv h.r0.1 h.r0.2;rw [Dw h.ok,e1];exact ⟨by congr 1,aA⟩
theorem Ah2 (n:Nat):((10000 ^ n:Nat):Int)=(10000:Int) ^ n:=Int.natCast_pow ..
structure Dg (a d z i:Nat) (c:Int) (out:List Int):Prop where
 len:out.length=z+i
 ok:okD out
 c0:0<=c/\c<=9999
 eqv:val out+10000 ^ (z+i)*(c+d*val ((dig a).drop i))=(a*d*10000 ^ z:Nat)
theorem Dg.start (a d z:Nat):Dg a d z 0 0 (Cd z 0):=by
 refine ⟨by simp,Ud _,aA,?_⟩;rw [Hd,Fs,B4,iC,iC,Ah2,I1,Int.zero_add,Int.zero_add,Fp,Fp (a:Int)]
theorem Anx {x d:Int} (h0:0<=x) (h1:x<10000) (h2:0<=d) (h3:d<10000):0<=x*d/\x*d<=99980001:=by
 have a:=O7 h0 h2;have b:=Int.mul_le_mul (a:=x) (b:=d) (c:=9999) (d:=9999) aA aA h2 aA;omega
theorem Dg.step {a d z i:Nat} {c x n:Int} {out:List Int} (h:Dg a d z i c out) (hd:d<10000) (hx:nth (dig a) i=some x) (hn:n=c+x*d) :
  Dg a d z (i+1) (n.tdiv 10000) (out++[n.tmod 10000])/\0<=n/\n<=99990000:=by
 have hxk:=Du (Br a) hx;have hm:=Anx hxk.1 hxk.2 (fL d) aA;have h3:=h.c0;have e1:n.tdiv 10000=n / 10000:=C9 aA;have e2:n.tmod 10000=n % 10000:=F5 aA;refine ⟨⟨by simp [h.len]; omega,P3 h.ok aA aA,aA,?_⟩,aA,aA⟩;have hv:=h.eqv;rw [Av hx,val] at hv;have e3:(d:Int)*(x+10000*val ((dig a).drop (i+1)))=x*d+10000*(d*val ((dig a).drop (i+1))):=by
  rw [I7,Fp (d:Int) x,<- F1,Fp (d:Int) 10000,F1]
 rw [e3] at hv;have:n.tmod 10000+10000*(n.tdiv 10000+d*val ((dig a).drop (i+1)))=c+(x*d+10000*(d*val ((dig a).drop (i+1)))):=aA
 rw [P9,h.len,gN,<- Si,Li,this];exact hv
theorem Dg.done {a d z i:Nat} {c:Int} {out:List Int} (h:Dg a d z i c out) (hi:(dig a).length<=i) (hc:c=0):Dk out=dig (a*d*10000 ^ z):=by
 have hv:=h.eqv;rw [Ff hi,val,hc] at hv;rw [Dw h.ok];congr 1;have e:(10000:Int) ^ (z+i)*(0+d*0)=0:=by rw [O1,Rv,O1]
 rw [e] at hv;omega
end
section
open Go
end
section
open Go
end
section
open Go
theorem Pz {n d:Int} (hd:d≠0):(lowN n d).natAbs.gcd (lowD n d).natAbs=1:=by
 rw [Rf,show (lowD n d).natAbs=d.natAbs / n.natAbs.gcd d.natAbs from rfl];have hg:0<n.natAbs.gcd d.natAbs:=Kt _ aA;rw [Nat.gcd_div (Nat.gcd_dvd_left _ _) (Nat.gcd_dvd_right _ _)];exact Nat.div_self hg
theorem M0 {n d:Int} (hd:d≠0):0<lowD n d:=by
 have hg:0<n.natAbs.gcd d.natAbs:=Kt _ aA;have h2:n.natAbs.gcd d.natAbs<=d.natAbs:=gK _ aA;have:=Nat.div_pos h2 hg;unfold lowD; omega
theorem Kj {n d:Int} (hd:d≠0):lowN n d*d=n*lowD n d:=by
 have hg:0<n.natAbs.gcd d.natAbs:=Kt _ aA;obtain ⟨g,hgd⟩:∃ g:Nat,g=n.natAbs.gcd d.natAbs:=⟨_,rfl⟩;have h1:(g:Int) ∣ n:=by rw [hgd]; exact Int.ofNat_dvd_left.2 (Nat.gcd_dvd_left _ _)
 have h2:(g:Int) ∣ d:=by rw [hgd]; exact Int.ofNat_dvd_left.2 (Nat.gcd_dvd_right _ _)
 obtain ⟨a,ha⟩:=h1;obtain ⟨b,hb⟩:=h2;have lz:(g:Int)≠0:=aA
 have hN:lowN n d=if d<0 then -a else a:=by
  unfold lowN;rw [<- hgd];split
  ·rw [ha,Int.neg_tdiv,Int.mul_tdiv_cancel_left _ lz]
  ·rw [ha,Int.mul_tdiv_cancel_left _ lz]
 have hD:lowD n d=if d<0 then -b else b:=by
  unfold lowD;rw [<- hgd];have:d.natAbs=g*b.natAbs:=by rw [hb,Ik]; simp
  rw [this,Nat.mul_div_cancel_left _ aA];have hs:d<0↔b<0:=by
   rw [hb];constructor
   ·intro h;rcases Int.lt_or_le b 0 with h'|h'
    ·exact h'
    ·have:=O7 (show (0:Int)<=g by omega) h'; omega
   ·intro h;exact Int.mul_neg_of_pos_of_neg aA h
  split <;> omega
 rw [hN,hD];generalize (g:Int)=G at *;subst ha hb;split
 ·rw [fR,Int.mul_neg,<- F1,Fp a G]
 ·rw [<- F1,Fp a G]
theorem M1 {a b c d:Int} (hb:0<b) (hd:0<d) (h1:a.natAbs.gcd b.natAbs=1) (h2:c.natAbs.gcd d.natAbs=1) (h:a*d=c*b):a=c/\b=d:=by
 have e:=congrArg Int.natAbs h;rw [Ik,Ik] at e;have k1:d.natAbs ∣ b.natAbs:=(Nat.Coprime.dvd_of_dvd_mul_left (Nat.Coprime.symm h2) ⟨a.natAbs,by rw [<- e,I2]⟩);have k2:b.natAbs ∣ d.natAbs:=(Nat.Coprime.dvd_of_dvd_mul_left (Nat.Coprime.symm h1) ⟨c.natAbs,by rw [e,I2]⟩);have sf:b.natAbs=d.natAbs:=Nat.dvd_antisymm k2 k1;have a19:b=d:=aA
 subst a19;exact ⟨Int.eq_of_mul_eq_mul_right aA h,rfl⟩
theorem H4.low {n d:Int} (h:H4 n d):lowN n d=n/\lowD n d=d:=by
 have hd:=h.pos;exact M1 (M0 aA) hd (Pz aA) h.cop (Kj aA)
theorem Ap7 {n d n' d':Int} (hd:d≠0) (d8:d'≠0) (h:n*d'=n'*d):lowN n d=lowN n' d'/\lowD n d=lowD n' d':=by
 refine M1 (M0 hd) (M0 d8) (Pz hd) (Pz d8) ?_;have h1:=Kj (n:=n) hd;have h2:=Kj (n:=n') d8;have h3:(lowN n d*lowD n' d')*(d*d')=(lowN n' d'*lowD n d)*(d*d'):=by
  generalize lowN n d=a at *;generalize lowD n d=b at *;generalize lowN n' d'=a' at *;generalize lowD n' d'=b' at *;have e1:(a*b')*(d*d')=(n*d')*(b*b'):=by
   have:(a*b')*(d*d')=(a*d)*(b'*d'):=aJ
   rw [this,h1]; grind
  have e2:(a'*b)*(d*d')=(n'*d)*(b*b'):=by
   have:(a'*b)*(d*d')=(a'*d')*(b*d):=aJ
   rw [this,h2]; grind
  rw [e1,e2,h]
 exact Int.eq_of_mul_eq_mul_right (Io hd d8) h3
theorem Anq {n d n' d':Int} (hd:d≠0) (d8:d'≠0) (h:n*d'=n'*d):E3 n d=E3 n' d'/\resN n d=resN n' d'/\resD n d=resD n' d':=by
 obtain ⟨h1,h2⟩:=Ap7 hd d8 h;have hf:E3 n d=E3 n' d':=by
  unfold E3;rw [h1,h2];simp [hd,d8]
 exact ⟨hf,by unfold resN; rw [hf,h1],by unfold resD; rw [hf,h2]⟩
theorem Zo {n d:Int} (h:E3 n d=true):d≠0:=by
 unfold E3 at h;simp at h;exact h.1.1
theorem Acf {n d:Int} (h:E3 n d=true):H4 (resN n d) (resD n d):=by
 have hd:=Zo h;unfold resN resD;rw [h];simp only [if_true];refine ⟨M0 hd,Pz hd,?_,?_⟩
 ·unfold E3 okZ at h; simp at h; exact h.1.2
 ·unfold E3 okZ at h; simp at h; exact h.2
theorem Ah9 {n d:Int} (h:E3 n d=true):resN n d*d=n*resD n d:=by
 have hd:=Zo h;unfold resN resD;rw [h];exact Kj hd
theorem H4.fits {n d:Int} (h:H4 n d):E3 n d=true/\resN n d=n/\resD n d=d:=by
 obtain ⟨h1,h2⟩:=h.low;have hf:E3 n d=true:=by
  unfold E3 okZ;rw [h1,h2];have:=h.pos;simp only [Cf,F3,decide_eq_false_iff_not,decide_eq_true_eq];have h8:=h.ln;have h9:=h.ld;exact ⟨⟨aA,aA⟩,aA⟩
 exact ⟨hf,by unfold resN; rw [hf,h1]; rfl,by unfold resD; rw [hf,h2]; rfl⟩
theorem Alb {n d:Int} (h:E3 n d=false):resN n d=0/\resD n d=0:=by
 unfold resN resD; rw [h]; exact ⟨rfl,rfl⟩
abbrev Q:=Int × Int
structure Fld where
 whole:Int->Q × Bool
 minus:Q->Q->Q × Bool
 times:Q->Q->Q × Bool
 over:Q->Q->Q × Bool
 ok:Q->Prop
 rat:Q->Q
 stop:Bool
def sgn (a:Q):Int:=if a.1<0 then -1 else if 0<a.1 then 1 else 0
def bigF (n d:Int):Bool:=decide (n<=-2147483648) || decide (n >= 2147483648) || decide (d >= 2147483648) || decide (d=0)
def qn (n d:Int):Q × Bool:=if bigF (lowN n d) (lowD n d)=true then ((0,1),true) else ((lowN n d,lowD n d),false)
def okS (a:Q):Prop:=-2147483648<a.1/\a.1<2147483648/\0<a.2/\a.2<2147483648
def QQ.qF:Fld where
 whole n:=if n<=-2147483648\/n >= 2147483648 then ((0,1),true) else ((n,1),false)
 minus a b:=qn (a.1*b.2 - b.1*a.2) (a.2*b.2)
 times a b:=qn (a.1*b.1) (a.2*b.2)
 over a b:=if b.1=0 then ((0,1),true) else qn (a.1*b.2) (a.2*b.1)
 ok:=okS
 rat a:=(resN a.1 a.2,resD a.1 a.2)
 stop:=true
def wn (n d:Int):Q × Bool:=((resN n d,resD n d),!E3 n d)
def qz (a:Q):Q:=if a.2=0 then (0,1) else a
def okW (a:Q):Prop:=H4 a.1 a.2\/a=(0,0)
def WW.qF:Fld where
 whole n:=((n,1),false)
 minus a b:=wn ((qz a).1*(qz b).2+-(qz b).1*(qz a).2) ((qz a).2*(qz b).2)
 times a b:=wn ((qz a).1*(qz b).1) ((qz a).2*(qz b).2)
 over a b:=wn ((qz a).1*(qz b).2) ((qz a).2*(qz b).1)
 ok:=okW
 rat a:=a
 stop:=false
theorem Xw:H4 0 1:=⟨aL,rfl,aO,aO⟩
theorem Aqs {n d:Int} (h:H4 n d):qz (n,d)=(n,d):=by
 have:=h.pos;unfold qz; rw [if_neg bM]
theorem qz_n {a:Q} (h:okW a):nQ (decide (a.1<0)) (dig a.1.natAbs) (decide (a.2<0)) (dig a.2.natAbs)=(qz a).1/\dQ (decide (a.1<0)) (dig a.1.natAbs) (decide (a.2<0)) (dig a.2.natAbs)=(qz a).2:=by
 rcases h with h|rfl
 ·obtain ⟨n,d⟩:=a;rw [Aqs h];exact ⟨h.nQ,h.dQ⟩
 ·refine ⟨?_,?_⟩ <;> decide +kernel
theorem L7 {a:Q} (h:okW a):(dig a.1.natAbs).length<=200/\(dig a.2.natAbs).length<=200:=by
 rcases h with h|rfl
 ·exact ⟨h.ln,h.ld⟩
 ·refine ⟨?_,?_⟩ <;> decide +kernel
theorem Aqw {a:Q} (h:okW a):sgn (qz a)=sgn a:=by
 rcases h with h|rfl
 ·obtain ⟨n,d⟩:=a;rw [Aqs h]
 ·rfl
theorem Aol (n d:Int):okW (wn n d).1:=by
 unfold wn;cases h:E3 n d with
 | true=>exact .inl (Acf h)
 | false=>obtain ⟨h1,h2⟩:=Alb h; rw [h1,h2]; exact .inr rfl
theorem Adr (n d:Int):0<=lowD n d:=fL _
theorem Ak5 (n d:Int):okS (qn n d).1:=by
 unfold qn bigF;split
 ·exact ⟨aL,aL,aL,aL⟩
 ·rename_i h;simp only [Fz,decide_eq_true_eq] at h;have:=Adr n d;refine ⟨?_,?_,?_,?_⟩ <;> simp only <;> omega
structure Fld.Keeps (F:Fld):Prop where
 whole:∀ n,i64 n->F.ok (F.whole n).1
 minus:∀ a b,F.ok a->F.ok b->F.ok (F.minus a b).1
 times:∀ a b,F.ok a->F.ok b->F.ok (F.times a b).1
 over:∀ a b,F.ok a->F.ok b->F.ok (F.over a b).1
theorem QQ.Da:QQ.qF.Keeps:=by
 refine ⟨fun n _=>?_,fun a b _ _=>Ak5 _ _,fun a b _ _=>Ak5 _ _,fun a b _ _=>?_⟩
 ·simp only [QQ.qF];split
  ·exact ⟨aL,aL,aL,aL⟩
  ·refine ⟨?_,?_,?_,?_⟩ <;> simp only <;> omega
 ·simp only [QQ.qF];split
  ·exact ⟨aL,aL,aL,aL⟩
  ·exact Ak5 _ _
theorem WW.Da:WW.qF.Keeps:=by
 refine ⟨fun n hn=>.inl ?_,fun a b _ _=>Aol _ _,fun a b _ _=>Aol _ _,fun a b _ _=>Aol _ _⟩;simp only [WW.qF];have h1:(dig (1:Int).natAbs).length<=200:=aO
 refine ⟨by simp,by simp,?_,h1⟩;refine Bg.2 ?_;unfold i64 at hn;exact Ya21
end
section
open Go Tryz
set_option maxHeartbeats 4000000
set_option maxRecDepth 100000
def frA (a:Q):AV:=.agg [.int a.1,.int a.2]
def QQ.flS (S:List Ent) (iq eq:Nat) (b:Bool):List Ent:=bif b then put S iq ⟨eq,[.prim (.bool true)]⟩ else S
theorem Es {S:List Ent} {iq eq:Nat} : QQ.flS S iq eq false=S:=rfl
theorem A3 {S:List Ent} {iq eq:Nat} : QQ.flS S iq eq true=put S iq ⟨eq,[.prim (.bool true)]⟩:=rfl
theorem QQ.Be {S:List Ent} {iq eq:Nat} {b:Bool} : (QQ.flS S iq eq b).length=S.length:=by
 cases b
 ·rfl
 ·exact Am
theorem Ay {S:List Ent} {iq eq j:Nat} {b:Bool} (h:j≠iq):nth (QQ.flS S iq eq b) j=nth S j:=by
 cases b
 ·rfl
 ·exact Ad h.symm
theorem A5 {S:List Ent} {i e:Nat} {cs:List AV} (h:entAt S i e=some cs):i<S.length:=by
 obtain ⟨x,h1,-⟩:=Dq h;exact Bb h1
theorem Di {α:Type} {l:List α} {i:Nat} {v:α} (h:i<l.length):nth (put l i v) i=some v:=by
 induction l generalizing i with
 | nil=>simp at h
 | cons x l ih=>cases i with
  | zero=>rfl
  | succ i=>exact ih aI
theorem Ag {S:List Ent} {i e:Nat} {cs:List AV} (h:i<S.length):entAt (put S i ⟨e,cs⟩) i e=some cs:=by
 simp [entAt,Di h]
theorem Af {S:List Ent} {i j e:Nat} {x:Ent} (h:i≠j):entAt (put S i x) j e=entAt S j e:=by
 simp [entAt,Ad h]
theorem Aa {S S':List Ent} {j e:Nat} (h:nth S' j=nth S j):entAt S' j e=entAt S j e:=by simp [entAt,h]
theorem Agi {S:List Ent} {iq eq:Nat} {b c:Bool} (h:entAt S iq eq=some [.prim (.bool b)]):entAt (QQ.flS S iq eq c) iq eq=some [.prim (.bool (b || c))]:=by
 cases c
 ·rw [Es,Fk]; exact h
 ·rw [A3,Ag (A5 h),Bool.or_true]
theorem Apy {S:List Ent} {iq eq:Nat} {b c:Bool} (h:entAt S iq eq=some [.prim (.bool b)]):gO S (QQ.flS S iq eq c)=some ():=by
 refine Agt ⟨QQ.Be,fun j=>?_⟩;by_cases e:j=iq
 ·subst e;obtain ⟨x,h1,h2,h3⟩:=Dq h;obtain ⟨ep,cs⟩:=x;simp only at h2 h3;subst h2 h3;cases c
  ·exact .inl rfl
  ·exact .inr ⟨_,b,true,h1,Di (Bb h1)⟩
 ·exact .inl (Ay e)
theorem Ab {S:List Ent} {L:List Ent} {i e:Nat} {cs:List AV} (h:entAt S i e=some cs):entAt (S++L) i e=some cs:=by
 have hl:=A5 h;unfold entAt at h ⊢;rw [Ae] at h ⊢;rw [Cp hl]; exact h
theorem Dj {S L:List Ent} {i:Nat} {x:Ent} (h:i<S.length):put (S++L) i x=put S i x++L:=by
 induction S generalizing i with
 | nil=>simp at h
 | cons y S ih=>cases i with
  | zero=>rfl
  | succ i=>simp only [Co,put,ih aI]
theorem Vf {S L:List Ent} {iq eq:Nat} {b:Bool} (h:iq<S.length):QQ.flS (S++L) iq eq b=QQ.flS S iq eq b++L:=by
 cases b
 ·rfl
 ·exact Dj h
theorem Hc {S L:List Ent} : (S++L).take S.length=S:=by simp
theorem Al {S:List Ent} {n k:Nat} {cs:List AV} (h:S.length=n):entAt (S++[⟨k,cs⟩]) n k=some cs:=by subst h; exact Bz
theorem De {S:List Ent} {n:Nat} {e e':Ent} (h:S.length=n):put (S++[e]) n e'=S++[e']:=by subst h; exact put_new
theorem Jh {S L:List Ent} {n:Nat} (h:S.length=n):(S++L).take n=S:=by subst h; exact Hc
theorem Dh (x:Int) (g:Nat):(x.tdiv g).natAbs<=x.natAbs:=by
 rw [Int.natAbs_tdiv]; exact Oz _ _
theorem Ak4 (n d:Int) (hn:n.natAbs<9223372036854775808) (hd:d.natAbs<9223372036854775808) (g:Nat) (hg:g=n.natAbs.gcd d.natAbs) (N:Int) (D:Nat) (hN:N=if d<0 then -n else n) (hD:D=d.natAbs) :
  lowN n d=(if 1<g then N.tdiv (g:Int) else N)/\lowD n d=(if 1<g then (D:Int).tdiv (g:Int) else (D:Int)):=by
 subst hN hD;have hNn:(if d<0 then -n else n).natAbs=n.natAbs:=by split <;> omega
 unfold lowN lowD;rw [<- hg];by_cases h1:1<g
 ·rw [if_pos h1,if_pos h1];exact ⟨rfl,by rw [C9 aA]; rfl⟩
 ·rw [if_neg h1,if_neg h1];rcases Ic 0 g with h0|h0
  ·have:g=1:=aA
   subst this;exact ⟨by simp,by simp⟩
  ·have x8:g=0:=aA
   rw [x8] at hg;have ha:=Nat.gcd_eq_zero_iff.1 hg.symm;have j0:n=0:=aA
   have cw:d=0:=aA
   subst j0; subst cw;exact ⟨by simp,by simp⟩
section
variable (S:List Ent) (tk:List Nat) (k iq eq:Nat) (b:Bool)
theorem Kr (n d:Int) (hn:n.natAbs<9223372036854775808) (hd:d.natAbs<9223372036854775808) (hq:entAt S iq eq=some [.prim (.bool b)]):cL prog 223 [.ref iq eq 0,.int n,.int d] S tk k=some (frA (qn n d).1,QQ.flS S iq eq (qn n d).2,tk,k+1):=by
 have bj:=A5 hq;have bw:entAt (S++[⟨k,[.prim (.int .i64 0),.prim (.int .i64 0)]⟩]) iq eq=some [.prim (.bool b)]:=Ab hq;refine opS func223 ntmps223 ?_;obtain ⟨N,hN⟩:∃ N,N=if d<0 then -n else n:=⟨_,rfl⟩
 obtain ⟨D,hD⟩:∃ D:Nat,D=d.natAbs:=⟨_,rfl⟩;obtain ⟨g,hg⟩:∃ g:Nat,g=n.natAbs.gcd d.natAbs:=⟨_,rfl⟩;have hNn:N.natAbs=n.natAbs:=by subst hN; split <;> omega
 obtain ⟨f1,f2⟩:=Ak4 n d hn hd g hg N D hN hD;obtain ⟨r,hr⟩:∃ r,r=qn n d:=⟨_,rfl⟩;have ab:=hr;unfold qn bigF at ab;rw [f1,f2] at ab;rw [<- hr];have dk:(put S iq ⟨eq,[.prim (.bool true)]⟩).length=S.length:=Am;have hE cs:=Al (k:=k) (cs:=cs) dk;have hP e e':=De (e:=e) (e':=e') dk;have hT L:=Jh (L:=L) dk;have hA L x:=Dj (L:=L) (x:=x) bj;by_cases hneg:d<0
 ·have d1:decide (d<0)=true:=cD
  have w1':Ce.wrap (0 - n)=N:=by rw [hN,if_pos hneg,Ac aD]; omega
  have w2':Ce.wrap (0 - d)=((D:Nat):Int):=by rw [hD,Ac aD]; omega
  by_cases j0:N<0
  ·have d2:decide (N<0)=true:=fD
   have w3':Ce.wrap (0 - N)=((N.natAbs:Nat):Int):=aT
   simp (maxSteps:=10^6)+contextual(disch:=try exact dqd)only[evs0,simprocAttr,Cg,Ca,Ch,results223,d1,w1',w2',d2,w3'];refine Adp (P:=prog) (fun x st=>st.T.length=56/\(x.1.gcd x.2=g)/\(x.1<9223372036854775808)/\(x.2<9223372036854775808)/\getT st.T 0=.ref iq eq 0/\getT st.T 1=.int N/\getT st.T 2=.int (D:Nat)/\getT st.T 6=.ref S.length k 0/\getT st.T 7=.int (x.1:Nat)/\getT st.T 8=.int (x.2:Nat)/\st.S=S++[⟨k,[.int 0,.int 0]⟩]/\st.tk=tk/\st.n=k+1) (fun x=>x.2) (fun x=>(frA r.1,QQ.flS S iq eq r.2,tk,k+1)) (N.natAbs,D) ?_ ?_;case refine_2=>exact ⟨rfl,fE,aA,aA,rfl,rfl,rfl,rfl,rfl,rfl,rfl,rfl,rfl⟩
   rintro ⟨x,y⟩ ⟨T,S',tk',n'⟩ ⟨hl,mq,hx,hy,e0,e1,e2,e6,e7,e8,eS,eT,eN⟩ IH;simp only at mq hx hy e0 e1 e2 e6 e7 e8 eS eT eN;subst eS eT eN;obtain ⟨g,hg,hT⟩:=Aw hl;rw [hg] at e0 e1 e2 e6 e7 e8;subst hT;clear hg hl;by_cases h0:y=0
   ·subst h0;have c1:(((0:Nat):Int) != 0)=false:=rfl;rw [Sa] at mq;subst mq;by_cases h1:1<x
    ·rw [if_pos h1,if_pos h1] at ab;have c2:decide ((x:Int) > 1)=true:=aB
     have hz:¬ ((x:Int)=0):=aA
     have v1:=Dh N x;have v2:=Dh (D:Int) x;have w5:Ce.wrap (N.tdiv (x:Int))=N.tdiv (x:Int):=Ac aD;have w6:Ce.wrap ((D:Int).tdiv (x:Int))=(D:Int).tdiv (x:Int):=Ac aD;by_cases b1:N.tdiv (x:Int)<=-2147483648
     ·have k1:decide (N.tdiv (x:Int)<=-2147483648)=true:=aX
      exact Yab
     have k1:decide (N.tdiv (x:Int)<=-2147483648)=false:=aX
     by_cases b2:N.tdiv (x:Int) >= 2147483648
     ·have k2:decide (N.tdiv (x:Int) >= 2147483648)=true:=aY
      exact Yaa
     have k2:decide (N.tdiv (x:Int) >= 2147483648)=false:=aY
     exact Ya1
    ·rw [if_neg h1,if_neg h1] at ab;have c2:decide ((x:Int) > 1)=false:=aB
     by_cases b1:N<=-2147483648
     ·have k1:decide (N<=-2147483648)=true:=aX
      exact Yad
     have k1:decide (N<=-2147483648)=false:=aX
     by_cases b2:N >= 2147483648
     ·have k2:decide (N >= 2147483648)=true:=aY
      exact Yac
     have k2:decide (N >= 2147483648)=false:=aY
     exact Ya2
   ·exact Ya5
  ·have d2:decide (N<0)=false:=fD
   simp (maxSteps:=10^6)+contextual(disch:=try exact dqd)only[evs0,simprocAttr,Cg,Ca,Ch,results223,d1,w1',w2',d2];obtain ⟨M,hM⟩:∃ M:Nat,N=M:=⟨N.natAbs,aA⟩;exact Ya0
 ·have d1:decide (d<0)=false:=cD
  have a2a:n=N:=by rw [hN,if_neg hneg]
  have hDd:d=(D:Int):=aA
  subst a2a;subst hDd;by_cases j0:n<0
  ·have d2:decide (n<0)=true:=fD
   have w3':Ce.wrap (0 - n)=((n.natAbs:Nat):Int):=aT
   simp (maxSteps:=10^6)+contextual(disch:=try exact dqd)only[evs0,simprocAttr,Cg,Ca,Ch,results223,d1,d2,w3'];refine Adp (P:=prog) (fun x st=>st.T.length=56/\(x.1.gcd x.2=g)/\(x.1<9223372036854775808)/\(x.2<9223372036854775808)/\getT st.T 0=.ref iq eq 0/\getT st.T 1=.int n/\getT st.T 2=.int (D:Nat)/\getT st.T 6=.ref S.length k 0/\getT st.T 7=.int (x.1:Nat)/\getT st.T 8=.int (x.2:Nat)/\st.S=S++[⟨k,[.int 0,.int 0]⟩]/\st.tk=tk/\st.n=k+1) (fun x=>x.2) (fun x=>(frA r.1,QQ.flS S iq eq r.2,tk,k+1)) (n.natAbs,D) ?_ ?_;case refine_2=>exact ⟨rfl,fE,aA,aA,rfl,rfl,rfl,rfl,rfl,rfl,rfl,rfl,rfl⟩
   rintro ⟨x,y⟩ ⟨T,S',tk',n'⟩ ⟨hl,mq,hx,hy,e0,e1,e2,e6,e7,e8,eS,eT,eN⟩ IH;simp only at mq hx hy e0 e1 e2 e6 e7 e8 eS eT eN;subst eS eT eN;obtain ⟨g,hg,hT⟩:=Aw hl;rw [hg] at e0 e1 e2 e6 e7 e8;subst hT;clear hg hl;by_cases h0:y=0
   ·subst h0;have c1:(((0:Nat):Int) != 0)=false:=rfl;rw [Sa] at mq;subst mq;by_cases h1:1<x
    ·rw [if_pos h1,if_pos h1] at ab;have c2:decide ((x:Int) > 1)=true:=aB
     have hz:¬ ((x:Int)=0):=aA
     have v1:=Dh n x;have v2:=Dh (D:Int) x;have w5:Ce.wrap (n.tdiv (x:Int))=n.tdiv (x:Int):=Ac aD;have w6:Ce.wrap ((D:Int).tdiv (x:Int))=(D:Int).tdiv (x:Int):=Ac aD;by_cases b1:n.tdiv (x:Int)<=-2147483648
     ·have k1:decide (n.tdiv (x:Int)<=-2147483648)=true:=aX
      exact Yab
     have k1:decide (n.tdiv (x:Int)<=-2147483648)=false:=aX
     by_cases b2:n.tdiv (x:Int) >= 2147483648
     ·have k2:decide (n.tdiv (x:Int) >= 2147483648)=true:=aY
      exact Yaa
     have k2:decide (n.tdiv (x:Int) >= 2147483648)=false:=aY
     exact Ya1
    ·rw [if_neg h1,if_neg h1] at ab;have c2:decide ((x:Int) > 1)=false:=aB
     by_cases b1:n<=-2147483648
     ·have k1:decide (n<=-2147483648)=true:=aX
      exact Yad
     have k1:decide (n<=-2147483648)=false:=aX
     by_cases b2:n >= 2147483648
     ·have k2:decide (n >= 2147483648)=true:=aY
      exact Yac
     have k2:decide (n >= 2147483648)=false:=aY
     exact Ya2
   ·exact Ya5
  ·have d2:decide (n<0)=false:=fD
   simp (maxSteps:=10^6)+contextual(disch:=try exact dqd)only[evs0,simprocAttr,Cg,Ca,Ch,results223,d1,d2];obtain ⟨M,hM⟩:∃ M:Nat,n=M:=⟨n.natAbs,aA⟩;exact Ya0
end
end
section
open Go Tryz
theorem L8 {a b:Int} (ha:a.natAbs<2147483648) (hb:b.natAbs<2147483648):(a*b).natAbs<4611686018427387904:=by
 rw [Ik];exact Nat.mul_lt_mul'' ha hb
theorem L6 {a:Q} (h:okS a):a.1.natAbs<2147483648/\a.2.natAbs<2147483648:=by
 obtain ⟨h1,h2,h3,h4⟩:=h;omega
theorem new3a {S:List Ent} {e2 e3:Ent} {k:Nat} {c:List AV} : entAt (S++[⟨k,c⟩]++[e2]++[e3]) S.length k=some c:=Ab (Ab Bz)
theorem new3b {S:List Ent} {e1 e3:Ent} {k:Nat} {c:List AV} : entAt (S++[e1]++[⟨k,c⟩]++[e3]) (S++[e1]).length k=some c:=Ab Bz
theorem new3c {S S':List Ent} {e1 e2 x1 x2:Ent} {k:Nat} {c:List AV} (h:S'.length=S.length):entAt (S'++[e1]++[e2]++[⟨k,c⟩]) (S++[x1]++[x2]).length k=some c:=Al cJ
theorem put3c {S S':List Ent} {e1 e2 x1 x2 e e':Ent} (h:S'.length=S.length):put (S'++[e1]++[e2]++[e]) (S++[x1]++[x2]).length e'=S'++[e1]++[e2]++[e']:=De cJ
theorem take3 {S S':List Ent} {e1 e2 e3:Ent} (h:S'.length=S.length):(S'++[e1]++[e2]++[e3]).take S.length=S':=by rw [<- h]; simp
theorem flS3 {S:List Ent} {e1 e2 e3:Ent} {iq eq:Nat} {b:Bool} (h:iq<S.length):QQ.flS (S++[e1]++[e2]++[e3]) iq eq b=QQ.flS S iq eq b++[e1]++[e2]++[e3]:=by
 rw [Vf aB,Vf aB,Vf h]
theorem new1a {S:List Ent} {k:Nat} {c:List AV} : entAt (S++[⟨k,c⟩]) S.length k=some c:=Bz
section
variable (S:List Ent) (tk:List Nat) (k iq eq:Nat) (fl:Bool)
theorem Aac (a b:Q) (ha:okS a) (hb:okS b) (hq:entAt S iq eq=some [.prim (.bool fl)]):cL prog 217 [.ref iq eq 0,frA a,frA b] S tk k=some (frA (QQ.qF.minus a b).1,QQ.flS S iq eq (QQ.qF.minus a b).2,tk,k+4):=by
 obtain ⟨pe,l6⟩:=L6 ha;obtain ⟨hb1,hb2⟩:=L6 hb;obtain ⟨an,ad⟩:=a;obtain ⟨bn,bd⟩:=b;simp only at pe l6 hb1 hb2;have p1:=L8 pe hb2;have p2:=L8 hb1 l6;have p3:=L8 l6 hb2;have p4:=L8 pe hb1;have p5:=L8 l6 hb1;have v1:Ce.wrap (an*bd)=an*bd:=Ac aD;have v2:Ce.wrap (bn*ad)=bn*ad:=Ac aD;have v3:Ce.wrap (ad*bd)=ad*bd:=Ac aD;have v4:Ce.wrap (an*bn)=an*bn:=Ac aD;have v5:Ce.wrap (ad*bn)=ad*bn:=Ac aD;have v6:Ce.wrap (an*bd - bn*ad)=an*bd - bn*ad:=Ac aD;have bj:=A5 hq;have hq3:entAt (S++[⟨k,[.int an,.int ad]⟩]++[⟨k+1,[.int bn,.int bd]⟩]++[⟨k+1+1,[.int 0,.int 0]⟩]) iq eq=some [.prim (.bool fl)]:=Ab (Ab (Ab hq));refine opS func217 ntmps217 ?_;have hN:=Kr _ tk (k+1+1+1) iq eq fl (an*bd - bn*ad) (ad*bd) aA aA hq3;rw [flS3 bj] at hN;have dk:=QQ.Be (S:=S) (iq:=iq) (eq:=eq) (b:=(qn (an*bd - bn*ad) (ad*bd)).2);simp only [frA] at hN;simp (maxSteps:=10^6)+contextual(disch:=try exact dqd)only[evs0,simprocAttr,Cg,Ca,Ch,results217,frA,v1,v2,v3,v6,hN,new3a,new3b,new3c dk,put3c dk,take3 dk,QQ.qF]
theorem Aad (a b:Q) (ha:okS a) (hb:okS b) (hq:entAt S iq eq=some [.prim (.bool fl)]):cL prog 221 [.ref iq eq 0,frA a,frA b] S tk k=some (frA (QQ.qF.times a b).1,QQ.flS S iq eq (QQ.qF.times a b).2,tk,k+4):=by
 obtain ⟨pe,l6⟩:=L6 ha;obtain ⟨hb1,hb2⟩:=L6 hb;obtain ⟨an,ad⟩:=a;obtain ⟨bn,bd⟩:=b;simp only at pe l6 hb1 hb2;have p1:=L8 pe hb2;have p2:=L8 hb1 l6;have p3:=L8 l6 hb2;have p4:=L8 pe hb1;have p5:=L8 l6 hb1;have v1:Ce.wrap (an*bd)=an*bd:=Ac aD;have v2:Ce.wrap (bn*ad)=bn*ad:=Ac aD;have v3:Ce.wrap (ad*bd)=ad*bd:=Ac aD;have v4:Ce.wrap (an*bn)=an*bn:=Ac aD;have v5:Ce.wrap (ad*bn)=ad*bn:=Ac aD;have v6:Ce.wrap (an*bd - bn*ad)=an*bd - bn*ad:=Ac aD;have bj:=A5 hq;have hq3:entAt (S++[⟨k,[.int an,.int ad]⟩]++[⟨k+1,[.int bn,.int bd]⟩]++[⟨k+1+1,[.int 0,.int 0]⟩]) iq eq=some [.prim (.bool fl)]:=Ab (Ab (Ab hq));refine opS func221 ntmps221 ?_;have hN:=Kr _ tk (k+1+1+1) iq eq fl (an*bn) (ad*bd) aA aA hq3;rw [flS3 bj] at hN;have dk:=QQ.Be (S:=S) (iq:=iq) (eq:=eq) (b:=(qn (an*bn) (ad*bd)).2);simp only [frA] at hN;simp (maxSteps:=10^6)+contextual(disch:=try exact dqd)only[evs0,simprocAttr,Cg,Ca,Ch,results221,frA,v3,v4,hN,new3a,new3b,new3c dk,put3c dk,take3 dk,QQ.qF]
def QQ.Xy (b:Q):Nat:=if b.1=0 then 3 else 4
theorem Ad1 (a b:Q) (ha:okS a) (hb:okS b) (hq:entAt S iq eq=some [.prim (.bool fl)]):cL prog 218 [.ref iq eq 0,frA a,frA b] S tk k=some (frA (QQ.qF.over a b).1,QQ.flS S iq eq (QQ.qF.over a b).2,tk,k+QQ.Xy b):=by
 obtain ⟨pe,l6⟩:=L6 ha;obtain ⟨hb1,hb2⟩:=L6 hb;obtain ⟨an,ad⟩:=a;obtain ⟨bn,bd⟩:=b;simp only at pe l6 hb1 hb2;have p1:=L8 pe hb2;have p2:=L8 hb1 l6;have p3:=L8 l6 hb2;have p4:=L8 pe hb1;have p5:=L8 l6 hb1;have v1:Ce.wrap (an*bd)=an*bd:=Ac aD;have v2:Ce.wrap (bn*ad)=bn*ad:=Ac aD;have v3:Ce.wrap (ad*bd)=ad*bd:=Ac aD;have v4:Ce.wrap (an*bn)=an*bn:=Ac aD;have v5:Ce.wrap (ad*bn)=ad*bn:=Ac aD;have v6:Ce.wrap (an*bd - bn*ad)=an*bd - bn*ad:=Ac aD;have bj:=A5 hq;have hq3:entAt (S++[⟨k,[.int an,.int ad]⟩]++[⟨k+1,[.int bn,.int bd]⟩]++[⟨k+1+1,[.int 0,.int 0]⟩]) iq eq=some [.prim (.bool fl)]:=Ab (Ab (Ab hq));refine opS func218 ntmps218 ?_;by_cases hz:bn=0
 ·have d1:(bn == 0)=true:=cG
  have jy:QQ.qF.over (an,ad) (bn,bd)=((0,1),true):=by simp [QQ.qF,hz]
  have hko:QQ.Xy (bn,bd)=3:=by simp [QQ.Xy,hz]
  have dm:∀ e1 e2 e3,put (S++[e1]++[e2]++[e3]) iq ⟨eq,[.prim (.bool true)]⟩=QQ.flS S iq eq true++[e1]++[e2]++[e3]:=fun e1 e2 e3=>flS3 (b:=true) bj;have dk:=QQ.Be (S:=S) (iq:=iq) (eq:=eq) (b:=true);rw [jy,hko];simp (maxSteps:=10^6)+contextual(disch:=try exact dqd)only[evs0,simprocAttr,Cg,Ca,Ch,results218,frA,d1,hq3,dm,new3a,new3b,new3c dk,put3c dk,take3 dk]
 ·have d1:(bn == 0)=false:=cG
  have jy:QQ.qF.over (an,ad) (bn,bd)=qn (an*bd) (ad*bn):=by simp [QQ.qF,hz]
  have hko:QQ.Xy (bn,bd)=4:=by simp [QQ.Xy,hz]
  have hN:=Kr _ tk (k+1+1+1) iq eq fl (an*bd) (ad*bn) aA aA hq3;rw [flS3 bj] at hN;have dk:=QQ.Be (S:=S) (iq:=iq) (eq:=eq) (b:=(qn (an*bd) (ad*bn)).2);simp only [frA] at hN;rw [jy,hko];simp (maxSteps:=10^6)+contextual(disch:=try exact dqd)only[evs0,simprocAttr,Cg,Ca,Ch,results218,frA,d1,v1,v5,hN,new3a,new3b,new3c dk,put3c dk,take3 dk]
theorem Aae (n:Int) (hq:entAt S iq eq=some [.prim (.bool fl)]):cL prog 222 [.ref iq eq 0,.int n] S tk k=some (frA (QQ.qF.whole n).1,QQ.flS S iq eq (QQ.qF.whole n).2,tk,k+1):=by
 have bj:=A5 hq;have bw:entAt (S++[⟨k,[.int 0,.int 0]⟩]) iq eq=some [.prim (.bool fl)]:=Ab hq;have dk:(put S iq ⟨eq,[.prim (.bool true)]⟩).length=S.length:=Am;have hE cs:=Al (k:=k) (cs:=cs) dk;have hP e e':=De (e:=e) (e':=e') dk;have hT L:=Jh (L:=L) dk;have hA L x:=Dj (L:=L) (x:=x) bj;refine opS func222 ntmps222 ?_;by_cases b1:n<=-2147483648
 ·have k1:decide (n<=-2147483648)=true:=aX
  have hr:QQ.qF.whole n=((0,1),true):=by simp [QQ.qF,b1]
  rw [hr];simp (maxSteps:=10^6)+contextual(disch:=try exact dqd)only[evs0,simprocAttr,Cg,Ca,Ch,results222,frA,A3,k1,bw,hE,hP,hT,hA]
 have k1:decide (n<=-2147483648)=false:=aX
 by_cases b2:n >= 2147483648
 ·have k2:decide (n >= 2147483648)=true:=aY
  have hr:QQ.qF.whole n=((0,1),true):=by simp only [QQ.qF]; rw [if_pos (.inr b2)]
  rw [hr];simp (maxSteps:=10^6)+contextual(disch:=try exact dqd)only[evs0,simprocAttr,Cg,Ca,Ch,results222,frA,A3,k1,k2,bw,hE,hP,hT,hA]
 have k2:decide (n >= 2147483648)=false:=aY
 have hr:QQ.qF.whole n=((n,1),false):=by simp only [QQ.qF]; rw [if_neg aA]
 rw [hr];simp (maxSteps:=10^6)+contextual(disch:=try exact dqd)only[evs0,simprocAttr,Cg,Ca,Ch,results222,frA,Es,k1,k2,bw]
theorem Ad2 (a:Q) (hq:entAt S iq eq=some [.prim (.bool fl)]):cL prog 220 [.ref iq eq 0,frA a] S tk k=some (.int (sgn a),S,tk,k+1):=by
 obtain ⟨an,ad⟩:=a;refine opS func220 ntmps220 ?_;by_cases h1:an<0
 ·have k1:decide (an<0)=true:=aU
  have hr:sgn (an,ad)=-1:=by simp [sgn,h1]
  rw [hr];simp (maxSteps:=10^6)+contextual(disch:=try exact dqd)only[evs0,simprocAttr,Cg,Ca,Ch,results220,frA,k1,new1a,Hc]
 have k1:decide (an<0)=false:=aU
 by_cases h2:an > 0
 ·have k2:decide (an > 0)=true:=cM
  have hr:sgn (an,ad)=1:=by simp only [sgn]; rw [if_neg h1,if_pos h2]
  exact Ya0s
 have k2:decide (an > 0)=false:=cM
 have hr:sgn (an,ad)=0:=by simp only [sgn]; rw [if_neg h1,if_neg h2]
 exact Ya0s
theorem Aab (hq:entAt S iq eq=some [.prim (.bool fl)]):cL prog 216 [.ref iq eq 0] S tk k=some (.bool (!fl),S,tk,k):=by
 refine opS func216 ntmps216 ?_;simp (maxSteps:=10^6)+contextual(disch:=try exact dqd)only[evs0,simprocAttr,Cg,Ca,Ch,results216,hq]
theorem Of_z (n d:Int) (hn:(dig n.natAbs).length<=200) (hd:(dig d.natAbs).length<=200):cL prog 224 [zA n,zA d] S tk k=some (resQ n d,S,tk,k):=by
 have h:=Aqt S tk k (decide (n<0)) (dig n.natAbs) (decide (d<0)) (dig d.natAbs) aA aA;unfold ofQ at h;rw [V_of _ hn,V_of _ hd] at h;by_cases h0:D5 (decide (n<0)) (dig n.natAbs)=true
 ·rw [if_pos h0] at h; exact h
 ·exact absurd (Qa n hn) h0
theorem digS {n:Int} (h:n.natAbs<2147483648):(dig n.natAbs).length<=200:=by
 refine Bg.2 ?_;exact Ya21
theorem Tj (a:Q) (ha:okS a) (_:entAt S iq eq=some [.prim (.bool fl)]):cL prog 219 [.ref iq eq 0,frA a] S tk k=some (qA (resN a.1 a.2) (resD a.1 a.2),S,tk,k+3):=by
 obtain ⟨pe,l6⟩:=L6 ha;obtain ⟨an,ad⟩:=a;simp only at pe l6;have h1 S tk k:=Qk S tk k an aD;have h2 S tk k:=Qk S tk k ad aD;have h3 S tk k:=Of_z S tk k an ad (digS pe) (digS l6);simp only [zA,bigA,digA] at h1 h2 h3;simp only [resQ,qA,ratA,digA] at h3 ⊢;refine opS func219 ntmps219 ?_;simp (maxSteps:=10^6)+contextual(disch:=try exact dqd)only[evs1,simprocAttr,Cg,Ca,Ch,results219,frA,digA,h1,h2,h3,new1a,Hc];rw [take3 rfl]
end
def raA (a:Q):AV:=qA a.1 a.2
section
variable (S:List Ent) (tk:List Nat) (k:Nat)
theorem Aed (a b:Q) (ha:okW a) (hb:okW b):cL prog 243 [.agg [],raA a,raA b] S tk k=some (raA (WW.qF.minus a b).1,S,tk,k):=by
 obtain ⟨l1,l2⟩:=L7 ha;obtain ⟨l3,l4⟩:=L7 hb;obtain ⟨g1,g2⟩:=qz_n ha;obtain ⟨g3,g4⟩:=qz_n hb;obtain ⟨an,ad⟩:=a;obtain ⟨bn,bd⟩:=b;simp only at l1 l2 l3 l4 g1 g2 g3 g4;have hJ S tk k:=Ak8 S tk k (decide (an<0)) (dig an.natAbs) (decide (ad<0)) (dig ad.natAbs) (decide (bn<0)) (dig bn.natAbs) (decide (bd<0)) (dig bd.natAbs) aA aA aA aA;rw [g1,g2,g3,g4] at hJ;refine opP func243 ntmps243 (hp3:=rfl) ?_;simp only [resQ,raA,qA,ratA,digA] at hJ ⊢;simp (maxSteps:=10^6)+contextual(disch:=try exact dqd)only[ev1,simprocAttr,Cg,Ca,Ch,results243,raA,qA,ratA,digA,WW.qF,wn,hJ];exact ⟨rfl,rfl⟩
theorem Aee (a b:Q) (ha:okW a) (hb:okW b):cL prog 247 [.agg [],raA a,raA b] S tk k=some (raA (WW.qF.times a b).1,S,tk,k):=by
 obtain ⟨l1,l2⟩:=L7 ha;obtain ⟨l3,l4⟩:=L7 hb;obtain ⟨g1,g2⟩:=qz_n ha;obtain ⟨g3,g4⟩:=qz_n hb;obtain ⟨an,ad⟩:=a;obtain ⟨bn,bd⟩:=b;simp only at l1 l2 l3 l4 g1 g2 g3 g4;have hJ S tk k:=An6 S tk k (decide (an<0)) (dig an.natAbs) (decide (ad<0)) (dig ad.natAbs) (decide (bn<0)) (dig bn.natAbs) (decide (bd<0)) (dig bd.natAbs) aA aA aA aA;rw [g1,g2,g3,g4] at hJ;refine opP func247 ntmps247 (hp3:=rfl) ?_;simp only [resQ,raA,qA,ratA,digA] at hJ ⊢;simp (maxSteps:=10^6)+contextual(disch:=try exact dqd)only[ev1,simprocAttr,Cg,Ca,Ch,results247,raA,qA,ratA,digA,WW.qF,wn,hJ];exact ⟨rfl,rfl⟩
theorem Ail (a b:Q) (ha:okW a) (hb:okW b):cL prog 244 [.agg [],raA a,raA b] S tk k=some (raA (WW.qF.over a b).1,S,tk,k):=by
 obtain ⟨l1,l2⟩:=L7 ha;obtain ⟨l3,l4⟩:=L7 hb;obtain ⟨g1,g2⟩:=qz_n ha;obtain ⟨g3,g4⟩:=qz_n hb;obtain ⟨an,ad⟩:=a;obtain ⟨bn,bd⟩:=b;simp only at l1 l2 l3 l4 g1 g2 g3 g4;have hJ S tk k:=An5 S tk k (decide (an<0)) (dig an.natAbs) (decide (ad<0)) (dig ad.natAbs) (decide (bn<0)) (dig bn.natAbs) (decide (bd<0)) (dig bd.natAbs) aA aA aA aA;rw [g1,g2,g3,g4] at hJ;refine opP func244 ntmps244 (hp3:=rfl) ?_;simp only [resQ,raA,qA,ratA,digA] at hJ ⊢;simp (maxSteps:=10^6)+contextual(disch:=try exact dqd)only[ev1,simprocAttr,Cg,Ca,Ch,results244,raA,qA,ratA,digA,WW.qF,wn,hJ];exact ⟨rfl,rfl⟩
theorem Aef (n:Int) (hn:i64 n):cL prog 248 [.agg [],.int n] S tk k=some (raA (WW.qF.whole n).1,S,tk,k):=by
 have hJ S tk k:=Aaf S tk k n hn;refine opP func248 ntmps248 (hp3:=rfl) ?_;simp only [raA,qA,ratA,digA,WW.qF] at hJ ⊢;simp (maxSteps:=10^6)+contextual(disch:=try exact dqd)only[ev1,simprocAttr,Cg,Ca,Ch,results248,raA,qA,ratA,digA,WW.qF,hJ];first|rfl|exact ⟨rfl,rfl⟩
theorem Ain (a:Q) (ha:okW a):cL prog 246 [.agg [],raA a] S tk k=some (.int (sgn a),S,tk,k):=by
 have hI S tk k:=Aaf S tk k 0 aD;obtain ⟨l1,l2⟩:=L7 ha;obtain ⟨g1,g2⟩:=qz_n ha;have ly:=Aqw ha;obtain ⟨an,ad⟩:=a;simp only at l1 l2 g1 g2;have g0:H4 0 1:=Xw;have hJ S tk k:=An4 S tk k (decide (an<0)) (dig an.natAbs) (decide (ad<0)) (dig ad.natAbs) (decide ((0:Int)<0)) (dig (0:Int).natAbs) (decide ((1:Int)<0)) (dig (1:Int).natAbs) aA aA aO aO;rw [g1,g2,g0.nQ,g0.dQ] at hJ;have hs:cmpZ ((qz (an,ad)).1*1) (0*(qz (an,ad)).2)=sgn (an,ad):=by rw [<- ly]; simp only [cmpZ,sgn,Int.mul_one,Int.zero_mul]
 rw [hs] at hJ;refine opP func246 ntmps246 (hp3:=rfl) ?_;have z1:decide ((0:Int)<0)=false:=rfl;have z2:decide ((1:Int)<0)=false:=rfl;have z3:(0:Int).natAbs=0:=rfl;have z4:(1:Int).natAbs=1:=rfl;simp only [raA,qA,ratA,digA,z1,z2,z3,z4] at hI hJ ⊢;simp (maxSteps:=10^6)+contextual(disch:=try exact dqd)only[ev1,simprocAttr,Cg,Ca,Ch,results246,raA,qA,ratA,digA,hI,hJ]
theorem V8 (a:Q):cL prog 245 [.agg [],raA a] S tk k=some (raA a,S,tk,k):=by
 refine opP func245 ntmps245 (hp3:=rfl) ?_;simp (maxSteps:=10^6)+contextual(disch:=try exact dqd)only[ev1,simprocAttr,Cg,Ca,Ch,results245,raA,qA,ratA,digA]
theorem Aec:cL prog 242 [.agg []] S tk k=some (.bool true,S,tk,k):=by
 refine opP func242 ntmps242 (hp3:=rfl) ?_;simp (maxSteps:=10^6)+contextual(disch:=try exact dqd)only[ev1,simprocAttr,Cg,Ca,Ch,results242]
end
end
section
open Go
section
variable {P:Program} {fn:Func} {k:List Kont}
abbrev Rs:=AV × List Ent × List Nat × Nat
def Gd (fin:Option (AV × St)->Option Rs) (Φ:Rs->Prop) (x:Option (AV × St)):Prop:=∃ r,fin x=some r/\Φ r
theorem Alq {m:Nat} {Φ:Rs->Prop} {t:Bool} {a b:Option (AV × St)} {tg:Tag (a,b)} : Gd (finS m) Φ (BR (some t) a b tg)↔(t=true->Gd (finS m) Φ a)/\(t=false->Gd (finS m) Φ b):=by
 cases t <;> simp [BR,br]
theorem Alp {Φ:Rs->Prop} {t:Bool} {a b:Option (AV × St)} {tg:Tag (a,b)} : Gd finM Φ (BR (some t) a b tg)↔(t=true->Gd finM Φ a)/\(t=false->Gd finM Φ b):=by
 cases t <;> simp [BR,br]
theorem Aat {m:Nat} {Φ:Rs->Prop} {r:AV} {s:St} : Gd (finS m) Φ (some (r,s))↔Φ (fz3 m s.S r,s.S.take m,s.tk,s.n):=by simp [Gd,finS]
theorem Aas {Φ:Rs->Prop} {r:AV} {s:St} : Gd finM Φ (some (r,s))↔Φ (r,s.S,s.tk,s.n):=by simp [Gd,finM]
theorem Eu [Globs] [Ext P] {ι:Type} {c:Code} {fin:Option (AV × St)->Option Rs} {Φ:Rs->Prop} {tg:Tag (Code.loop c,k)} (I:ι->St->Prop) (μ:ι->Nat) (x:ι)
  (h:∀ x st,I x st->(∀ y st',μ y<μ x->I y st'->Gd fin Φ (KX P fn (.loop c) st' k .mk))->Gd fin Φ (KX P fn c st (.loop c st.S.length :: k) .mk)) {st:St} (h0:I x st):Gd fin Φ (KX P fn (.loop c) st k tg):=by
 have key:∀ n x st,μ x=n->I x st->Gd fin Φ (KX P fn (.loop c) st k .mk):=by
  intro n;induction n using Ow with
  | _ n ih =>
   intro x st hn hI;show Gd fin Φ (RK P fn (.loop c) st k);exact Ya0n
 exact key _ x st rfl h0
theorem W5 [Globs] [Ext P] {f : FuncId} {c : Code} (hf : P.funcs[f]? = some fn) (hx : (Ext.on P f || Ext.mv P f) = false) (hb : fn.body = some c) (aq : (fn.name == "runtime.NumGoroutine") = false) {args : List AV} {nt : Nat} (j5 : fn.ntmps = nt) (hp : (args.map w2).all pure2 = false) {S : List Ent} {tk : List Nat} {n : Nat} {Φ : Rs → Prop}
  (h:Gd (finS S.length) Φ (RK P fn c ⟨args++bots (nt - args.length),S,tk,n⟩ [])):∃ r,cL P f args S tk n=some r/\Φ r:=by
 obtain ⟨r,h1,h2⟩:=h;exact ⟨r,Ly hf hx hb aq j5 hp h1,h2⟩
theorem Aj0 [Globs] [Ext P] {f : FuncId} {c : Code} (hf : P.funcs[f]? = some fn) (hx : (!Ext.on P f && Ext.mv P f) = true) (hb : fn.body = some c) (aq : (fn.name == "runtime.NumGoroutine") = false) {args : List AV} {nt : Nat} (j5 : fn.ntmps = nt) {S : List Ent} {tk : List Nat} {n : Nat} {Φ : Rs → Prop}
  (h:Gd finM Φ (RK P fn c ⟨args++bots (nt - args.length),S,tk,n⟩ [])):∃ r,cL P f args S tk n=some r/\Φ r:=by
 obtain ⟨r,h1,h2⟩:=h;exact ⟨r,Afp hf hx hb aq j5 h1,h2⟩
end
section
variable {P:Program} {fn:Func} [Globs] [Ext P] {f:FuncId} {c:Code} {args:List AV} {nt:Nat} {S:List Ent} {tk:List Nat} {n:Nat} {Φ:Rs->Prop}
theorem opG (hf : P.funcs[f]? = some fn) (j5 : fn.ntmps = nt) (h : Gd (finS S.length) Φ (KX P fn c ⟨args ++ bots (nt - args.length), S, tk, n⟩ [] .mk)) (hx : (Ext.on P f || Ext.mv P f) = false := by exact rfl) (hb : fn.body = some c := by exact rfl) (aq : (fn.name == "runtime.NumGoroutine") = false := by decide +kernel) (hp : (args.map w2).all pure2 = false := by exact rfl) : ∃ r, cL P f args S tk n = some r ∧ Φ r := W5 hf hx hb aq j5 hp h
theorem opM (hf : P.funcs[f]? = some fn) (j5 : fn.ntmps = nt) (h : Gd finM Φ (KX P fn c ⟨args ++ bots (nt - args.length), S, tk, n⟩ [] .mk)) (hx : (!Ext.on P f && Ext.mv P f) = true := by exact rfl) (hb : fn.body = some c := by exact rfl) (aq : (fn.name == "runtime.NumGoroutine") = false := by decide +kernel) : ∃ r, cL P f args S tk n = some r ∧ Φ r := Aj0 hf hx hb aq j5 h
end
set_option linter.defProp false in
def evg1:=Bv @Alq <| Bv @Alp <| Bv @Aat <| Bv @Aas evs1
/- rows of cells -/
theorem Yx {sz:Nat} : ∀ {e r:List AV},e.length=sz->takeN sz (e++r)=some e:=by
 induction sz with
 | zero=>intro e r h; rw [C5.1 h]; rfl
 | succ n ih =>
  intro e r h;cases e with
  | nil=>simp at h
  | cons x e=>simp only [Co,takeN,ih aI,Cu]
theorem P4 {e':List AV} : ∀ {e r:List AV},e.length=e'.length->over (e++r) 0 e'=some (e'++r):=by
 induction e' with
 | nil=>intro e r h; rw [C5.1 h]; simp [over]
 | cons x e' ih =>
  intro e r h;cases e with
  | nil=>simp at h
  | cons y e=>simp only [Co,over,ih aI,Cu]
section
variable {sz:Nat}
theorem Xp:∀ {es:List (List AV)} {k:Nat} {e:List AV},(∀ e ∈ es,e.length=sz)->nth es k=some e->takeN sz (es.flatten.drop (k*sz))=some e
 | x :: es,0,e,h,hk=>by
  simp only [nth,A0] at hk;subst hk;simp only [Oi,Fs,Fm];exact Yx (h _ (by simp))
 | x :: es,k+1,e,h,hk=>by
  have hx:=h x (by simp);have e1:(k+1)*sz=x.length+k*sz:=by rw [hx,Mi,Nat.add_comm]
  rw [e1,Fm,Sv];simp only [Nat.add_sub_cancel_left];rw [Ff aA,Ct];exact Xp (fun e he=>h e (by simp [he])) hk
 | [],_,_,_,hk=>by simp [nth] at hk
theorem Mr:∀ {es:List (List AV)} {k:Nat} {e e':List AV},(∀ e ∈ es,e.length=sz)->nth es k=some e->e'.length=sz->over es.flatten (k*sz) e'=some (put es k e').flatten
 | x :: es,0,e,e',h,_,he=>by
  simp only [Oi,Fm,put];exact P4 (by rw [h x (by simp),he])
 | x :: es,k+1,e,e',h,hk,he=>by
  have hx:=h x (by simp);have e1:(k+1)*sz=x.length+k*sz:=by rw [hx,Mi,Nat.add_comm]
  have ih:=Mr (es:=es) (k:=k) (fun e he=>h e (by simp [he])) hk he;have gen:∀ (p cs:List AV) (o:Nat) (r:List AV),over cs o e'=some r->over (p++cs) (p.length+o) e'=some (p++r):=by
   intro p;induction p with
   | nil=>intro cs o r h; simpa using h
   | cons y p ih =>
    intro cs o r h;have:=ih cs o r h;have e2:(y :: p).length+o=(p.length+o)+1:=aB
    rw [e2];cases e' <;> simp only [Co,over,this,Cu]
  rw [e1,Fm];simp only [put,Fm];exact gen x _ _ _ ih
 | [],_,_,_,_,hk,_=>by simp [nth] at hk
end
def flat (ce:Q->List AV) (l:List Q):List AV:=(l.map ce).flatten
section
variable {ce:Q->List AV} {sz:Nat} (zh:∀ q,(ce q).length=sz)
include zh
theorem Aq {l:List Q} {k:Nat} {q:Q} (h:nth l k=some q):takeN sz ((flat ce l).drop (k*sz))=some (ce q):=by
 unfold flat;refine Xp (fun e he=>?_) ?_
 ·obtain ⟨x,-,rfl⟩:=Fy.1 he;exact zh x
 ·rw [Ae] at h ⊢; rw [Fw,h]; rfl
theorem A9 {l:List Q} {k:Nat} {q':Q} (h:k<l.length):over (flat ce l) (k*sz) (ce q')=some (flat ce (put l k q')):=by
 unfold flat;rw [<- N1];refine Mr (e:=ce l[k]) (fun e he=>?_) ?_ (zh q')
 ·obtain ⟨x,-,rfl⟩:=Fy.1 he;exact zh x
 ·rw [Ae,Fw,Ig h]; rfl
end
abbrev QQ.rcvQ (i e:Nat):AV:=.ref i e 0
abbrev WW.rcvQ (_ _:Nat):AV:=.agg []
abbrev QQ.zeroQ:List AV:=[.int 0,.int 0]
abbrev WW.zeroQ:List AV:=[.prim (.bool false),.frz [] .nilc,.prim (.bool false),.frz [] .nilc]
end
section
open Go Tryz
def ceQ (a:Q):List AV:=[.int a.1,.int a.2]
def ceW (a:Q):List AV:=[.prim (.bool (decide (a.1<0))),digA (dig a.1.natAbs),.prim (.bool (decide (a.2<0))),digA (dig a.2.natAbs)]
theorem Ap (a:Q):(ceQ a).length=2:=rfl
theorem Ao (a:Q):(ceW a).length=4:=rfl
theorem Bs (a:Q):(ceQ a).all leafOk=true:=rfl
theorem Bc (a:Q):(ceW a).all leafOk=true:=rfl
theorem QQ.Al0 (m:Nat) (S:List Ent) (a:Q):(ceQ a).map (fz1 m S)=ceQ a:=rfl
theorem WW.Al0 (m:Nat) (S:List Ent) (a:Q):(ceW a).map (fz1 m S)=ceW a:=rfl
theorem QQ.ovQ (a:Q):over [.int 0,.int 0] 0 (ceQ a)=some (ceQ a):=rfl
theorem QQ.ovQ2 (a b:Q):over (ceQ b) 0 (ceQ a)=some (ceQ a):=rfl
theorem WW.ovQ (a:Q):over [.prim (.bool false),.frz [] .nilc,.prim (.bool false),.frz [] .nilc] 0 (ceW a)=some (ceW a):=rfl
theorem WW.ovQ2 (a b:Q):over (ceW b) 0 (ceW a)=some (ceW a):=rfl
theorem QQ.tkQ (a:Q):takeN 2 (ceQ a)=some (ceQ a):=rfl
theorem WW.tkQ (a:Q):takeN 4 (ceW a)=some (ceW a):=rfl
theorem QQ.puQ (a:Q):((ceQ a).map w1).all pure1=true:=rfl
theorem WW.puQ (a:Q):((ceW a).map w1).all pure1=true:=rfl
theorem Tu (a:Q):(ceW a).all pure1=true:=rfl
theorem Tv (a:Q):(ceW a).map w1=ceW a:=rfl
def QQ.FAq (S:List Ent) (iq eq:Nat) (b:Bool):Prop:=entAt S iq eq=some [.prim (.bool b)]
structure WW.FAq (_:List Ent) (_ _:Nat) (_:Bool):Prop where
def WW.flS (S:List Ent) (_ _:Nat) (_:Bool):List Ent:=S
theorem WW.D9 {S:List Ent} {iq eq:Nat} {b c:Bool} (_:WW.FAq S iq eq b):gO S (WW.flS S iq eq c)=some ():=gO_refl
theorem QQ.D9 {S:List Ent} {iq eq:Nat} {b c:Bool} (h:QQ.FAq S iq eq b):gO S (QQ.flS S iq eq c)=some ():=Apy h
theorem QQ.FAq.fS {S:List Ent} {iq eq:Nat} {b c:Bool} (h:QQ.FAq S iq eq b):QQ.FAq (QQ.flS S iq eq c) iq eq (b || c):=Agi h
theorem WW.FAq.fS {S:List Ent} {iq eq:Nat} {b c:Bool} (_:WW.FAq S iq eq b):WW.FAq (WW.flS S iq eq c) iq eq (b || c):=⟨⟩
theorem QQ.FAq.app {S L:List Ent} {iq eq:Nat} {b:Bool} (h:QQ.FAq S iq eq b):QQ.FAq (S++L) iq eq b:=Ab h
theorem WW.FAq.app {S L:List Ent} {iq eq:Nat} {b:Bool} (_:WW.FAq S iq eq b):WW.FAq (S++L) iq eq b:=⟨⟩
theorem QQ.G3 {S L:List Ent} {iq eq:Nat} {b c:Bool} (h:QQ.FAq S iq eq c):QQ.flS (S++L) iq eq b=QQ.flS S iq eq b++L:=Vf (A5 h)
theorem WW.G3 {S L:List Ent} {iq eq:Nat} {b c:Bool} (_:WW.FAq S iq eq c):WW.flS (S++L) iq eq b=WW.flS S iq eq b++L:=rfl
theorem WW.Be {S:List Ent} {iq eq:Nat} {b:Bool} : (WW.flS S iq eq b).length=S.length:=rfl
theorem Bj {S:List Ent} {iq eq j:Nat} {b:Bool} (_:j≠iq):nth (WW.flS S iq eq b) j=nth S j:=rfl
theorem QQ.FAq.put {S:List Ent} {iq eq i:Nat} {b:Bool} {x:Ent} (h:QQ.FAq S iq eq b) (hne:i≠iq):QQ.FAq (put S i x) iq eq b:=by unfold QQ.FAq; rw [Af hne]; exact h
theorem WW.FAq.put {S:List Ent} {iq eq i:Nat} {b:Bool} {x:Ent} (_:WW.FAq S iq eq b) (_:i≠iq):WW.FAq (put S i x) iq eq b:=⟨⟩
theorem QQ.FAq.of {S S':List Ent} {iq eq:Nat} {b:Bool} (h:QQ.FAq S iq eq b) (hne:nth S' iq=nth S iq):QQ.FAq S' iq eq b:=by unfold QQ.FAq; rw [Aa hne]; exact h
theorem WW.FAq.of {S S':List Ent} {iq eq:Nat} {b:Bool} (_:WW.FAq S iq eq b) (_:nth S' iq=nth S iq):WW.FAq S' iq eq b:=⟨⟩
section
variable (S:List Ent) (tk:List Nat) (k iq eq:Nat) (fl:Bool)
theorem QQ.Lu (a b:Q) (ha:QQ.qF.ok a) (hb:QQ.qF.ok b) (hq:QQ.FAq S iq eq fl):cL prog 217 [.ref iq eq 0,.agg (ceQ a),.agg (ceQ b)] S tk k=some (.agg (ceQ (QQ.qF.minus a b).1),QQ.flS S iq eq (QQ.qF.minus a b).2,tk,k+4):=Aac S tk k iq eq fl a b ha hb hq
theorem QQ.Aco (a b:Q) (ha:QQ.qF.ok a) (hb:QQ.qF.ok b) (hq:QQ.FAq S iq eq fl):cL prog 221 [.ref iq eq 0,.agg (ceQ a),.agg (ceQ b)] S tk k=some (.agg (ceQ (QQ.qF.times a b).1),QQ.flS S iq eq (QQ.qF.times a b).2,tk,k+4):=Aad S tk k iq eq fl a b ha hb hq
theorem QQ.Aqf (a b:Q) (ha:QQ.qF.ok a) (hb:QQ.qF.ok b) (hq:QQ.FAq S iq eq fl):cL prog 218 [.ref iq eq 0,.agg (ceQ a),.agg (ceQ b)] S tk k=some (.agg (ceQ (QQ.qF.over a b).1),QQ.flS S iq eq (QQ.qF.over a b).2,tk,k+QQ.Xy b):=Ad1 S tk k iq eq fl a b ha hb hq
theorem QQ.K0 (n:Int) (_:i64 n) (hq:QQ.FAq S iq eq fl):cL prog 222 [.ref iq eq 0,.int n] S tk k=some (.agg (ceQ (QQ.qF.whole n).1),QQ.flS S iq eq (QQ.qF.whole n).2,tk,k+1):=Aae S tk k iq eq fl n hq
theorem QQ.Aak (a:Q) (_:QQ.qF.ok a) (hq:QQ.FAq S iq eq fl):cL prog 220 [.ref iq eq 0,.agg (ceQ a)] S tk k=some (.int (sgn a),S,tk,k+1):=Ad2 S tk k iq eq fl a hq
theorem QQ.Abo (hq:QQ.FAq S iq eq fl):cL prog 216 [.ref iq eq 0] S tk k=some (.bool (!(QQ.qF.stop && fl)),S,tk,k):=Aab S tk k iq eq fl hq
theorem WW.Abo (_:WW.FAq S iq eq fl):cL prog 242 [.agg []] S tk k=some (.bool (!(WW.qF.stop && fl)),S,tk,k):=Aec S tk k
theorem QQ.Ru (a:Q) (ha:QQ.qF.ok a) (hq:QQ.FAq S iq eq fl):cL prog 219 [.ref iq eq 0,.agg (ceQ a)] S tk k=some (.agg (ceW (QQ.qF.rat a)),S,tk,k+3):=Tj S tk k iq eq fl a ha hq
theorem WW.Ru (a:Q) (_:WW.qF.ok a) (_:WW.FAq S iq eq fl):cL prog 245 [.agg [],.agg (ceW a)] S tk k=some (.agg (ceW (WW.qF.rat a)),S,tk,k+0):=V8 S tk k a
def WW.Xy (_:Q):Nat:=0
theorem WW.Lu (a b:Q) (ha:WW.qF.ok a) (hb:WW.qF.ok b) (_:WW.FAq S iq eq fl):cL prog 243 [.agg [],.agg (ceW a),.agg (ceW b)] S tk k=some (.agg (ceW (WW.qF.minus a b).1),WW.flS S iq eq (WW.qF.minus a b).2,tk,k+0):=Aed S tk k a b ha hb
theorem WW.Aco (a b:Q) (ha:WW.qF.ok a) (hb:WW.qF.ok b) (_:WW.FAq S iq eq fl):cL prog 247 [.agg [],.agg (ceW a),.agg (ceW b)] S tk k=some (.agg (ceW (WW.qF.times a b).1),WW.flS S iq eq (WW.qF.times a b).2,tk,k+0):=Aee S tk k a b ha hb
theorem WW.Aqf (a b:Q) (ha:WW.qF.ok a) (hb:WW.qF.ok b) (_:WW.FAq S iq eq fl):cL prog 244 [.agg [],.agg (ceW a),.agg (ceW b)] S tk k=some (.agg (ceW (WW.qF.over a b).1),WW.flS S iq eq (WW.qF.over a b).2,tk,k+WW.Xy b):=Ail S tk k a b ha hb
theorem WW.K0 (n:Int) (hn:i64 n) (_:WW.FAq S iq eq fl):cL prog 248 [.agg [],.int n] S tk k=some (.agg (ceW (WW.qF.whole n).1),WW.flS S iq eq (WW.qF.whole n).2,tk,k+0):=Aef S tk k n hn
theorem WW.Aak (a:Q) (ha:WW.qF.ok a) (_:WW.FAq S iq eq fl):cL prog 246 [.agg [],.agg (ceW a)] S tk k=some (.int (sgn a),S,tk,k+0):=Ain S tk k a ha
end
/- the algorithm -/
def Jg (F:Fld) (b a r:Q):Q × Bool:=if sgn r=0 then (a,false) else ((F.minus a (F.times b r).1).1,(F.times b r).2 || (F.minus a (F.times b r).1).2)
def lessL (F:Fld) (b:Q):List Q->List Q->List Q × Bool
 | a :: l,r :: m=>((Jg F b a r).1 :: (lessL F b l m).1,(Jg F b a r).2 || (lessL F b l m).2)
 | l,_=>(l,false)
def lessT (F:Fld) (a r:List Q) (c:Nat):List Q × Bool:=match nth a c with|some b=>if sgn b=0 then (a,false) else lessL F b a r|none=>(a,false)
theorem D8 {α:Type} {p u:List α} {x:α} : nth (p++x :: u) p.length=some x:=by
 rw [Ae,C8 (Cb _),I3]; rfl
theorem Gh {α:Type} {p u:List α} {x y:α} : put (p++x :: u) p.length y=p++y :: u:=by
 rw [Rk,fX _ _ (Cb _),I3]; rfl
def okL (F:Fld) (l:List Q):Prop:=∀ q ∈ l,F.ok q
theorem Alm {F:Fld} (hF:F.Keeps) {b a r:Q} (hb:F.ok b) (ha:F.ok a) (hr:F.ok r):F.ok (Jg F b a r).1:=by
 unfold Jg;split
 ·exact ha
 ·exact hF.minus _ _ ha (hF.times _ _ hb hr)
theorem My {F:Fld} {b:Q} : ∀ {l m:List Q},(lessL F b l m).1.length=l.length
 | [],_=>by simp [lessL]
 | a :: l,[]=>rfl
 | a :: l,r :: m=>by simp only [lessL,Ck,My]
theorem Vj {F:Fld} (hF:F.Keeps) {b:Q} (hb:F.ok b):∀ {l m:List Q},okL F l->okL F m->okL F (lessL F b l m).1
 | [],_,h,_=>by simpa [lessL] using h
 | a :: l,[],h,_=>h
 | a :: l,r :: m,h,h'=>by
  intro q hq;simp only [lessL,Cy] at hq;rcases hq with rfl|hq
  ·exact Alm hF hb (h _ (by simp)) (h' _ (by simp))
  ·exact Vj hF hb (fun q hq=>h q bV) (fun q hq=>h' q bV) q hq
theorem QQ.Ek : mRow prog 118 "liquidcheck/simplex.whole" = some 222 ∧ mRow prog 118 "liquidcheck/simplex.minus" = some 217 ∧
  mRow prog 118 "liquidcheck/simplex.times" = some 221 ∧ mRow prog 118 "liquidcheck/simplex.over" = some 218 ∧
  mRow prog 118 "liquidcheck/simplex.sign" = some 220 ∧ mRow prog 118 "liquidcheck/simplex.rational" = some 219 ∧
  mRow prog 118 "liquidcheck/simplex.exact" = some 216 := aO
theorem WW.Ek : mRow prog 123 "liquidcheck/simplex.whole" = some 248 ∧ mRow prog 123 "liquidcheck/simplex.minus" = some 243 ∧
  mRow prog 123 "liquidcheck/simplex.times" = some 247 ∧ mRow prog 123 "liquidcheck/simplex.over" = some 244 ∧
  mRow prog 123 "liquidcheck/simplex.sign" = some 246 ∧ mRow prog 123 "liquidcheck/simplex.rational" = some 245 ∧
  mRow prog 123 "liquidcheck/simplex.exact" = some 242 := aO
theorem xfs:xF 216=true/\xF 217=true/\xF 218=true/\xF 219=true/\xF 220=true/\xF 221=true/\xF 222=true/\xF 145=true/\xF 151=true/\xF 137=true/\xF 136=true/\xF 180=true/\xF 170=true/\xF 140=true/\xF 266=true/\xF 147=true/\xF 153=true:=⟨rfl,rfl,rfl,rfl,rfl,rfl,rfl,rfl,rfl,rfl,rfl,rfl,rfl,rfl,rfl,rfl,rfl⟩
end
section
open Go
structure Tb where
 vars:Nat
 real:Nat
 rows:List (List Q)
 cost:List Q
 basis:List Nat
 flip:List Bool
 fl:Bool
def dvS (F:Fld) (b x:Q):Q × Bool:=if sgn x=0 then (x,false) else F.over x b
def divL (F:Fld) (b:Q):List Q->List Q × Bool
 | []=>([],false)
 | x :: l=>((dvS F b x).1 :: (divL F b l).1,(dvS F b x).2 || (divL F b l).2)
def lessK (F:Fld) (row:List Q) (c i k:Nat) (r:List Q):List Q × Bool:=if k=i then (r,false) else lessT F r row c
def lessRows (F:Fld) (row:List Q) (c i:Nat):Nat->List (List Q)->List (List Q) × Bool
 | _,[]=>([],false)
 | k,r :: l=>((lessK F row c i k r).1 :: (lessRows F row c i (k+1) l).1,(lessK F row c i k r).2 || (lessRows F row c i (k+1) l).2)
def at_ {α:Type} (d:α) (l:List α) (k:Nat):α:=(nth l k).getD d
def q0:Q:=(0,1)
def B1 (t:Tb) (i:Nat):List Q:=at_ [] t.rows i
def Dz (F:Fld) (t:Tb) (i c:Nat):Tb :=
 let d:=divL F (at_ q0 (B1 t i) c) (B1 t i)
 let rs:=lessRows F d.1 c i 0 (put t.rows i d.1)
 let k:=lessT F t.cost d.1 c
 { t with rows:=rs.1,cost:=k.1,basis:=put t.basis i c,fl:=((t.fl || d.2) || rs.2) || k.2 }
def worse (basis:List Nat) (s:Int) (k bi:Nat):Bool:=decide (0<s) || (s == 0 && decide (at_ 0 basis bi<at_ 0 basis k))
def Bw (F:Fld) (basis:List Nat) (c W:Nat):Nat->List (List Q)->Option (Nat × Q)->Option (Nat × Q) × Bool
 | _,[],b=>(b,false)
 | k,r :: l,b =>
  if sgn (at_ q0 r c)<=0 then Bw F basis c W (k+1) l b else
   let q:=F.over (at_ q0 r (W - 1)) (at_ q0 r c)
   match b with
   | none=>((Bw F basis c W (k+1) l (some (k,q.1))).1,q.2 || (Bw F basis c W (k+1) l (some (k,q.1))).2)
   | some (bi,least) =>
    let d:=F.minus q.1 least
    let b':=if worse basis (sgn d.1) k bi=true then some (bi,least) else some (k,q.1)
    ((Bw F basis c W (k+1) l b').1,(q.2 || d.2) || (Bw F basis c W (k+1) l b').2)
def Bl (F:Fld) (t:Tb) (c:Nat):Option (Nat × Q) × Bool:=Bw F t.basis c t.cost.length 0 t.rows none
def colF (cost:List Q):Nat->Nat->Option Nat
 | 0,_=>none
 | n+1,k=>if sgn (at_ q0 cost k)<0 then some k else colF cost n (k+1)
def Ht (F:Fld):Nat->Tb->Option (Bool × Tb)
 | 0,_=>none
 | n+1,t=>if (F.stop && t.fl)=true then some (true,t) else
  match colF t.cost t.real 0 with
  | none=>some (true,t)
  | some c=>match Bl F t c with
   | (none,f)=>some (false,{ t with fl:=t.fl || f })
   | (some (i,_),f)=>Ht F n (Dz F { t with fl:=t.fl || f } i c)
def Jq (t:Tb):Bool:=sgn (at_ q0 t.cost (t.cost.length - 1)) == 0
def J7 (basis:List Nat) (k:Nat):Nat->List (List Q)->Option Nat
 | _,[]=>none
 | i,_ :: l=>if at_ 0 basis i=k then some i else J7 basis k (i+1) l
def B7 (F:Fld) (t:Tb) (k:Nat):Q × Bool:=match J7 t.basis k 0 t.rows with|some i=>(at_ q0 (B1 t i) (t.cost.length - 1),false)|none=>F.whole 0
def ptF (F:Fld) (t:Tb) (k:Nat):Q × Bool :=
 let a:=B7 F t (2*k)
 let b:=B7 F t (2*k+1)
 let d:=F.minus a.1 b.1
 (d.1,(a.2 || b.2) || d.2)
def Ef (f:Nat->Q × Bool):Nat->Nat->List Q × Bool
 | 0,_=>([],false)
 | n+1,k=>((f k).1 :: (Ef f n (k+1)).1,(f k).2 || (Ef f n (k+1)).2)
def Ep (F:Fld) (t:Tb):List Q × Bool:=Ef (ptF F t) t.vars 0
def mulF (F:Fld) (t:Tb) (i:Nat):Q × Bool :=
 let y:=F.minus (at_ q0 t.cost (t.real+i)) (F.whole 1).1
 if at_ false t.flip i=true then
  let z:=F.minus (F.whole 0).1 y.1
  (z.1,y.2 || ((F.whole 0).2 || z.2))
 else y
def Hu (F:Fld) (t:Tb):List Q × Bool:=((Ef (mulF F t) t.rows.length 0).1,(F.whole 1).2 || (Ef (mulF F t) t.rows.length 0).2)
structure TI where
 it:Nat
 et:Nat
 ir:Nat
 er:Nat
 ic:Nat
 ec:Nat
 ib:Nat
 eb:Nat
 ids:List (Nat × Nat)
structure Apart (I:TI) (iq:Nat):Prop where
 tr:I.it≠I.ir
 tc:I.it≠I.ic
 tb:I.it≠I.ib
 rc:I.ir≠I.ic
 rb:I.ir≠I.ib
 cb:I.ic≠I.ib
 qt:iq≠I.it
 qr:iq≠I.ir
 qc:iq≠I.ic
 qb:iq≠I.ib
 row:∀ p ∈ I.ids,p.1≠I.it/\p.1≠I.ir/\p.1≠I.ic/\p.1≠I.ib/\p.1≠iq
 rows:∀ i j p q,nth I.ids i=some p->nth I.ids j=some q->i≠j->p.1≠q.1
def f7 (W sz:Nat) (x:Nat × Nat):AV:=.sref x.1 x.2 0 W sz
def cw (id ep sz:Nat):Nat->AV
 | 0=>.frz [] .nilc
 | n+1=>.sref id ep 0 (n+1) sz
def Dn (b:Bool):List AV:=[.bool b]
def intA (n:Nat):AV:=.int (n:Int)
theorem Aj {α:Type} {l:List α} {i:Nat} {x:α} (h:nth l i=some x):x ∈ l:=by rw [Ae] at h; exact Il h
theorem A8 {α:Type} {d:α} {l:List α} {k:Nat} {x:α} (h:nth l k=some x):at_ d l k=x:=by unfold at_; rw [h]; rfl
theorem Kl {α:Type} {l:List α} {i j:Nat} {x:α} (h:i<l.length):nth (put l i x) j=if j=i then some x else nth l j:=by
 by_cases e:j=i
 ·subst e; rw [if_pos rfl,Di h]
 ·rw [if_neg e,Ad (Od e)]
theorem Ai {α:Type} {l:List α} {i:Nat} {x:α} : (put l i x).length=l.length:=Am
theorem M6 {α:Type} {l:List α} {i:Nat} {x y:α} : put (put l i x) i y=put l i y:=by
 induction l generalizing i with
 | nil=>rfl
 | cons z l ih=>cases i with
  | zero=>rfl
  | succ i=>simp only [put,ih]
theorem Yl {α:Type} {l:List α} {i:Nat} {x:α} (h:nth l i=some x):put l i x=l:=by
 induction l generalizing i with
 | nil=>rfl
 | cons z l ih=>cases i with
  | zero=>simp only [nth,A0] at h; subst h; rfl
  | succ i=>simp only [nth] at h; simp only [put,ih h]
theorem Bo {α:Type} {l:List α} {i:Nat} {x y:α} (h:y ∈ put l i x):y=x\/y ∈ l:=by
 rw [Rk] at h;rcases List.mem_or_eq_of_mem_set h with h|h
 ·exact .inr h
 ·exact .inl h
theorem Bh {id ep sz n:Nat} (h:0<n):cw id ep sz n=.sref id ep 0 n sz:=by
 cases n with
 | zero=>omega
 | succ n=>rfl
theorem Dx {S:List Ent} {n i e:Nat} (h:i<n):entAt (S.take n) i e=entAt S i e:=by
 unfold entAt;rw [Ae,Ae,Iw]; simp [h]
theorem QQ.FAq.take {S:List Ent} {n iq eq:Nat} {b:Bool} (h:QQ.FAq S iq eq b) (hi:iq<n):QQ.FAq (S.take n) iq eq b:=by unfold QQ.FAq; rw [Dx hi]; exact h
theorem WW.FAq.take {S:List Ent} {n iq eq:Nat} {b:Bool} (_:WW.FAq S iq eq b) (_:True):WW.FAq (S.take n) iq eq b:=⟨⟩
theorem Ey {α:Type} {l:List α} {n j:Nat} (h:j<n):nth (l.take n) j=nth l j:=by
 rw [Ae,Ae,Iw]; simp [h]
theorem Bq {α:Type} {l m:List α} {j:Nat} (h:j<l.length):nth (l++m) j=nth l j:=by
 rw [Ae,Ae,Cp h]
theorem Ah5 {α:Type} {l:List α} {i:Nat} {x:α} : put l i x=[]↔l=[]:=by
 cases l with
 | nil=>simp [put]
 | cons y l=>cases i <;> simp [put]
end
section
open Go Tryz
def A2 (c:ByteArray × Int):List AV:=[.prim (.string c.1),.prim (.int .i64 c.2)]
def Ak (cs:List (ByteArray × Int)):AV:=.frz (cs.map A2) .unk
def linA (cs:List (ByteArray × Int)) (n:Int):AV:=.agg [Ak cs,.prim (.int .i64 n)]
def G2 (s:ByteArray):Bool:=sEq s ⟨#[]⟩ || decide ((s.size:Int) > 400)
def M3:Option ByteArray->ByteArray->Bool
 | none,_=>false
 | some p,s=>sLt s p || sEq s p
def Bi (n:Int):Option ByteArray->List (ByteArray × Int)->Int
 | _,[]=>if inB n then 0 else 2
 | p,c :: cs=>if G2 c.1 then 3 else if c.2 == 0 || !inB c.2 then 2 else if M3 p c.1 then 9 else Bi n (some c.1) cs
def A6 (cs:List (ByteArray × Int)) (n:Int):Int:=if 24<cs.length then 7 else Bi n none cs
def Lj (cs:List (ByteArray × Int)):Nat->Option ByteArray
 | 0=>none
 | j+1=>(nth cs j).map (·.1)
section
variable (S:List Ent) (tk:List Nat) (k:Nat)
theorem Z4 (n:Int):cL prog 58 [.int n] S tk k=some (.bool (inB n),S,tk,k):=by
 refine opP func58 ntmps58 ?_;simp +contextual only [ev0,reduceIte,reduceCtorEq,gP,gQ,gR,Sx,gS,iJ,Sy,gU,Cg,Ca,Ch,results58];unfold inB;exact ⟨fun h=>eK,fun h=>eK⟩
theorem Ga (cs:List (ByteArray × Int)) (n:Int) (hlen:cs.length<=1048576):cL prog 33 [linA cs n] S tk k=some (.int (A6 cs n),S,tk,k):=by
 refine opP func33 ntmps33 ?_;simp (maxSteps:=10^6)+contextual(disch:=try exact dqd)only[ev1,reduceIte,reduceCtorEq,gP,gQ,gR,Sx,gS,iJ,Sy,gU,Cg,Ca,Ch,results33,linA,Ak];refine ⟨fun h=>?_,fun h=>?_⟩
 ·unfold A6; rw [if_pos (by simp at h; omega)]
 have hc:A6 cs n=Bi n none cs:=by unfold A6; rw [if_neg (by simp at h; omega)]
 rw [hc];refine loop1 (fun i st=>st.T.length=57/\i<=cs.length/\getT st.T 1=.ref 0 0 0/\getT st.T 10=Ak cs/\getT st.T 11=.int cs.length/\getT st.T 12=.int (i:Nat)/\st.S=[⟨0,[Ak cs,.int n]⟩]) (fun i=>cs.length - i) (fun i=>.int (Bi n (Lj cs i) (cs.drop i))) 0 ?_ ?_;case refine_2=>exact ⟨rfl,Cs _,rfl,rfl,rfl,rfl,rfl⟩
 rintro i ⟨T,S',tk',n'⟩ ⟨hl,hi,e1,e10,e11,e12,rfl⟩ IH;obtain ⟨g,hg,hT⟩:=Aw hl;rw [hg] at e1 e10 e11 e12;subst hT;clear hg hl h hc;by_cases hlt:i<cs.length
 ·have d1:decide ((i:Int)<(cs.length:Int))=true:=aQ
  obtain ⟨c,hc⟩:=Ah hlt;have ek:nth (cs.map A2) i=some (A2 c):=by rw [Er,hc]; rfl
  have hw:=Db (i:=i) aA;have hp:Lj cs (i+1)=some c.1:=by simp [Lj,hc]
  rw [Av hc];rcases i with _|j
  ·have d2:decide (((0:Nat):Int) > 0)=false:=rfl;simp (maxSteps:=10^6)+contextual(disch:=try exact dqd)only[ev1,reduceIte,reduceCtorEq,gP,gQ,gR,Sx,gS,iJ,Sy,gU,Cg,Ca,Ch,results33,e1,e10,e11,e12,d1,d2,Ak,ek,hw,A2,Z4];refine ⟨fun h1=>?_,fun h1=>⟨fun h2=>?_,fun h2=>⟨fun h3=>?_,fun h3=>⟨fun h4=>?_,fun h4=>?_⟩⟩⟩⟩
   ·simp [Bi,G2,h1]
   ·simp only [Bi,G2,h1,h2]; rfl
   ·simp only [Bi,G2,h1,h2,h3]; rfl
   ·rw [IH 1 _ aA ⟨rfl,aA,rfl,rfl,rfl,rfl,rfl⟩,hp];simp only [Bi,G2,h1,h2,h3,h4,Lj,M3]; rfl
   ·simp only [Bi,G2,h1,h2,h3,h4]; rfl
  ·have d2:decide (((j+1:Nat):Int) > 0)=true:=decide_eq_true aA;obtain ⟨p,o5⟩:=Ah (show j<cs.length by omega);have fc:nth (cs.map A2) j=some (A2 p):=by rw [Er,o5]; rfl
   have hw':=Ai8 (j:=j) aA;have hpp:Lj cs (j+1)=some p.1:=by simp [Lj,o5]
   simp (maxSteps:=10^6)+contextual(disch:=try exact dqd)only[ev1,reduceIte,reduceCtorEq,gP,gQ,gR,Sx,gS,iJ,Sy,gU,Cg,Ca,Ch,results33,e1,e10,e11,e12,d1,d2,Ak,ek,hw,A2,Z4,fc,hw'];refine ⟨fun h1=>?_,fun h1=>⟨fun h2=>?_,fun h2=>⟨fun h3=>?_,fun h3=>⟨fun h4=>?_,fun h4=>?_⟩⟩⟩⟩
   ·simp [Bi,G2,h1]
   ·simp only [Bi,G2,h1,h2]; rfl
   ·simp only [Bi,G2,h1,h2,h3]; rfl
   ·refine ⟨fun h5=>?_,fun h5=>?_⟩
    ·simp only [Bi,G2,h1,h2,h3,h4,hpp,M3,h5]; rfl
    ·rw [IH (j+1+1) _ aA ⟨rfl,aA,rfl,rfl,rfl,rfl,rfl⟩,hp];simp only [Bi,G2,h1,h2,h3,h4,hpp,M3,h5]; rfl
   ·simp only [Bi,G2,h1,h2,h3,h4]; rfl
 ·have d1:decide ((i:Int)<(cs.length:Int))=false:=aQ
  have he:i=cs.length:=aA
  simp (maxSteps:=10^6)+contextual(disch:=try exact dqd)only[ev1,reduceIte,reduceCtorEq,gP,gQ,gR,Sx,gS,iJ,Sy,gU,Cg,Ca,Ch,results33,e1,e10,e11,e12,d1,Ak,Z4];rw [he,Fh];exact ⟨fun h=>by simp [Bi,h],fun h=>by simp [Bi,h]⟩
end
end
section
open Go
abbrev RowT:=List (ByteArray × Int) × Int × Bool
def rowC (r:RowT):List AV:=[Ak r.1,.prim (.int .i64 r.2.1),.prim (.bool r.2.2)]
def Au (l:List RowT):AV:=.frz (l.map rowC) .unk
theorem Km {l:List RowT} {i:Nat} {r:RowT} (h:nth l i=some r):nth (l.map rowC) i=some (rowC r):=dP
theorem Akx {l:List (ByteArray × Int)} {i:Nat} {c:ByteArray × Int} (h:nth l i=some c):nth (l.map A2) i=some (A2 c):=dP
theorem Aeb (l:List ByteArray):Dv 1 (l.map strC)=true:=Gb (f:=strC) (sz:=1) (fun _=>rfl) l
def D7 (l:List RowT):List ByteArray:=(l.map fun r=>r.1.map (·.1)).flatten
def Hv (l:List RowT):List ByteArray:=uniS (D7 l)
theorem Adt (l:List RowT) (r:RowT):D7 (l++[r])=D7 l++r.1.map (·.1):=by simp [D7]
theorem Hi {α:Type} : ∀ {l:List α} {i:Nat} {x:α},nth l i=some x->l.take (i+1)=l.take i++[x]
 | a :: l,0,x,h=>dU
 | a :: l,i+1,x,h=>by simp only [F4,Co,Hi (l:=l) (i:=i) h]
 | [],_,_,h=>bU
def fewC (l:List RowT):Prop:=∀ r ∈ l,r.1.length<=24
theorem Yd:∀ {l:List RowT},fewC l->(D7 l).length<=24*l.length
 | [],_=>by simp [D7]
 | r :: l,h=>by
  have h1:=h r (by simp);have h2:=Yd (l:=l) fun x hx=>h x bG;simp only [D7,Cm,Fm,Cn,Ib,Ck] at h2 ⊢;omega
theorem Z0 {α:Type} {l:List α} {i:Nat} {x:α} (h:nth l i=some x):x ∈ l:=Il (by rw [Ae] at h; exact h)
end
section
open Go Tryz
set_option maxRecDepth 100000
theorem Adu {l:List RowT} {i:Nat} {r:RowT} (h:nth l i=some r):D7 (l.take (i+1))=D7 (l.take i)++r.1.map (·.1):=by
 rw [Hi h,Adt]
theorem Akg {l:List RowT} (h:fewC l) (i:Nat):fewC (l.take i):=fun r hr=>h r (gZ hr)
theorem Anl {l:List RowT} (h:fewC l) (hl:l.length<=64) (i:Nat):(D7 (l.take i)).length<=1536:=by
 have h1:=Yd (Akg h i);have:(l.take i).length<=64:=aB
 omega
section
variable (S:List Ent) (tk:List Nat) (k:Nat)
theorem Gt (l:List RowT) (hf:fewC l) (hl:l.length<=64):cL prog 41 [Au l] S tk k=some (B2 (Hv l),S,tk,k):=by
 refine opP func41 ntmps41 ?_;simp (maxSteps:=10^6)+contextual(disch:=try exact dqd)only[ev1,simprocAttr,Cg,Ca,Ch,results41,Au];refine loop1 (P:=prog) (fun x st=>st.T.length=31/\(x.1<=l.length)/\(x.2.1=D7 (l.take x.1))/\(Ba st.tk x.2.2 1=true)/\((!x.2.1.isEmpty || Q7 x.2.2)=true)/\getT st.T 3=.frz (x.2.1.map strC) x.2.2/\getT st.T 8=Au l/\getT st.T 9=.int l.length/\getT st.T 10=.int (x.1:Nat)/\st.S=[]) (fun x=>l.length - x.1) (fun x=>B2 (Hv l)) (0,[],.nilc) ?_ ?_;case refine_2=>exact ⟨rfl,Cs _,rfl,rfl,rfl,rfl,rfl,rfl,rfl,rfl⟩
 rintro ⟨i,out,c⟩ ⟨T,S',tk',n'⟩ ⟨hl,hi,ho,ae,hc,e3,e8,e9,e10,eS⟩ IH;simp only at hi ho ae hc e3 e8 e9 e10 eS;subst eS;obtain ⟨g,hg,hT⟩:=Aw hl;rw [hg] at e3 e8 e9 e10;subst hT;clear hg hl;have OUT:=IH;clear IH;have jp:=Db (i:=i) aA;have sa:=Anl hf hl i;by_cases hlt:i<l.length
 ·have d1:decide ((i:Int)<(l.length:Int))=true:=aQ
  obtain ⟨r,hx⟩:=Ah hlt;have hx':=Km hx;have jr:=hf r (Z0 hx);have j5:=Adu hx;simp only [rowC,Ak] at hx';simp (maxSteps:=10^6)+contextual(disch:=try exact dqd)only[ev1,simprocAttr,Cg,Ca,Ch,results41,e3,e8,e9,e10,d1,Au,hx'];refine loop1 (P:=prog) (fun x st=>st.T.length=31/\(x.1<=r.1.length)/\(x.2.1=D7 (l.take i)++(r.1.take x.1).map (·.1))/\(Ba st.tk x.2.2 1=true)/\((!x.2.1.isEmpty || Q7 x.2.2)=true)/\getT st.T 3=.frz (x.2.1.map strC) x.2.2/\getT st.T 8=Au l/\getT st.T 9=.int l.length/\getT st.T 10=.int (i:Nat)/\getT st.T 16=.frz (r.1.map A2) .unk/\getT st.T 17=.int r.1.length/\getT st.T 18=.int (x.1:Nat)/\st.S=[⟨n',[.frz (r.1.map A2) .unk,.int r.2.1,.bool r.2.2]⟩]) (fun x=>r.1.length - x.1) (fun x=>B2 (Hv l)) (0,out,c) ?_ ?_;case refine_2=>exact ⟨rfl,Cs _,by simp [ho],ae,hc,rfl,rfl,rfl,rfl,rfl,rfl,rfl,rfl⟩
  rintro ⟨j,out2,c2⟩ ⟨T,S',tk',n'⟩ ⟨hl,hj,l9,ee,hc2,e3,e8,e9,e10,e16,e17,e18,eS⟩ IH;simp only at hj l9 ee hc2 e3 e8 e9 e10 e16 e17 e18 eS;subst eS;obtain ⟨g,hg,hT⟩:=Aw hl;rw [hg] at e3 e8 e9 e10 e16 e17 e18;subst hT;clear hg hl;have hjw:=Db (i:=j) aA;have sk:out2.length<=1600:=by rw [l9]; simp; omega
  have hr:=Aeb out2;have cg:=B0 ee;have cj:(out2.map strC).length+1<=1048576:=aB
  by_cases c9:j<r.1.length
  ·have d2:decide ((j:Int)<(r.1.length:Int))=true:=cY
   obtain ⟨q,hq⟩:=Ah c9;have me:=Akx hq;simp only [A2] at me;have hts:=Hi hq;simp (maxSteps:=10^6)+contextual(disch:=try exact dqd)only[ev1,simprocAttr,Cg,Ca,Ch,results41,e3,e8,e9,e10,e16,e17,e18,d2,me,hjw,hr];exact IH (j+1,out2++[q.1],A4 tk' c2 1) _ aF ⟨rfl,aE,by rw [hts,Ft,<- C7,l9]; rfl,cg,by simp,aV,aV,aV,aV,aV,aV,aV,aV⟩
  ·have d2:decide ((j:Int)<(r.1.length:Int))=false:=cY
   have hje:j=r.1.length:=aA
   subst hje;rw [Ir] at l9;simp (maxSteps:=10^6)+contextual(disch:=try exact dqd)only[ev1,simprocAttr,Cg,Ca,Ch,results41,e3,e8,e9,e10,e16,e17,e18,d2,jp];exact OUT (i+1,out2,c2) _ aF ⟨rfl,aE,by rw [j5,l9],ee,hc2,aV,aV,aV,aV,aV⟩
 ·have d1:decide ((i:Int)<(l.length:Int))=false:=aQ
  have mb:i=l.length:=aA
  subst mb;rw [Ir] at ho sa;have hU S tk k:=Z3 S tk k out c (by rw [ho]; omega) hc;simp only [B2] at hU;simp (maxSteps:=10^6)+contextual(disch:=try exact dqd)only[ev1,simprocAttr,Cg,Ca,Ch,results41,e3,e8,e9,e10,d1,Au,hU];rw [ho]; rfl
def Gk:List RowT->Int
 | []=>0
 | r :: l=>if A6 r.1 r.2.1 != 0 then A6 r.1 r.2.1 else Gk l
def sysE (l:List RowT):Int:=if 64<l.length then 7 else if Gk l != 0 then Gk l else if 24<(Hv l).length then 7 else 0
theorem Qn {cs:List (ByteArray × Int)} {n:Int} (h:A6 cs n=0):cs.length<=24:=by
 unfold A6 at h;split at h
 ·cases h
 ·omega
theorem Qz:∀ {l:List RowT},Gk l=0->fewC l
 | [],_=>fun r hr=>by simp at hr
 | r :: l,h=>by
  unfold Gk at h;by_cases h0:A6 r.1 r.2.1=0
  ·rw [h0] at h;simp only [bne_self_eq_false,C4,if_false] at h;intro x hx;rcases Cy.1 hx with rfl|hx
   ·exact Qn h0
   ·exact Qz h x hx
  ·exact Ya2s
theorem Jy (l:List RowT) (dz:∀ r ∈ l,r.1.length<=1048576):cL prog 18 [Au l] S tk k=some (.int (sysE l),S,tk,k):=by
 refine opP func18 ntmps18 ?_;by_cases h64:64<l.length
 ·have d0:decide ((l.length:Int) > 64)=true:=aB
  simp (maxSteps:=10^6)+contextual(disch:=try exact dqd)only[ev1,simprocAttr,Cg,Ca,Ch,results18,Au,d0];simp [sysE,h64]
 have d0:decide ((l.length:Int) > 64)=false:=aB
 simp (maxSteps:=10^6)+contextual(disch:=try exact dqd)only[ev1,simprocAttr,Cg,Ca,Ch,results18,Au,d0];refine loop1 (P:=prog) (fun x st=>st.T.length=26/\(x<=l.length)/\(Gk l=Gk (l.drop x))/\getT st.T 0=Au l/\getT st.T 9=Au l/\getT st.T 10=.int l.length/\getT st.T 11=.int (x:Nat)/\st.S=[]) (fun x=>l.length - x) (fun x=>.int (sysE l)) (0) ?_ ?_;case refine_2=>exact ⟨rfl,Cs _,rfl,rfl,rfl,rfl,rfl,rfl⟩
 rintro i ⟨T,S',tk',n'⟩ ⟨hl,hi,hE,e0,e9,e10,e11,eS⟩ IH;subst eS;obtain ⟨g,hg,hT⟩:=Aw hl;rw [hg] at e0 e9 e10 e11;subst hT;clear hg hl;have jp:=Db (i:=i) aA;by_cases hlt:i<l.length
 ·have d1:decide ((i:Int)<(l.length:Int))=true:=aQ
  obtain ⟨r,hx⟩:=Ah hlt;have hx':=Km hx;have hC S tk k:=Ga S tk k r.1 r.2.1 (dz r (Z0 hx));simp only [rowC,Ak] at hx';simp only [linA,Ak] at hC;rw [Av hx,Gk] at hE;generalize A6 r.1 r.2.1=e at *;cases h0:(e != 0) with
  | true =>
   simp (maxSteps:=10^6)+contextual(disch:=try exact dqd)only[ev1,simprocAttr,Cg,Ca,Ch,results18,e0,e9,e10,e11,d1,Au,hx',hC,jp,h0];rw [h0,if_pos rfl] at hE;unfold sysE;rw [if_neg h64,hE,if_pos h0]
  | false =>
   rw [h0,if_neg (by simp)] at hE;simp (maxSteps:=10^6)+contextual(disch:=try exact dqd)only[ev1,simprocAttr,Cg,Ca,Ch,results18,e0,e9,e10,e11,d1,Au,hx',hC,jp,h0];exact IH (i+1) _ aF ⟨rfl,aE,hE,aV,aV,aV,aV,aV⟩
 ·have d1:decide ((i:Int)<(l.length:Int))=false:=aQ
  have mb:i=l.length:=aA
  subst mb;rw [Fh] at hE;have si:Gk l=0:=hE;have hV S tk k:=Gt S tk k l (Qz si) aA;have hs:sysE l=if 24<(Hv l).length then 7 else 0:=by unfold sysE; rw [if_neg h64,si]; rfl
  rw [hs];simp only [Au,B2] at hV;by_cases h24:24<(Hv l).length
  ·have d2:decide (((Hv l).length:Int) > 24)=true:=aB
   simp (maxSteps:=10^6)+contextual(disch:=try exact dqd)only[ev1,simprocAttr,Cg,Ca,Ch,results18,e0,e9,e10,e11,d1,Au,hV,d2];rw [if_pos h24]
  ·have d2:decide (((Hv l).length:Int) > 24)=false:=aB
   simp (maxSteps:=10^6)+contextual(disch:=try exact dqd)only[ev1,simprocAttr,Cg,Ca,Ch,results18,e0,e9,e10,e11,d1,Au,hV,d2];rw [if_neg h24]
theorem R5 {l:List RowT} (h:sysE l=0):fewC l/\l.length<=64/\(Hv l).length<=24/\Gk l=0:=by
 unfold sysE at h;split at h
 ·cases h
 ·split at h
  ·rename_i h1 h2; rw [h] at h2; cases h2
  ·rename_i h1 h2;split at h
   ·cases h
   ·have h0:Gk l=0:=cM
    exact ⟨Qz h0,aA,aA,h0⟩
end
end
section
open Go
def IncC (cs:List (ByteArray × Int)):Prop:=Inc (cs.map (·.1))
theorem Al4:∀ {n:Int} {p:Option ByteArray} {cs:List (ByteArray × Int)},Bi n p cs=0->inB n=true/\∀ c ∈ cs,inB c.2=true
 | n,p,[],h=>by
  unfold Bi at h;split at h
  ·rename_i h1; exact ⟨h1,fun c hc=>by simp at hc⟩
  ·cases h
 | n,p,c :: cs,h=>by
  unfold Bi at h;split at h
  ·cases h
  ·split at h
   ·cases h
   ·rename_i h1;split at h
    ·cases h
    ·obtain ⟨a,b⟩:=Al4 h;refine ⟨a,fun x hx=>?_⟩;rcases Cy.1 hx with rfl|hx
     ·simp at h1; exact h1.2
     ·exact b x hx
theorem Agy {n:Int} (h:inB n=true):i64 n:=by unfold inB at h; simp at h; unfold i64; omega
theorem Abq:∀ {l:List RowT},Gk l=0->∀ r ∈ l,i64 r.2.1/\∀ c ∈ r.1,i64 c.2
 | [],_=>fun r hr=>by simp at hr
 | r :: l,h=>by
  unfold Gk at h;by_cases h0:A6 r.1 r.2.1=0
  ·rw [h0] at h;simp only [bne_self_eq_false,C4,if_false] at h;intro x hx;rcases Cy.1 hx with rfl|hx
   ·unfold A6 at h0;split at h0
    ·cases h0
    ·obtain ⟨a,b⟩:=Al4 h0;exact ⟨Agy a,fun c hc=>Agy (b c hc)⟩
   ·exact Abq h x hx
  ·exact Ya2s
theorem Afu:∀ {n:Int} {p:Option ByteArray} {cs:List (ByteArray × Int)},Bi n p cs=0->IncC cs/\∀ c ∈ cs,∀ b,p=some b->nm b<nm c.1
 | n,p,[],h=>⟨List.Pairwise.nil,fun c hc=>by simp at hc⟩
 | n,p,c :: cs,h=>by
  unfold Bi at h;split at h
  ·cases h
  ·split at h
   ·cases h
   ·split at h
    ·cases h
    ·rename_i h3;obtain ⟨a,b⟩:=Afu h;have hc:∀ x ∈ cs,nm c.1<nm x.1:=fun x hx=>b x hx c.1 rfl;refine ⟨F7.2 ⟨fun y hy=>?_,a⟩,?_⟩
     ·obtain ⟨x,hx,rfl⟩:=Fy.1 hy; exact hc x hx
     ·intro x hx d hd;subst hd;have oc:nm d<nm c.1:=by
       simp only [M3,Fz,not_or,gL] at h3;obtain ⟨e1,e2⟩:=h3;rw [Aig] at e1;rw [Uh] at e2;rcases Ahp d c.1 with h|h|h
       ·exact h
       ·exact absurd h.symm (by simpa using e2)
       ·exact absurd h (by simpa using e1)
      rcases Cy.1 hx with rfl|hx
      ·exact oc
      ·exact List.lt_trans oc (hc x hx)
theorem Afr {cs:List (ByteArray × Int)} {n:Int} (h:A6 cs n=0):IncC cs:=by
 unfold A6 at h;split at h
 ·cases h
 ·exact (Afu h).1
theorem Afv:∀ {n:Int} {p:Option ByteArray} {cs:List (ByteArray × Int)},Bi n p cs=0->n.natAbs<=1000000000000/\∀ c ∈ cs,c.2.natAbs<=1000000000000/\c.2≠0
 | n,p,[],h=>by
  unfold Bi at h;split at h
  ·rename_i h1;unfold inB at h1;simp at h1;exact ⟨aA,fun c hc=>by simp at hc⟩
  ·cases h
 | n,p,c :: cs,h=>by
  unfold Bi at h;split at h
  ·cases h
  ·split at h
   ·cases h
   ·rename_i h1;split at h
    ·cases h
    ·obtain ⟨a,b⟩:=Afv h;refine ⟨a,fun x hx=>?_⟩;rcases Cy.1 hx with rfl|hx
     ·unfold inB at h1;simp at h1;exact ⟨aA,h1.1⟩
     ·exact b x hx
theorem Afs {cs:List (ByteArray × Int)} {n:Int} (h:A6 cs n=0):n.natAbs<=1000000000000/\∀ c ∈ cs,c.2.natAbs<=1000000000000/\c.2≠0:=by
 unfold A6 at h;split at h
 ·cases h
 ·exact Afv h
theorem Kf:∀ {l:List RowT},Gk l=0->∀ r ∈ l,A6 r.1 r.2.1=0
 | [],_=>fun r hr=>by simp at hr
 | r :: l,h=>by
  unfold Gk at h;by_cases h0:A6 r.1 r.2.1=0
  ·rw [h0] at h;simp only [bne_self_eq_false,C4,if_false] at h;intro x hx;rcases Cy.1 hx with rfl|hx
   ·exact h0
   ·exact Kf h x hx
  ·exact Ya2s
end
end Go.Proofs.YthelkgdmgihhiaaGreat
