/- Part 16. -/
import Derived.OpenShut
import Derived.ChangeArms
import Derived.Test.YthelkgdmgihhiaaGreatZB15
open And renaming intro->B2
open Bool renaming and_eq_true->Ci,not_false->Fw,false_and->F4,not_true->F5,not_eq_true'->Gb,true_and->G2,not_eq_true->iZ
open Classical renaming byContradiction->Od
open Go.Addr renaming add->jG
open Go.DataW renaming trod->iF,Trod->iY
open Go.IntKind renaming i64->Ce,u64->S6
open Go.Proofs.YthelkgdmgihhiaaGreat.AV renaming bool->Ca,int->Cc,str->Cd
open Go.Value renaming oneCell'->iK
open Go.World renaming cell?->I7
open Int renaming tdiv_eq_ediv_of_nonneg->C8,mul_comm->F3,mul_assoc->Ia,natAbs_mul->Ib,tmod_eq_emod_of_nonneg->Ic,mul_add->Ir,pow_succ->Lz,mul_nonneg->Oi,natCast_nonneg->O0,add_zero->O2,neg_mul->O4,natCast_mul->O9,mul_zero->Sa,mul_sub->Sz,add_assoc->gR,natAbs_tdiv->jM,toNat_of_nonneg->jN,natAbs->kF
open List renaming replicate->Cg,map_cons->Cn,cons_append->Cp,map_nil->Ct,getElem?_append_left->Cu,mem_append->Cw,getElem?_append_right->C3,all_eq_true->C4,mem_cons->C6,drop_length->C9,getElem?_eq_none->Et,length_eq_zero_iff->Fc,flatten_cons->Ff,drop_zero->Fi,append_nil->Fp,drop_eq_nil_of_le->Fx,map_append->F6,range->Ih,getElem?_take_of_lt->Ii,mem_of_getElem?->Iq,getElem?_eq_getElem->It,mem_replicate->Iu,take_append_drop->I9,getElem?_cons_zero->M2,length_pos_iff->Oe,flatten_nil->Sg,mem_of_mem_take->Su,getElem?_drop->S7,length_set->iA,mem_of_mem_drop->jJ
open List.cons renaming injEq->gY
open Nat renaming le_refl->Cf,zero_le->Cl,mul_le_mul_right->E5,mul_one->Fa,le_trans->Fe,zero_add->Fo,lt_of_lt_of_le->Ft,lt_or_ge->Ie,lt_of_le_of_lt->Ij,div_lt_iff_lt_mul->Ik,add_zero->Io,mul_comm->Ip,mul_le_mul->Ix,gcd_pos_of_pos_right->I6,pow_succ->Lq,add_mul->Ns,div_le_self->Ob,mul_le_mul_left->Og,zero_mul->Oj,mod_eq_of_lt->Om,mod_lt->Ov,div_add_mod->Ow,gcd_zero_right->Oz,le_div_iff_mul_le->So,pow_pos->Ss,gcd_le_right->Sy,eq_zero_or_pos->Vo,add_assoc->fW,gcd_comm->gL,add_right_cancel_iff->gV,div_eq_of_lt->iX,le_of_lt->jU
open Ne renaming symm->O3
open Option renaming map_eq_some_iff->Cb,bind_eq_some_iff->Il,bind_some->Oo
open Option.some renaming injEq->A3
open Prod.mk renaming injEq->Ch
open Rat renaming intCast_mul->Cv,intCast_neg->Oa,intCast_add->Ox,mul_nonneg->O5,intCast_inj->O8,le_refl->S5
namespace Go.Proofs.YthelkgdmgihhiaaGreat
open Go
inductive Sh (P:Program):TypeId->List AV->Prop
 | bool {t b} : P.underlying t=some .bool->Sh P t [.prim (.bool b)]
 | int {t k n} : P.underlying t=some (.int k)->(Lit.int k n).wf=true->Sh P t [.prim (.int k n)]
 | str {t s} : P.underlying t=some .string->s.size<=maxLen->Sh P t [.prim (.string s)]
 | slice {t e es} : P.underlying t=some (.slice e)->(∀ x ∈ es,Sh P e x)->es.length<=maxLen->Sh P t [.frz es .unk]
 | struct {t fs} {pss:List (List AV)} : P.underlying t=some (.struct fs)->pss.length=fs.size->(∀ i f p,fs[i]?=some f->nth pss i=some p->Sh P f.type p)->Sh P t pss.flatten
 | array {t n e} {pss:List (List AV)} : P.underlying t=some (.array n e)->pss.length=n->(∀ p ∈ pss,Sh P e p)->Sh P t pss.flatten
def Aay (P:Program):List Field->Nat->Nat->Bool
 | [],o,n=>o == n
 | f :: fs,o,n=>f.offset == o && Aay P fs (o+P.cellsOf f.type) n
def Aou (P:Program) (F:List TypeId) (t:TypeId):Bool :=
 match P.underlying t with
 | some .bool=>true
 | some (.int k)=>k != .u64
 | some .string=>true
 | some (.slice e)=>F.contains e && decide (0<P.cellsOf e)
 | some (.struct fs)=>Aay P fs.toList 0 (P.cellsOf t) && fs.toList.all fun f=>F.contains f.type
 | some (.array n e)=>F.contains e && P.cellsOf t == n*P.cellsOf e
 | _=>false
def Ads (P:Program) (F:List TypeId):Bool:=F.all (Aou P F)
def Ul:AV->Bool
 | .prim (.int k _)=>k != .u64
 | .prim _=>true
 | .frz _ _=>true
 | _=>false
theorem Asb {w:World} {A:Nat->Nat->Prop} {b:Nat} : ∀ (vs:List Value) (o:Nat),(∀ j v,nth vs j=some v->w.cell? ⟨b,o+j,none⟩=some v/\¬ A b (o+j))->Lie w A b o vs
 | [],_,_=>trivial
 | v :: vs,o,h=>by
  have h0:=h 0 v rfl;refine ⟨h0.1,h0.2,Asb vs (o+1) fun j u hu=>?_⟩;have:=h (j+1) u hu;rwa [show o+(j+1)=o+1+j by omega] at this
theorem Ae8 {w:World} {A:Nat->Nat->Prop} {b sz:Nat} : ∀ (es:List (List AV)) (o:Nat),(∀ i e,nth es i=some e->e.length=sz/\∃ vs,Lie w A b (o+i*sz) vs/\PRs w A e vs)->B0 w A b sz o es
 | [],_,_=>by simp only [B0]
 | e :: es,o,h=>by
  simp only [B0];have h0:=h 0 e rfl;rw [Oj,Io] at h0;refine ⟨h0.1,h0.2,Ae8 es (o+sz) fun i f hf=>?_⟩;have:=h (i+1) f hf;exact Ya3m
theorem Ade {w:World} {A:Nat->Nat->Prop} : ∀ {cs ds:List AV} {us vs:List Value},PRs w A cs us->PRs w A ds vs->PRs w A (cs++ds) (us++vs)
 | [],_,[],_,_,h=>h
 | _ :: _,_,_ :: _,_,h1,h2=>by simp only [PRs,Cp] at h1 ⊢; exact ⟨h1.1,Ade h1.2 h2⟩
 | [],_,_ :: _,_,h1,_=>by simp only [PRs] at h1
 | _ :: _,_,[],_,h1,_=>by simp only [PRs] at h1
theorem Agh {w:World} {A:Nat->Nat->Prop} : ∀ {cs:List AV} {vs:List Value},PRs w A cs vs->(∀ c ∈ cs,Ul c=true)->∀ v ∈ vs,∀ n,v≠.int .u64 n
 | [],[],_,_,v,hv=>by simp at hv
 | c :: cs,x :: vs,h,hg,v,hv=>by
  simp only [PRs] at h;rcases C6.1 hv with rfl|hv
  ·intro n e;subst e;have hc:=hg c (by simp);have hp:=h.1;cases c with
   | prim y=>simp only [PR] at hp; rw [<- hp.1] at hc; simp [Ul] at hc
   | frz es q=>cases q <;> simp only [PR] at hp; obtain ⟨a,l,q,e,-⟩:=hp; cases e
   | _=>simp [Ul] at hc
  ·exact Agh h.2 (fun d hd=>hg d (by simp [hd])) v hv
 | [],_ :: _,h,_,_,_=>bN
 | _ :: _,[],h,_,_,_=>bN
theorem Aee {α β:Type} {f:α->Option β} : ∀ {l:List α} {ys:List β},l.mapM f=some ys->ys.length=l.length/\∀ i x y,nth l i=some x->nth ys i=some y->f x=some y
 | [],ys,h=>by simp at h; subst h; exact ⟨rfl,fun i x y hx=>by simp [nth] at hx⟩
 | a :: l,ys,h=>by
  rw [List.mapM_cons] at h;simp only [Option.pure_def,Option.bind_eq_bind,Il] at h;obtain ⟨b,hb,bs,pm,e⟩:=h;simp only [A3] at e;subst e;obtain ⟨h1,h2⟩:=Aee pm;refine ⟨by simp [h1],fun i x y hx hy=>?_⟩;cases i with
  | zero=>simp only [nth,A3] at hx hy; subst hx hy; exact hb
  | succ i=>exact h2 i x y hx hy
theorem Acf {n i:Nat} (h:i<n):nth (Ih n) i=some i:=by rw [Ae,List.getElem?_range h]
theorem Ap5 {w:World} {b off n:Nat} {vs:List Value} (h:w.cells? 0 ⟨b,off,none⟩ n=some vs):vs.length=n/\∀ j v,nth vs j=some v->w.cell? ⟨b,off+j,none⟩=some v:=by
 unfold World.cells? at h;rw [if_pos (Cl _)] at h;obtain ⟨h1,h2⟩:=Aee h;rw [List.length_range] at h1;refine ⟨h1,fun j v hv=>?_⟩;have hj:j<n:=by have:=A8 hv; omega
 have:=h2 j j v (Acf hj) hv;unfold jG at this;split at this
 ·rename_i h0; subst h0; exact this
 ·exact this
theorem spot0 {w:World} {a:Addr} {v:Value} (h:w.cell? a=some v):a.spot=none:=by
 unfold I7 at h;split at h
 ·split at h
  ·cases h
  ·rename_i hs; simpa using hs
 ·cases h
section
variable {H:Type} {enc:TypeId × Value->H} {P:Program} {w:World} {sp:Nat->Bool} {jt:Bool} {A:Nat->Nat->Prop} {F:List TypeId}
def Rd (P:Program) (w:World) (A:Nat->Nat->Prop) (t:TypeId) (cs:List Value) (avs:List AV):Prop:=Sh P t avs/\PRs w A avs cs/\∀ c ∈ avs,Ul c=true
theorem Abf {n:Nat} {cs:List Value} (ih:∀ t ds x,t ∈ F->iF enc P w 0 sp jt n t ds=some x->∃ avs,Rd P w A t ds avs) :
  ∀ (fs:List Field) (o:Nat) (xs:List (DataW H × List MemPlace)),Aay P fs o cs.length=true->(∀ f ∈ fs,f.type ∈ F)->xs.length=fs.length ->
   (∀ i f,nth fs i=some f->iF enc P w 0 sp jt n f.type ((cs.drop f.offset).take (P.cellsOf f.type))=nth xs i) ->
   ∃ pss:List (List AV),pss.length=fs.length/\(∀ i f p,nth fs i=some f->nth pss i=some p->Sh P f.type p)/\PRs w A pss.flatten (cs.drop o)/\∀ c ∈ pss.flatten,Ul c=true
 | [],o,xs,hc,_,_,_=>by
  simp only [Aay,beq_iff_eq] at hc;exact ⟨[],rfl,fun i f p hf=>by simp [nth] at hf,by rw [hc,C9]; simp only [Sg,PRs],by simp⟩
 | f :: fs,o,xs,hc,hF,hl,h=>by
  simp only [Aay,Ci,beq_iff_eq] at hc;obtain ⟨ho,hc⟩:=hc;cases xs with
  | nil=>simp at hl
  | cons x xs =>
  have h0:=h 0 f rfl;obtain ⟨avs,s1,p1,g1⟩:=ih _ _ _ (hF f (by simp)) h0;obtain ⟨pss,l2,s2,p2,g2⟩:=Abf ih fs (o+P.cellsOf f.type) xs hc (fun g hg=>hF g (by simp [hg])) bW fun i g hg=>h (i+1) g hg;refine ⟨avs :: pss,by simp [l2],fun i g p hg hp=>?_,?_,?_⟩
  ·cases i with
   | zero=>simp only [nth,A3] at hg hp; subst hg hp; exact s1
   | succ i=>exact s2 i g p hg hp
  ·rw [ho] at p1;have e:cs.drop o=(cs.drop o).take (P.cellsOf f.type)++cs.drop (o+P.cellsOf f.type):=by
    rw [<- List.drop_drop,I9]
   rw [e,Ff];exact Ade p1 p2
  ·intro c hc;exact Ya1w
theorem Af3 {n sz:Nat} {e:TypeId} {cs:List Value} (ih:∀ t ds x,t ∈ F->iF enc P w 0 sp jt n t ds=some x->∃ avs,Rd P w A t ds avs) (he:e ∈ F) :
  ∀ (k o:Nat),cs.length=o+k*sz->(∀ i,i<k->∃ x,iF enc P w 0 sp jt n e ((cs.drop (o+i*sz)).take sz)=some x) ->
   ∃ pss:List (List AV),pss.length=k/\(∀ p ∈ pss,Sh P e p)/\PRs w A pss.flatten (cs.drop o)/\∀ c ∈ pss.flatten,Ul c=true
 | 0,o,hl,_=>⟨[],rfl,by simp,by rw [Fx aA]; simp only [Sg,PRs],by simp⟩
 | k+1,o,hl,h=>by
  obtain ⟨x,h0⟩:=h 0 aA;rw [Oj,Io] at h0;obtain ⟨avs,s1,p1,g1⟩:=ih _ _ _ he h0;obtain ⟨pss,l2,s2,p2,g2⟩:=Af3 (sz:=sz) ih he k (o+sz) (by rw [hl,Ns]; omega) fun i hi=>by
   have:=h (i+1) aA;exact Ya3m
  refine ⟨avs :: pss,by simp [l2],fun p hp=>?_,?_,?_⟩
  ·rcases C6.1 hp with rfl|hp
   ·exact s1
   ·exact s2 p hp
  ·have e:cs.drop o=(cs.drop o).take sz++cs.drop (o+sz):=by rw [<- List.drop_drop,I9]
   rw [e,Ff];exact Ade p1 p2
  ·intro c hc;exact Ya1w
theorem Aot (hF:Ads P F=true) (hA:∀ b o v,A b o->w.cell? ⟨b,o,none⟩=some v->∃ n,v=.int .u64 n):∀ (fuel:Nat) (t:TypeId) (cs:List Value) (x:DataW H × List MemPlace),t ∈ F->iF enc P w 0 sp jt fuel t cs=some x->∃ avs,Rd P w A t cs avs
 | 0,_,_,_,_,h=>by simp [iF] at h
 | n+1,t,cs,x,ht,h=>by
  have bc:Aou P F t=true:=C4.1 hF t ht;have ih:∀ t ds x,t ∈ F->iF enc P w 0 sp jt n t ds=some x->∃ avs,Rd P w A t ds avs:=fun t ds x ht h=>Aot hF hA n t ds x ht h;unfold Aou at bc;split at bc
  ·rename_i hu;obtain ⟨b,rfl,-⟩:=DataW.trod_bool hu h;exact ⟨[.prim (.bool b)],.bool hu,Za33,by simp [Ul]⟩
  ·rename_i k hu;obtain ⟨q,rfl,-,hw⟩:=DataW.trod_int hu h;exact ⟨[.prim (.int k q)],.int hu hw,Za33,by simpa [Ul] using bc⟩
  ·rename_i hu;obtain ⟨s,rfl,-,hw⟩:=DataW.trod_string hu h;exact ⟨[.prim (.string s)],.str hu hw,Za33,by simp [Ul]⟩
  ·rename_i e hu;simp only [Ci,decide_eq_true_eq] at bc;obtain ⟨bc,hpos⟩:=bc;have he:e ∈ F:=by simpa using bc
   rcases DataW.trod_slice hu h with ⟨rfl,-⟩|⟨a,len,cap,elems,rest,n',hn,rfl,-,-,hl,hcap,hel,hi,-,-⟩
   ·exact ⟨[.frz [] .unk],.slice hu (by simp) (by simp),by simp only [PRs,PR,and_true]; exact ⟨none,0,0,rfl,rfl,Cf _,.inl trivial⟩,by simp [Ul]⟩
   ·simp only [gV] at hn;subst hn;have i9:∀ i,i<len->∃ vs avs,w.cells? 0 (a.add (i*P.cellsOf e)) (P.cellsOf e)=some vs/\Rd P w A e vs avs:=fun i bh=>by
     have h1:=hi i bh;rw [It aA] at h1;obtain ⟨vs,h2,h3⟩:=Il.1 h1;obtain ⟨avs,h4⟩:=ih _ _ _ he h3;exact ⟨vs,avs,h2,h4⟩
    have wg:∃ es:List (List AV),es.length=len/\∀ i av,nth es i=some av->∃ vs,w.cells? 0 (a.add (i*P.cellsOf e)) (P.cellsOf e)=some vs/\Rd P w A e vs av:=by
     clear hi hel hl hcap h;induction len with
     | zero=>exact ⟨[],rfl,fun i av dx=>by simp [nth] at dx⟩
     | succ len ihl =>
      obtain ⟨es,l1,l2⟩:=ihl fun i bh=>i9 i aA;obtain ⟨vs,avs,h1,h2⟩:=i9 len aA;refine ⟨es++[avs],by simp [l1],fun i av dx=>?_⟩;rw [Ae] at dx;rcases Ie i len with hlt|iy
      ·rw [Cu aA,<- Ae] at dx; exact l2 i av dx
      ·rw [C3 aA,l1] at dx;have:i - len=0:=by
        rcases Vo (i - len) with h0|h0
        ·exact h0
        ·rw [Et aC] at dx; cases dx
       rw [this] at dx;have e1:i=len:=aA
       simp only [M2,A3] at dx;subst dx e1;exact ⟨vs,h1,h2⟩
    obtain ⟨es,l1,l2⟩:=wg;refine ⟨[.frz es .unk],.slice hu (fun x hx=>?_) aA,?_,by simp [Ul]⟩
    ·obtain ⟨i,hx⟩:=List.mem_iff_getElem?.1 hx;obtain ⟨vs,-,h1,-⟩:=l2 i x (by rw [Ae]; exact hx);exact h1
    ·simp only [PRs,PR,and_true];refine ⟨some a,len,cap,rfl,l1,hl,?_⟩;by_cases hlen:es=[]
     ·exact .inl hlen
     right;have dp:0<len:=by
      rcases Vo len with h0|h0
      ·rw [h0] at l1; exact absurd (Fc.1 l1) hlen
      ·exact h0
     obtain ⟨b,off,spt⟩:=a;have k9:spt=none:=by
      obtain ⟨vs,avs,h1,-⟩:=i9 0 dp;rw [Oj] at h1;unfold World.cells? at h1;rw [if_pos (Cl _)] at h1;obtain ⟨h2,h3⟩:=Aee h1;rw [List.length_range] at h2;obtain ⟨v,hv⟩:=Ab (l:=vs) (i:=0) aA;have h4:=h3 0 0 v (Acf hpos) hv;exact spot0 (a:=(⟨b,off,spt⟩:Addr)) h4
     subst k9;have up:∀ i,(⟨b,off,none⟩:Addr).add i=⟨b,off+i,none⟩:=fun i=>by
      unfold jG;split
      ·rename_i h0; rw [h0]; rfl
      ·rfl
     refine ⟨b,off,P.cellsOf e,rfl,Ae8 es off fun i av dx=>?_⟩;obtain ⟨vs,h1,uw,qq,hgd⟩:=l2 i av dx;rw [up] at h1;obtain ⟨h2,h3⟩:=Ap5 h1;refine ⟨by rw [L0 qq,h2],vs,Asb vs _ fun j v hv=>⟨h3 j v hv,fun ha=>?_⟩,qq⟩;obtain ⟨q,hq⟩:=hA _ _ v ha (h3 j v hv);exact Agh qq hgd v (Iq (by rw [Ae] at hv; exact hv)) q hq
  ·rename_i fs hu;simp only [Ci] at bc;obtain ⟨xs,n',hn,-,hlen,zb,hi⟩:=DataW.trod_struct hu h;simp only [gV] at hn;subst hn;rw [<- hlen] at bc;obtain ⟨pss,l1,l2,l3,l4⟩:=Abf ih fs.toList 0 xs bc.1 (fun f hf=>by simpa using C4.1 bc.2 f hf) (by simpa using zb) fun i f hf=>by
    rw [Ae] at hf ⊢;exact hi i f (by simpa using hf)
   rw [Fi] at l3;exact ⟨pss.flatten,.struct hu (by simpa using l1) (fun i f p hf hp=>l2 i f p (by rw [Ae]; simpa using hf) hp),l3,l4⟩
  ·rename_i k e hu;simp only [Ci,beq_iff_eq] at bc;obtain ⟨bc,hsz⟩:=bc;have he:e ∈ F:=by simpa using bc
   obtain ⟨xs,n',hn,-,hlen,zb,hi⟩:=DataW.trod_array hu h;simp only [gV] at hn;subst hn;obtain ⟨pss,l1,l2,l3,l4⟩:=Af3 (sz:=P.cellsOf e) ih he k 0 (by rw [hlen,hsz]; omega) fun i ug=>by
    have:=hi i ug;rw [It aA] at this;rw [Fo];exact ⟨_,this⟩
   rw [Fi] at l3;exact ⟨pss.flatten,.array hu l1 l2,l3,l4⟩
  ·cases bc
theorem Au6 (hF:Ads P F=true) (hA:∀ b o v,A b o->w.cell? ⟨b,o,none⟩=some v->∃ n,v=.int .u64 n) {t:TypeId} {v:Value} {d:DataW H} {p:List MemPlace} (ht:t ∈ F) (h:iY enc P w 0 sp jt t v d p):∃ avs,Sh P t avs/\PRs w A avs v.cells.toList:=by
 obtain ⟨fuel,hf⟩:=h;obtain ⟨avs,h1,h2,-⟩:=Aot hF hA fuel t _ _ ht hf;exact ⟨avs,h1,h2⟩
theorem Avl {t:TypeId} {avs:List AV} (hu:P.underlying t=some .bool) (h:Sh P t avs):∃ b,avs=[.prim (.bool b)]:=by
 cases h <;> rename_i h <;> rw [hu] at h <;> cases h;exact ⟨_,rfl⟩
theorem Ayg {t:TypeId} {avs:List AV} (hu:P.underlying t=some .string) (h:Sh P t avs):∃ s:ByteArray,avs=[.prim (.string s)]/\s.size<=maxLen:=by
 cases h with
 | str _ h=>exact ⟨_,rfl,h⟩
 | bool h|int h|slice h|struct h|array h=>rw [hu] at h; cases h
theorem As9 {t:TypeId} {k:IntKind} {avs:List AV} (hu:P.underlying t=some (.int k)) (h:Sh P t avs):∃ n,avs=[.prim (.int k n)]/\(Lit.int k n).wf=true:=by
 cases h with
 | int h h'=>rw [hu] at h; cases h; exact ⟨_,rfl,h'⟩
 | bool h|str h|slice h|struct h|array h=>rw [hu] at h; cases h
theorem Zp {t e:TypeId} {avs:List AV} (hu:P.underlying t=some (.slice e)) (h:Sh P t avs):∃ es,avs=[.frz es .unk]/\(∀ x ∈ es,Sh P e x)/\es.length<=maxLen:=by
 cases h with
 | slice h h' hl=>rw [hu] at h; cases h; exact ⟨_,rfl,h',hl⟩
 | bool h|str h|int h|struct h|array h=>rw [hu] at h; cases h
theorem An7 {t:TypeId} {fs:Array Field} {avs:List AV} (hu:P.underlying t=some (.struct fs)) (h:Sh P t avs):∃ pss:List (List AV),avs=pss.flatten/\pss.length=fs.size/\∀ i f p,fs[i]?=some f->nth pss i=some p->Sh P f.type p:=by
 cases h with
 | struct h h1 h2=>rw [hu] at h; cases h; exact ⟨_,rfl,h1,h2⟩
 | bool h|str h|int h|slice h|array h=>rw [hu] at h; cases h
theorem Qw {t:TypeId} {f0 f1:Field} {avs:List AV} (hu:P.underlying t=some (.struct #[f0,f1])) (h:Sh P t avs):∃ p0 p1,avs=p0++p1/\Sh P f0.type p0/\Sh P f1.type p1:=by
 obtain ⟨pss,rfl,hl,hp⟩:=An7 hu h;match pss,hl with
 | [p0,p1],_=>exact ⟨p0,p1,by simp,hp 0 f0 p0 rfl rfl,hp 1 f1 p1 rfl rfl⟩
theorem Ags {α:Type} {f:α->List AV} {Q:α->Prop} : ∀ {es:List (List AV)},(∀ x ∈ es,∃ c,x=f c/\Q c)->∃ cs:List α,es=cs.map f/\∀ c ∈ cs,Q c
 | [],_=>⟨[],rfl,by simp⟩
 | x :: es,h=>by
  obtain ⟨c,hc,hq⟩:=h x (by simp);obtain ⟨cs,h1,h2⟩:=Ags (es:=es) fun y hy=>h y (by simp [hy]);exact ⟨c :: cs,by rw [h1,hc]; rfl,fun d hd=>by
   rcases C6.1 hd with rfl|hd
   ·exact hq
   ·exact h2 d hd⟩
theorem As3 {C:Cx} {c:AV} {v:Value} (hv:v.cells.toList=[v]) (h:PRs C.w C.Avoid [c] v.cells.toList):VR C c v:=by
 rw [hv] at h; simp only [PRs,and_true] at h; exact X4 h
end
end Go.Proofs.YthelkgdmgihhiaaGreat
namespace Go.Proofs.YthelkgdmgihhiaaGreat.Simp
def sum:Nat->(Nat->Rat)->Rat
 | 0,_=>0
 | n+1,f=>sum n f+f n
theorem sum_congr {f g:Nat->Rat} : ∀ {n:Nat},(∀ j,j<n->f j=g j)->sum n f=sum n g
 | 0,_=>rfl
 | n+1,h=>by rw [sum,sum,sum_congr fun j hj=>h j aA,h n aA]
theorem sum_zero {f:Nat->Rat} {n:Nat} (h:∀ j,j<n->f j=0):sum n f=0:=by
 induction n with
 | zero=>rfl
 | succ n ih=>rw [sum,ih fun j hj=>h j aA,h n aA]; grind
theorem sum_add (f g:Nat->Rat):∀ n,sum n (fun j=>f j+g j)=sum n f+sum n g
 | 0=>dT
 | n+1=>by simp only [sum,sum_add f g n]; grind
theorem sum_mul (a:Rat) (f:Nat->Rat):∀ n,sum n (fun j=>a*f j)=a*sum n f
 | 0=>dT
 | n+1=>by simp only [sum,sum_mul a f n]; grind
theorem V2 (f g:Nat->Rat):∀ n,sum n (fun j=>f j - g j)=sum n f - sum n g
 | 0=>dT
 | n+1=>by simp only [sum,V2 f g n]; grind
theorem Mp (f:Nat->Nat->Rat) (m:Nat):∀ n,sum n (fun j=>sum m fun k=>f j k)=sum m fun k=>sum n fun j=>f j k
 | 0=>by simp only [sum]; exact (sum_zero fun _ _=>rfl).symm
 | n+1=>by simp only [sum,Mp f m n,sum_add]
theorem sum_one {f:Nat->Rat} {s:Nat} : ∀ {n:Nat},s<n->sum n (fun j=>if j=s then f j else 0)=f s
 | 0,h=>aA
 | n+1,h=>by
  rw [sum];by_cases e:n=s
  ·subst e;rw [if_pos rfl,sum_zero fun j hj=>if_neg aA]; grind
  ·rw [if_neg e,sum_one aA]; grind
theorem sum_nonneg {f:Nat->Rat} : ∀ {n:Nat},(∀ j,j<n->0<=f j)->0<=sum n f
 | 0,_=>dT
 | n+1,h=>by
  have h1:=sum_nonneg (f:=f) (n:=n) fun j hj=>h j aA;have h2:=h n aA;rw [sum]; grind
theorem Rb {f:Nat->Rat} : ∀ {n:Nat},0<sum n f->∃ j,j<n/\0<f j
 | 0,h=>by simp only [sum] at h; grind
 | n+1,h=>by
  rw [sum] at h;by_cases h1:0<f n
  ·exact ⟨n,aA,h1⟩
  ·have h2:0<sum n f:=aM
   obtain ⟨j,hj,h3⟩:=Rb h2;exact ⟨j,aA,h3⟩
structure Tab where
 T:Nat->Nat->Rat
 c:Nat->Rat
 B:Nat->Nat
def dot (N:Nat) (a x:Nat->Rat):Rat:=sum (N+1) fun j=>a j*x j
def Ker (m N:Nat) (t:Tab) (x:Nat->Rat):Prop:=∀ i,i<m->dot N (t.T i) x=0
def pivT (t:Tab) (r s:Nat) (i j:Nat):Rat:=if i=r then t.T r j / t.T r s else t.T i j - t.T i s*(t.T r j / t.T r s)
def piv (t:Tab) (r s:Nat):Tab:=⟨pivT t r s,fun j=>t.c j - t.c s*(t.T r j / t.T r s),fun i=>if i=r then s else t.B i⟩
theorem Afz (N:Nat) (a:Rat) (f x:Nat->Rat):dot N (fun j=>a*f j) x=a*dot N f x:=by
 unfold dot;rw [<- sum_mul];exact Ya3u
theorem Aua (N:Nat) (f g x:Nat->Rat):dot N (fun j=>f j - g j) x=dot N f x - dot N g x:=by
 unfold dot;rw [<- V2];exact Ya3u
theorem Alp (N:Nat) (a:Rat) (f x:Nat->Rat):dot N (fun j=>f j / a) x=dot N f x / a:=by
 have h:=Afz N a⁻¹ f x;have e1:(fun j=>a⁻¹*f j)=fun j=>f j / a:=by funext j; grind
 rw [e1] at h;rw [h]; grind
theorem Afy (N:Nat) (a:Rat) (p:Rat) (f g x:Nat->Rat):dot N (fun j=>f j - a*(g j / p)) x=dot N f x - a*(dot N g x / p):=by
 rw [Aua,Afz N a (fun j=>g j / p) x,Alp]
theorem Aep (t:Tab) (r s:Nat) (N:Nat) (x:Nat->Rat) (i:Nat):dot N ((piv t r s).T i) x=if i=r then dot N (t.T r) x / t.T r s else dot N (t.T i) x - t.T i s*(dot N (t.T r) x / t.T r s):=by
 by_cases h:i=r
 ·subst h;rw [if_pos rfl];have e:(piv t i s).T i=fun j=>t.T i j / t.T i s:=by funext j; simp [piv,pivT]
  rw [e,Alp]
 ·rw [if_neg h];have e:(piv t r s).T i=fun j=>t.T i j - t.T i s*(t.T r j / t.T r s):=by funext j; simp [piv,pivT,h]
  rw [e,Afy]
theorem piv_ker {m N:Nat} {t:Tab} {r s:Nat} (hr:r<m) (hp:t.T r s≠0) (x:Nat->Rat):Ker m N (piv t r s) x↔Ker m N t x:=by
 constructor
 ·intro h;have h0:=h r hr;rw [Aep,if_pos rfl] at h0;have ci:dot N (t.T r) x=0:=by
   have:dot N (t.T r) x=dot N (t.T r) x / t.T r s*t.T r s:=aM
   rw [this,h0]; grind
  intro i hi;have h1:=h i hi;rw [Aep] at h1;by_cases e:i=r
  ·subst e; exact ci
  ·rw [if_neg e,ci] at h1; grind
 ·intro h i hi;rw [Aep,h r hr,h i hi];split <;> grind
theorem piv_cost {m N:Nat} {t:Tab} {r s:Nat} (hr:r<m) {x:Nat->Rat} (hx:Ker m N t x):dot N (piv t r s).c x=dot N t.c x:=by
 show dot N (fun j=>t.c j - t.c s*(t.T r j / t.T r s)) x=_;rw [Afy,hx r hr]; grind
structure Fit (m N:Nat) (t:Tab):Prop where
 lt:∀ i,i<m->t.B i<N
 unit:∀ i k,i<m->k<m->t.T i (t.B k)=if i=k then 1 else 0
 free:∀ k,k<m->t.c (t.B k)=0
theorem Fit.inj {m N:Nat} {t:Tab} (h:Fit m N t) {i k:Nat} (hi:i<m) (hk:k<m) (e:t.B i=t.B k):i=k:=by
 have h1:=h.unit i i hi hi;have h2:=h.unit i k hi hk;rw [e,h2] at h1;by_cases ug:i=k
 ·exact ug
 ·rw [if_neg ug,if_pos rfl] at h1; grind
theorem piv_fit {m N:Nat} {t:Tab} {r s:Nat} (h:Fit m N t) (hr:r<m) (hs:s<N) (hp:t.T r s≠0):Fit m N (piv t r s):=by
 refine ⟨fun i hi=>?_,fun i k hi hk=>?_,fun k hk=>?_⟩
 ·show (if i=r then s else t.B i)<N;split
  ·exact hs
  ·exact h.lt i hi
 ·show pivT t r s i (if k=r then s else t.B k)=_;unfold pivT;by_cases hkr:k=r
  ·subst hkr;simp only [if_pos];by_cases ug:i=k
   ·subst ug; rw [if_pos rfl,if_pos rfl]; grind
   ·rw [if_neg ug,if_neg ug]; grind
  ·rw [if_neg hkr];have h1:=h.unit r k hr hk;rw [if_neg (O3 hkr)] at h1;have h2:=h.unit i k hi hk;by_cases zf:i=r
   ·subst zf; rw [if_pos rfl,h1,if_neg (O3 hkr)]; grind
   ·rw [if_neg zf,h1,h2]; grind
 ·show t.c (if k=r then s else t.B k) - t.c s*(t.T r (if k=r then s else t.B k) / t.T r s)=0;by_cases hkr:k=r
  ·subst hkr; simp only [if_pos]; grind
  ·rw [if_neg hkr,h.free k hk];have h1:=h.unit r k hr hk;rw [if_neg (O3 hkr)] at h1;rw [h1]; grind
def dir (m:Nat) (t:Tab) (s:Nat) (j:Nat):Rat:=(if j=s then 1 else 0) - sum m fun k=>if j=t.B k then t.T k s else 0
theorem Yl {m N:Nat} {t:Tab} (h:Fit m N t) {s:Nat} (hs:s<N+1) (a:Nat->Rat):dot N a (dir m t s)=a s - sum m fun k=>t.T k s*a (t.B k):=by
 unfold dot dir;have e1:∀ j,a j*((if j=s then 1 else 0) - sum m fun k=>if j=t.B k then t.T k s else 0)=(if j=s then a j else 0) - sum m fun k=>if j=t.B k then t.T k s*a j else 0:=by
  intro j;have e2:(sum m fun k=>if j=t.B k then t.T k s*a j else 0)=a j*sum m fun k=>if j=t.B k then t.T k s else 0:=by
   rw [<- sum_mul];exact sum_congr fun k _=>fK
  rw [e2];split <;> grind
 rw [sum_congr fun j _=>e1 j,V2,sum_one hs,Mp];congr 1;exact sum_congr fun k hk=>by
  have hb:t.B k<N+1:=by have:=h.lt k hk; omega
  rw [sum_one (f:=fun j=>t.T k s*a j) hb]
theorem T4 {m N:Nat} {t:Tab} (h:Fit m N t) {s:Nat} (hs:s<N+1):Ker m N t (dir m t s):=by
 intro i hi;rw [Yl h hs];have:(sum m fun k=>t.T k s*t.T i (t.B k))=t.T i s:=by
  rw [sum_congr (g:=fun k=>if k=i then t.T k s else 0) fun k hk=>?_,sum_one (f:=fun k=>t.T k s) hi];rw [h.unit i k hi hk];exact Ya40
 rw [this]; grind
theorem Rx {m N:Nat} {t:Tab} (h:Fit m N t) {s:Nat} (hs:s<N+1):dot N t.c (dir m t s)=t.c s:=by
 rw [Yl h hs,sum_zero fun k hk=>by rw [h.free k hk]; grind]; grind
theorem Ayk {m N:Nat} {t u:Tab} (ht:Fit m N t) (hu:Fit m N u) (hB:∀ i,i<m->t.B i=u.B i) (hk:∀ x,Ker m N t x->Ker m N u x) (hc:∀ x,Ker m N t x->dot N u.c x=dot N t.c x) :
  (∀ i j,i<m->j<N+1->t.T i j=u.T i j)/\∀ j,j<N+1->t.c j=u.c j:=by
 have key:∀ a j,j<N+1->dot N a (dir m t j)=a j - sum m fun k=>t.T k j*a (u.B k):=fun a j hj=>by
  rw [Yl ht hj];congr 1;exact sum_congr fun k hk=>by rw [hB k hk]
 constructor
 ·intro i j hi hj;have h1:=hk _ (T4 ht hj) i hi;rw [key _ j hj] at h1;have:(sum m fun k=>t.T k j*u.T i (u.B k))=t.T i j:=by
   rw [sum_congr (g:=fun k=>if k=i then t.T k j else 0) fun k hk=>?_,sum_one (f:=fun k=>t.T k j) hi];rw [hu.unit i k hi hk];exact Ya40
  rw [this] at h1;grind
 ·intro j hj;have h1:=hc _ (T4 ht hj);rw [key _ j hj,Rx ht hj,sum_zero fun k hk=>by rw [hu.free k hk]; grind] at h1;grind
end Go.Proofs.YthelkgdmgihhiaaGreat.Simp
namespace Go.Proofs.YthelkgdmgihhiaaGreat.Simp
structure Step (m N L:Nat) (t:Tab) (r s:Nat):Prop where
 r_lt:r<m
 s_lt:s<L
 neg:t.c s<0
 first:∀ j,j<s->0<=t.c j
 pos:0<t.T r s
 least:∀ i,i<m->0<t.T i s->t.T r N / t.T r s<=t.T i N / t.T i s
 tie:∀ i,i<m->0<t.T i s->t.T r N / t.T r s=t.T i N / t.T i s->t.B r<=t.B i
structure Run (m N L K:Nat) where
 t:Nat->Tab
 r:Nat->Nat
 s:Nat->Nat
 step:∀ k,k<K->Step m N L (t k) (r k) (s k)
 next:∀ k,k<K->t (k+1)=piv (t k) (r k) (s k)
 fit:Fit m N (t 0)
 LN:L<=N
 right:∀ i,i<m->0<=(t 0).T i N
section
variable {m N L K:Nat} (R:Run m N L K)
theorem Run.fits (k:Nat) (h:k<=K):Fit m N (R.t k):=by
 induction k with
 | zero=>exact R.fit
 | succ k ih =>
  have hs:=R.step k aA;rw [R.next k aA];exact piv_fit (ih aA) hs.r_lt (by have:=hs.s_lt; have:=R.LN; omega) Za4k
theorem Na {a b:Rat} (ha:0<=a) (hb:0<b):0<=a / b:=by
 rw [Rat.div_def];exact O5 ha (Rat.le_of_lt (Rat.inv_pos.mpr hb))
theorem Run.rights (k:Nat) (h:k<=K):∀ i,i<m->0<=(R.t k).T i N:=by
 induction k with
 | zero=>exact R.right
 | succ k ih0 =>
  intro i hi;have hs:=R.step k aA;have ih:=ih0 aA;have hr:=ih (R.r k) hs.r_lt;have hq:=Na hr hs.pos;rw [R.next k aA];show 0<=pivT _ _ _ _ _;unfold pivT;split
  ·exact hq
  ·have aw:=ih i hi;by_cases hp:0<(R.t k).T i (R.s k)
   ·have hl:=hs.least i hi hp;have h1:(R.t k).T i (R.s k)*((R.t k).T (R.r k) N / (R.t k).T (R.r k) (R.s k))<=(R.t k).T i (R.s k)*((R.t k).T i N / (R.t k).T i (R.s k)):=Rat.mul_le_mul_of_nonneg_left hl (Rat.le_of_lt hp);have h2:(R.t k).T i (R.s k)*((R.t k).T i N / (R.t k).T i (R.s k))=(R.t k).T i N:=aM
    grind
   ·have h1:0<=(-(R.t k).T i (R.s k))*((R.t k).T (R.r k) N / (R.t k).T (R.r k) (R.s k)):=O5 aM hq;grind
theorem Run.ker {k l:Nat} (hkl:k<=l) (hl:l<=K) (x:Nat->Rat):Ker m N (R.t l) x↔Ker m N (R.t k) x:=by
 induction l with
 | zero =>
  have:k=0:=aA
  subst this; exact Iff.rfl
 | succ l ih =>
  by_cases e:k=l+1
  ·subst e; exact Iff.rfl
  ·have hs:=R.step l aA;rw [R.next l aA,piv_ker hs.r_lt Za4k];exact ih aA aA
theorem Run.cost {k l:Nat} (hkl:k<=l) (hl:l<=K) {x:Nat->Rat} (hx:Ker m N (R.t k) x):dot N (R.t l).c x=dot N (R.t k).c x:=by
 induction l with
 | zero =>
  have:k=0:=aA
  subst this; rfl
 | succ l ih =>
  by_cases e:k=l+1
  ·subst e; rfl
  ·have hs:=R.step l aA;rw [R.next l aA,piv_cost hs.r_lt ((R.ker (k:=k) aA aA x).2 hx)];exact ih aA aA
theorem Run.gain {k:Nat} (h:k<K):(R.t (k+1)).c N=(R.t k).c N+(-(R.t k).c (R.s k))*((R.t k).T (R.r k) N / (R.t k).T (R.r k) (R.s k)):=by
 rw [R.next k h];show (R.t k).c N - _=_;grind
theorem Run.grow {k:Nat} (h:k<K):(R.t k).c N<=(R.t (k+1)).c N:=by
 have hs:=R.step k h;have h1:0<=(-(R.t k).c (R.s k))*((R.t k).T (R.r k) N / (R.t k).T (R.r k) (R.s k)):=O5 (by have:=hs.neg; grind) (Na (R.rights k aA _ hs.r_lt) hs.pos);rw [R.gain h]; grind
theorem Run.mono {k l:Nat} (hkl:k<=l) (hl:l<=K):(R.t k).c N<=(R.t l).c N:=by
 induction l with
 | zero =>
  have:k=0:=aA
  subst this; exact S5
 | succ l ih =>
  by_cases e:k=l+1
  ·subst e; exact S5
  ·exact Rat.le_trans (ih aA aA) (R.grow aA)
theorem Run.basis {k:Nat} (h:k<K) (i:Nat):(R.t (k+1)).B i=if i=R.r k then R.s k else (R.t k).B i:=by rw [R.next k h]; rfl
theorem Run.out {k l i y:Nat} (hkl:k<=l) (hl:l<=K) (h1:(R.t k).B i=y) (h2:(R.t l).B i≠y):∃ j,k<=j/\j<l/\R.r j=i/\(R.t j).B i=y:=by
 induction l with
 | zero =>
  have:k=0:=aA
  subst this; exact absurd h1 h2
 | succ l ih =>
  by_cases e:k=l+1
  ·subst e; exact absurd h1 h2
  ·by_cases h3:(R.t l).B i=y
   ·refine ⟨l,aA,aA,?_,h3⟩;rw [R.basis aA] at h2;by_cases e2:i=R.r l
    ·exact e2.symm
    ·rw [if_neg e2] at h2; exact absurd h3 h2
   ·obtain ⟨j,a,b,c⟩:=ih aA aA h3;exact ⟨j,a,aA,c⟩
theorem Run.into {k l i y:Nat} (hkl:k<=l) (hl:l<=K) (h1:(R.t k).B i≠y) (h2:(R.t l).B i=y):∃ j,k<=j/\j<l/\R.r j=i/\R.s j=y:=by
 induction l with
 | zero =>
  have:k=0:=aA
  subst this; exact absurd h2 h1
 | succ l ih =>
  by_cases e:k=l+1
  ·subst e; exact absurd h2 h1
  ·by_cases h3:(R.t l).B i=y
   ·obtain ⟨j,a,b,c⟩:=ih aA aA h3;exact ⟨j,a,aA,c⟩
   ·rw [R.basis aA] at h2;by_cases e2:i=R.r l
    ·rw [if_pos e2] at h2; exact ⟨l,aA,aA,e2.symm,h2⟩
    ·rw [if_neg e2] at h2; exact absurd h2 h3
theorem Auv {f:Nat->Nat} {p q:Nat} (h:p<q):∃ k,p<=k/\k<q/\∀ j,p<=j->j<q->f j<=f k:=by
 obtain ⟨d,rfl⟩:∃ d,q=p+d+1:=⟨q - p - 1,aA⟩;clear h;induction d with
 | zero=>exact ⟨p,aA,aA,fun j h1 h2=>by
   have:j=p:=aA
   subst this; exact Cf _⟩
 | succ d ih =>
  obtain ⟨k,h1,h2,h3⟩:=ih;by_cases h4:f k<=f (p+d+1)
  ·refine ⟨p+d+1,aA,aA,fun j h5 h6=>?_⟩;by_cases e:j=p+d+1
   ·subst e;exact Ya31
   ·exact Fe (h3 j h5 aA) h4
  ·refine ⟨k,h1,aA,fun j h5 h6=>?_⟩;by_cases e:j=p+d+1
   ·subst e; omega
   ·exact h3 j h5 aA
theorem Run.bland {p q:Nat} (hpq:p<q) (hq:q<=K) (hB:∀ i,i<m->(R.t p).B i=(R.t q).B i):False:=by
 have hfp:=R.fits p aA;have hfq:=R.fits q hq;obtain ⟨-,hc⟩:=Ayk hfp hfq hB (fun x hx=>(R.ker aA hq x).2 hx) (fun x hx=>R.cost aA hq hx);have hz:∀ k,p<=k->k<q->(R.t k).T (R.r k) N=0:=fun k h1 h2=>by
  have hs:=R.step k aA;have g0:=R.mono h1 (show k<=K by omega);have g1:=R.mono (show k+1<=q by omega) hq;have g2:=R.grow (k:=k) aA;have g3:=hc N aA;have g4:=R.gain (k:=k) aA;have g5:(-(R.t k).c (R.s k))*((R.t k).T (R.r k) N / (R.t k).T (R.r k) (R.s k))=0:=aM
  have hn:=hs.neg;have hp:=hs.pos;grind
 have hb:∀ k,p<=k->k<=q->∀ i,i<m->(R.t k).T i N=(R.t p).T i N:=by
  intro k h1 h2;induction k with
  | zero =>
   have:p=0:=aA
   subst this; exact fun _ _=>rfl
  | succ k ih =>
   by_cases e:p=k+1
   ·subst e; exact fun _ _=>rfl
   ·intro i hi;have h0:=hz k aA aA;rw [<- ih aA aA i hi,R.next k aA];show pivT _ _ _ _ _=_;unfold pivT;by_cases e2:i=R.r k
    ·subst e2; rw [if_pos rfl,h0]; grind
    ·rw [if_neg e2,h0]; grind
 have b7:∀ k j,p<=k->k<q->p<=j->j<=q->(R.t j).T (R.r k) N=0:=fun k j h1 h2 h3 h4=>by
  have hs:=R.step k aA;rw [hb j h3 h4 _ hs.r_lt,<- hb k h1 aA _ hs.r_lt];exact hz k h1 h2
 have bc:∀ {i y k l:Nat},i<m->p<=k->k<=q->p<=l->l<=q->(R.t k).B i=y->(R.t l).B i≠y->∃ j,p<=j/\j<q/\R.r j=i/\R.s j=y:=by
  intro i y k l hi h1 h2 h3 h4 h5 h6;by_cases e:(R.t p).B i=y
  ·obtain ⟨j,a,b,c⟩:=R.into h4 hq h6 ((hB i hi).symm.trans e);exact ⟨j,aA,b,c⟩
  ·obtain ⟨j,a,b,c⟩:=R.into h1 aA e h5;exact ⟨j,a,aA,c⟩
 obtain ⟨k1,a1,a2,a3⟩:=Auv (f:=R.s) hpq;have d6:=R.step k1 aA;have nd:=R.fits k1 aA;obtain ⟨y,hy⟩:∃ y,y=R.s k1:=⟨_,rfl⟩;have a0y:∃ k2,p<=k2/\k2<q/\(R.t k2).B (R.r k2)=y:=by
  have a21:(R.t k1).B (R.r k1)≠y:=fun e=>by
   have:=nd.free _ d6.r_lt;rw [e,hy] at this;have:=d6.neg;grind
  have jr:(R.t (k1+1)).B (R.r k1)=y:=by rw [R.basis aA,if_pos rfl,hy]
  by_cases e:(R.t q).B (R.r k1)=y
  ·obtain ⟨j,b1,b2,b3,b4⟩:=R.out a1 aA ((hB _ d6.r_lt).trans e) a21;exact ⟨j,b1,aA,by rw [b3]; exact b4⟩
  ·obtain ⟨j,b1,b2,b3,b4⟩:=R.out (show k1+1<=q by omega) hq jr e;exact ⟨j,aA,b2,by rw [b3]; exact b4⟩
 obtain ⟨k2,c1,c2,c3⟩:=a0y;have cz:=R.step k2 aA;have cj:=R.fits k2 aA;have hsN:R.s k2<N+1:=by have:=cz.s_lt; have:=R.LN; omega
 have hd:=T4 cj hsN;have e1:=Rx cj hsN;have e2:dot N (R.t k1).c (dir m (R.t k2) (R.s k2))=dot N (R.t k2).c (dir m (R.t k2) (R.s k2)):=by
  rcases Nat.le_total k1 k2 with h|h
  ·exact (R.cost h aA ((R.ker h aA _).1 hd)).symm
  ·exact R.cost h aA hd
 rw [e1,Yl cj hsN] at e2;have hsy:R.s k2<y:=by
  have h1:=a3 k2 c1 c2;rw [<- hy] at h1;have h2:R.s k2≠y:=fun e=>by
   have h3:=cj.free _ cz.r_lt;rw [c3,<- e] at h3;have:=cz.neg;grind
  omega
 have h0:=d6.first (R.s k2) (by rw [<- hy]; exact hsy)
 have a3s:=cz.neg;obtain ⟨i,hi,hip⟩:=Rb (n:=m) (f:=fun k=>(R.t k2).T k (R.s k2)*(R.t k1).c ((R.t k2).B k)) aM;have hx:∀ i',i'<m->(R.t k1).B i'≠(R.t k2).B i:=fun i' aw e=>by
  have:=nd.free i' aw;rw [e] at this;rw [this] at hip;grind
 obtain ⟨j,d1,d2,d3,d4⟩:=bc hi c1 aA a1 aA rfl (hx i hi);have hle:(R.t k2).B i<=y:=by rw [<- d4,hy]; exact a3 j d1 d2
 have hbi:(R.t k2).T i N=0:=by rw [<- d3]; exact b7 j k2 d1 d2 c1 aA
 have hne:(R.t k2).B i≠y:=fun e=>by
  have zf:i=R.r k2:=cj.inj hi cz.r_lt (e.trans c3.symm);subst zf;rw [c3,hy] at hip;have h1:=d6.neg;have h2:=cz.pos;have h3:0<(R.t k2).T (R.r k2) (R.s k2)*(-(R.t k1).c (R.s k1)):=Rat.mul_pos h2 aM;grind
 have h5:=d6.first ((R.t k2).B i) (by rw [<- hy]; omega)
 have h6:0<(R.t k2).T i (R.s k2):=by
  refine Od fun h=>?_;have h7:0<=(-(R.t k2).T i (R.s k2))*(R.t k1).c ((R.t k2).B i):=O5 aM h5;grind
 have h8:=cz.tie i hi h6 (by rw [hbi,hz k2 c1 c2]; grind);rw [c3] at h8;omega
end
end Go.Proofs.YthelkgdmgihhiaaGreat.Simp
namespace Go.Proofs.YthelkgdmgihhiaaGreat.Simp
theorem Agy:∀ (M:Nat) (f:Nat->Nat),(∀ k,k<=M->f k<M)->∃ p q,p<q/\q<=M/\f p=f q
 | 0,f,h=>absurd (h 0 (Cf _)) aA
 | M+1,f,h=>by
  by_cases hx:∃ k,k<=M/\f k=f (M+1)
  ·obtain ⟨k,h1,h2⟩:=hx;exact ⟨k,M+1,aA,Cf _,h2⟩
  ·have hne:∀ k,k<=M->f k≠f (M+1):=fun k hk e=>hx ⟨k,hk,e⟩;obtain ⟨p,q,h1,h2,h3⟩:=Agy M (fun k=>if f k > f (M+1) then f k - 1 else f k) fun k hk=>by
    have a:=h k aA;have b:=h (M+1) (Cf _);have c:=hne k hk;split <;> omega
   have a:=hne p aA;have b:=hne q h2;refine ⟨p,q,h1,aA,?_⟩;split at h3 <;> split at h3 <;> omega
def code (N:Nat) (B:Nat->Nat):Nat->Nat
 | 0=>0
 | m+1=>code N B m*N+B m
theorem Adt {N:Nat} {B:Nat->Nat} : ∀ {m:Nat},(∀ i,i<m->B i<N)->code N B m<N ^ m
 | 0,_=>by simp [code]
 | m+1,h=>by
  have h1:=Adt (m:=m) fun i hi=>h i aA;have h2:=h m aA;rw [code,Lq];have h3:(code N B m+1)*N<=N ^ m*N:=E5 _ h1;rw [Ns] at h3;omega
theorem Ye {N:Nat} {B C:Nat->Nat} : ∀ {m:Nat},(∀ i,i<m->B i<N)->(∀ i,i<m->C i<N)->code N B m=code N C m->∀ i,i<m->B i=C i
 | 0,_,_,_,i,hi=>aA
 | m+1,hb,hc,h,i,hi=>by
  have h1:=hb m aA;have h2:=hc m aA;rw [code,code] at h;have e1:B m=C m:=by
   have a:(code N B m*N+B m) % N=B m:=by rw [Ip,Nat.mul_add_mod]; exact Om h1
   have b:(code N C m*N+C m) % N=C m:=by rw [Ip,Nat.mul_add_mod]; exact Om h2
   rw [h] at a;exact a.symm.trans b
  have e2:code N B m=code N C m:=by
   rw [e1] at h;have h3:code N B m*N=code N C m*N:=aA
   exact Nat.eq_of_mul_eq_mul_right aA h3
  by_cases e:i=m
  ·subst e; exact e1
  ·exact Ye (fun i hi=>hb i aA) (fun i hi=>hc i aA) e2 i aA
theorem Run.short {m N L K:Nat} (R:Run m N L K):K<N ^ m:=by
 refine Od fun hk=>?_;have hk:N ^ m<=K:=aA
 obtain ⟨p,q,h1,h2,h3⟩:=Agy (N ^ m) (fun k=>code N (R.t k).B m) fun k y9=>Adt (R.fits k aA).lt;exact R.bland h1 aA (Ye (R.fits p aA).lt (R.fits q aA).lt h3)
def Run.none {m N L:Nat} {t:Tab} (h:Fit m N t) (hL:L<=N) (hr:∀ i,i<m->0<=t.T i N):Run m N L 0:=⟨fun _=>t,fun _=>0,fun _=>0,fun k hk=>aA,fun k hk=>aA,h,hL,hr⟩
def Run.more {m N L K:Nat} (R:Run m N L K) {r s:Nat} (h:Step m N L (R.t K) r s):Run m N L (K+1) where
 t:=fun k=>if k=K+1 then piv (R.t K) r s else R.t k
 r:=fun k=>if k=K then r else R.r k
 s:=fun k=>if k=K then s else R.s k
 step:=fun k hk=>by
  rw [if_neg (show ¬ k=K+1 by omega)];by_cases e:k=K
  ·subst e; rw [if_pos rfl,if_pos rfl]; exact h
  ·rw [if_neg e,if_neg e]; exact R.step k aA
 next:=fun k hk=>by
  rw [if_neg (show ¬ k=K+1 by omega)];by_cases e:k=K
  ·subst e; rw [if_pos rfl,if_pos rfl,if_pos rfl]
  ·rw [if_neg e,if_neg e,if_neg aA]; exact R.next k aA
 fit:=by rw [if_neg aA]; exact R.fit
 LN:=R.LN
 right:=by rw [if_neg aA]; exact R.right
theorem Run.more_last {m N L K:Nat} (R:Run m N L K) {r s:Nat} (h:Step m N L (R.t K) r s):(R.more h).t (K+1)=piv (R.t K) r s:=if_pos rfl
theorem Run.more_old {m N L K:Nat} (R:Run m N L K) {r s:Nat} (h:Step m N L (R.t K) r s) {k:Nat} (hk:k<=K):(R.more h).t k=R.t k:=if_neg aA
structure Sol (m N:Nat) (t:Tab) (x:Nat->Rat):Prop where
 ker:Ker m N t x
 pos:∀ j,j<N->0<=x j
 one:x N=-1
def base (m N:Nat) (t:Tab) (j:Nat):Rat:=- dir m t N j
theorem Alq (N:Nat) (a x:Nat->Rat):dot N a (fun j=>- x j)=- dot N a x:=by
 unfold dot;have h:=sum_mul (-1) (fun j=>a j*x j) (N+1);rw [sum_congr (g:=fun j=>-1*(a j*x j)) fun j _=>aM,h]; grind
theorem Rt {m N:Nat} {t:Tab} (h:Fit m N t) (hr:∀ i,i<m->0<=t.T i N):Sol m N t (base m N t):=by
 refine ⟨fun i hi=>?_,fun j hj=>?_,?_⟩
 ·have:=T4 h (s:=N) aA i hi;show dot N (t.T i) (fun j=>- dir m t N j)=0;rw [Alq,this]; grind
 ·show 0<=- dir m t N j;unfold dir;rw [if_neg aA];have:0<=sum m fun k=>if j=t.B k then t.T k N else 0:=sum_nonneg fun k hk=>by
   split
   ·exact hr k hk
   ·exact S5
  grind
 ·show - dir m t N N=-1;unfold dir;rw [if_pos rfl,sum_zero fun k hk=>if_neg (by have:=h.lt k hk; omega)]; grind
theorem Nw {m N:Nat} {t:Tab} (h:Fit m N t):dot N t.c (base m N t)=- t.c N:=by
 show dot N t.c (fun j=>- dir m t N j)=_;rw [Alq,Rx h aA]
theorem Ac0 {f:Nat->Rat} {L:Nat} : ∀ {N:Nat},L<=N->(∀ j,L<=j->j<N->f j=0)->sum N f=sum L f
 | 0,h,_=>by
  have:L=0:=aA
  subst this; rfl
 | N+1,h,hz=>by
  by_cases e:L=N+1
  ·subst e; rfl
  ·rw [sum,hz N aA aA,Ac0 aA fun j h1 h2=>hz j h1 aA]; grind
theorem Aqk {m N L:Nat} {t:Tab} (hL:L<=N) (hc:∀ j,j<L->0<=t.c j) {x:Nat->Rat} (hx:Sol m N t x) (h0:∀ j,L<=j->j<N->x j=0) : - t.c N<=dot N t.c x:=by
 have h1:0<=sum N fun j=>t.c j*x j:=by
  rw [Ac0 hL fun j h1 h2=>by rw [h0 j h1 h2]; grind];exact sum_nonneg fun j hj=>O5 (hc j hj) (hx.pos j aA)
 unfold dot;rw [sum,hx.one]; grind
end Go.Proofs.YthelkgdmgihhiaaGreat.Simp
namespace Go.Proofs.YthelkgdmgihhiaaGreat.Simp
def isum:Nat->(Nat->Int)->Int
 | 0,_=>0
 | n+1,f=>isum n f+f n
theorem Yy (f g:Nat->Int):∀ n,isum n (fun j=>f j - g j)=isum n f - isum n g
 | 0=>rfl
 | n+1=>by simp only [isum,Yy f g n]; omega
theorem Qi {f:Nat->Int} {b:Nat} : ∀ {n:Nat},(∀ j,j<n->(f j).natAbs<=b)->(isum n f).natAbs<=n*b
 | 0,_=>by simp [isum]
 | n+1,h=>by
  have h1:=Qi (f:=f) (b:=b) (n:=n) fun j hj=>h j aA;have h2:=h n aA;rw [isum,Ns]; omega
theorem isum_cast (f:Nat->Int):∀ n,((isum n f:Int):Rat)=sum n fun j=>((f j:Int):Rat)
 | 0=>by simp [isum,sum]
 | n+1=>by rw [isum,sum,Ox,isum_cast f n]
def dg (b n k:Nat):Nat:=k / b ^ n % b
theorem At6 {b:Nat} (hb:0<b):∀ {d p q:Nat},p<b ^ d->q<b ^ d->(∀ n,n<d->dg b n p=dg b n q)->p=q
 | 0,p,q,hp,hq,_=>by simp at hp hq; omega
 | d+1,p,q,hp,hq,h=>by
  have h0:=h 0 aA;simp only [dg,Nat.pow_zero,Nat.div_one] at h0;have h1:p / b=q / b:=by
   refine At6 hb (d:=d) ?_ ?_ fun n hn=>?_
   ·rw [Ik hb,<- Lq]; exact hp
   ·rw [Ik hb,<- Lq]; exact hq
   ·have:=h (n+1) aA;simpa only [dg,Lq,Ip,Nat.div_div_eq_div_mul] using this
  have e1:=Ow p b;have e2:=Ow q b;rw [h1,h0] at e1;omega
theorem Ayh (m M:Nat) (hM:1<=M) (a:Nat->Nat->Int) (ha:∀ i k,i<m->k<m+1->(a i k).natAbs<=M) :
  ∃ u:Nat->Int,(∃ k,k<m+1/\u k≠0)/\(∀ k,(u k).natAbs<=(2*((m+1)*M)) ^ m)/\∀ i,i<m->isum (m+1) (fun k=>a i k*u k)=0:=by
 obtain ⟨S,hS⟩:∃ S,S=(m+1)*M:=⟨_,rfl⟩;obtain ⟨H,hH⟩:∃ H,H=(2*S) ^ m:=⟨_,rfl⟩;have di:1<=S:=by rw [hS]; exact Fe hM (Nat.le_mul_of_pos_left M aA)
 obtain ⟨W,hW⟩:∃ W,W=2*(H*S)+1:=⟨_,rfl⟩;have a0z:W ^ m<(H+1) ^ (m+1):=by
  have h1:W<=(H+1)*(2*S):=by
   have:(H+1)*(2*S)=2*(H*S)+2*S:=by rw [Ns,Nat.mul_left_comm]; omega
   omega
  have h2:W ^ m<=((H+1)*(2*S)) ^ m:=Nat.pow_le_pow_left h1 m;rw [Nat.mul_pow,<- hH] at h2;have h3:(H+1) ^ (m+1)=(H+1) ^ m*(H+1):=Lq _ _;have h4:0<(H+1) ^ m:=Ss aA;rw [h3,Nat.mul_add,Fa];omega
 obtain ⟨im,uf⟩:∃ im:Nat->Nat->Int,im=fun p i=>isum (m+1) fun k=>a i k*(dg (H+1) k p:Int):=⟨_,rfl⟩;have zg:∀ k p,dg (H+1) k p<=H:=fun k p=>by
  exact Ya3c
 have hb:∀ p i,i<m->(im p i).natAbs<=H*S:=fun p i hi=>by
  have h1:=Qi (f:=fun k=>a i k*(dg (H+1) k p:Int)) (b:=M*H) (n:=m+1) fun k hk=>by
   rw [Ib];exact Ix (ha i k hi hk) (by have:=zg k p; omega)
  rw [uf,hS];refine Fe h1 (Nat.le_of_eq ?_);rw [<- Nat.mul_assoc,Ip]
 obtain ⟨p,q,h1,h2,h3⟩:=Agy (W ^ m) (fun p=>code W (fun i=>(im p i+(H*S:Nat)).toNat) m) fun p _=>Adt fun i hi=>by
  have:=hb p i hi;omega
 have heq:=Ye (N:=W) (m:=m) (fun i hi=>by have:=hb p i hi; omega) (fun i hi=>by have:=hb q i hi; omega) h3;refine ⟨fun k=>(dg (H+1) k q:Int) - (dg (H+1) k p:Int),?_,fun k=>?_,fun i hi=>?_⟩
 ·exact Ya0c
 ·rw [<- hS,<- hH];have:=zg k p;have:=zg k q;dsimp only;omega
 ·exact Yaz
end Go.Proofs.YthelkgdmgihhiaaGreat.Simp
namespace Go.Proofs.YthelkgdmgihhiaaGreat.Simp
theorem Zu (f:Nat->Rat):∀ n,sum (n+1) f=f 0+sum n fun k=>f (k+1)
 | 0=>dT
 | n+1=>by
  rw [sum,Zu f n,sum]; grind
def Aoc (d:Nat) (col:Nat->Nat) (u:Nat->Int) (c:Nat):Rat:=sum d fun k=>if c=col k then ((u k:Int):Rat) else 0
theorem L8 {N d:Nat} {col:Nat->Nat} {u:Nat->Int} (hc:∀ k,k<d->col k<N+1) (a:Nat->Rat):dot N a (Aoc d col u)=sum d fun k=>a (col k)*((u k:Int):Rat):=by
 unfold dot Aoc;have e1:∀ j,a j*(sum d fun k=>if j=col k then ((u k:Int):Rat) else 0)=sum d fun k=>if j=col k then a j*((u k:Int):Rat) else 0:=by
  intro j;rw [<- sum_mul];exact sum_congr fun k _=>fK
 rw [sum_congr fun j _=>e1 j,Mp];exact sum_congr fun k hk=>by
  have h:=sum_one (f:=fun j=>a j*((u k:Int):Rat)) (s:=col k) (hc k hk);exact h
theorem small {m N M Mc:Nat} (hM:1<=M) {t0 t:Tab} {a:Nat->Nat->Int} {a0:Nat->Int} (ha:∀ i j,i<m->j<N+1->t0.T i j=((a i j:Int):Rat)/\(a i j).natAbs<=M) (ll:∀ j,j<N+1->t0.c j=((a0 j:Int):Rat)/\(a0 j).natAbs<=Mc)
  (ht:Fit m N t) (hk:∀ x,Ker m N t0 x->Ker m N t x) (hc:∀ x,Ker m N t0 x->dot N t.c x=dot N t0.c x) {j:Nat} (hj:j<N+1) :
  ∃ y0:Int,y0≠0/\y0.natAbs<=(2*((m+1)*M)) ^ m/\(∀ i,i<m->∃ y:Int,t.T i j=((y:Int):Rat) / ((y0:Int):Rat)/\y.natAbs<=(2*((m+1)*M)) ^ m)/\∃ w:Int,t.c j=((w:Int):Rat) / ((y0:Int):Rat)/\w.natAbs<=(m+1)*(Mc*(2*((m+1)*M)) ^ m):=by
 obtain ⟨col,fe⟩:∃ col:Nat->Nat,col=fun k=>if k=0 then j else t.B (k - 1):=⟨_,rfl⟩
 have hlt:∀ k,k<m+1->col k<N+1:=fun k hk=>by
  rw [fe]; dsimp only;split
  ·exact hj
  ·have:=ht.lt (k - 1) aA; omega
 have gt:∀ k,col (k+1)=t.B k:=fun k=>by rw [fe]; simp
 have hc0:col 0=j:=by rw [fe]; simp
 obtain ⟨u,⟨k0,uh,u6⟩,hub,hu⟩:=Ayh m M hM (fun i k=>a i (col k)) fun i k hi hk=>(ha i (col k) hi (hlt k hk)).2;have hx:Ker m N t0 (Aoc (m+1) col u):=by
  intro i hi;rw [L8 hlt];have h1:=congrArg (fun z:Int=>(z:Rat)) (hu i hi);rw [isum_cast] at h1;rw [sum_congr (g:=fun k=>((a i (col k)*u k:Int):Rat)) fun k hk=>by rw [(ha i (col k) hi (hlt k hk)).1,Cv]];rw [h1]; rfl
 have b7:∀ i,i<m->t.T i j*((u 0:Int):Rat)+((u (i+1):Int):Rat)=0:=fun i hi=>by
  have h1:=hk _ hx i hi;rw [L8 hlt,Zu,hc0] at h1;rw [sum_congr (g:=fun k=>if k=i then ((u (k+1):Int):Rat) else 0) fun k hk=>by
   rw [gt,ht.unit i k hi hk];by_cases e:i=k
   ·exact Ya15
   ·rw [if_neg e,if_neg (O3 e)]; grind] at h1
  rw [sum_one (f:=fun k=>((u (k+1):Int):Rat)) hi] at h1;exact h1
 have hy:u 0≠0:=fun h0=>by
  rw [h0] at b7;cases k0 with
  | zero=>exact u6 h0
  | succ i =>
   have h1:=b7 i aA;have h2:((u (i+1):Int):Rat)=((0:Int):Rat):=by
    have:((0:Int):Rat)=0:=rfl;rw [this] at h1 ⊢;grind
   exact u6 (O8.mp h2)
 have hyr:((u 0:Int):Rat)≠0:=fun h=>hy (O8.mp (h.trans rfl));refine ⟨u 0,hy,hub 0,fun i hi=>⟨-(u (i+1)),?_,by have:=hub (i+1); omega⟩,?_⟩
 ·have h1:=b7 i hi;rw [Oa];grind
 ·have h1:=hc _ hx;rw [L8 hlt,L8 hlt,Zu,hc0,sum_zero fun k hk=>by rw [gt,ht.free k hk]; grind] at h1;refine ⟨isum (m+1) fun k=>a0 (col k)*u k,?_,?_⟩
  ·rw [isum_cast];rw [sum_congr (g:=fun k=>((a0 (col k)*u k:Int):Rat)) fun k hk=>by rw [(ll (col k) (hlt k hk)).1,Cv]] at h1;rw [<- h1]; grind
  ·exact Qi fun k hk=>by
    rw [Ib];exact Ix (ll (col k) (hlt k hk)).2 (hub k)
end Go.Proofs.YthelkgdmgihhiaaGreat.Simp
namespace Go.Proofs.YthelkgdmgihhiaaGreat.Simp
theorem Zt (f:Nat->Rat) (L:Nat):∀ m,sum (L+m) f=sum L f+sum m fun k=>f (L+k)
 | 0=>by simp only [sum,Io]; grind
 | m+1=>by
  rw [<- fW,sum,Zt f L m,sum]; grind
theorem Ahj {f:Nat->Rat} : ∀ {n:Nat},(∀ j,j<n->0<=f j)->sum n f=0->∀ j,j<n->f j=0
 | 0,_,_,j,hj=>aA
 | n+1,h,h0,j,hj=>by
  rw [sum] at h0;have h1:=sum_nonneg (f:=f) (n:=n) fun j hj=>h j aA;have h2:=h n aA;by_cases e:j=n
  ·subst e; grind
  ·exact Ahj (n:=n) (fun j hj=>h j aA) (show sum n f=0 by grind) j aA
theorem Ka (f:Nat->Rat) (n:Nat):sum n (fun j=>- f j)=- sum n f:=by
 have h:=sum_mul (-1) f n;rw [sum_congr (g:=fun j=>-1*f j) fun j _=>aM,h]; grind
def first (m L:Nat) (R:Nat->Nat->Rat) (b:Nat->Rat):Tab where
 T:=fun i j=>if j<L then R i j else if j<L+m then (if j=L+i then 1 else 0) else b i
 c:=fun j=>if j<L then - sum m (fun i=>R i j) else if j<L+m then 0 else - sum m b
 B:=fun i=>L+i
theorem first_fit (m L:Nat) (R:Nat->Nat->Rat) (b:Nat->Rat):Fit m (L+m) (first m L R b):=by
 refine ⟨fun i hi=>by show L+i<L+m; omega,fun i k hi hk=>?_,fun k hk=>?_⟩
 ·show (if L+k<L then R i (L+k) else if L+k<L+m then (if L+k=L+i then 1 else 0) else b i)=_;rw [if_neg aA,if_pos aA];by_cases e:i=k
  ·subst e; rw [if_pos rfl,if_pos rfl]
  ·rw [if_neg aA,if_neg e]
 ·show (if L+k<L then - sum m (fun i=>R i (L+k)) else if L+k<L+m then 0 else - sum m b)=0;rw [if_neg aA,if_pos aA]
theorem Ue {m L:Nat} {R:Nat->Nat->Rat} {b:Nat->Rat} {i:Nat} (hi:i<m) (x:Nat->Rat):dot (L+m) ((first m L R b).T i) x=sum L (fun j=>R i j*x j)+x (L+i)+b i*x (L+m):=by
 unfold dot;rw [sum,Zt];have e1:sum L (fun j=>(first m L R b).T i j*x j)=sum L fun j=>R i j*x j:=sum_congr fun j hj=>by simp only [first]; rw [if_pos hj]
 have e2:(sum m fun k=>(first m L R b).T i (L+k)*x (L+k))=x (L+i):=by
  rw [sum_congr (g:=fun k=>if k=i then x (L+k) else 0) fun k hk=>?_,sum_one (f:=fun k=>x (L+k)) hi];simp only [first];rw [if_neg aA,if_pos aA];by_cases e:k=i
  ·exact Ya15
  ·rw [if_neg aA,if_neg e]; grind
 have e3:(first m L R b).T i (L+m)=b i:=Za5p
 rw [e1,e2,e3]
theorem first_cost {m L:Nat} {R:Nat->Nat->Rat} {b:Nat->Rat} {x:Nat->Rat} (h:Ker m (L+m) (first m L R b) x):dot (L+m) (first m L R b).c x=sum m fun i=>x (L+i):=by
 have h1:∀ i,i<m->x (L+i)=- (sum L (fun j=>R i j*x j)+b i*x (L+m)):=fun i hi=>by
  have:=h i hi;rw [Ue hi] at this;grind
 rw [sum_congr h1];unfold dot;rw [sum,Zt];have e1:sum L (fun j=>(first m L R b).c j*x j)=- sum m (fun i=>sum L fun j=>R i j*x j):=by
  rw [<- Mp,<- Ka];refine sum_congr fun j hj=>?_;have e0:(first m L R b).c j=- sum m (fun i=>R i j):=by simp only [first]; rw [if_pos hj]
  rw [e0];have e2:=sum_mul (x j) (fun i=>R i j) m;rw [sum_congr (g:=fun i=>R i j*x j) fun i _=>aM] at e2;rw [e2]; grind
 have e2:(sum m fun k=>(first m L R b).c (L+k)*x (L+k))=0:=sum_zero fun k hk=>by
  simp only [first];rw [if_neg aA,if_pos aA]; grind
 have e3:(first m L R b).c (L+m)=- sum m b:=Za5p
 rw [e1,e2,e3];have e4:=sum_mul (x (L+m)) b m;rw [sum_congr (g:=fun i=>b i*x (L+m)) fun i _=>aM] at e4;rw [Ka,sum_add,e4];grind
theorem phase {m L:Nat} {R:Nat->Nat->Rat} {b:Nat->Rat} {t:Tab} (ht:Fit m (L+m) t) (hr:∀ i,i<m->0<=t.T i (L+m)) (hk:∀ x,Ker m (L+m) t x↔Ker m (L+m) (first m L R b) x)
  (hc:∀ x,Ker m (L+m) (first m L R b) x->dot (L+m) t.c x=dot (L+m) (first m L R b).c x) (rp:∀ j,j<L->0<=t.c j) :
  t.c (L+m)=0↔∃ x:Nat->Rat,(∀ j,j<L->0<=x j)/\∀ i,i<m->sum L (fun j=>R i j*x j)=b i:=by
 have hs:=Rt ht hr;have uh:=(hk _).1 hs.ker;have e1:=hc _ uh;rw [Nw ht,first_cost uh] at e1;have hn:∀ i,i<m->0<=base m (L+m) t (L+i):=fun i hi=>hs.pos _ aA;constructor
 ·intro h0;rw [h0] at e1;have hz:=Ahj hn aM;refine ⟨base m (L+m) t,fun j hj=>hs.pos j aA,fun i hi=>?_⟩;have h1:=uh i hi;rw [Ue hi,hz i hi,hs.one] at h1;grind
 ·rintro ⟨x,hx,hb⟩;obtain ⟨x',hx'⟩:∃ x':Nat->Rat,x'=fun j=>if j<L then x j else if j<L+m then 0 else -1:=⟨_,rfl⟩
  have p1:∀ j,j<L->x' j=x j:=fun j hj=>by rw [hx']; exact if_pos hj
  have p2:∀ j,L<=j->j<L+m->x' j=0:=fun j h1 h2=>by
   rw [hx']; dsimp only; rw [if_neg aA,if_pos h2]
  have p3:x' (L+m)=-1:=by rw [hx']; dsimp only; rw [if_neg aA,if_neg aA]
  have rq:Ker m (L+m) (first m L R b) x':=fun i hi=>by
   rw [Ue hi,p2 _ aA aA,p3,sum_congr (g:=fun j=>R i j*x j) fun j hj=>by rw [p1 j hj],hb i hi];grind
  have a23:Sol m (L+m) t x':=⟨(hk _).2 rq,fun j hj=>by
   by_cases h:j<L
   ·rw [p1 j h]; exact hx j h
   ·rw [p2 j aA hj]; exact S5,p3⟩
  have h2:=Aqk aA rp a23 p2;rw [hc _ rq,first_cost rq,sum_zero fun k hk=>p2 _ aA aA] at h2;have h3:=sum_nonneg hn;grind
end Go.Proofs.YthelkgdmgihhiaaGreat.Simp
namespace Go.Proofs.YthelkgdmgihhiaaGreat.Simp
theorem Alo (N:Nat) (a x y:Nat->Rat):dot N a (fun j=>x j+y j)=dot N a x+dot N a y:=by
 unfold dot;rw [<- sum_add];exact Ya3u
theorem Aa5 (N:Nat) (k:Rat) (a x:Nat->Rat):dot N a (fun j=>k*x j)=k*dot N a x:=by
 unfold dot;rw [<- sum_mul];exact Ya3u
structure Real (m N L:Nat) (t:Tab) (x:Nat->Rat):Prop where
 sol:Sol m N t x
 zero:∀ j,L<=j->j<N->x j=0
theorem Aki {m N L:Nat} {t:Tab} (h:Fit m N t) (hr:∀ i,i<m->0<=t.T i N) (ha:∀ i,i<m->L<=t.B i->t.T i N=0):Real m N L t (base m N t):=by
 refine ⟨Rt h hr,fun j h1 h2=>?_⟩;show - dir m t N j=0;unfold dir;rw [if_neg aA,sum_zero fun k hk=>?_]
 ·grind
 ·split
  ·rename_i e;exact ha k hk aA
  ·rfl
theorem least_none {m N L s:Nat} {t:Tab} {f:Nat->Rat} (h:Fit m N t) (hL:L<=N) (hr:∀ i,i<m->0<=t.T i N) (ha:∀ i,i<m->L<=t.B i->t.T i N=0) (hs:s<L) (hn:t.c s<0) (hp:∀ i,i<m->t.T i s<=0) (has:∀ i,i<m->L<=t.B i->t.T i s=0)
  (hf:∀ x,Ker m N t x->dot N t.c x=dot N f x) (V:Rat):∃ x,Real m N L t x/\dot N f x<V:=by
 have hb:=Aki h hr ha;obtain ⟨d,hd⟩:∃ d,d=dir m t s:=⟨_,rfl⟩;have ko:=T4 h (s:=s) aA;have qa:=Rx h (s:=s) aA;rw [<- hd] at ko qa;have dq:∀ j,0<=d j:=fun j=>by
  rw [hd];unfold dir;have h1:0<=sum m fun k=>if j=t.B k then - t.T k s else 0:=sum_nonneg fun k hk=>by
   split
   ·have:=hp k hk; grind
   ·exact S5
  have h2:=Ka (fun k=>if j=t.B k then t.T k s else 0) m;rw [sum_congr (g:=fun k=>if j=t.B k then - t.T k s else 0) fun k _=>fK] at h2;rw [h2] at h1;split <;> grind
 have hdz:∀ j,L<=j->d j=0:=fun j hj=>by
  rw [hd];unfold dir;rw [if_neg aA,sum_zero fun k hk=>?_]
  ·grind
  ·split
   ·rename_i e;exact has k hk aA
   ·rfl
 obtain ⟨l,dp,hl⟩:∃ l:Rat,0<=l/\- t.c N+l*t.c s<V:=by
  by_cases hv : - t.c N<V
  ·exact ⟨0,S5,aM⟩
  ·refine ⟨(- t.c N - V+1) / (- t.c s),Na aM aM,?_⟩;have:(- t.c N - V+1) / (- t.c s)*t.c s=- (- t.c N - V+1):=aM
   rw [this]; grind
 refine ⟨fun j=>base m N t j+l*d j,⟨⟨fun i hi=>?_,fun j hj=>?_,?_⟩,fun j h1 h2=>?_⟩,?_⟩
 ·rw [Alo,Aa5,hb.sol.ker i hi,ko i hi]; grind
 ·have h1:=hb.sol.pos j hj;have h2:=O5 dp (dq j);grind
 ·rw [hb.sol.one,hdz N hL]; grind
 ·rw [hb.zero j h1 h2,hdz j h1]; grind
 ·rw [Alo,Aa5,<- hf _ hb.sol.ker,Nw h,<- hf _ ko,qa];exact hl
end Go.Proofs.YthelkgdmgihhiaaGreat.Simp
namespace Go.Proofs.YthelkgdmgihhiaaGreat.Simp
theorem Acz (f:Nat->Rat):∀ n,sum (2*n) f=sum n fun k=>f (2*k)+f (2*k+1)
 | 0=>rfl
 | n+1=>by
  rw [show 2*(n+1)=2*n+1+1 by omega,sum,sum,Acz f n,sum]; grind
structure Sys where
 m:Nat
 n:Nat
 A:Nat->Nat->Rat
 c:Nat->Rat
 eq:Nat->Bool
def Sys.val (y:Sys) (v:Nat->Rat) (i:Nat):Rat:=sum y.n (fun k=>y.A i k*v k)+y.c i
def Sys.holds (y:Sys) (v:Nat->Rat):Prop:=∀ i,i<y.m->y.val v i<=0/\(y.eq i=true->y.val v i=0)
structure Cols (y:Sys) (L:Nat) (sg:Nat->Rat) (sl:Nat->Nat) (R:Nat->Nat->Rat) (b:Nat->Rat):Prop where
 sq:∀ i,i<y.m->sg i*sg i=1
 lt:2*y.n<=L
 even:∀ i k,i<y.m->k<y.n->R i (2*k)=sg i*y.A i k
 odd:∀ i k,i<y.m->k<y.n->R i (2*k+1)=- (sg i*y.A i k)
 slack:∀ i j,i<y.m->2*y.n<=j->j<L->R i j=if y.eq i=false/\j=sl i then sg i else 0
 slot:∀ i,i<y.m->y.eq i=false->2*y.n<=sl i/\sl i<L
 apart:∀ i k,i<y.m->k<y.m->y.eq i=false->y.eq k=false->sl i=sl k->i=k
 right:∀ i,i<y.m->b i=- (sg i*y.c i)
theorem Cols.row {y:Sys} {L:Nat} {sg:Nat->Rat} {sl:Nat->Nat} {R:Nat->Nat->Rat} {b:Nat->Rat} (h:Cols y L sg sl R b) {i:Nat} (hi:i<y.m) (x:Nat->Rat) :
  sum L (fun j=>R i j*x j)=sg i*(sum y.n fun k=>y.A i k*(x (2*k) - x (2*k+1)))+if y.eq i=false then sg i*x (sl i) else 0:=by
 obtain ⟨d,hd⟩:∃ d,L=2*y.n+d:=⟨L - 2*y.n,by have:=h.lt; omega⟩;rw [hd,Zt,Acz];have e1:(sum y.n fun k=>R i (2*k)*x (2*k)+R i (2*k+1)*x (2*k+1))=sg i*sum y.n fun k=>y.A i k*(x (2*k) - x (2*k+1)):=by
  rw [<- sum_mul];exact sum_congr fun k hk=>by rw [h.even i k hi hk,h.odd i k hi hk]; grind
 rw [e1];congr 1;cases he:y.eq i with
 | true =>
  rw [if_neg (by simp)];exact sum_zero fun k hk=>by
   rw [h.slack i _ hi aA aA,if_neg (by rw [he]; simp)]; grind
 | false =>
  rw [if_pos rfl];obtain ⟨h1,h2⟩:=h.slot i hi he;obtain ⟨q,hq⟩:∃ q,sl i=2*y.n+q:=⟨sl i - 2*y.n,aA⟩;rw [sum_congr (g:=fun k=>if k=q then sg i*x (2*y.n+k) else 0) fun k hk=>?_,sum_one (f:=fun k=>sg i*x (2*y.n+k)) aA,<- hq];rw [h.slack i _ hi aA aA];by_cases e:k=q
  ·subst e; rw [if_pos ⟨he,hq.symm⟩,if_pos rfl]
  ·rw [if_neg (fun h=>e aA),if_neg e]; grind
theorem Cols.to {y:Sys} {L:Nat} {sg:Nat->Rat} {sl:Nat->Nat} {R:Nat->Nat->Rat} {b:Nat->Rat} (h:Cols y L sg sl R b) {x:Nat->Rat} (hx:∀ j,j<L->0<=x j) (hr:∀ i,i<y.m->sum L (fun j=>R i j*x j)=b i):y.holds fun k=>x (2*k) - x (2*k+1):=by
 intro i hi;have h1:=hr i hi;have h2:=h.sq i hi;rw [h.row hi,h.right i hi] at h1;unfold Sys.val;generalize (sum y.n fun k=>y.A i k*(x (2*k) - x (2*k+1)))=z at *;cases he:y.eq i with
 | true =>
  rw [he,if_neg (by simp)] at h1;have h3:z+y.c i=0:=by
   have:sg i*(sg i*z+0)=sg i*(-(sg i*y.c i)):=by rw [h1]
   grind
  exact ⟨aM,fun _=>h3⟩
 | false =>
  rw [he,if_pos rfl] at h1;have h4:=hx (sl i) (h.slot i hi he).2;have h3:z+y.c i=- x (sl i):=by
   have:sg i*(sg i*z+sg i*x (sl i))=sg i*(-(sg i*y.c i)):=by rw [h1]
   grind
  exact ⟨aM,fun h=>aT⟩
theorem Cols.of {y:Sys} {L:Nat} {sg:Nat->Rat} {sl:Nat->Nat} {R:Nat->Nat->Rat} {b:Nat->Rat} (h:Cols y L sg sl R b) {v:Nat->Rat} (hv:y.holds v):∃ x:Nat->Rat,(∀ j,j<L->0<=x j)/\(∀ i,i<y.m->sum L (fun j=>R i j*x j)=b i)/\∀ k,k<y.n->x (2*k) - x (2*k+1)=v k:=by
 obtain ⟨x,hx⟩:∃ x:Nat->Rat,(∀ k,k<y.n->x (2*k)=if 0<=v k then v k else 0)/\(∀ k,k<y.n->x (2*k+1)=if 0<=v k then 0 else - v k)/\(∀ i,i<y.m->y.eq i=false->x (sl i)=- y.val v i)/\∀ j,j<L->0<=x j:=by
  classical
  refine ⟨fun j=>if j<2*y.n then (if j % 2=0 then (if 0<=v (j / 2) then v (j / 2) else 0) else (if 0<=v (j / 2) then 0 else - v (j / 2))) else if hq:∃ i,i<y.m/\y.eq i=false/\sl i=j then - y.val v hq.choose else 0,fun k hk=>?_,fun k hk=>?_,fun i hi he=>?_,fun j hj=>?_⟩
  ·simp only [];rw [if_pos aA,if_pos aA,show 2*k / 2=k by omega]
  ·simp only [];rw [if_pos aA,if_neg aA,show (2*k+1) / 2=k by omega]
  ·have hq:∃ i',i'<y.m/\y.eq i'=false/\sl i'=sl i:=⟨i,hi,he,rfl⟩;simp only [];rw [if_neg (by have:=(h.slot i hi he).1; omega),dif_pos hq];have:=h.apart _ _ hq.choose_spec.1 hi hq.choose_spec.2.1 he hq.choose_spec.2.2;rw [this]
  ·simp only [];split
   ·split <;> split <;> grind
   ·split
    ·rename_i hq;have:=(hv _ hq.choose_spec.1).1;grind
    ·exact S5
 obtain ⟨x1,x2,x3,x4⟩:=hx;refine ⟨x,x4,fun i hi=>?_,fun k hk=>by rw [x1 k hk,x2 k hk]; split <;> grind⟩;rw [h.row hi,h.right i hi];have e1:(sum y.n fun k=>y.A i k*(x (2*k) - x (2*k+1)))=sum y.n fun k=>y.A i k*v k:=sum_congr fun k hk=>by
  rw [x1 k hk,x2 k hk];split <;> grind
 rw [e1];obtain ⟨g1,g2⟩:=hv i hi;cases he:y.eq i with
 | true =>
  rw [if_neg (by simp)];have:=g2 he;unfold Sys.val at this;grind
 | false =>
  rw [if_pos rfl,x3 i hi he];unfold Sys.val;grind
theorem Cols.solve {y:Sys} {L:Nat} {sg:Nat->Rat} {sl:Nat->Nat} {R:Nat->Nat->Rat} {b:Nat->Rat} (h:Cols y L sg sl R b) :
  (∃ x:Nat->Rat,(∀ j,j<L->0<=x j)/\∀ i,i<y.m->sum L (fun j=>R i j*x j)=b i)↔∃ v,y.holds v :=
 ⟨fun ⟨_,hx,hr⟩=>⟨_,h.to hx hr⟩,fun ⟨_,hv⟩=>have ⟨x,h1,h2,_⟩:=h.of hv; ⟨x,h1,h2⟩⟩
end Go.Proofs.YthelkgdmgihhiaaGreat.Simp
namespace Go.Proofs.YthelkgdmgihhiaaGreat.Simp
def red (t:Tab) (f:Nat->Rat):Nat->Nat->Rat
 | 0=>f
 | k+1=>fun j=>red t f k j - red t f k (t.B k)*t.T k j
def As6 (m:Nat) (t:Tab) (f:Nat->Rat):Tab:=⟨t.T,red t f m,t.B⟩
end Go.Proofs.YthelkgdmgihhiaaGreat.Simp
namespace Go.Proofs.YthelkgdmgihhiaaGreat.Simp
def Comb (m N:Nat) (t0 t:Tab):Prop:=∀ i,i<m->∃ w:Nat->Rat,∀ j,j<N+1->t.T i j=sum m fun k=>w k*t0.T k j
theorem Zv {m p q:Nat} (hp:p<m) (hq:q<m) (x y:Rat) (f:Nat->Rat):(sum m fun k=>((if k=p then x else 0)+(if k=q then y else 0))*f k)=x*f p+y*f q:=by
 have e:∀ k,((if k=p then x else 0)+(if k=q then y else 0))*f k=(if k=p then x*f k else 0)+(if k=q then y*f k else 0):=fun k=>by
  split <;> split <;> grind
 rw [sum_congr fun k _=>e k,sum_add,sum_one (f:=fun k=>x*f k) hp,sum_one (f:=fun k=>y*f k) hq]
theorem Comb.refl {m N:Nat} {t:Tab} : Comb m N t t:=fun i hi=>⟨fun k=>if k=i then 1 else 0,fun j _=>by
 rw [sum_congr (g:=fun k=>if k=i then t.T k j else 0) fun k _=>fK,sum_one (f:=fun k=>t.T k j) hi]⟩
theorem Ale {m N:Nat} {a b:Tab} (h:Comb m N a b) (w:Nat->Rat):∃ u:Nat->Rat,∀ j,j<N+1->(sum m fun k=>w k*b.T k j)=sum m fun k=>u k*a.T k j:=by
 classical
 obtain ⟨v,hv⟩:∃ v:Nat->Nat->Rat,∀ k,k<m->∀ j,j<N+1->b.T k j=sum m fun l=>v k l*a.T l j :=
  ⟨fun k=>if hk:k<m then (h k hk).choose else fun _=>0,fun k hk j hj=>by
   simp only [dif_pos hk]; exact (h k hk).choose_spec j hj⟩
 refine ⟨fun l=>sum m fun k=>w k*v k l,fun j hj=>?_⟩;have e1:(sum m fun k=>w k*b.T k j)=sum m fun k=>sum m fun l=>w k*(v k l*a.T l j):=sum_congr fun k hk=>by
  rw [hv k hk j hj,sum_mul]
 rw [e1,Mp];refine sum_congr fun l _=>?_;have e2:=sum_mul (a.T l j) (fun k=>w k*v k l) m;rw [sum_congr (g:=fun k=>w k*(v k l*a.T l j)) fun k _=>aM] at e2;rw [e2]; grind
theorem Comb.trans {m N:Nat} {a b c:Tab} (h1:Comb m N a b) (h2:Comb m N b c):Comb m N a c:=fun i hi=>by
 obtain ⟨w,hw⟩:=h2 i hi;obtain ⟨u,hu⟩:=Ale h1 w;exact ⟨u,fun j hj=>by rw [hw j hj,hu j hj]⟩
theorem Aqa {m N:Nat} {t:Tab} {r s:Nat} (hr:r<m):Comb m N t (piv t r s):=fun i hi=>by
 by_cases e:i=r
 ·subst e;refine ⟨fun k=>(if k=i then 1 / t.T i s else 0)+(if k=i then 0 else 0),fun j _=>?_⟩;rw [Zv hi hi];show pivT t i s i j=_;unfold pivT;rw [if_pos rfl]; grind
 ·refine ⟨fun k=>(if k=i then 1 else 0)+(if k=r then - t.T i s / t.T r s else 0),fun j _=>?_⟩;rw [Zv hi hr];show pivT t r s i j=_;unfold pivT;rw [if_neg e]; grind
theorem Arh {m N:Nat} {t:Tab} {r s:Nat} (hr:r<m) (hp:t.T r s≠0):Comb m N (piv t r s) t:=fun i hi=>by
 by_cases e:i=r
 ·subst e;refine ⟨fun k=>(if k=i then t.T i s else 0)+(if k=i then 0 else 0),fun j _=>?_⟩;rw [Zv hi hi];show _=_*pivT t i s i j+_*pivT t i s i j;unfold pivT;rw [if_pos rfl]; grind
 ·refine ⟨fun k=>(if k=i then 1 else 0)+(if k=r then t.T i s else 0),fun j _=>?_⟩;rw [Zv hi hr];show _=_*pivT t r s i j+_*pivT t r s r j;unfold pivT;rw [if_neg e,if_pos rfl]; grind
structure Span (m N:Nat) (t0 t:Tab):Prop where
 to:Comb m N t0 t
 of:Comb m N t t0
 cost:∃ u:Nat->Rat,∀ j,j<N+1->t.c j=t0.c j+sum m fun k=>u k*t0.T k j
theorem Span.refl {m N:Nat} {t:Tab} : Span m N t t:=⟨Comb.refl,Comb.refl,fun _=>0,fun j _=>by rw [sum_zero fun k _=>aM]; grind⟩
theorem Span.piv {m N:Nat} {t0 t:Tab} (h:Span m N t0 t) {r s:Nat} (hr:r<m) (hp:t.T r s≠0):Span m N t0 (piv t r s):=by
 refine ⟨h.to.trans (Aqa hr),(Arh hr hp).trans h.of,?_⟩;obtain ⟨u,hu⟩:=h.cost;obtain ⟨w,hw⟩:=h.to r hr;refine ⟨fun k=>u k+(- t.c s / t.T r s)*w k,fun j hj=>?_⟩;show t.c j - t.c s*(t.T r j / t.T r s)=_;have e:(sum m fun k=>(u k+(- t.c s / t.T r s)*w k)*t0.T k j)=(sum m fun k=>u k*t0.T k j)+(- t.c s / t.T r s)*sum m fun k=>w k*t0.T k j:=by
  rw [<- sum_mul,<- sum_add];exact sum_congr fun k _=>aM
 rw [e,<- hw j hj,hu j hj]; grind
theorem Run.span {m N L K:Nat} (R:Run m N L K):∀ k,k<=K->Span m N (R.t 0) (R.t k)
 | 0,_=>Span.refl
 | k+1,h=>by
  have hs:=R.step k aA;rw [R.next k aA];exact (R.span k aA).piv hs.r_lt Za4k
section
variable {m L:Nat} {R:Nat->Nat->Rat} {b:Nat->Rat} {t:Tab}
def dualY (m L:Nat) (t:Tab) (i:Nat):Rat:=t.c (L+i) - 1
theorem Uf (u:Nat->Rat) {p:Nat} (hp:p<m):(sum m fun k=>u k*(first m L R b).T k (L+p))=u p:=by
 rw [sum_congr (g:=fun k=>if k=p then u k else 0) fun k hk=>?_,sum_one (f:=u) hp];simp only [first];rw [if_neg aA,if_pos aA];by_cases e:k=p
 ·exact Ya15
 ·rw [if_neg aA,if_neg e]; grind
theorem Aa7 (h:Span m (L+m) (first m L R b) t):(∀ j,j<L->t.c j=sum m fun i=>dualY m L t i*R i j)/\t.c (L+m)=sum m fun i=>dualY m L t i*b i:=by
 obtain ⟨u,hu⟩:=h.cost;have hy:∀ i,i<m->dualY m L t i=u i - 1:=fun i hi=>by
  unfold dualY;rw [hu (L+i) aA,Uf u hi];simp only [first];rw [if_neg aA,if_pos aA]; grind
 have key:∀ f:Nat->Rat,(sum m fun i=>dualY m L t i*f i)=- sum m f+sum m fun k=>u k*f k:=fun f=>by
  rw [sum_congr (g:=fun i=>u i*f i - f i) fun i hi=>by rw [hy i hi]; grind,V2]; grind
 refine ⟨fun j hj=>?_,?_⟩
 ·rw [hu j aA,key];simp only [first];rw [if_pos hj];congr 1;exact sum_congr fun k _=>by rw [if_pos hj]
 ·rw [hu (L+m) aA,key];simp only [first];rw [if_neg aA,if_neg aA];congr 1;exact sum_congr fun k _=>Za5t
theorem cost_le (ht:Fit m (L+m) t) (hr:∀ i,i<m->0<=t.T i (L+m)) (hk:∀ x,Ker m (L+m) t x↔Ker m (L+m) (first m L R b) x) (hc:∀ x,Ker m (L+m) (first m L R b) x->dot (L+m) t.c x=dot (L+m) (first m L R b).c x):t.c (L+m)<=0:=by
 have hs:=Rt ht hr;have uh:=(hk _).1 hs.ker;have e1:=hc _ uh;rw [Nw ht,first_cost uh] at e1;have:=sum_nonneg (f:=fun i=>base m (L+m) t (L+i)) (n:=m) fun i hi=>hs.pos _ aA;grind
theorem cost_art (ht:Fit m (L+m) t) (hr:∀ i,i<m->0<=t.T i (L+m)) (hk:∀ x,Ker m (L+m) t x↔Ker m (L+m) (first m L R b) x) (hc:∀ x,Ker m (L+m) (first m L R b) x->dot (L+m) t.c x=dot (L+m) (first m L R b).c x) (h0:t.c (L+m)≠0):∃ k,k<m/\L<=t.B k:=by
 refine Od fun hn=>h0 ?_;have hs:=Rt ht hr;have uh:=(hk _).1 hs.ker;have e1:=hc _ uh;rw [Nw ht,first_cost uh,sum_zero fun i hi=>?_] at e1
 ·grind
 ·show - dir m t (L+m) (L+i)=0;unfold dir;rw [if_neg aA,sum_zero fun k hk=>?_]
  ·grind
  ·rw [if_neg fun e=>hn ⟨k,hk,aA⟩]
theorem cert {y:Sys} {sg:Nat->Rat} {sl:Nat->Nat} (hC:Cols y L sg sl R b) (hm:y.m=m) (k9:Span m (L+m) (first m L R b) t) (rp:∀ j,j<L->0<=t.c j) (hneg:t.c (L+m)<0) :
  (∀ k,k<y.n->(sum m fun i=>sg i*dualY m L t i*y.A i k)=0)/\(∀ i,i<m->y.eq i=false->0<=sg i*dualY m L t i)/\0<sum m fun i=>sg i*dualY m L t i*y.c i:=by
 subst hm;obtain ⟨h1,h2⟩:=Aa7 k9;refine ⟨fun k hk=>?_,fun i hi he=>?_,?_⟩
 ·have a1:=rp (2*k) Za4u;have a2:=rp (2*k+1) Za4u;rw [h1 _ Za4u] at a1 a2;rw [sum_congr (g:=fun i=>sg i*dualY y.m L t i*y.A i k) fun i hi=>by rw [hC.even i k hi hk]; grind] at a1;rw [sum_congr (g:=fun i=>- (sg i*dualY y.m L t i*y.A i k)) fun i hi=>by rw [hC.odd i k hi hk]; grind,Ka] at a2;grind
 ·obtain ⟨s1,s2⟩:=hC.slot i hi he;have a1:=rp (sl i) s2;rw [h1 _ s2,sum_congr (g:=fun k=>if k=i then sg k*dualY y.m L t k else 0) fun k hk=>?_,sum_one (f:=fun k=>sg k*dualY y.m L t k) hi] at a1
  ·exact a1
  ·rw [hC.slack k _ hk s1 s2];by_cases e:k=i
   ·subst e; rw [if_pos ⟨he,rfl⟩,if_pos rfl]; grind
   ·rw [if_neg e,if_neg fun hx=>e (hC.apart k i hk hi hx.1 he hx.2.symm)]; grind
 ·rw [h2,sum_congr (g:=fun i=>- (sg i*dualY y.m L t i*y.c i)) fun i hi=>by rw [hC.right i hi]; grind,Ka] at hneg;grind
end
end Go.Proofs.YthelkgdmgihhiaaGreat.Simp
namespace Go.Proofs.YthelkgdmgihhiaaGreat.Simp
def prodN (s:Nat->Nat):Nat->Nat
 | 0=>1
 | m+1=>prodN s m*s m
def Tx (s B:Nat->Nat):Nat->Nat
 | 0=>0
 | m+1=>Tx s B m*s m+B m
theorem Afn {s B:Nat->Nat} : ∀ {m:Nat},(∀ i,i<m->B i<s i)->Tx s B m<prodN s m
 | 0,_=>Nat.one_pos
 | m+1,h=>by
  have h1:=Afn (s:=s) (B:=B) (m:=m) fun i hi=>h i aA;have h2:=h m aA;have h3:(Tx s B m+1)*s m<=prodN s m*s m:=E5 _ h1;rw [Tx,prodN];rw [Ns] at h3;omega
theorem Aas {s B C:Nat->Nat} : ∀ {m:Nat},(∀ i,i<m->B i<s i)->(∀ i,i<m->C i<s i)->Tx s B m=Tx s C m->∀ i,i<m->B i=C i
 | 0,_,_,_,i,hi=>aA
 | m+1,hB,hC,h,i,hi=>by
  have b:=hB m aA;have c:=hC m aA;rw [Tx,Tx] at h;have h1:B m=C m:=by
   have e:=congrArg (· % s m) h;simpa only [Ip _ (s m),Nat.mul_add_mod,Om b,Om c] using e
  have h2:Tx s B m=Tx s C m:=by
   rw [h1] at h;exact Nat.eq_of_mul_eq_mul_right (show 0<s m by omega) aA
  by_cases e:i=m
  ·subst e; exact h1
  ·exact Aas (fun i hi=>hB i aA) (fun i hi=>hC i aA) h2 i aA
theorem Acl {s r:Nat->Nat} : ∀ {m:Nat},(∀ i,i<m->s i<=r i)->prodN s m<=prodN r m
 | 0,_=>Cf _
 | m+1,h=>Ix (Acl fun i hi=>h i aA) (h m aA)
theorem Xi (c:Nat) (s:Nat->Nat):∀ m,prodN (fun i=>c*s i) m=c ^ m*prodN s m
 | 0=>rfl
 | m+1=>by
  rw [prodN,prodN,Xi c s m,Lq];simp only [Nat.mul_assoc,Nat.mul_left_comm]
def nposS (a:Nat->Int):Nat->Nat
 | 0=>0
 | n+1=>nposS a n+(a n).toNat
def nnegS (a:Nat->Int):Nat->Nat
 | 0=>0
 | n+1=>nnegS a n+(- a n).toNat
theorem Xg {a b:Nat->Int} : ∀ {n:Nat},(∀ k,k<n->a k=b k)->nposS a n=nposS b n
 | 0,_=>rfl
 | n+1,h=>by rw [nposS,nposS,Xg fun k hk=>h k aA,h n aA]
theorem Xe {a b:Nat->Int} : ∀ {n:Nat},(∀ k,k<n->a k=b k)->nnegS a n=nnegS b n
 | 0,_=>rfl
 | n+1,h=>by rw [nnegS,nnegS,Xe fun k hk=>h k aA,h n aA]
theorem nabs_le {a:Nat->Int} {M:Nat} : ∀ {n:Nat},(∀ k,k<n->(a k).natAbs<=M)->nposS a n+nnegS a n<=n*M
 | 0,_=>by simp [nposS,nnegS]
 | n+1,h=>by
  have h1:=nabs_le (a:=a) (M:=M) (n:=n) fun k hk=>h k aA;have h2:=h n aA;rw [nposS,nnegS,Ns]; omega
theorem Aca {p:Nat} : ∀ {n:Nat},nposS (fun i=>if p=i then 1 else 0) n+nnegS (fun i=>if p=i then 1 else 0) n<=1/\(n<=p->nposS (fun i=>if p=i then 1 else 0) n+nnegS (fun i=>if p=i then 1 else 0) n=0)
 | 0=>by simp [nposS,nnegS]
 | n+1=>by
  have ih:=Aca (p:=p) (n:=n);rw [nposS,nnegS];by_cases e:p=n
  ·subst e;have h2:=ih.2 (Cf _);rw [if_pos rfl];refine ⟨aA,fun h=>aA⟩
  ·rw [if_neg e];refine ⟨by have:=ih.1; omega,fun h=>by have:=ih.2 aA; omega⟩
theorem Am5 {a d:Int} {H:Nat} (h0:0<=d) (h1:d<=(H:Int)):a*d<=(((a.toNat*H:Nat)):Int)/\- ((((- a).toNat*H:Nat)):Int)<=a*d:=by
 by_cases h:0<=a
 ·have e1:((a.toNat:Nat):Int)=a:=jN h;have e2:(- a).toNat=0:=aA
  have h2:a*d<=a*(H:Int):=Int.mul_le_mul_of_nonneg_left h1 h;have h3:0<=a*d:=Oi h h0;rw [e2,O9,e1];omega
 ·have e1:(((- a).toNat:Nat):Int)=- a:=jN aA;have e2:a.toNat=0:=aA
  have h2:(- a)*d<=(- a)*(H:Int):=Int.mul_le_mul_of_nonneg_left h1 aA;have h3:0<=(- a)*d:=Oi aA h0;rw [e2,O9 (-a).toNat,e1];rw [O4] at h2 h3 ⊢;rw [O4] at h2;omega
theorem W6 {a d:Nat->Int} {H:Nat} : ∀ {n:Nat},(∀ k,k<n->0<=d k/\d k<=(H:Int))->isum n (fun k=>a k*d k)<=((nposS a n*H:Nat):Int)/\- ((nnegS a n*H:Nat):Int)<=isum n fun k=>a k*d k
 | 0,_=>by simp [isum,nposS,nnegS]
 | n+1,h=>by
  have h1:=W6 (a:=a) (n:=n) fun k hk=>h k aA;have h2:=Am5 (a:=a n) (h n aA).1 (h n aA).2;rw [isum,nposS,nnegS,Ns,Ns];omega
theorem Avn (m:Nat) (s:Nat->Nat) (hs:∀ i,i<m->1<=s i) (a:Nat->Nat->Int) (ha:∀ i,i<m->nposS (a i) (m+1)+nnegS (a i) (m+1)<=s i) :
  ∃ u:Nat->Int,(∃ k,k<m+1/\u k≠0)/\(∀ k,(u k).natAbs<=prodN s m)/\∀ i,i<m->isum (m+1) (fun k=>a i k*u k)=0:=by
 obtain ⟨H,hH⟩:∃ H,H=prodN s m:=⟨_,rfl⟩;obtain ⟨W,hW⟩:∃ W:Nat->Nat,W=fun i=>H*s i+1:=⟨_,rfl⟩;have a0z:prodN W m<(H+1) ^ (m+1):=by
  have h1:prodN W m<=prodN (fun i=>(H+1)*s i) m:=Acl fun i hi=>by
   rw [hW];have:=hs i hi;dsimp only;rw [Ns]; omega
  rw [Xi,<- hH] at h1;have h2:(H+1) ^ (m+1)=(H+1) ^ m*(H+1):=Lq _ _;have h3:0<(H+1) ^ m:=Ss aA;rw [h2,Nat.mul_add,Fa];omega
 obtain ⟨im,uf⟩:∃ im:Nat->Nat->Int,im=fun p i=>isum (m+1) fun k=>a i k*(dg (H+1) k p:Int):=⟨_,rfl⟩;have zg:∀ k p,dg (H+1) k p<=H:=fun k p=>by
  exact Ya3c
 have hb:∀ p i,i<m->0<=im p i+((nnegS (a i) (m+1)*H:Nat):Int)/\im p i+((nnegS (a i) (m+1)*H:Nat):Int)<=((H*s i:Nat):Int):=fun p i hi=>by
  have h1:=W6 (a:=a i) (d:=fun k=>(dg (H+1) k p:Int)) (H:=H) (n:=m+1) fun k _=>⟨O0 _,Int.ofNat_le.2 (zg k p)⟩;have h2:(nposS (a i) (m+1)+nnegS (a i) (m+1))*H<=s i*H:=E5 H (ha i hi);rw [Ns,Ip (s i)] at h2;rw [uf];dsimp only;omega
 obtain ⟨p,q,h1,h2,h3⟩:=Agy (prodN W m) (fun p=>Tx W (fun i=>(im p i+((nnegS (a i) (m+1)*H:Nat):Int)).toNat) m) fun p _=>Afn fun i hi=>by
  have:=hb p i hi;rw [hW]; dsimp only;omega
 have heq:=Aas (s:=W) (m:=m) (fun i hi=>by have:=hb p i hi; rw [hW]; dsimp only; omega) (fun i hi=>by have:=hb q i hi; rw [hW]; dsimp only; omega) h3;refine ⟨fun k=>(dg (H+1) k q:Int) - (dg (H+1) k p:Int),?_,fun k=>?_,fun i hi=>?_⟩
 ·exact Ya0c
 ·rw [<- hH];have:=zg k p;have:=zg k q;dsimp only;omega
 ·exact Yaz
section
variable {m L:Nat} {R:Nat->Nat->Rat} {b:Nat->Rat} {t:Tab}
theorem Adm (ht:Fit m (L+m) t) (k9:Span m (L+m) (first m L R b) t) {z:Nat->Rat} (hz:∀ k,k<m->(sum m fun i=>z i*(first m L R b).T i (t.B k))=0):∀ p,p<m->z p=0:=fun p hp=>by
 have key:∀ i,i<m->∀ j,j<L+m+1->(first m L R b).T i j=sum m fun k=>(first m L R b).T i (t.B k)*t.T k j:=fun i hi j hj=>by
  obtain ⟨v,hv⟩:=k9.of i hi;have e:∀ k,k<m->v k=(first m L R b).T i (t.B k):=fun k hk=>by
   rw [hv _ (by have:=ht.lt k hk; omega),sum_congr (g:=fun k'=>if k'=k then v k' else 0) fun k' y9=>?_,sum_one (f:=v) hk];rw [ht.unit k' k y9 hk];split <;> grind
  rw [hv j hj];exact sum_congr fun k hk=>by rw [e k hk]
 have e1:(sum m fun i=>z i*(first m L R b).T i (L+p))=0:=by
  rw [sum_congr (g:=fun i=>sum m fun k=>z i*((first m L R b).T i (t.B k)*t.T k (L+p))) fun i hi=>by rw [key i hi _ aA,sum_mul],Mp];refine sum_zero fun k hk=>?_;have e2:=sum_mul (t.T k (L+p)) (fun i=>z i*(first m L R b).T i (t.B k)) m;rw [sum_congr (g:=fun i=>z i*((first m L R b).T i (t.B k)*t.T k (L+p))) fun i _=>aM,hz k hk] at e2;rw [e2]; grind
 rw [Uf z hp] at e1;exact e1
theorem dual_small (ht:Fit m (L+m) t) (k9:Span m (L+m) (first m L R b) t) (A:Nat->Nat->Int) (hA:∀ i j,i<m->j<L->R i j=((A i j:Int):Rat)) (s:Nat->Nat) (h1:∀ k,k<m->1<=s k)
  (hs:∀ k,k<m->t.B k<L->nposS (fun i=>A i (t.B k)) m+nnegS (fun i=>A i (t.B k)) m<=s k) (cz:∀ k,k<m->¬ t.B k<L->2<=s k) :
  ∃ D:Int,D≠0/\D.natAbs<=prodN s m/\∀ i,i<m->∃ Y:Int,dualY m L t i*((D:Int):Rat)=((Y:Int):Rat)/\Y.natAbs<=prodN s m:=by
 obtain ⟨a,ha⟩:∃ a:Nat->Nat->Int,a=fun k i=>if i<m then (if t.B k<L then A i (t.B k) else if t.B k - L=i then 1 else 0) else (if t.B k<L then 0 else 1):=⟨_,rfl⟩
 obtain ⟨u,⟨k0,uh,u6⟩,hub,hu⟩:=Avn m s h1 a fun k hk=>by
  have c1:nposS (a k) m=nposS (fun i=>if t.B k<L then A i (t.B k) else if t.B k - L=i then 1 else 0) m:=Xg fun i hi=>by rw [ha]; exact if_pos hi
  have c2:nnegS (a k) m=nnegS (fun i=>if t.B k<L then A i (t.B k) else if t.B k - L=i then 1 else 0) m:=Xe fun i hi=>by rw [ha]; exact if_pos hi
  have c3:a k m=if t.B k<L then 0 else 1:=Za3j
  rw [nposS,nnegS,c1,c2,c3];by_cases hB:t.B k<L
  ·simp only [if_pos hB];have:=hs k hk hB;omega
  ·simp only [if_neg hB];have:=cz k hk hB;have:=(Aca (p:=t.B k - L) (n:=m)).1;omega
 obtain ⟨d1,-⟩:=Aa7 k9;have hz:∀ p,p<m->((u p:Int):Rat) - ((u m:Int):Rat)*dualY m L t p=0:=Adm ht k9 fun k hk=>by
  have e1:=congrArg (fun z:Int=>(z:Rat)) (hu k hk);rw [isum_cast,sum] at e1;have c3:a k m=if t.B k<L then 0 else 1:=Za3j
  by_cases hB:t.B k<L
  ·have e2:∀ i,i<m->((a k i*u i:Int):Rat)=((u i:Int):Rat)*R i (t.B k):=fun i hi=>by
    rw [hA i _ hi hB,ha];dsimp only;rw [if_pos hi,if_pos hB,Cv]; grind
   rw [sum_congr e2,c3,if_pos hB] at e1;have e3:=d1 _ hB;rw [ht.free k hk] at e3;rw [sum_congr (g:=fun i=>((u i:Int):Rat)*R i (t.B k) - ((u m:Int):Rat)*(dualY m L t i*R i (t.B k))) fun i hi=>?_,V2,sum_mul,<- e3]
   ·have:(((0:Int)*u m:Int):Rat)=0:=by rw [Int.zero_mul]; rfl
    rw [this] at e1;have h0:((0:Int):Rat)=0:=rfl;rw [h0] at e1;grind
   ·simp only [first];rw [if_pos hB]; grind
  ·have hlt:=ht.lt k hk;obtain ⟨p,hp⟩:∃ p,t.B k=L+p:=⟨t.B k - L,aA⟩;have jf:p<m:=aA
   have e2:∀ i,i<m->((a k i*u i:Int):Rat)=if i=p then ((u i:Int):Rat) else 0:=fun i hi=>by
    rw [ha];dsimp only;rw [if_pos hi,if_neg hB];by_cases e:i=p
    ·subst e; rw [if_pos aA,if_pos rfl,Int.one_mul]
    ·rw [if_neg aA,if_neg e,Int.zero_mul]; rfl
   rw [sum_congr e2,sum_one (f:=fun i=>((u i:Int):Rat)) jf,c3,if_neg hB,Int.one_mul] at e1;have e3:dualY m L t p=-1:=by
    unfold dualY;have:=ht.free k hk;rw [hp] at this;rw [this]; grind
   rw [hp,Uf (fun i=>((u i:Int):Rat) - ((u m:Int):Rat)*dualY m L t i) jf,e3];have h0:((0:Int):Rat)=0:=rfl;rw [h0] at e1;grind
 have hD:u m≠0:=fun h0=>by
  by_cases e:k0=m
  ·exact u6 (e ▸ h0)
  ·have:=hz k0 aA;rw [h0] at this;have h0:((0:Int):Rat)=0:=rfl;rw [h0] at this;exact u6 (O8.mp (show ((u k0:Int):Rat)=((0:Int):Rat) by rw [h0]; grind))
 exact ⟨u m,hD,hub m,fun i hi=>⟨u i,by have:=hz i hi; grind,hub i⟩⟩
end
end Go.Proofs.YthelkgdmgihhiaaGreat.Simp
namespace Go.Proofs.YthelkgdmgihhiaaGreat
open Go Tryz
theorem X7 (p:Bool) (l:List Int) {n:Nat} (h:l.length<=n):(V p l).natAbs<10000 ^ n:=by
 refine A9.1 ?_;rw [Aps];split
 ·exact h
 ·simp
theorem Axu {z:Int} (h:z.natAbs<10000 ^ 200):okZ z=true:=by
 have:=A9.2 h;simp [okZ]; omega
theorem Ax3 {m:Nat} (h:m<=200):(10000:Nat) ^ m<=10000 ^ 200:=Nat.pow_le_pow_right aK h
theorem Agv {z:Int} {m:Nat} (h:z.natAbs<10000 ^ m) (hm:m<=200):okZ z=true:=Axu (Ft h (Ax3 hm))
theorem Am2 {a b:Int} {m n:Nat} (ha:a.natAbs<10000 ^ m) (hb:b.natAbs<10000 ^ n):(a*b).natAbs<10000 ^ (m+n):=by
 rw [Ib,Nat.pow_add]; exact Nat.mul_lt_mul'' ha hb
section
variable (S:List Ent) (tk:List Nat) (k:Nat)
theorem Ru (p q:Bool) (l r:List Int) (hl:l.length<=1000000) (hr:r.length<=1000000):cL prog 53 [bigA p l,bigA q r] S tk k=some (sgnZ (V p l*V q r),S,tk,k):=by
 rw [Atw _ _ _ p q l r hl hr,As8,As0,<- V_sg,<- V_sg]
theorem Ae4 (p:Bool) (l:List Int) (hl:l.length<=1000000):cL prog 87 [bigA p l,.agg [.bool false,.frz [] .nilc]] S tk k=some (.int (cmpZ (V p l) 0),S,tk,k):=by
 refine (Wa (args:=[bigA p l,.agg [.bool false,.frz [] .nilc]]) (args':=[bigA p l,bigA false []]) rfl rfl rfl).trans ?_;rw [Atv _ _ _ p false l [] hl (by simp)]; rfl
end
end Go.Proofs.YthelkgdmgihhiaaGreat
namespace Go.Proofs.YthelkgdmgihhiaaGreat
open Go Tryz
set_option maxRecDepth 100000
theorem N6 {l:List Int} {i:Nat} {x:Int} (h:i<l.length):(l.set i x).drop i=x :: l.drop (i+1):=by
 rw [Au (Q6 h)];congr 1;rw [List.drop_set]; simp
theorem Acg (n:Nat):okD (Cg n 0):=fun d hd=>by
 exact Ya3d
theorem Au2 {r:Int} (h0:0<=r) (h1:r<10000):okD [r]:=fun d hd=>by simp at hd; omega
theorem Ar4 {r:Int} (h0:0<=r) (h1:r<10000):Df [r]=dig r.toNat:=by
 rw [Dw (Au2 h0 h1)]; simp [val]
structure Short (A:Nat) (b:Int) (m:Nat) (r:Int) (out:List Int):Prop where
 len:out.length=(dig A).length
 ok:okD out
 r0:0<=r/\r<b
 eqv:val ((dig A).drop m)=val (out.drop m)*b+r
theorem Short.start {A:Nat} {b:Int} (h:0<b):Short A b (dig A).length 0 (Cg (dig A).length 0):=by
 refine ⟨by simp,Acg _,aA,?_⟩;exact Ya3n
theorem Short.step {A:Nat} {b:Int} {m:Nat} {r x:Int} {out:List Int} (h:Short A b m r out) (hm:m≠0) (q9:m<=(dig A).length) (hx:nth (dig A) (m - 1)=some x) :
  Short A b (m - 1) ((r*10000+x).tmod b) (out.set (m - 1) ((r*10000+x).tdiv b))/\0<=(r*10000+x).tdiv b/\(r*10000+x).tdiv b<10000/\0<=(r*10000+x).tmod b/\(r*10000+x).tmod b<b:=by
 have hr:=h.r0;have hxk:=B5 (Bd A) hx;have hn:0<=r*10000+x:=aA
 have e1:(r*10000+x).tdiv b=(r*10000+x) / b:=C8 hn;have e2:(r*10000+x).tmod b=(r*10000+x) % b:=Ic hn;have m0:=Int.emod_nonneg (r*10000+x) (show b≠0 by omega);have m1:=Int.emod_lt_of_pos (r*10000+x) (show 0<b by omega);have q0:0<=(r*10000+x) / b:=Int.ediv_nonneg hn aA;have q1:(r*10000+x) / b<10000:=Int.ediv_lt_of_lt_mul aA aA;have c9:m - 1+1=m:=aA
 have hlen:m - 1<out.length:=fC
 rw [e1,e2];refine ⟨⟨bM,Nk h.ok q0 q1,⟨m0,m1⟩,?_⟩,q0,q1,m0,m1⟩;have hv:=h.eqv;rw [Au hx,N6 hlen,val,val,c9,hv];exact Yaw
theorem Asq {A B Q R:Int} (h:A=Q*B+R) (h0:0<=R) (h1:R<B):A / B=Q/\A % B=R:=by
 exact Ya0a
theorem Alm {A B:Nat} {Q R:Int} (h:(A:Int)=Q*B+R) (h0:0<=R) (h1:R<B):Q=((A / B:Nat):Int)/\R=((A % B:Nat):Int):=by
 obtain ⟨e1,e2⟩:=Asq h h0 h1;rw [<- e1,<- e2];exact Ya32
theorem Short.done {A B:Nat} {r:Int} {out:List Int} (h:Short A B 0 r out):Df out=dig (A / B)/\r.toNat=A % B:=by
 have hv:=h.eqv;rw [Fi,Fi,B3] at hv;obtain ⟨e1,e2⟩:=Alm hv h.r0.1 h.r0.2;rw [Dw h.ok,e1];exact ⟨by congr 1,aA⟩
section
variable (S:List Ent) (tk:List Nat) (k:Nat)
theorem Aks (A B:Nat) (ha:(dig A).length<=100000) (hb0:0<B) (hb1:B<10000):cL prog 128 [digA (dig A),.int (B:Nat)] S tk k=some (.tup [digA (dig (A / B)),digA (dig (A % B))],S,tk,k):=by
 refine opP func128 ntmps128 (hp3:=rfl) ?_;have na:(Ay prog 58).bind (Ep prog)=some 8:=aJ
 have ft:=Q5 (P:=prog) (t:=58) (n:=(dig A).length) aQ aQ na aA;have d3:=Hu (n:=(dig A).length) aA;have ag:=Short.start (A:=A) (b:=(B:Int)) aA;simp (maxSteps:=10^6)+contextual(disch:=try exact dqd)only[ev0,simprocAttr,Cc,Ca,Cd,results128,digA,ft,d3];refine loop1 (P:=prog) (fun x st=>st.T.length=40/\(x.1<=(dig A).length)/\(Short A B x.1 x.2.1 x.2.2)/\getT st.T 0=digA (dig A)/\getT st.T 1=.int (B:Nat)/\getT st.T 6=.sref 0 0 0 (dig A).length 1/\getT st.T 7=.int x.2.1/\getT st.T 8=.int ((x.1:Int) - 1)/\st.S=[⟨0,x.2.2.map numC⟩]) (fun x=>x.1) (fun x=>.tup [digA (dig (A / B)),digA (dig (A % B))]) ((dig A).length,0,Cg (dig A).length 0) ?_ ?_;case refine_2=>exact ⟨rfl,Cf _,ag,rfl,rfl,rfl,rfl,rfl,rfl⟩
 rintro ⟨m,r,out⟩ ⟨T,S',tk',n'⟩ ⟨hl,hm,hp,e0,e1,e6,e7,e8,eS⟩ IH;simp only at hm hp e0 e1 e6 e7 e8 eS;subst eS;obtain ⟨g,hg,hT⟩:=Ao hl;rw [hg] at e0 e1 e6 e7 e8;subst hT;clear hg hl;have hlen:=hp.len;by_cases h0:m=0
 ·have d2:decide ((m:Int) - 1 >= 0)=false:=aC
  subst h0;obtain ⟨q1,q2⟩:=hp.done;have ci:=hp.r0;have hT tk k:=Ev [⟨0,out.map numC⟩] tk k out 0 0 aA rfl;rw [hlen] at hT;have au tk k:=Ap3 [⟨0,out.map numC⟩] tk k [r] .tight (by simp);rw [Ar4 ci.1 aA,q2] at au;have jd:=Uk (m:=0) (id:=0) (ep:=0) (S:=[⟨0,out.map numC⟩]) (Cf _) rfl (Ha out);rw [<- Dh,q1] at jd;rw [q1] at hT;simp only [Cn,Ct,digC,digA] at au;simp (maxSteps:=10^6)+contextual(disch:=try exact dqd)only[ev0,simprocAttr,Cc,Ca,Cd,results128,digA,e0,e1,e6,e7,e8,d2,hT,au,jd]
 ·have d2:decide ((m:Int) - 1 >= 0)=true:=aC
  have hi:(m:Int) - 1=((m - 1:Nat):Int):=aA
  obtain ⟨x,hx⟩:=Ab (show m - 1<(dig A).length by omega);have hx':=B9 hx;have hxk:=B5 (Bd A) hx;obtain ⟨o,ho⟩:=Ab (show m - 1<out.length by omega);obtain ⟨hq,g1,g2,g3,g4⟩:=hp.step h0 hm hx;have ci:=hp.r0;have hpw:=Hu (n:=m - 1) aA;have ev:¬ ((B:Int)=0):=aA
  have hw1:Ce.wrap (r*10000)=r*10000:=Aa aD;have hw2:Ce.wrap (r*10000+x)=r*10000+x:=Aa aD;have hw3:Ce.wrap ((r*10000+x).tdiv B)=(r*10000+x).tdiv B:=Aa aD;have zu:Ce.wrap ((r*10000+x).tmod B)=(r*10000+x).tmod B:=Aa aD;have cq:=Dj (v:=(r*10000+x).tdiv B) ho;have bc:m - 1<(dig A).length:=aA
  rw [hi] at e8 d2;simp (maxSteps:=10^6)+contextual(disch:=try exact dqd)only[ev0,simprocAttr,Cc,Ca,Cd,results128,digA,e0,e1,e6,e7,e8,d2,hx',hpw,ev,hw1,hw2,hw3,zu,cq,bc,Fa];exact IH (m - 1,(r*10000+x).tmod B,out.set (m - 1) ((r*10000+x).tdiv B)) _ aF ⟨rfl,aE,hq,aB,aB,aB,aB,aB,aB⟩
end
end Go.Proofs.YthelkgdmgihhiaaGreat
namespace Go.Proofs.YthelkgdmgihhiaaGreat
open Go
def padD (v m:Nat):List Int:=padL (dig v) m
theorem Mj {v m:Nat} (h:(dig v).length<=m):(padD v m).length=m:=Zb h
theorem R7 (v m:Nat):val (padD v m)=v:=by rw [padD,Zc,B3]
theorem R3 (v m:Nat):okD (padD v m):=fun d hd=>by
 rcases Cw.1 hd with hd|hd
 ·exact Bd v d hd
 ·exact Ya3d
theorem Aba:∀ {l r:List Int},okD l->okD r->l.length=r.length->val l=val r->l=r
 | [],[],_,_,_,_=>rfl
 | d :: l,e :: r,h1,h2,hl,hv=>by
  have g1:=h1 d (by simp);have g2:=h2 e (by simp);simp only [val] at hv;have hde:d=e:=aA
  have ih:=Aba (l:=l) (r:=r) (fun x hx=>h1 x bJ) (fun x hx=>h2 x bJ) bW aA;rw [hde,ih]
 | [],_ :: _,_,_,hl,_=>dN
 | _ :: _,[],_,_,hl,_=>dN
theorem Ze (n:Nat):((10000 ^ n:Nat):Int)=(10000:Int) ^ n:=Int.natCast_pow ..
theorem Axn {a n:Nat} (h:(a:Int)<10000 ^ n):a<10000 ^ n:=by rw [<- Ze] at h; omega
theorem Ax4 {a n:Nat} (h:a<10000 ^ n):(a:Int)<10000 ^ n:=by rw [<- Ze]; omega
theorem Aub {l:List Int} {v:Nat} (h:okD l) (hv:val l=v):l=padD v l.length:=by
 have hl:(dig v).length<=l.length:=by
  refine A9.2 ?_;have:=Xx h;rw [hv] at this;exact Axn this
 exact Aba h (R3 _ _) (Mj hl).symm (by rw [hv,R7])
theorem Ard {l:List Int} (h:okD l) (i:Nat):okD (l.take i):=fun d hd=>h d (Su hd)
theorem Ada {l:List Int} {i:Nat} (h:i<=l.length):val l=val (l.take i)+10000 ^ i*val (l.drop i):=by
 have e:=Ge (l.take i) (l.drop i);rw [I9] at e;rw [e];have:(l.take i).length=i:=aC
 rw [this]
theorem V5 {l:List Int} {i:Nat} (h:okD (l.take i)) (hi:i<=l.length):0<=val (l.take i)/\val (l.take i)<10000 ^ i:=by
 have h1:=Xx h;have:(l.take i).length=i:=aC
 rw [this] at h1;exact ⟨Eo h,h1⟩
theorem Ac9 {l:List Int} (h:okD l) {i:Nat} (hi:i<=l.length):val (l.drop i)=val l / 10000 ^ i:=by
 obtain ⟨h1,h2⟩:=V5 (Ard h i) hi;have h3:=Ada hi;have hp:=Jr i;generalize (10000:Int) ^ i=P at *;have:=(Asq (A:=val l) (B:=P) (Q:=val (l.drop i)) (R:=val (l.take i)) (by rw [h3,F3 P]; omega) h1 h2).1;exact this.symm
theorem Vd {v m j:Nat} (h:(dig v).length<=m) (hj:j<m):nth (padD v m) j=some ((v / 10000 ^ j % 10000:Nat):Int):=by
 obtain ⟨x,hx⟩:=Ab (show j<(padD v m).length by rw [Mj h]; exact hj);have hk:=R3 v m;have h1:=Ac9 hk (i:=j) (by rw [Mj h]; omega);rw [Au hx,val,R7] at h1;have hxk:=B5 hk hx;rw [hx]; congr 1;have e:((v / 10000 ^ j:Nat):Int)=(v:Int) / 10000 ^ j:=by simp
 omega
theorem Asp {v j:Nat} (hj:j<(dig v).length):nth (dig v) j=some ((v / 10000 ^ j % 10000:Nat):Int):=by
 have:=Vd (v:=v) (m:=(dig v).length) (Cf _) hj;have e:padD v (dig v).length=dig v:=by simp [padD,padL]
 rwa [e] at this
theorem Nb (v i j:Nat):v / 10000 ^ (i+j)=v / 10000 ^ i / 10000 ^ j:=by rw [Nat.pow_add,Nat.div_div_eq_div_mul]
theorem Aqv {R B W:Nat} (hw:0<W) (hb:0<B / W):R / B<=(R / W) / (B / W):=by
 rw [So hb,So hw,Nat.mul_assoc];exact Fe (Og _ (Nat.div_mul_le_self B W)) (Nat.div_mul_le_self R B)
structure Off (B m i k:Nat) (q c E:Int) (o:List Int):Prop where
 len:o.length=m
 ok:okD o
 c0:0<=c/\c<=9999
 high:∀ j x,i+(dig B).length<j->nth o j=some x->x=0
 eqv:val o - 10000 ^ (i+k)*(c+q*val ((dig B).drop k))=E
theorem Off.step {B m i k:Nat} {q c E x d y:Int} {o:List Int} (h:Off B m i k q c E o) (hq:0<=q/\q<=9999) (hx:nth o (i+k)=some x) (hd:nth (dig B) k=some d) (hy:y=x - q*d - c) :
  -99990000<=y/\y<=9999/\(y<0->(0 - y+10000 - 1).tdiv 10000<=9999/\0<=(0 - y+10000 - 1).tdiv 10000/\0<=y+(0 - y+10000 - 1).tdiv 10000*10000/\y+(0 - y+10000 - 1).tdiv 10000*10000<=9999/\Off B m i (k+1) q ((0 - y+10000 - 1).tdiv 10000) E (o.set (i+k) (y+(0 - y+10000 - 1).tdiv 10000*10000)))
   /\ (¬ y<0->Off B m i (k+1) q 0 E (o.set (i+k) y)):=by
 have ko:=B5 (Bd B) hd;have hxk:=B5 h.ok hx;have hk:=A8 hd;have hc:=h.c0;have p0:0<=q*d:=Oi hq.1 ko.1;have p1:q*d<=9999*9999:=Int.mul_le_mul hq.2 aA ko.1 aA;have hv:=h.eqv;rw [Au hd,val,Ir q,Int.mul_left_comm] at hv;have main:∀ c' z:Int,0<=c'->c'<=9999->0<=z->z<10000->z=y+c'*10000->Off B m i (k+1) q c' E (o.set (i+k) z):=fun c' z a1 a2 a3 a4 a5=>by
  refine ⟨bM,Nk h.ok a3 a4,⟨a1,a2⟩,fun j u hj hu=>?_,?_⟩
  ·exact Ya09
  ·rw [Hi hx,<- hv,<- fW,Lz,F3 (z - x)];generalize (10000:Int) ^ (i+k)=P at *;generalize val ((dig B).drop (k+1))=D at *;have e1:P*10000*(c'+q*D)=P*(10000*(c'+q*D)):=Ia ..;have e2:P*(z - x)=P*(10000*(c'+q*D)) - P*(c+(q*d+10000*(q*D))):=by
    rw [<- Sz]; congr 1;generalize q*D=u at *;generalize q*d=t at *;omega
   omega
 refine ⟨aA,aA,fun hn=>?_,fun hn=>main 0 y aA aA aA aA aA⟩;have e:(0 - y+10000 - 1).tdiv 10000=(0 - y+10000 - 1) / 10000:=C8 aA;rw [e];exact ⟨aA,aA,aA,aA,main _ _ aA aA aA aA rfl⟩
structure Mid (v B m i:Nat) (q:Int) (o:List Int):Prop where
 len:o.length=m
 ok:∀ j x,j≠i+(dig B).length->nth o j=some x->0<=x/\x<10000
 top:∀ x,nth o (i+(dig B).length)=some x->-10000<=x/\x<=9999
 high:∀ j x,i+(dig B).length<j->nth o j=some x->x=0
 q0:((v / 10000 ^ i / B:Nat):Int)<=q/\q<=9999
 eqv:val o=v - 10000 ^ i*(q*B)
theorem Off.start {v B m i:Nat} {q:Int} (hv:(dig v).length<=m) (hR:v / 10000 ^ i<10000*B):Off B m i 0 q 0 (v - 10000 ^ i*(q*B)) (padD v m):=by
 refine ⟨Mj hv,R3 v m,aA,fun j x hj hx=>?_,?_⟩
 ·have hjm:=A8 hx;rw [Mj hv] at hjm;rw [Vd hv hjm] at hx;simp only [A3] at hx;subst hx;have hB:=(A9 (n:=B) (k:=(dig B).length)).1 (Cf _);have e:v / 10000 ^ j=0:=by
   have e1:j=i+((dig B).length+1)+(j - (i+(dig B).length+1)):=aA
   rw [e1,Nb,Nb];have:v / 10000 ^ i / 10000 ^ ((dig B).length+1)=0:=iX (by rw [Lq]; omega);rw [this,Nat.zero_div]
  rw [e]; rfl
 ·rw [R7,Fi,B3,Io]; simp
theorem Off.done {v B m i:Nat} {q c x:Int} {o:List Int} (h:Off B m i (dig B).length q c (v - 10000 ^ i*(q*B)) o) (hx:nth o (i+(dig B).length)=some x) (hq:((v / 10000 ^ i / B:Nat):Int)<=q/\q<=9999):Mid v B m i q (o.set (i+(dig B).length) (x - c)):=by
 have hxk:=B5 h.ok hx;have hc:=h.c0;refine ⟨bM,fun j u hj hu=>?_,fun u hu=>?_,fun j u hj hu=>?_,hq,?_⟩
 ·rcases Bz hu with ⟨e,-⟩|⟨-,hu⟩
  ·omega
  ·exact B5 h.ok hu
 ·exact Ya3s
 ·exact Ya09
 ·have hv:=h.eqv;rw [C9] at hv;rw [Hi hx,<- hv];simp only [val,Sa,O2];have e:x - c - x=-c:=aA
  rw [e,O4,F3 c]; omega
theorem Mid.val_eq {v B m i:Nat} {q x:Int} {o:List Int} (h:Mid v B m i q o) (hx:nth o (i+(dig B).length)=some x):∃ P,val o=P+10000 ^ (i+(dig B).length)*x/\0<=P/\P<10000 ^ (i+(dig B).length):=by
 have hl:=A8 hx;have hk:okD (o.take (i+(dig B).length)):=U8 fun j y hy=>by
  have hj:=A8 hy;have eo:j<i+(dig B).length:=by simp at hj; omega
  rw [Ae,Ii eo,<- Ae] at hy;exact h.ok j y aA hy
 obtain ⟨h1,h2⟩:=V5 hk aA;refine ⟨_,?_,h1,h2⟩;rw [Ada (l:=o) (i:=i+(dig B).length) aA,Au hx,val];have hz:∀ l:List Int,(∀ d ∈ l,d=0)->val l=0:=fun l hl=>by
  induction l with
  | nil=>rfl
  | cons d l ih=>rw [val,ih fun d hd=>hl d (by simp [hd]),hl d (by simp)]; rfl
 rw [hz (o.drop (i+(dig B).length+1)) fun d hd=>by
  obtain ⟨j,hj⟩:=List.mem_iff_getElem?.1 hd;rw [S7] at hj;exact h.high (i+(dig B).length+1+j) d aA (by rw [Ae]; exact hj)]
 simp
theorem Aoy (v i:Nat):∃ L:Nat,(v:Int)=10000 ^ i*((v / 10000 ^ i:Nat):Int)+L/\L<10000 ^ i:=by
 refine ⟨v % 10000 ^ i,?_,Ov _ (Ss aK)⟩;have h:=Ow v (10000 ^ i);have:((10000 ^ i*(v / 10000 ^ i)+v % 10000 ^ i:Nat):Int)=v:=by rw [h]
 rw [<- this]; simp
theorem Mid.neg {v B m i:Nat} {q x:Int} {o:List Int} (h:Mid v B m i q o) (hB:0<B) (hx:nth o (i+(dig B).length)=some x) (hn:x<0):((v / 10000 ^ i / B:Nat):Int)<=q - 1:=by
 obtain ⟨P,hP,h0,h1⟩:=h.val_eq hx;obtain ⟨L,hL,wb⟩:=Aoy v i;have hv:=h.eqv;have hp:=Jr i;have hpp:=Jr (i+(dig B).length);have hneg:val o<0:=by
  have:(10000:Int) ^ (i+(dig B).length)*x<=10000 ^ (i+(dig B).length)*(-1):=Int.mul_le_mul_of_nonneg_left aA aA;omega
 have hlt:10000 ^ i*(((v / 10000 ^ i:Nat):Int) - q*B)<0:=by rw [Sz]; omega
 have cu:((v / 10000 ^ i:Nat):Int) - q*B<0:=by
  rcases Int.lt_or_le (((v / 10000 ^ i:Nat):Int) - q*B) 0 with h|h
  ·exact h
  ·have:=Oi (Int.le_of_lt hp) h; omega
 have:((v / 10000 ^ i / B:Nat):Int)<q:=by
  have e:((v / 10000 ^ i / B:Nat):Int)=((v / 10000 ^ i:Nat):Int) / (B:Int):=by simp
  rw [e]; exact Int.ediv_lt_of_lt_mul aA aA
 omega
theorem Mid.done {v B m i:Nat} {q x:Int} {o:List Int} (h:Mid v B m i q o) (hB:0<B) (hx:nth o (i+(dig B).length)=some x) (hn:¬ x<0):q=((v / 10000 ^ i / B:Nat):Int)/\o=padD (v - 10000 ^ i*(v / 10000 ^ i / B*B)) m:=by
 obtain ⟨P,hP,h0,h1⟩:=h.val_eq hx;obtain ⟨L,hL,wb⟩:=Aoy v i;have hv:=h.eqv;have hp:=Jr i;have hpp:=Jr (i+(dig B).length);have hpos:0<=val o:=by
  have:0<=(10000:Int) ^ (i+(dig B).length)*x:=Oi aA aA;omega
 have hL1':(L:Int)<10000 ^ i:=Ax4 wb;have xg : -(10000 ^ i)<10000 ^ i*(((v / 10000 ^ i:Nat):Int) - q*B):=by rw [Sz]; omega
 have iy:0<=((v / 10000 ^ i:Nat):Int) - q*B:=by
  rcases Int.lt_or_le (((v / 10000 ^ i:Nat):Int) - q*B) 0 with h|h
  ·have:(10000:Int) ^ i*(((v / 10000 ^ i:Nat):Int) - q*B)<=10000 ^ i*(-1):=Int.mul_le_mul_of_nonneg_left aA aA;omega
  ·exact h
 have hqe:q=((v / 10000 ^ i / B:Nat):Int):=by
  have e:((v / 10000 ^ i / B:Nat):Int)=((v / 10000 ^ i:Nat):Int) / (B:Int):=by simp
  have h1:=h.q0.1;have h2:q<=((v / 10000 ^ i:Nat):Int) / (B:Int):=by rw [Int.le_ediv_iff_mul_le aA]; omega
  omega
 refine ⟨hqe,?_⟩;have hk:okD o:=U8 fun j y hy=>by
  by_cases e:j=i+(dig B).length
  ·subst e; rw [hx] at hy; simp only [A3] at hy; have:=h.top x hx; omega
  ·exact h.ok j y e hy
 have hle:10000 ^ i*(v / 10000 ^ i / B*B)<=v:=by
  refine Fe (Og _ (Nat.div_mul_le_self _ _)) (Nat.mul_div_le _ _)
 have d7:val o=((v - 10000 ^ i*(v / 10000 ^ i / B*B):Nat):Int):=by
  rw [hv,hqe,Int.ofNat_sub hle]; simp
 have:=Aub hk d7;rw [h.len] at this;exact this
structure Back (v B m i k:Nat) (q c:Int) (o:List Int):Prop where
 len:o.length=m
 ok:∀ j x,j≠i+(dig B).length->nth o j=some x->0<=x/\x<10000
 top:∀ x,nth o (i+(dig B).length)=some x->-10000<=x/\x<0
 high:∀ j x,i+(dig B).length<j->nth o j=some x->x=0
 c0:0<=c/\c<=1
 q0:((v / 10000 ^ i / B:Nat):Int)<=q/\q<=9999
 eqv:val o+10000 ^ (i+k)*(c+val ((dig B).drop k))=v - 10000 ^ i*(q*B)
theorem Mid.back {v B m i:Nat} {q x:Int} {o:List Int} (h:Mid v B m i q o) (hB:0<B) (hx:nth o (i+(dig B).length)=some x) (hn:x<0):Back v B m i 0 (q - 1) 0 o:=by
 have h1:=h.neg hB hx hn;refine ⟨h.len,h.ok,fun y hy=>?_,h.high,aA,⟨h1,by have:=h.q0; omega⟩,?_⟩
 ·have:=h.top y hy; rw [hx] at hy;exact Ya1k
 ·rw [h.eqv,Fi,B3,Io,Int.sub_mul,Int.one_mul,Sz,Int.zero_add]; omega
theorem Back.step {v B m i k:Nat} {q c x d y:Int} {o:List Int} (h:Back v B m i k q c o) (hx:nth o (i+k)=some x) (hd:nth (dig B) k=some d) (hy:y=x+d+c) :
  Back v B m i (k+1) q (y.tdiv 10000) (o.set (i+k) (y.tmod 10000))/\0<=y/\y<=19999/\0<=x/\x<10000:=by
 have ko:=B5 (Bd B) hd;have hk:=A8 hd;have hxk:=h.ok _ x aA hx;have hc:=h.c0;have e1:y.tdiv 10000=y / 10000:=C8 aA;have e2:y.tmod 10000=y % 10000:=Ic aA;refine ⟨⟨bM,fun j u hj hu=>?_,fun u hu=>?_,fun j u hj hu=>?_,aA,h.q0,?_⟩,aA,aA,hxk.1,hxk.2⟩
 ·rcases Bz hu with ⟨-,e⟩|⟨-,hu⟩
  ·omega
  ·exact h.ok j u hj hu
 ·rcases Bz hu with ⟨e,-⟩|⟨-,hu⟩
  ·omega
  ·exact h.top u hu
 ·exact Ya09
 ·have hv:=h.eqv;rw [Au hd,val] at hv;rw [Hi hx,<- hv,<- fW,Lz,F3 (y.tmod 10000 - x)];generalize (10000:Int) ^ (i+k)=P at *;generalize val ((dig B).drop (k+1))=D at *;rw [Ia,gR,<- Ir];congr 2;omega
theorem Back.done {v B m i:Nat} {q c x:Int} {o:List Int} (h:Back v B m i (dig B).length q c o) (hx:nth o (i+(dig B).length)=some x):Mid v B m i q (o.set (i+(dig B).length) (x+c)):=by
 have hxk:=h.top x hx;have hc:=h.c0;refine ⟨bM,fun j u hj hu=>?_,fun u hu=>?_,fun j u hj hu=>?_,h.q0,?_⟩
 ·rcases Bz hu with ⟨e,-⟩|⟨-,hu⟩
  ·omega
  ·exact h.ok j u hj hu
 ·exact Ya3s
 ·exact Ya09
 ·have hv:=h.eqv;rw [C9] at hv;rw [Hi hx,<- hv];simp only [val,O2];have e:x+c - x=c:=aA
  rw [e,F3 c]
end Go.Proofs.YthelkgdmgihhiaaGreat
namespace Go.Proofs.YthelkgdmgihhiaaGreat
open Go Tryz
set_option maxHeartbeats 1000000
set_option maxRecDepth 100000
theorem guess {v B i:Nat} (hB2:2<=(dig B).length) (hR:v / 10000 ^ i<10000*B):∃ T U:Nat,
  v / 10000 ^ (i+(dig B).length) % 10000=T / 100000000 % 10000/\v / 10000 ^ (i+(dig B).length - 1) % 10000=T / 10000 % 10000/\v / 10000 ^ (i+(dig B).length - 2) % 10000=T % 10000/\T<1000000000000 /\
  B / 10000 ^ ((dig B).length - 1) % 10000=U / 10000 % 10000/\B / 10000 ^ ((dig B).length - 2) % 10000=U % 10000/\U<100000000/\10000<=U/\v / 10000 ^ i / B<=T / U/\v / 10000 ^ i / B<=9999:=by
 obtain ⟨m,hm⟩:∃ m,(dig B).length=m+2:=⟨(dig B).length - 2,aA⟩;have hB:=(A9 (n:=B) (k:=m+2)).1 aA;have hB1:10000 ^ (m+1)<=B:=by
  rcases Ie B (10000 ^ (m+1)) with h|h
  ·have:=(A9 (n:=B) (k:=m+1)).2 h; omega
  ·exact h
 rw [hm];have hW:0<10000 ^ m:=Ss aK;have e0:i+(m+2)=(i+m)+2:=aA
 have e1:i+(m+2) - 1=(i+m)+1:=aA
 have e2:i+(m+2) - 2=i+m:=aA
 have e3:m+2 - 1=m+1:=aA
 have e4:m+2 - 2=m:=aA
 rw [e2,e1,e0,e3,e4,Nb v (i+m) 2,Nb v (i+m) 1,Nb B m 1];refine ⟨v / 10000 ^ (i+m),B / 10000 ^ m,rfl,rfl,rfl,?_,rfl,rfl,?_,?_,?_,?_⟩
 ·rw [Nb,Ik hW];rw [Nat.pow_add] at hB;generalize 10000 ^ m=W at *;have:(10000:Nat) ^ 2=100000000:=aK
  rw [this] at hB;omega
 ·rw [Ik hW];rw [Nat.pow_add] at hB;have:(10000:Nat) ^ 2=100000000:=aK
  rw [this] at hB;omega
 ·rw [So hW];rw [Nat.pow_add] at hB1;omega
 ·rw [Nb];refine Aqv hW ?_;rw [Nat.div_pos_iff];refine ⟨hW,?_⟩;rw [Nat.pow_add] at hB1;omega
 ·have:v / 10000 ^ i / B<10000:=by
   rw [Ik aA]; omega
  omega
section
variable (tk:List Nat) (k:Nat)
theorem Akr (v B m i:Nat) (out:List Int) (hv:(dig v).length<=m) (hm:m<=100001) (hB2:2<=(dig B).length) (uf:i+(dig B).length<m) (hR:v / 10000 ^ i<10000*B) :
  cL prog 129 [.sref 0 0 0 m 1,digA (dig B),.int (i:Nat)] [⟨0,(padD v m).map numC⟩,⟨1,out.map numC⟩] tk k=some (.int ((v / 10000 ^ i / B:Nat):Int),[⟨0,(padD (v - 10000 ^ i*(v / 10000 ^ i / B*B)) m).map numC⟩,⟨1,out.map numC⟩],tk,k):=by
 have hB0:0<B:=by
  rcases Vo B with h|h
  ·subst h; simp [Bp] at hB2
  ·exact h
 obtain ⟨T,U,t2,t1,t0,hT,u1,u0,hU,ui,hg,hq9⟩:=guess hB2 hR;have n2:=D0 (Vd hv uf);have n1:=D0 (Vd hv (j:=i+(dig B).length - 1) aA);have n0:=D0 (Vd hv (j:=i+(dig B).length - 2) aA);have b1:=B9 (Asp (v:=B) (j:=(dig B).length - 1) aA);have b0:=B9 (Asp (v:=B) (j:=(dig B).length - 2) aA);rw [t2] at n2;rw [t1] at n1;rw [t0] at n0;rw [u1] at b1;rw [u0] at b0;have js:i+(dig B).length<m:=uf;have a24:i+(dig B).length - 1<m:=aA
 have a25:i+(dig B).length - 2<m:=aA
 have wn:Ce.wrap ((i:Int)+((dig B).length:Int))=((i+(dig B).length:Nat):Int):=aP
 have wn1:Ce.wrap (((i+(dig B).length:Nat):Int) - 1)=((i+(dig B).length - 1:Nat):Int):=aP
 have wn2:Ce.wrap (((i+(dig B).length:Nat):Int) - 2)=((i+(dig B).length - 2:Nat):Int):=aP
 have wb1:Ce.wrap (((dig B).length:Int) - 1)=(((dig B).length - 1:Nat):Int):=aP
 have wb2:Ce.wrap (((dig B).length:Int) - 2)=(((dig B).length - 2:Nat):Int):=aP
 have g1:Ce.wrap (((T / 100000000 % 10000:Nat):Int)*10000)=((T / 100000000 % 10000:Nat):Int)*10000:=Aa aD;have g2:Ce.wrap (((T / 100000000 % 10000:Nat):Int)*10000+((T / 10000 % 10000:Nat):Int))=((T / 100000000 % 10000:Nat):Int)*10000+((T / 10000 % 10000:Nat):Int):=Aa aD;have g3:Ce.wrap ((((T / 100000000 % 10000:Nat):Int)*10000+((T / 10000 % 10000:Nat):Int))*10000)=(((T / 100000000 % 10000:Nat):Int)*10000+((T / 10000 % 10000:Nat):Int))*10000:=Aa aD;have g4:Ce.wrap ((((T / 100000000 % 10000:Nat):Int)*10000+((T / 10000 % 10000:Nat):Int))*10000+((T % 10000:Nat):Int))=(T:Int):=aP
 have g5:Ce.wrap (((U / 10000 % 10000:Nat):Int)*10000)=((U / 10000 % 10000:Nat):Int)*10000:=Aa aD;have g6:Ce.wrap (((U / 10000 % 10000:Nat):Int)*10000+((U % 10000:Nat):Int))=(U:Int):=aP
 have hz:¬ ((U:Int)=0):=aA
 have hTU:T / U<=T:=Ob _ _;obtain ⟨G,hG⟩:∃ G:Nat,G=T / U:=⟨_,rfl⟩;have a26:(0:Int)<=((v / 10000 ^ i / B:Nat):Int):=O0 _;have g7:Ce.wrap ((T:Int).tdiv U)=(G:Int):=by
  rw [C8 (O0 _),<- Int.natCast_ediv,<- hG];rw [<- hG] at hTU;exact Aa aD
 rw [<- hG] at hg;obtain ⟨q,hq⟩:∃ q:Int,(if (9999:Int)<(G:Int) then (9999:Int) else (G:Int))=q:=⟨_,rfl⟩;have hq0:((v / 10000 ^ i / B:Nat):Int)<=q/\q<=9999:=by
  have hg':((v / 10000 ^ i / B:Nat):Int)<=(G:Int):=Int.ofNat_le.2 hg;have hq9':((v / 10000 ^ i / B:Nat):Int)<=9999:=Int.ofNat_le.2 hq9;rw [<- hq]; generalize ((v / 10000 ^ i / B:Nat):Int)=t at *;split <;> omega
 have ca:0<=q:=Int.le_trans a26 hq0.1;have ag:=Off.start (q:=q) hv hR;refine opS func129 ntmps129 ?_;simp (maxSteps:=10^6)+contextual(disch:=try exact dqd)only[ev0,simprocAttr,Cc,Ca,Cd,results129,digA,n2,n1,n0,b1,b0,js,a24,a25,wn,wn1,wn2,wb1,wb2,g1,g2,g3,g4,g5,g6,g7,hz,hq,Fa];clear hq g1 g2 g3 g4 g5 g6 g7 n2 n1 n0 b1 b0 wn1 wn2 wb1 wb2 t2 t1 t0 u1 u0 hg;refine Pj (P:=prog) (fun x st=>st.T.length=151/\(x.1<=(dig B).length)/\(Off B m i x.1 q x.2.1 (v - 10000 ^ i*(q*B)) x.2.2)/\getT st.T 0=.sref 0 0 0 m 1/\getT st.T 1=digA (dig B)/\getT st.T 2=.int (i:Nat)/\getT st.T 7=.int (dig B).length/\getT st.T 9=.int q/\getT st.T 10=.int x.2.1/\getT st.T 59=digA (dig B)/\getT st.T 60=.int (dig B).length/\getT st.T 61=.int (x.1:Nat)/\st.S=[⟨0,x.2.2.map numC⟩,⟨1,out.map numC⟩]/\st.tk=tk/\st.n=k) (fun x=>(dig B).length - x.1) (fun x=>(.int ((v / 10000 ^ i / B:Nat):Int),[⟨0,(padD (v - 10000 ^ i*(v / 10000 ^ i / B*B)) m).map numC⟩,⟨1,out.map numC⟩],tk,k)) (0,0,padD v m) ?_ ?_;case refine_2=>exact ⟨rfl,Cl _,ag,rfl,rfl,rfl,rfl,rfl,rfl,rfl,rfl,rfl,rfl,rfl,rfl⟩
 rintro ⟨kk,c,o⟩ ⟨T,S',tk',n'⟩ ⟨hl,hk,hp,e0,e1,e2,e7,e9,e10,e59,e60,e61,eS,eT,eN⟩ IH;simp only at hk hp e0 e1 e2 e7 e9 e10 e59 e60 e61 eS eT eN;subst eS eT eN;obtain ⟨g,hg,hT⟩:=Ao hl;rw [hg] at e0 e1 e2 e7 e9 e10 e59 e60 e61;subst hT;clear hg hl;have hlen:=hp.len;have hc:=hp.c0;by_cases hlt:kk<(dig B).length
 ·have d2:decide ((kk:Int)<((dig B).length:Int))=true:=aH
  obtain ⟨d,hd⟩:=Ab hlt;have dm:=B9 hd;have ko:=B5 (Bd B) hd;have bz:=Ar (i:=kk) aA;have ug:Ce.wrap ((i:Int)+(kk:Int))=((i+kk:Nat):Int):=aP
  have bc:i+kk<m:=aA
  obtain ⟨x,hx⟩:=Ab (show i+kk<o.length by omega);have hx':=D0 hx;have hxk:=B5 hp.ok hx;obtain ⟨y,hy⟩:∃ y,y=x - q*d - c:=⟨_,rfl⟩;obtain ⟨y0,y1,hneg,hpos⟩:=hp.step ⟨ca,hq0.2⟩ hx hd hy;have p0:0<=q*d:=Oi ca ko.1;have p1:q*d<=9999*9999:=Int.mul_le_mul hq0.2 aA ko.1 aA;have f1:Ce.wrap (q*d)=q*d:=Aa aD;have f2:Ce.wrap (x - q*d)=x - q*d:=Aa aD;have f3:Ce.wrap (x - q*d - c)=y:=by rw [hy,Aa aD]
  by_cases hn:y<0
  ·have d3:decide (y<0)=true:=bZ
   obtain ⟨r1,r2,r3,r4,ny⟩:=hneg hn;have f4:Ce.wrap (0 - y)=0 - y:=Aa aD;have f5:Ce.wrap (0 - y+10000)=0 - y+10000:=Aa aD;have f6:Ce.wrap (0 - y+10000 - 1)=0 - y+10000 - 1:=Aa aD;have hz2:¬ ((10000:Int)=0):=aA
   obtain ⟨c',bp⟩:∃ c',c'=(0 - y+10000 - 1).tdiv 10000:=⟨_,rfl⟩;rw [<- bp] at r1 r2 r3 r4 ny;have f7:Ce.wrap ((0 - y+10000 - 1).tdiv 10000)=c':=by rw [<- bp,Aa aD]
   have f8:Ce.wrap (c'*10000)=c'*10000:=Aa aD;have f9:Ce.wrap (y+c'*10000)=y+c'*10000:=Aa aD;have cq:=Dj (v:=y+c'*10000) hx;simp (maxSteps:=10^6)+contextual(disch:=try exact dqd)only[ev0,simprocAttr,Cc,Ca,Cd,results129,digA,e0,e1,e2,e7,e9,e10,e59,e60,e61,d2,d3,dm,bz,ug,hx',bc,f1,f2,f3,f4,f5,f6,f7,f8,f9,hz2,cq,Fa];exact IH (kk+1,c',o.set (i+kk) (y+c'*10000)) _ aF ⟨rfl,aE,ny,cZ⟩
  ·have d3:decide (y<0)=false:=bZ
   have cq:=Dj (v:=y) hx;simp (maxSteps:=10^6)+contextual(disch:=try exact dqd)only[ev0,simprocAttr,Cc,Ca,Cd,results129,digA,e0,e1,e2,e7,e9,e10,e59,e60,e61,d2,d3,dm,bz,ug,hx',bc,f1,f2,f3,cq,Fa];exact IH (kk+1,0,o.set (i+kk) y) _ aF ⟨rfl,aE,hpos hn,cZ⟩
 have d2:decide ((kk:Int)<((dig B).length:Int))=false:=aH
 have hke:kk=(dig B).length:=aA
 subst hke;obtain ⟨x,hx⟩:=Ab (show i+(dig B).length<o.length by omega);have hx':=D0 hx;have hxk:=B5 hp.ok hx;have a27:=hp.done hx hq0;have f1:Ce.wrap (x - c)=x - c:=Aa aD;have cq:=Dj (v:=x - c) hx;clear hlen IH ag;simp (maxSteps:=10^6)+contextual(disch:=try exact dqd)only[ev0,simprocAttr,Cc,Ca,Cd,results129,digA,e0,e1,e2,e7,e9,e10,e59,e60,e61,d2,wn,hx',js,f1,cq,Fa];clear f1 hx' cq hxk hp hlt d2 e0 e1 e2 e7 e9 e10 e59 e60 e61;refine Pj (P:=prog) (fun x st=>st.T.length=151/\(Mid v B m i x.1 x.2)/\getT st.T 0=.sref 0 0 0 m 1/\getT st.T 1=digA (dig B)/\getT st.T 2=.int (i:Nat)/\getT st.T 7=.int (dig B).length/\getT st.T 9=.int x.1/\st.S=[⟨0,x.2.map numC⟩,⟨1,out.map numC⟩]/\st.tk=tk'/\st.n=n') (fun x=>x.1.toNat) (fun x=>(.int ((v / 10000 ^ i / B:Nat):Int),[⟨0,(padD (v - 10000 ^ i*(v / 10000 ^ i / B*B)) m).map numC⟩,⟨1,out.map numC⟩],tk',n')) (q,o.set (i+(dig B).length) (x - c)) ?_ ?_;case refine_2=>exact ⟨rfl,a27,rfl,rfl,rfl,rfl,rfl,rfl,rfl,rfl⟩
 rintro ⟨q2,o2⟩ ⟨T,S',tk',n'⟩ ⟨hl,hp,e0,e1,e2,e7,e9,eS,eT,eN⟩ IH;simp only at hp e0 e1 e2 e7 e9 eS eT eN;subst eS eT eN;obtain ⟨g,hg,hT⟩:=Ao hl;rw [hg] at e0 e1 e2 e7 e9;subst hT;clear hg hl;have OUT:=IH;clear IH;have hlen:=hp.len;have hq2:=hp.q0;obtain ⟨z,hz⟩:=Ab (show i+(dig B).length<o2.length by omega);have ev:=D0 hz;have hzk:=hp.top z hz;by_cases hn:z<0;case neg =>
  have d3:decide (z<0)=false:=bZ
  obtain ⟨r1,r2⟩:=hp.done hB0 hz hn
  simp (maxSteps:=10^6)+contextual(disch:=try exact dqd)only[ev0,simprocAttr,Cc,Ca,Cd,results129,digA,e0,e1,e2,e7,e9,d3,wn,ev,js,Fa]
  rw [r1,r2]
 have d3:decide (z<0)=true:=bZ
 have hq3:=hp.neg hB0 hz hn;have f1:Ce.wrap (q2 - 1)=q2 - 1:=Aa aD;have oq:=hp.back hB0 hz hn;simp (maxSteps:=10^6)+contextual(disch:=try exact dqd)only[ev0,simprocAttr,Cc,Ca,Cd,results129,digA,e0,e1,e2,e7,e9,d3,wn,ev,js,f1,Fa];clear e0 e1 e2 e7 e9 d3 ev f1 hlen hp;refine Pj (P:=prog) (fun x st=>st.T.length=151/\(x.1<=(dig B).length)/\(Back v B m i x.1 (q2 - 1) x.2.1 x.2.2)/\getT st.T 0=.sref 0 0 0 m 1/\getT st.T 1=digA (dig B)/\getT st.T 2=.int (i:Nat)/\getT st.T 7=.int (dig B).length/\getT st.T 9=.int (q2 - 1)/\getT st.T 14=.int x.2.1/\getT st.T 114=digA (dig B)/\getT st.T 115=.int (dig B).length/\getT st.T 116=.int (x.1:Nat)/\st.S=[⟨0,x.2.2.map numC⟩,⟨1,out.map numC⟩]/\st.tk=tk'/\st.n=n') (fun x=>(dig B).length - x.1) (fun x=>(.int ((v / 10000 ^ i / B:Nat):Int),[⟨0,(padD (v - 10000 ^ i*(v / 10000 ^ i / B*B)) m).map numC⟩,⟨1,out.map numC⟩],tk',n')) (0,0,o2) ?_ ?_;case refine_2=>exact ⟨rfl,Cl _,oq,rfl,rfl,rfl,rfl,rfl,rfl,rfl,rfl,rfl,rfl,rfl,rfl⟩
 rintro ⟨kk,c,o3⟩ ⟨T,S',tk',n'⟩ ⟨hl,hk,hp,e0,e1,e2,e7,e9,e14,e114,e115,e116,eS,eT,eN⟩ IH;simp only at hk hp e0 e1 e2 e7 e9 e14 e114 e115 e116 eS eT eN;subst eS eT eN;obtain ⟨g,hg,hT⟩:=Ao hl;rw [hg] at e0 e1 e2 e7 e9 e14 e114 e115 e116;subst hT;clear hg hl;have hlen:=hp.len;have hc:=hp.c0;by_cases hlt:kk<(dig B).length
 ·have d2:decide ((kk:Int)<((dig B).length:Int))=true:=aH
  obtain ⟨d,hd⟩:=Ab hlt;have dm:=B9 hd;have ko:=B5 (Bd B) hd;have bz:=Ar (i:=kk) aA;have ug:Ce.wrap ((i:Int)+(kk:Int))=((i+kk:Nat):Int):=aP
  have bc:i+kk<m:=aA
  obtain ⟨x,hx⟩:=Ab (show i+kk<o3.length by omega);have hx':=D0 hx;obtain ⟨y,hy⟩:∃ y,y=x+d+c:=⟨_,rfl⟩;obtain ⟨ny,y0,y1,x0,x1⟩:=hp.step hx hd hy;have f2:Ce.wrap (x+d)=x+d:=Aa aD;have f3:Ce.wrap (x+d+c)=y:=by rw [hy,Aa aD]
  have hz2:¬ ((10000:Int)=0):=aA
  have ey:y.tdiv 10000=y / 10000:=C8 y0;have f7:Ce.wrap (y.tdiv 10000)=y.tdiv 10000:=by rw [ey,Aa aD]
  have cq:=Dj (v:=y.tmod 10000) hx;simp (maxSteps:=10^6)+contextual(disch:=try exact dqd)only[ev0,simprocAttr,Cc,Ca,Cd,results129,digA,e0,e1,e2,e7,e9,e14,e114,e115,e116,d2,dm,bz,ug,hx',bc,f2,f3,f7,hz2,cq,Fa];exact IH (kk+1,y.tdiv 10000,o3.set (i+kk) (y.tmod 10000)) _ aF ⟨rfl,aE,ny,cZ⟩
 have d2:decide ((kk:Int)<((dig B).length:Int))=false:=aH
 have hke:kk=(dig B).length:=aA
 subst hke;obtain ⟨x,hx⟩:=Ab (show i+(dig B).length<o3.length by omega);have hx':=D0 hx;have hxk:=hp.top x hx;have a16:=hp.done hx;have f1:Ce.wrap (x+c)=x+c:=Aa aD;have cq:=Dj (v:=x+c) hx;simp (maxSteps:=10^6)+contextual(disch:=try exact dqd)only[ev0,simprocAttr,Cc,Ca,Cd,results129,digA,e0,e1,e2,e7,e9,e14,e114,e115,e116,d2,wn,hx',js,f1,cq,Fa];exact OUT (q2 - 1,o3.set (i+(dig B).length) (x+c)) _ aF ⟨rfl,a16,cZ⟩
end
end Go.Proofs.YthelkgdmgihhiaaGreat
namespace Go.Proofs.YthelkgdmgihhiaaGreat
open Go Tryz
set_option maxHeartbeats 1000000
set_option maxRecDepth 100000
structure Quo (A B L j v:Nat) (out:List Int):Prop where
 len:out.length=L
 ok:okD out
 lt:v<B*10000 ^ j
 le:v<=A
 eqv:(A:Int)=v+10000 ^ j*(val (out.drop j)*B)
theorem Axh {B:Nat} (hB:0<B):10000 ^ ((dig B).length - 1)<=B:=by
 have h0:(dig B).length≠0:=fun h=>by
  exact Ya2n
 rcases Ie B (10000 ^ ((dig B).length - 1)) with h|h
 ·have:=(A9 (n:=B) (k:=(dig B).length - 1)).2 h; omega
 ·exact h
theorem Quo.start {A B:Nat} (hB:0<B) (hAB:B<=A):Quo A B ((dig A).length - (dig B).length+1) ((dig A).length - (dig B).length+1) A (Cg ((dig A).length - (dig B).length+1) 0):=by
 refine ⟨by simp,Acg _,?_,Cf _,?_⟩
 ·have h1:=(A9 (n:=A) (k:=(dig A).length)).1 (Cf _);have h2:=Axh hB;have h0:(dig B).length≠0:=fun h=>by
   exact Ya2n
  have h3:=Hk hAB;have h4:=E5 (10000 ^ ((dig A).length - (dig B).length+1)) h2;rw [<- Nat.pow_add] at h4;have e:(dig B).length - 1+((dig A).length - (dig B).length+1)=(dig A).length:=aA
  rw [e] at h4;omega
 ·rw [Fx (by simp)]; simp [val]
theorem Quo.top {A B L j v:Nat} {out:List Int} (h:Quo A B L j v out) (hj:j≠0):v / 10000 ^ (j - 1)<10000*B:=by
 rw [Ik (Ss aK)];have:=h.lt;have e:j=(j - 1)+1:=aA
 rw [e,Lq] at this;rw [Ip 10000 B,Nat.mul_assoc,Ip 10000]; exact this
theorem Quo.step {A B L j v:Nat} {out:List Int} (h:Quo A B L j v out) (hB:0<B) (hj:j≠0) (jn:j<=L) :
  Quo A B L (j - 1) (v - 10000 ^ (j - 1)*(v / 10000 ^ (j - 1) / B*B)) (out.set (j - 1) ((v / 10000 ^ (j - 1) / B:Nat):Int)):=by
 have ht:=h.top hj;have hq:v / 10000 ^ (j - 1) / B<10000:=by rw [Ik hB]; omega
 have kg:v / 10000 ^ (j - 1) / B*B<=v / 10000 ^ (j - 1):=Nat.div_mul_le_self _ _;have rh:10000 ^ (j - 1)*(v / 10000 ^ (j - 1) / B*B)<=v:=Fe (Og _ kg) (Nat.mul_div_le _ _);have a28:=Ov (v / 10000 ^ (j - 1)) hB;have hdm:=Ow (v / 10000 ^ (j - 1)) B;have hdv:=Ow v (10000 ^ (j - 1));have q9:=Ov v (Ss (n:=j - 1) (show 0<10000 by decide));have hj1:j - 1+1=j:=aA
 refine ⟨bM,Nk h.ok (O0 _) (Int.ofNat_lt.2 hq),?_,by have:=h.le; omega,?_⟩
 ·generalize 10000 ^ (j - 1)=P at *;generalize v / P / B=q at *;generalize v % P=l at *;generalize v / P % B=r at *;generalize v / P=R at *;have e1:P*R=P*(B*q)+P*r:=by rw [<- hdm,Nat.mul_add]
  have e2:P*(q*B)=P*(B*q):=by rw [Ip q B]
  have e3:P*r+P<=B*P:=by
   rw [<- Nat.mul_succ,Ip]; exact E5 _ a28
  omega
 ·have hv:=h.eqv;have hlt:j - 1<out.length:=fC
  rw [N6 hlt,val,hj1,Int.ofNat_sub rh,hv];have hp:(10000:Int) ^ j=10000 ^ (j - 1)*10000:=by
   have:=Lz (10000:Int) (j - 1);rwa [Nat.succ_eq_add_one,hj1] at this
  rw [hp,O9,O9,Ze,Int.add_mul,Ir];generalize (10000:Int) ^ (j - 1)=P;generalize ((v / 10000 ^ (j - 1) / B:Nat):Int)*(B:Int)=t;rw [Ia P 10000,Ia 10000 _ (B:Int)];omega
theorem Quo.done {A B L v:Nat} {out:List Int} (h:Quo A B L 0 v out):Df out=dig (A / B)/\v=A % B:=by
 have hv:=h.eqv;have hl:=h.lt;rw [Fi,Int.pow_zero,Int.one_mul] at hv;rw [Nat.pow_zero,Fa] at hl;obtain ⟨e1,e2⟩:=Alm (Q:=val out) (R:=(v:Int)) (by rw [hv,Int.add_comm]) (O0 _) (Int.ofNat_lt.2 hl);rw [Dw h.ok,e1];exact ⟨by congr 1,Int.ofNat.inj e2⟩
theorem Ac5 {v m:Nat} : Df (padD v m)=dig v:=by
 rw [Dw (R3 v m),R7]; congr 1
theorem Ah7 {B:Nat} (h:(dig B).length=1):0<B/\B<10000/\dig B=[(B:Int)]:=by
 have h0:B≠0:=fun e=>by subst e; simp [Bp] at h
 have h1:=(A9 (n:=B) (k:=1)).1 aA;rw [Nat.pow_one] at h1;have:=T3 (d:=(B:Int)) aA aA;exact ⟨aA,h1,by simpa using this⟩
section
variable (S:List Ent) (tk:List Nat) (k:Nat)
theorem Ws (A B:Nat) (ha:(dig A).length<=100000) (a29:(dig B).length<=100000) (hB:0<B):cL prog 88 [digA (dig A),digA (dig B)] S tk k=some (.tup [digA (dig (A / B)),digA (dig (A % B))],S,tk,k):=by
 refine opP func88 ntmps88 (hp3:=rfl) ?_;have hb0:(dig B).length≠0:=fun h=>by
  exact Ya2n
 have wc:(dig B).length<=100000->∀ S tk k,cL prog 127 [digA (dig A),digA (dig B)] S tk k=some (.int (cmpN A B),S,tk,k):=fun h S tk k=>Ki S tk k A B aA aA;have hC:=wc a29;clear wc;simp only [digA] at hC;by_cases hAB:A<B
 ·have d1:decide (cmpN A B<0)=true:=by
   unfold cmpN; rw [if_pos hAB]; rfl
  simp (maxSteps:=10^6)+contextual(disch:=try exact dqd)only[ev0,simprocAttr,Cc,Ca,Cd,results88,digA,hC,d1];rw [iX hAB,Om hAB,Bp];exact Ya32
 have d1:decide (cmpN A B<0)=false:=by
  unfold cmpN; rw [if_neg hAB]; split <;> rfl
 by_cases h1:(dig B).length=1
 ·obtain ⟨g0,g1,g2⟩:=Ah7 h1;have hS S tk k:=Aks S tk k A B ha g0 g1;simp only [digA] at hS;have d2:(((dig B).length:Int) == 1)=true:=by rw [h1]; rfl
  have hx':nth ((dig B).map digC) 0=some [.prim (.int .i64 (B:Int))]:=by rw [g2]; rfl
  simp (maxSteps:=10^6)+contextual(disch:=try exact dqd)only[ev0,simprocAttr,Cc,Ca,Cd,results88,digA,hC,d1,d2,hx',hS]
 have d2:(((dig B).length:Int) == 1)=false:=aC
 have hlab:=Hk (a:=A) (b:=B) aA;have ag:=Quo.start hB (show B<=A by omega);obtain ⟨L,hL⟩:∃ L,L=(dig A).length - (dig B).length+1:=⟨_,rfl⟩;rw [<- hL] at ag;have f1:Ce.wrap (((dig A).length:Int)+1)=(((dig A).length+1:Nat):Int):=Ar aA;have f2:Ce.wrap (((dig A).length:Int) - ((dig B).length:Int))=((L - 1:Nat):Int):=aP
 have f3:Ce.wrap (((L - 1:Nat):Int)+1)=((L:Nat):Int):=aP
 have f4:=Hu (n:=L) aA;have na:(Ay prog 58).bind (Ep prog)=some 8:=aJ
 have ft:=Q5 (P:=prog) (t:=58) (n:=(dig A).length+1) aQ aQ na aA;have a3a:=Q5 (P:=prog) (t:=58) (n:=L) aQ aQ na aA;have tu:=Afq (P:=prog) (t:=58) (n:=(dig A).length+1) (id:=0) (ep:=0) (l:=dig A) (c:=.unk) (S:=[⟨0,Adb ((dig A).length+1)⟩]) aQ aA rfl;simp (maxSteps:=10^6)+contextual(disch:=try exact dqd)only[ev0,simprocAttr,Cc,Ca,Cd,results88,digA,hC,d1,d2,f1,f2,f3,f4,ft,a3a,tu];refine loop1 (P:=prog) (fun x st=>st.T.length=56/\(x.1<=L)/\(Quo A B L x.1 x.2.1 x.2.2)/\getT st.T 0=digA (dig A)/\getT st.T 1=digA (dig B)/\getT st.T 6=.sref 0 0 0 ((dig A).length+1) 1/\getT st.T 7=.sref 1 1 0 L 1/\getT st.T 8=.int ((x.1:Int) - 1)/\st.S=[⟨0,(padD x.2.1 ((dig A).length+1)).map numC⟩,⟨1,x.2.2.map numC⟩]) (fun x=>x.1) (fun x=>.tup [digA (dig (A / B)),digA (dig (A % B))]) (L,A,Cg L 0) ?_ ?_;case refine_2=>exact ⟨rfl,Cf _,by rw [hL] at ag ⊢; exact ag,rfl,rfl,rfl,rfl,rfl,rfl⟩
 rintro ⟨j,v,out⟩ ⟨T,S',tk',n'⟩ ⟨hl,hj,hp,e0,e1,e6,e7,e8,eS⟩ IH;simp only at hj hp e0 e1 e6 e7 e8 eS;subst eS;obtain ⟨g,hg,hT⟩:=Ao hl;rw [hg] at e0 e1 e6 e7 e8;subst hT;clear hg hl;have hlen:=hp.len;have vu:=Hk hp.le;by_cases h0:j=0
 ·have d3:decide ((j:Int) - 1 >= 0)=false:=aC
  subst h0;obtain ⟨q1,q2⟩:=hp.done;subst q2;have hT tk k:=Ev [⟨0,(padD (A % B) ((dig A).length+1)).map numC⟩,⟨1,out.map numC⟩] tk k out 1 1 aA rfl;rw [hlen] at hT;have dv:=Mj (v:=A % B) (m:=(dig A).length+1) aA;have au tk k:=Ev [⟨0,(padD (A % B) ((dig A).length+1)).map numC⟩,⟨1,out.map numC⟩] tk k (padD (A % B) ((dig A).length+1)) 0 0 aA rfl;rw [dv] at au;have jd:=Uk (m:=0) (id:=1) (ep:=1) (S:=[⟨0,(padD (A % B) ((dig A).length+1)).map numC⟩,⟨1,out.map numC⟩]) (Cl _) rfl (Ha out);have a17:=Uk (m:=0) (id:=0) (ep:=0) (S:=[⟨0,(padD (A % B) ((dig A).length+1)).map numC⟩,⟨1,out.map numC⟩]) (Cf _) rfl (Ha (padD (A % B) ((dig A).length+1)));rw [<- Dh,q1] at jd;rw [<- Dh,Ac5] at a17;rw [q1] at hT;rw [Ac5] at au;simp (maxSteps:=10^6)+contextual(disch:=try exact dqd)only[ev0,simprocAttr,Cc,Ca,Cd,results88,digA,e0,e1,e6,e7,e8,d3,hT,au,jd,a17]
 ·have d3:decide ((j:Int) - 1 >= 0)=true:=aC
  have hi:(j:Int) - 1=((j - 1:Nat):Int):=aA
  have hDg tk k:=Akr tk k v B ((dig A).length+1) (j - 1) out aA aA aA aA (hp.top h0);have a3b:=hp.step hB h0 hj;generalize v / 10000 ^ (j - 1) / B=q at *;generalize v - 10000 ^ (j - 1)*(q*B)=v2 at *;obtain ⟨o,ho⟩:=Ab (show j - 1<out.length by omega);have cq:=Dj (v:=(q:Int)) ho;have bc:j - 1<L:=aA
  have hpw:=Hu (n:=j - 1) aA;simp only [digA] at hDg;rw [hi] at e8 d3;simp (maxSteps:=10^6)+contextual(disch:=try exact dqd)only[ev0,simprocAttr,Cc,Ca,Cd,results88,digA,e0,e1,e6,e7,e8,d3,hDg,cq,bc,hpw,Fa];exact IH (j - 1,v2,out.set (j - 1) (q:Int)) _ aF ⟨rfl,aE,a3b,aB,aB,aB,aB,aB,aB⟩
end
end Go.Proofs.YthelkgdmgihhiaaGreat
namespace Go.Proofs.YthelkgdmgihhiaaGreat
open Go Tryz
set_option maxRecDepth 100000
theorem Aw7 (p q:Bool) (X Y:Nat) (hY:0<Y):(sg p X).fdiv (sg q Y)=sg (p != q) (if (p != q && !decide (X % Y=0))=true then X / Y+1 else X / Y)/\(sg p X).fmod (sg q Y)=sg q (if (p != q && !decide (X % Y=0))=true then Y - X % Y else X % Y):=by
 have h1:=Ow X Y;have h2:=Ov X hY;have v7:(Y:Int)*((X / Y:Nat):Int)+((X % Y:Nat):Int)=X:=by rw [<- O9,<- Int.natCast_add,h1]
 generalize X / Y=Q at *;generalize X % Y=R at *;cases q with
 | false =>
  have hb:(0:Int)<sg false Y:=by simp [sg]; omega
  refine (Int.fdiv_fmod_unique hb).2 ?_;cases p with
  | false=>simp [sg]; omega
  | true =>
   by_cases hR:R=0
   ·subst hR; simp [sg,Int.mul_neg]; omega
   ·simp [sg,hR,Int.mul_neg,Ir]; omega
 | true =>
  have hb:sg true Y<0:=by simp [sg]; omega
  refine (Int.fdiv_fmod_unique' hb).2 ?_;cases p with
  | true=>simp [sg,O4]; omega
  | false =>
   by_cases hR:R=0
   ·subst hR; simp [sg,O4,Int.mul_neg]; omega
   ·simp [sg,hR,O4,Int.mul_neg,Ir]; omega
theorem Aqh {X Y:Nat} (hY:0<Y) (hX:(dig X).length<=200) (hYl:(dig Y).length<=200) (b:Bool):(dig (if (b && !decide (X % Y=0))=true then X / Y+1 else X / Y)).length<=200/\(dig (if (b && !decide (X % Y=0))=true then Y - X % Y else X % Y)).length<=200:=by
 have h1:=Ow X Y;have h2:=Ov X hY;have h3:X / Y<=X:=Ob _ _;constructor
 ·refine Fe (Hk ?_) hX;split
  ·rename_i hh;simp only [Ci,Gb,decide_eq_false_iff_not] at hh;by_cases hY1:Y=1
   ·subst hY1; omega
   ·have:2*(X / Y)<=Y*(X / Y):=E5 _ aA;omega
  ·exact h3
 ·refine Fe (Hk ?_) hYl;split <;> omega
theorem Agw {p:Bool} {n:Nat} (h:(dig n).length<=200):okZ (sg p n)=true:=by
 unfold okZ; rw [An4]; simp; omega
def divA (a b:Int):AV:=.tup [zA (if b=0 then 0 else a.fdiv b),zA (if b=0 then 0 else a.fmod b),.bool (!decide (b=0))]
theorem At8 (p q:Bool) (X Y:Nat) (hY:0<Y):divA (sg p X) (sg q Y)=.tup [zA (sg (p != q) (if (p != q && !decide (X % Y=0))=true then X / Y+1 else X / Y)),zA (sg q (if (p != q && !decide (X % Y=0))=true then Y - X % Y else X % Y)),.bool true]:=by
 obtain ⟨h1,h2⟩:=Aw7 p q X Y hY;have h0:sg q Y≠0:=by cases q <;> simp [sg] <;> omega
 unfold divA;rw [if_neg h0,if_neg h0,h1,h2];simp [h0]
section
variable (S:List Ent) (tk:List Nat) (k:Nat)
theorem Adq (p q:Bool) (l r:List Int) (hl:l.length<=1000000) (hr:r.length<=1000000):cL prog 49 [bigA p l,bigA q r] S tk k=some (divA (V p l) (V q r),S,tk,k):=by
 have p8 S tk k:=Ea S tk k p l .unk hl;have li S tk k:=Ea S tk k q r .unk hr;have ha:=M6 p l;have hb:=M6 q r;have e1:=V_sg p l;have e2:=V_sg q r;generalize V p l=x at *;generalize V q r=y at *;generalize hX:x.natAbs=X at *;generalize hY:y.natAbs=Y at *;subst e1 e2;simp only [digA] at p8 li;by_cases hY0:Y=0
 ·subst hY0;have d1:(((dig 0).length:Int) == 0)=true:=rfl;have hz:divA (sg p X) (sg q 0)=.tup [zA 0,zA 0,.bool false]:=by
   have:sg q 0=0:=by cases q <;> rfl
   rw [this]; rfl
  rw [hz];refine opP func49 ntmps49 (hp3:=rfl) ?_;simp (maxSteps:=10^6)+contextual(disch:=try exact dqd)only[ev0,simprocAttr,Cc,Ca,Cd,results49,bigA,digA,p8,li,d1];simp [Av0,bigA,digA]
 rw [At8 p q X Y aA];have d1:(((dig Y).length:Int) == 0)=false:=Ni fun h=>hY0 (Ey.1 h);have hV S tk k:=Ws S tk k X Y aA aA aA;have jp:=Hk (a:=Y) (b:=X % Y) (jU (Ov _ aA));have hql:=Hk (a:=X) (b:=X / Y) (Ob _ _);obtain ⟨k1,k2⟩:=Aqh (X:=X) (Y:=Y) aA ha hb (p != q);have d2:=Gy (X % Y);have d3:=Gy X;by_cases fw:(p != q && !decide (X % Y=0))=true
 ·rw [if_pos fw] at k1 k2;rw [if_pos fw,if_pos fw];simp only [Ci] at fw;obtain ⟨hpq,hR⟩:=fw;have xp:(p == q)=false:=cW
  have hX0:X≠0:=fun h=>by subst h; simp at hR
  rw [hR] at d2;have d3':decide (((dig X).length:Int) > 0)=true:=by rw [d3]; simp [hX0]
  have hP S tk k:=Afi S tk k (X / Y) 1 aA (by rw [show dig 1=[1] from rfl]; simp);have hM S tk k:=Tt S tk k Y (X % Y) aA (jU (Ov _ aA));have hP' S tk k:=(Wa (P:=prog) (f:=89) (S:=S) (tk:=tk) (n:=k) (args:=[digA (dig (X / Y)),.frz [[.prim (.int .i64 1)]] .tight]) (args':=[digA (dig (X / Y)),digA (dig 1)]) rfl rfl rfl).trans (hP S tk k);have d6 S tk k:=Gu S tk k (p != q) (X / Y+1) .unk;have cz c S tk k:=Gu S tk k q (Y - X % Y) c;have bo tk:=Ake (l:=dig (Y - X % Y)) aA tk;rw [sgnZ,Uh (Agw k1)] at d6;simp only [sgnZ,Uh (Agw k2)] at cz;rw [hpq] at d6 ⊢;generalize sg true (X / Y+1)=z1 at *;generalize sg q (Y - X % Y)=z2 at *;simp only [digA,zA,bigA] at hV hP' hM d6 cz bo;refine opP func49 ntmps49 (hp3:=rfl) ?_;simp (maxSteps:=10^6)+contextual(disch:=try exact dqd)only[ev0,simprocAttr,Cc,Ca,Cd,results49,bigA,digA,zA,p8,li,d1,hV,xp,d2,d3',hP',hM,d6,cz,bo]
 ·rw [if_neg fw] at k1 k2;rw [if_neg fw,if_neg fw];have d6 S tk k:=Gu S tk k (p != q) (X / Y) .unk;have cz c S tk k:=Gu S tk k q (X % Y) c;have bo tk:=Ake (l:=dig (X % Y)) aA tk;rw [sgnZ,Uh (Agw k1)] at d6;simp only [sgnZ,Uh (Agw k2)] at cz;generalize sg (p != q) (X / Y)=z1 at *;generalize sg q (X % Y)=z2 at *;simp only [digA,zA,bigA] at hV d6 cz bo;simp only [Ci,not_and,iZ] at fw;cases hpq:(p != q) with
  | false =>
   have xp:(p == q)=true:=cW
   rw [hpq] at d6;refine opP func49 ntmps49 (hp3:=rfl) ?_;simp (maxSteps:=10^6)+contextual(disch:=try exact dqd)only[ev0,simprocAttr,Cc,Ca,Cd,results49,bigA,digA,zA,p8,li,d1,hV,xp,d6,cz,bo]
  | true =>
   have d2':decide (((dig (X % Y)).length:Int) > 0)=false:=by rw [d2]; exact fw hpq
   have xp:(p == q)=false:=cW
   rw [hpq] at d6;refine opP func49 ntmps49 (hp3:=rfl) ?_;simp (maxSteps:=10^6)+contextual(disch:=try exact dqd)only[ev0,simprocAttr,Cc,Ca,Cd,results49,bigA,digA,zA,p8,li,d1,hV,xp,d2',d6,cz,bo]
theorem Aqu {x y G:Nat} (h:Nat.gcd x y=G) (h0:y≠0):Nat.gcd y (x % y)=G:=by
 rw [gL,<- Nat.gcd_rec,gL,h]
theorem Ayt (n:Nat):zA (n:Int)=bigA false (dig n):=by
 have:decide ((n:Int)<0)=false:=by simp
 simp [zA,this]
theorem Akp (p q:Bool) (l r:List Int) (hl:l.length<=1000000) (hr:r.length<=1000000):cL prog 48 [bigA p l,bigA q r] S tk k=some (zA ((V p l).gcd (V q r):Nat),S,tk,k):=by
 have p8 S tk k:=Ea S tk k p l .unk hl;have li S tk k:=Ea S tk k q r .unk hr;have ha:=M6 p l;have hb:=M6 q r;rw [Ayt,show (V p l).gcd (V q r)=Nat.gcd (V p l).natAbs (V q r).natAbs from rfl];generalize (V p l).natAbs=X at *;generalize (V q r).natAbs=Y at *;simp only [digA] at p8 li;refine opP func48 ntmps48 (hp3:=rfl) ?_;simp (maxSteps:=10^6)+contextual(disch:=try exact dqd)only[ev0,simprocAttr,Cc,Ca,Cd,results48,bigA,digA,p8,li];refine loop1 (P:=prog) (fun x st=>st.T.length=27/\((dig x.1).length<=200)/\((dig x.2).length<=200)/\(Nat.gcd x.1 x.2=Nat.gcd X Y)/\getT st.T 2=.ref 0 0 0/\getT st.T 3=.ref 1 1 0/\getT st.T 4=.ref 2 2 0/\getT st.T 5=digA (dig x.1)/\getT st.T 6=digA (dig x.2)/\st.S=[⟨0,[.bool p,digA l]⟩,⟨1,[.bool q,digA r]⟩,⟨2,[.bool false,.frz [] .nilc]⟩]) (fun x=>x.2) (fun x=>bigA false (dig (Nat.gcd X Y))) (X,Y) ?_ ?_;case refine_2=>exact ⟨rfl,ha,hb,rfl,rfl,rfl,rfl,rfl,rfl,rfl⟩
 rintro ⟨x,y⟩ ⟨T,S',tk',n'⟩ ⟨hl,hx,hy,hg,e2,e3,e4,e5,e6,eS⟩ IH;simp only at hx hy hg e2 e3 e4 e5 e6 eS;subst eS;obtain ⟨g,hg,hT⟩:=Ao hl;rw [hg] at e2 e3 e4 e5 e6;subst hT;clear hg hl;by_cases h0:y=0
 ·have d1:decide (((dig y).length:Int) > 0)=false:=by rw [Gy]; simp [h0]
  have bo tk:=Ake (l:=dig x) aA tk;have hgx:Nat.gcd X Y=x:=by rw [<- hg,h0,Oz]
  rw [hgx];simp (maxSteps:=10^6)+contextual(disch:=try exact dqd)only[ev0,simprocAttr,Cc,Ca,Cd,results48,bigA,digA,e2,e3,e4,e5,e6,d1,bo]
 ·have d1:decide (((dig y).length:Int) > 0)=true:=by rw [Gy]; simp [h0]
  have hV S tk k:=Ws S tk k x y aA aA aA;simp only [digA] at hV;have hyl:=Ov x (Nat.pos_of_ne_zero h0);simp (maxSteps:=10^6)+contextual(disch:=try exact dqd)only[ev0,simprocAttr,Cc,Ca,Cd,results48,bigA,digA,e2,e3,e4,e5,e6,d1,hV];exact IH (y,x % y) _ aF ⟨rfl,hy,Fe (Hk (jU hyl)) hy,Aqu hg h0,aB,aB,aB,aB,aB,aB⟩
end
end Go.Proofs.YthelkgdmgihhiaaGreat
namespace Go.Proofs.YthelkgdmgihhiaaGreat
open Go Tryz Go.RowKit
theorem Lie.other {w:World} {A A':Nat->Nat->Prop} {b:Nat} (h:∀ o,¬ A' b o):∀ {vs:List Value} {o:Nat},Lie w A b o vs->Lie w A' b o vs
 | [],_,_=>trivial
 | _ :: _,_,⟨h1,_,h3⟩=>⟨h1,h _,Lie.other h h3⟩
theorem B0.other {w:World} {A A':Nat->Nat->Prop} {b:Nat} (h:∀ o,¬ A' b o):∀ (l:List Int) (o:Nat),B0 w A b 1 o (l.map digC)->B0 w A' b 1 o (l.map digC)
 | [],_,_=>by simp only [Ct,B0]
 | x :: l,o,hr=>by
  simp only [Cn,B0] at hr ⊢;obtain ⟨h1,⟨vs,h2,h3⟩,h4⟩:=hr;refine ⟨h1,⟨vs,h2.other h,?_⟩,B0.other h l _ h4⟩;match vs,h3 with
  | [v],h3 =>
   simp only [digC,PRs,PR,and_true] at h3 ⊢;exact h3
theorem Awb {C:Cx} (hs:SR C) {l:List Int} {c:Cap} {v:Value} (h:VR C (.frz (l.map digC) c) v):RD C.w v l:=by
 simp only [VR] at h;obtain ⟨a,len,cap,rfl,h1,h2,-,h4⟩:=h;simp only [RD,digA,VR];refine ⟨a,len,cap,rfl,h1,h2,trivial,h4.imp id ?_⟩;rintro ⟨b,o,sz,ea,hr⟩;exact ⟨b,o,sz,ea,B0.stays (A:=C.Avoid) (fun b' o' v hv ha=>⟨hv,Xy⟩) b sz o _ hr⟩
theorem Aab {C:Cx} (hs:SR C) {w':World} {v:Value} {l:List Int} (h:RD w' v l) (hn:NewB C.w.heap.size v):VR (C.at w') (digA l) v:=by
 obtain ⟨a,cap,rfl,h2,hc⟩:=L1 h;by_cases hl:l=[]
 ·subst hl;simp only [digA,Ct,VR];exact ⟨a,0,cap,rfl,rfl,Cl _,trivial,.inl trivial⟩
 ·simp only [RD,digA,VR] at h ⊢;obtain ⟨a',len,cap',e,h1,h3,-,h4⟩:=h;refine ⟨a',len,cap',e,h1,h3,trivial,.inr ?_⟩;rcases h4 with h4|⟨b,o,sz,ea,hr⟩
  ·exact absurd (by simpa using h4) hl
  ·have hsz:sz=1:=by
    cases l with
    | nil=>exact absurd rfl hl
    | cons y l=>simp only [Cn,B0,digC] at hr; exact hr.1.symm
   subst hsz;subst ea;have hb:=hn b o _ _ e;exact ⟨b,o,1,rfl,B0.other (fun o' ha=>by
    rcases ha with ha|ha
    ·have:=hs.avlt b o' ha; omega
    ·have:=Am6 hs (show C.Mut b o' from ha); omega) l o hr⟩
theorem Ate {C:Cx} {vs:Array Value} (hs:SR C) (l r:List Int) (c d:Cap) (hl:l=dig (val l).toNat) (hr:r=dig (val r).toNat) (ci:r≠[]) (h1:l.length<=90000) (h2:r.length<=90000) (hv:VRs C [.frz (l.map digC) c,.frz (r.map digC) d] vs.toList) :
  Calls prog 228 vs C.w fun e w'=>∃ v C',e=.returned v/\C'.w=w'/\Le C C'/\SR C'/\C'.S=C.S/\C'.tk=C.tk/\C'.n=C.n/\VR C' (.tup [digA (dig ((val l).toNat / (val r).toNat)),digA (dig ((val l).toNat % (val r).toNat))]) v:=by
 obtain ⟨vl⟩:=vs;match vl,hv with
 | [x,y],hv =>
 simp only [VRs,and_true] at hv;obtain ⟨hx,hy⟩:=hv;have hb0:0<(val r).toNat:=by
  rcases Vo (val r).toNat with h|h
  ·rw [h,Bp] at hr; exact absurd hr ci
  ·exact h
 have rr:0<C.w.heap.size:=by
  simp only [VR] at hy;obtain ⟨a,len,cap,rfl,h1,h2,-,h4⟩:=hy;rcases h4 with h4|⟨b,o,sz,rfl,hr⟩
  ·exact absurd (by simpa using h4) ci
  ·cases r with
   | nil=>exact absurd rfl ci
   | cons z r =>
    simp only [Cn,B0,digC] at hr;obtain ⟨-,⟨vs,ph,hp⟩,-⟩:=hr;match vs,hp with
    | [u],_=>exact Ij (Cl _) (Gv ph.1)
 refine (Aco C.w x y (val l).toNat (val r).toNat rr (by rw [<- hl]; exact Awb hs hx) (by rw [<- hr]; exact Awb hs hy) hb0 (by rw [<- hl]; exact h1) (by rw [<- hr]; exact h2)).mono ?_;rintro e w' ⟨v1,v2,rfl,g1,g2,hb,n1,n2⟩;refine ⟨_,C.at w',rfl,rfl,Le.of_below hb,SR.of_below hs hb,rfl,rfl,rfl,?_⟩;unfold VR;refine ⟨_,rfl,?_⟩;simp only [VRs,and_true];refine ⟨Aab hs g1 n1,?_⟩;rcases n2 with ⟨rfl,e2⟩|n2
 ·rw [e2,<- hl];have uu:=VR.mono (Le.of_below hb) _ _ hx;simp only [digA,VR] at uu ⊢;obtain ⟨a,len,cap,q1,q2,q3,-,q4⟩:=uu;exact ⟨a,len,cap,q1,q2,q3,trivial,q4⟩
 ·exact Aab hs g2 n2
theorem Ng:∀ {es:List (List AV)} {l:List Int},Q3 es=some l->es=l.map digC
 | [],l,h=>by simp only [Q3,A3] at h; subst h; rfl
 | e :: es,l,h=>by
  unfold Q3 at h;split at h
  ·rename_i he; simp at he
  ·rename_i x r he;simp only [gY] at he;obtain ⟨rfl,rfl⟩:=he;simp only [Cb] at h;obtain ⟨l',h1,rfl⟩:=h;rw [Ng h1]; rfl
  ·simp at h
theorem Arl {l r:List Int} {v:AV} (h:quoF l r=some v):l=dig (val l).toNat/\r=dig (val r).toNat/\r≠[]/\l.length<=90000/\r.length<=90000/\v=.tup [digA (dig ((val l).toNat / (val r).toNat)),digA (dig ((val l).toNat % (val r).toNat))]:=by
 unfold quoF at h;split at h
 ·rename_i hh;simp only [A3] at h;exact ⟨hh.1,hh.2.1,hh.2.2.1,hh.2.2.2.1,hh.2.2.2.2,h.symm⟩
 ·simp at h
theorem Ag4 {args:List AV} {S:List Ent} {tk:List Nat} {n:Nat} {r:AV} {S':List Ent} {tk':List Nat} {n':Nat} (h:quoC args S tk n=some (r,S',tk',n')):∃ l y c d,args=[.frz (l.map digC) c,.frz (y.map digC) d]/\quoF l y=some r/\S'=S/\tk'=tk/\n'=n:=by
 unfold quoC at h;split at h
 ·rename_i es c ys d;split at h
  ·rename_i l y hl hy;split at h
   ·rename_i v hv;simp only [A3,Ch] at h;obtain ⟨rfl,rfl,rfl,rfl⟩:=h;exact ⟨l,y,c,d,by rw [Ng hl,Ng hy],hv,rfl,rfl,rfl⟩
   ·simp at h
  ·simp at h
 ·simp at h
theorem Ahq {args:List AV} {S:List Ent} {tk:List Nat} {n:Nat} {r:AV} {S':List Ent} {tk':List Nat} {n':Nat} (h:uniC args S tk n=some (r,S',tk',n')):∃ l c,args=[.frz (l.map strC) c,.frz [] .nilc]/\l.length<=1000000/\(!l.isEmpty || Ut c)=true/\r=Bc (uniS l)/\S'=S/\tk'=tk/\n'=n:=by
 unfold uniC at h;split at h
 ·rename_i es c;split at h
  ·rename_i l hl;split at h
   ·rename_i hlen;simp only [Ci,decide_eq_true_eq] at hlen;simp only [A3,Ch] at h;obtain ⟨rfl,rfl,rfl,rfl⟩:=h;exact ⟨l,c,by rw [Vz hl],hlen.1,hlen.2,rfl,rfl,rfl,rfl⟩
   ·simp at h
  ·simp at h
 ·simp at h
theorem Ax5 {l y:List Int} {c d:Cap} {r:AV} (hq:quoF l y=some r) (S:List Ent) (tk:List Nat) (n:Nat):quoC [.frz (l.map digC) c,.frz (y.map digC) d] S tk n=some (r,S,tk,n):=by simp [quoC,Qg,hq]
theorem Ata {l:List ByteArray} {c:Cap} (hlen:l.length<=1000000) (hc:(!l.isEmpty || Ut c)=true) (S:List Ent) (tk:List Nat) (n:Nat):uniC [.frz (l.map strC) c,.frz [] .nilc] S tk n=some (Bc (uniS l),S,tk,n):=by
 simp only [uniC,Xt];rw [if_pos (by rw [hc]; simpa using hlen)]
theorem Abd {f:FuncId} {args:List AV} {S:List Ent} {tk:List Nat} {n:Nat} {r:AV} {S':List Ent} {tk':List Nat} {n':Nat} (h:@extC prog E1 f args S tk n=some (r,S',tk',n')) :
  (f=78/\uniC args S tk n=some (r,S',tk',n'))\/(f=228/\quoC args S tk n=some (r,S',tk',n')):=by
 unfold extC at h;split at h
 ·simp only [Ext.call] at h;split at h
  ·rename_i hf; exact .inl ⟨by simpa using hf,h⟩
  ·split at h
   ·rename_i hf; exact .inr ⟨by simpa using hf,h⟩
   ·simp at h
 ·simp at h
theorem Aqn (args:List AV) (S:List Ent) (tk:List Nat) (n:Nat):@extC prog E1 78 args S tk n=uniC args S tk n:=by
 simp [extC,Ext.on,Ext.call]
theorem Aqm (args:List AV) (S:List Ent) (tk:List Nat) (n:Nat):@extC prog E1 228 args S tk n=quoC args S tk n:=by
 simp [extC,Ext.on,Ext.call]
@[reducible] noncomputable instance E1i:Ext prog:=E1
instance ok1:Ahu prog:={
 ok:=fun f args S tk n r S' tk' n' h=>by
  rcases Abd h with ⟨rfl,hh⟩|⟨rfl,hh⟩
  ·obtain ⟨l,c,rfl,hlen,hc,rfl,rfl,rfl,rfl⟩:=Ahq hh;refine ⟨⟨_,func78,aR,aR⟩,fun C vs h1 h2 h3 hs hv=>?_⟩;subst h1 h2 h3;refine Aj0 hs l c hlen (fun e=>?_) hv;subst e;cases c <;> simp [Ut] at hc;rfl
  ·obtain ⟨l,y,c,d,rfl,hq,rfl,rfl,rfl⟩:=Ag4 hh;refine ⟨⟨_,func228,aR,aR⟩,fun C vs h1 h2 h3 hs hv=>?_⟩;subst h1 h2 h3;obtain ⟨q1,q2,q3,q4,q5,rfl⟩:=Arl hq;exact Ate hs l y c d q1 q2 q3 q4 q5 hv
 indep:=fun M f args S tk n r S' tk' n' h=>by
  unfold E9 at h;split at h
  ·rename_i hp;rcases Abd h with ⟨rfl,hh⟩|⟨rfl,hh⟩
   ·obtain ⟨l,c,rfl,hlen,hc,rfl,rfl,rfl,rfl⟩:=Ahq hh;refine ⟨rfl,rfl,.inr ⟨rfl,fun S2 tk2 n2=>?_⟩⟩;unfold E9;rw [if_pos hp,Aqn];exact Ata hlen hc S2 tk2 n2
   ·obtain ⟨l,y,c,d,rfl,hq,rfl,rfl,rfl⟩:=Ag4 hh;refine ⟨rfl,rfl,.inr ⟨rfl,fun S2 tk2 n2=>?_⟩⟩;unfold E9;rw [if_pos hp,Aqm];exact Ax5 hq S2 tk2 n2
  ·simp at h }
section
variable (S:List Ent) (tk:List Nat) (k:Nat)
theorem Aeh (l:List ByteArray) (c:Cap) (hlen:l.length<=1000000) (hc:(!l.isEmpty || Ut c)=true):cL prog 78 [.frz (l.map strC) c,.frz [] .nilc] S tk k=some (Bc (uniS l),S,tk,k):=by
 refine Yd rfl ?_;simp only [Ext.call,beq_self_eq_true,if_true];exact Ata hlen hc S tk k
theorem Lt (a b:Nat) (c d:Cap) (hb:0<b) (ha:(dig a).length<=90000) (hb2:(dig b).length<=90000):cL prog 228 [.frz ((dig a).map digC) c,.frz ((dig b).map digC) d] S tk k=some (.tup [digA (dig (a / b)),digA (dig (a % b))],S,tk,k):=by
 refine Yd rfl ?_;have e1:(val (dig a)).toNat=a:=by rw [B3]; rfl
 have e2:(val (dig b)).toNat=b:=by rw [B3]; rfl
 have hq:quoF (dig a) (dig b)=some (.tup [digA (dig (a / b)),digA (dig (a % b))]):=by
  unfold quoF;rw [e1,e2,if_pos ⟨rfl,rfl,fun h=>by have:=Ey.1 h; omega,ha,hb2⟩]
 simp [Ext.call,quoC,Qg,hq]
end
end Go.Proofs.YthelkgdmgihhiaaGreat
namespace Go.Proofs.YthelkgdmgihhiaaGreat
open Go Tryz
set_option maxRecDepth 100000
theorem N5 {a n:Nat} (h:(dig a).length<=n):a<10000 ^ n:=A9.1 h
theorem Aos {a k:Nat} : topV (dig a) k<=a:=by
 have h1:val ((dig a).take k)+10000 ^ ((dig a).take k).length*val ((dig a).drop k)=a:=by
  rw [<- Ge,I9,B3]
 have h2:=Eo (l:=(dig a).take k) fun d hd=>Bd a d (Su hd);have h3:=Eo (l:=(dig a).drop k) fun d hd=>Bd a d (jJ hd);have h4:val ((dig a).drop k)<=10000 ^ ((dig a).take k).length*val ((dig a).drop k):=by
  have hp:(1:Int)<=10000 ^ ((dig a).take k).length:=by
   have:=Jr ((dig a).take k).length; omega
  have:=Int.mul_le_mul_of_nonneg_right hp h3;omega
 unfold topV;omega
theorem Ar3 (A:List Int):topV A A.length=0:=Za3i
section
variable (S:List Ent) (tk:List Nat) (k:Nat)
theorem Qs (a:Nat) (ha:(dig a).length<=4):cL prog 232 [digA (dig a)] S tk k=some (.int (a:Nat),S,tk,k):=by
 have hsm:a<10000000000000000:=N5 ha;have d3:=Hu (n:=(dig a).length) aA;refine opP func232 ntmps232 ?_;simp (maxSteps:=10^6)+contextual(disch:=try exact dqd)only[ev0,simprocAttr,Cc,Ca,Cd,results232,digA,d3];refine loop1 (P:=prog) (fun x st=>st.T.length=20/\(x.1<=(dig a).length)/\(x.2=((topV (dig a) x.1:Nat):Int))/\getT st.T 0=digA (dig a)/\getT st.T 3=.int x.2/\getT st.T 4=.int ((x.1:Int) - 1)/\st.S=[]) (fun x=>x.1) (fun x=>.int (a:Nat)) ((dig a).length,(0:Int)) ?_ ?_;case refine_2=>exact ⟨rfl,Cf _,by rw [Ar3]; rfl,rfl,rfl,rfl,rfl⟩
 rintro ⟨n,v⟩ ⟨T,S',tk',n'⟩ ⟨hl,hn,hv,e0,e3,e4,eS⟩ IH;simp only at hn hv e0 e3 e4 eS;subst eS;obtain ⟨g,hg,hT⟩:=Ao hl;rw [hg] at e0 e3 e4;subst hT;clear hg hl;subst hv;by_cases h0:n=0
 ·subst h0;have d2:decide (((0:Nat):Int) - 1 >= 0)=false:=rfl;have ht:topV (dig a) 0=a:=Za3f
  rw [ht] at e3;simp (maxSteps:=10^6)+contextual(disch:=try exact dqd)only[ev0,simprocAttr,Cc,Ca,Cd,results232,e0,e3,e4,d2,digA]
 ·have d2:decide ((n:Int) - 1 >= 0)=true:=aC
  have hi:(n:Int) - 1=((n - 1:Nat):Int):=aA
  obtain ⟨x,hx⟩:=Ab (show n - 1<(dig a).length by omega);have hx':=B9 hx;have hxk:=B5 (Bd a) hx;have ag:=Ac3 (Bd a) hx;rw [show n - 1+1=n by omega] at ag;have hb1:=Aos (a:=a) (k:=n);have hb2:=Aos (a:=a) (k:=n - 1);have hp:=Hu (n:=n - 1) aA;have hw1:Ce.wrap ((topV (dig a) n:Int)*10000)=(topV (dig a) n:Int)*10000:=Aa aD;have hw2:Ce.wrap ((topV (dig a) n:Int)*10000+x)=((topV (dig a) (n - 1):Nat):Int):=by
   rw [Aa aD]; omega
  rw [hi] at e4 d2;simp (maxSteps:=10^6)+contextual(disch:=try exact dqd)only[ev0,simprocAttr,Cc,Ca,Cd,results232,e0,e3,e4,d2,digA,hx',hp,hw1,hw2];exact IH (n - 1,((topV (dig a) (n - 1):Nat):Int)) _ aF ⟨rfl,aE,rfl,aB,aB,aB,aB⟩
theorem Ai5 (a:Nat) (ha:a<10000000000000000):cL prog 230 [.int (a:Nat)] S tk k=some (digA (dig a),S,tk,k):=by
 refine opP func230 ntmps230 ?_;simp (maxSteps:=10^6)+contextual(disch:=try exact dqd)only[ev0,simprocAttr,Cc,Ca,Cd,results230];refine loop1 (P:=prog) (fun x st=>st.T.length=14/\(x.1<=a)/\(x.2.1++dig x.1=dig a)/\(Be st.tk x.2.2 1=true)/\getT st.T 0=.int (x.1:Nat)/\getT st.T 3=.frz (x.2.1.map digC) x.2.2/\st.S=[]) (fun x=>x.1) (fun x=>digA (dig a)) (a,[],.nilc) ?_ ?_;case refine_2=>exact ⟨rfl,Cf _,rfl,rfl,rfl,rfl,rfl⟩
 rintro ⟨m,zs,cp⟩ ⟨T,S',tk',n'⟩ ⟨hl,hm,he,ae,e0,e3,eS⟩ IH;simp only at hm he ae e0 e3 eS;subst eS;obtain ⟨g,hg,hT⟩:=Ao hl;rw [hg] at e0 e3;subst hT;clear hg hl;have hr:=En zs;have bu:=Bw ae;have hla:(dig a).length<=4:=A9.2 ha;have hzl:zs.length<=4:=by
  have:=congrArg List.length he;simp at this; omega
 have cd:(zs.map digC).length+1<=1048576:=aC
 by_cases h0:m=0
 ·subst h0;have d1:decide (((0:Nat):Int) > 0)=false:=rfl;rw [Bp,Fp] at he;subst he;simp (maxSteps:=10^6)+contextual(disch:=try exact dqd)only[ev0,simprocAttr,Cc,Ca,Cd,results230,e0,e3,d1];rfl
 ·have d1:decide ((m:Int) > 0)=true:=aC
  have ev:¬ ((10000:Int)=0):=aA
  have hq:Ce.wrap ((m:Int).tdiv 10000)=((m / 10000:Nat):Int):=by
   rw [C8 aA,Aa aD]; rfl
  have ef:(m:Int).tmod 10000=((m % 10000:Nat):Int):=dO
  simp (maxSteps:=10^6)+contextual(disch:=try exact dqd)only[ev0,simprocAttr,Cc,Ca,Cd,results230,e0,e3,d1,ev,hq,ef,hr];exact IH (m / 10000,zs++[((m % 10000:Nat):Int)],A4 tk' cp 1) _ aF ⟨rfl,aE,by rw [<- he,Jn h0]; simp,bu,aB,aB,aB⟩
theorem Vk (a b:Nat) (ha:(dig a).length<=90000) (hb:(dig b).length<=90000):cL prog 227 [digA (dig a),digA (dig b)] S tk k=some (digA (dig (a.gcd b)),S,tk,k):=by
 refine opP func227 ntmps227 ?_;simp (maxSteps:=10^6)+contextual(disch:=try exact dqd)only[ev0,simprocAttr,Cc,Ca,Cd,results227,digA];refine loop1 (P:=prog) (fun x st=>st.T.length=33/\(x.1.gcd x.2=a.gcd b)/\((dig x.1).length<=90000)/\((dig x.2).length<=90000)/\getT st.T 0=digA (dig x.1)/\getT st.T 1=digA (dig x.2)/\st.S=[]) (fun x=>x.2) (fun x=>digA (dig (a.gcd b))) (a,b) ?_ ?_;case refine_2=>exact ⟨rfl,rfl,ha,hb,rfl,rfl,rfl⟩
 rintro ⟨x,y⟩ ⟨T,S',tk',n'⟩ ⟨hl,hg,hx,hy,e0,e1,eS⟩ IH;simp only at hg hx hy e0 e1 eS;subst eS;obtain ⟨g,hg,hT⟩:=Ao hl;rw [hg] at e0 e1;subst hT;clear hg hl;by_cases h0:y=0
 ·subst h0;have d1:decide ((((dig 0).length:Nat):Int) > 0)=false:=rfl;rw [Oz] at hg;simp (maxSteps:=10^6)+contextual(disch:=try exact dqd)only[ev0,simprocAttr,Cc,Ca,Cd,results227,e0,e1,d1,digA];rw [hg]
 ·have hyl:0<(dig y).length:=Oe.2 fun h=>h0 (Ey.1 h);have d1:decide (((dig y).length:Int) > 0)=true:=aC
  have hQ c d S tk k:=Lt S tk k x y c d aA hx hy;simp only [digA] at hQ;have hlt:=Ov x (by omega:0<y);have hym:(dig (x % y)).length<=90000:=Fe (A9.2 (Nat.lt_trans hlt (A9.1 (Cf _)))) hy;have hgn:y.gcd (x % y)=a.gcd b:=Za0w
  by_cases h4:(dig x).length<=4
  ·have d2:decide (((dig x).length:Int)<=4)=true:=aC
   by_cases h5:(dig y).length<=4
   ·have d3:decide (((dig y).length:Int)<=4)=true:=aC
    have hx1:x<10000000000000000:=N5 h4;have hy1:y<10000000000000000:=N5 h5;have hN1 S tk k:=Qs S tk k x h4;have hN2 S tk k:=Qs S tk k y h5;have hC S tk k:=told (E:=E1) (Qr S tk k x y aA aA);have hD S tk k:=Ai5 S tk k (x.gcd y) (Ij (Sy x aA) hy1);simp only [digA] at hN1 hN2 hD;simp (maxSteps:=10^6)+contextual(disch:=try exact dqd)only[ev0,simprocAttr,Cc,Ca,Cd,results227,e0,e1,d1,d2,d3,digA,hN1,hN2,hC,hD];rw [hg]
   ·have d3:decide (((dig y).length:Int)<=4)=false:=aC
    simp (maxSteps:=10^6)+contextual(disch:=try exact dqd)only[ev0,simprocAttr,Cc,Ca,Cd,results227,e0,e1,d1,d2,d3,digA,hQ];exact IH (y,x % y) _ aF ⟨rfl,hgn,hy,hym,aB,aB,aB⟩
  ·have d2:decide (((dig x).length:Int)<=4)=false:=aC
   simp (maxSteps:=10^6)+contextual(disch:=try exact dqd)only[ev0,simprocAttr,Cc,Ca,Cd,results227,e0,e1,d1,d2,digA,hQ];exact IH (y,x % y) _ aF ⟨rfl,hgn,hy,hym,aB,aB,aB⟩
end
end Go.Proofs.YthelkgdmgihhiaaGreat
namespace Go.Proofs.YthelkgdmgihhiaaGreat
open Go Tryz
def smB (z:Int):Bool:=!decide (2<(dig z.natAbs).length)
def smN (z:Int):Int:=if smB z=true then z else 0
theorem Xq {z:Int} (h:smB z=true):z.natAbs<100000000:=by
 have h2:(dig z.natAbs).length<=2:=by simpa [smB] using h
 exact N5 h2
theorem zneg (z:Int):(!decide (z<0) && !decide (dig z.natAbs=[]))=decide (-z<0):=by
 have h1:dig z.natAbs=[]↔z.natAbs=0:=Ey;by_cases h:z<0
 ·have h2:¬ (-z<0):=aA
  simp [h]; omega
 ·by_cases h0:z=0
  ·subst h0; rfl
  ·have h2 : -z<0:=aA
   have h3:¬ dig z.natAbs=[]:=fun e=>by have:=h1.1 e; omega
   simp [h,h3]; omega
theorem Yj (n:Nat):decide (((dig n).length:Int) > 0)=!decide (dig n=[]):=by
 cases h:dig n with
 | nil=>rfl
 | cons x l=>simp
theorem Arw (z:Int):sg (decide (z<0)) z.natAbs=z:=by
 by_cases h:z<0 <;> simp [sg,h] <;> omega
theorem Acc {x y:Int} (h:decide (x<0)=decide (y<0)):decide (x+y<0)=decide (x<0)/\(x+y).natAbs=x.natAbs+y.natAbs:=by
 have h':(x<0)↔(y<0):=aI
 constructor
 ·rw [decide_eq_decide]; omega
 ·omega
section
variable (S:List Ent) (tk:List Nat) (k:Nat)
theorem Vm (z:Int):cL prog 263 [zA z] S tk k=some (.tup [.int (smN z),.bool (smB z)],S,tk,k):=by
 refine opP func263 ntmps263 (hp3:=rfl) ?_;by_cases h:(dig z.natAbs).length<=2
 ·have hN S tk k:=Qs S tk k z.natAbs aA;have hb:smB z=true:=by simp [smB]; omega
  have hlt:=Xq hb;have d1:decide (((dig z.natAbs).length:Int) > 2)=false:=aC
  have e1:smN z=z:=by simp [smN,hb]
  rw [e1,hb];simp only [digA] at hN;by_cases hn:z<0
  ·have d2:decide (z<0)=true:=bZ
   have hw:Ce.wrap (0 - (z.natAbs:Int))=z:=aP
   have hw2:Ce.wrap (-(z.natAbs:Int))=z:=aP
   simp (maxSteps:=10^6)+contextual(disch:=try exact dqd)only[ev0,simprocAttr,Cc,Ca,Cd,results263,zA,bigA,digA,d1,d2,hN,hw,hw2]
  ·have d2:decide (z<0)=false:=bZ
   have hz:(z.natAbs:Int)=z:=aA
   rw [hz] at hN;simp (maxSteps:=10^6)+contextual(disch:=try exact dqd)only[ev0,simprocAttr,Cc,Ca,Cd,results263,zA,bigA,digA,d1,d2,hN]
 ·have hb:smB z=false:=by simp [smB]; omega
  have d1:decide (((dig z.natAbs).length:Int) > 2)=true:=aC
  have e1:smN z=0:=by simp [smN,hb]
  rw [e1,hb];simp (maxSteps:=10^6)+contextual(disch:=try exact dqd)only[ev0,simprocAttr,Cc,Ca,Cd,results263,zA,bigA,digA,d1]
theorem Hd (z:Int):cL prog 226 [zA z] S tk k=some (zA z,S,tk,k):=by
 refine opP func226 ntmps226 (hp3:=rfl) ?_;simp (maxSteps:=10^6)+contextual(disch:=try exact dqd)only[ev0,simprocAttr,Cc,Ca,Cd,results226,zA,bigA,digA]
theorem Wm (z:Int):cL prog 264 [zA z] S tk k=some (zA (-z),S,tk,k):=by
 refine opP func264 ntmps264 (hp3:=rfl) ?_;have hz:=zneg z;have hp:=Yj z.natAbs;have ha:(-z).natAbs=z.natAbs:=aA
 simp only [zA,ha];rw [<- hz];cases d1:decide (z<0) with
 | true=>simp (maxSteps:=10^6)+contextual(disch:=try exact dqd)only[ev0,simprocAttr,Cc,Ca,Cd,results264,bigA,digA,d1]
 | false=>simp (maxSteps:=10^6)+contextual(disch:=try exact dqd)only[ev0,simprocAttr,Cc,Ca,Cd,results264,bigA,digA,d1,hp]
end
end Go.Proofs.YthelkgdmgihhiaaGreat
namespace Go.Proofs.YthelkgdmgihhiaaGreat
open Go Tryz
theorem ext_mv1 (f:FuncId) (h:mvF0 f=false):Ext.mv prog f=false:=h
set_option linter.defProp false in
def ev1:=B2 ext_mv1 ev0
set_option linter.defProp false in
def evs1:=B2 ext_mv1 evs0
theorem iq1:((-1:Int) == 1)=false:=rfl
theorem iq2:((0:Int) == 1)=false:=rfl
theorem iq3:((0:Int) == -1)=false:=rfl
theorem iq4:((1:Int) == 1)=true:=rfl
theorem iq5:((-1:Int) == -1)=true:=rfl
theorem Avz {p:Bool} {n:Nat} (h:n=0->p=false):bigA p (dig n)=zA (sg p n):=by
 unfold zA;rw [An4];cases p with
 | false =>
  have:¬ ((n:Int)<0):=aA
  simp [sg,this]
 | true =>
  have h0:n≠0:=fun e=>by simpa using h e
  have:(sg true n<0):=by simp [sg]; omega
  simp [this]
theorem Ayu {p q:Bool} (h:p≠q) {X Y:Nat} (hl:Y<X):bigA p (dig (X - Y))=zA (sg p X+sg q Y):=by
 rw [<- Asg h aA];exact Avz (fun e=>aA)
theorem Ays {p q:Bool} (h:p≠q) {X Y:Nat} (hl:X<Y):bigA q (dig (Y - X))=zA (sg p X+sg q Y):=by
 rw [<- Ash h aA];exact Avz (fun e=>aA)
theorem Avk (x y:Int):bigA (decide (x<0) != decide (y<0) && !decide (dig (x.natAbs*y.natAbs)=[])) (dig (x.natAbs*y.natAbs))=zA (x*y):=by
 rw [Avz (fun e=>by rw [e,Bp]; simp)];congr 1;have h:=As0 (decide (x<0)) (decide (y<0)) x.natAbs y.natAbs;rw [Arw,Arw] at h;rw [<- h];by_cases h0:x.natAbs*y.natAbs=0
 ·rw [h0]; simp [sg]
 ·have:¬ dig (x.natAbs*y.natAbs)=[]:=fun e=>h0 (Ey.1 e);simp [this]
section
variable (S:List Ent) (tk:List Nat) (k:Nat)
theorem Aji (x y:Int) (hx:(dig x.natAbs).length<=90000) (hy:(dig y.natAbs).length<=90000):cL prog 260 [zA x,zA y] S tk k=some (zA (x+y),S,tk,k):=by
 refine opP func260 ntmps260 (hp3:=rfl) ?_;by_cases hpq:decide (x<0)=decide (y<0)
 ·obtain ⟨h1,h2⟩:=Acc hpq;have hP S tk k:=told (E:=E1) (Ave S tk k x.natAbs y.natAbs aA aA);have d1:(decide (x<0) == decide (y<0))=true:=cW
  simp only [zA,h1,h2];simp only [digA] at hP;simp (maxSteps:=10^6)+contextual(disch:=try exact dqd)only[ev1,simprocAttr,Cc,Ca,Cd,results260,iq1,iq2,iq3,iq4,iq5,bigA,digA,d1,hP]
 ·have d1:(decide (x<0) == decide (y<0))=false:=cW
  have hC S tk k:=told (E:=E1) (Ps S tk k x.natAbs y.natAbs aA aA);have hs:=Arw x;have ht:=Arw y;by_cases xg:y.natAbs<x.natAbs
  ·have hM S tk k:=told (E:=E1) (Ag7 S tk k x.natAbs y.natAbs aA aA);have hz:=Ayu hpq xg;rw [hs,ht] at hz;rw [<- hz];have hc:cmpN x.natAbs y.natAbs=1:=by unfold cmpN; rw [if_neg aA,if_pos xg]
   exact Ya0b
  ·by_cases hlt:x.natAbs<y.natAbs
   ·have hM S tk k:=told (E:=E1) (Ag7 S tk k y.natAbs x.natAbs aA aA);have hz:=Ays hpq hlt;rw [hs,ht] at hz;rw [<- hz];have hc:cmpN x.natAbs y.natAbs=-1:=by unfold cmpN; rw [if_pos hlt]
    exact Ya0b
   ·have hc:cmpN x.natAbs y.natAbs=0:=by unfold cmpN; rw [if_neg hlt,if_neg xg]
    have h0:x+y=0:=by
     have h5:¬ ((x<0)↔(y<0)):=cW
     omega
    rw [hc] at hC;rw [h0];simp only [digA] at hC;simp (maxSteps:=10^6)+contextual(disch:=try exact dqd)only[ev1,simprocAttr,Cc,Ca,Cd,results260,iq1,iq2,iq3,iq4,iq5,zA,bigA,digA,d1,hC];first|rfl|(rw [show kF 0=0 from rfl,Bp]; rfl)|(rw [Bp]; rfl)
theorem Ek (x y:Int) (hx:(dig x.natAbs).length<=90000) (hy:(dig y.natAbs).length<=90000):cL prog 257 [zA x,zA y] S tk k=some (zA (x*y),S,tk,k):=by
 refine opP func257 ntmps257 (hp3:=rfl) ?_;have hP S tk k:=told (E:=E1) (Vl S tk k x.natAbs y.natAbs aA aA);have hz:=Avk x y;have hp:=Yj (x.natAbs*y.natAbs);simp only [digA] at hP;rw [<- hz];have hbn:(decide (x<0) != decide (y<0))=!(decide (x<0) == decide (y<0)):=rfl;rw [hbn];cases d1:decide (x<0) == decide (y<0) with
 | true=>simp (maxSteps:=10^6)+contextual(disch:=try exact dqd)only[ev1,simprocAttr,Cc,Ca,Cd,results257,iq1,iq2,iq3,iq4,iq5,zA,bigA,digA,d1,hbn,hp,hP,F5,Fw,G2,F4]
 | false=>simp (maxSteps:=10^6)+contextual(disch:=try exact dqd)only[ev1,simprocAttr,Cc,Ca,Cd,results257,iq1,iq2,iq3,iq4,iq5,zA,bigA,digA,d1,hbn,hp,hP,F5,Fw,G2,F4]
theorem V7 (x y:Int) (hx:(dig x.natAbs).length<=90000) (hy:(dig y.natAbs).length<=90000):cL prog 259 [zA x,zA y] S tk k=some (zA (x - y),S,tk,k):=by
 refine opP func259 ntmps259 (hp3:=rfl) ?_;have hO S tk k:=Wm S tk k y;have hP S tk k:=Aji S tk k x (-y) hx (by rw [show (-y).natAbs=y.natAbs by omega]; exact hy);rw [show x+-y=x - y by omega] at hP;simp only [zA,bigA,digA] at hO hP;simp (maxSteps:=10^6)+contextual(disch:=try exact dqd)only[ev1,simprocAttr,Cc,Ca,Cd,results259,iq1,iq2,iq3,iq4,iq5,zA,bigA,digA,hO,hP]
theorem Zq (l:List Int) (c:Cap) (hlen:l.length<=1048576):cL prog 229 [.frz (l.map digC) c] S tk k=some (digA l,S,tk,k):=by
 have hr cs:=D2 (f:=digC) (sz:=1) (fun _=>rfl) cs;cases l with
 | nil =>
  simp only [Ct];refine La func229 rfl rfl aR aR ntmps229 rfl rfl _ _ _ ?_ ?_ <;> rw [Apc]
  ·exact Ya18
  ·exact Ya18
 | cons x l =>
  simp only [Cn];refine Kk func229 rfl rfl aR aR ntmps229 rfl rfl _ _ _ rfl ?_; rw [Apc];have b8:=hr (x :: l);simp only [Cn] at b8;have hl:([]:List (List AV)).length+(digC x :: l.map digC).length<=1048576:=by simp at hlen ⊢; omega
  simp (maxSteps:=10^6)+contextual(disch:=try exact dqd)only[ev1,simprocAttr,Cc,Ca,Cd,results229,iq1,iq2,iq3,iq4,iq5,Mh,digA,b8]
end
end Go.Proofs.YthelkgdmgihhiaaGreat
namespace Go.Proofs.YthelkgdmgihhiaaGreat
open Go Tryz
set_option maxRecDepth 100000
theorem P5 {n:Int} (h0:0<=n) (h1:n<18446744073709551616):S6.wrap n=n:=by
 have e:(n.toNat:Int)=n:=aA
 rw [<- e];exact Go.IntWalk.u64_in _ aA
theorem Qb {N:Nat} (h:(dig N).length<=4) (m:Nat):0<=val ((dig N).drop m)/\val ((dig N).drop m)<10000000000000000:=by
 have hk:okD ((dig N).drop m):=fun d hd=>Bd N d (jJ hd);refine ⟨Eo hk,?_⟩;have h1:=Xx hk;have h2:(10000:Int) ^ ((dig N).drop m).length<=10000 ^ 4:=by
  have:((dig N).drop m).length<=4:=aC
  have h3:(10000:Nat) ^ ((dig N).drop m).length<=10000 ^ 4:=Nat.pow_le_pow_right aK this;have e1:((10000 ^ ((dig N).drop m).length:Nat):Int)<=((10000 ^ 4:Nat):Int):=Int.ofNat_le.2 h3;rw [Int.natCast_pow,Int.natCast_pow] at e1;exact e1
 have e:(10000:Int) ^ 4=10000000000000000:=aK
 omega
theorem uwrap (n:Int):S6.wrap n=n % 18446744073709551616:=by
 simp [IntKind.wrap,IntKind.bits,IntKind.signed]
theorem Alk {n:Nat} (h:n<10000000000000000000):(dig n).length<=5:=A9.2 (Ft h aK)
theorem Anf {u N:Nat} {out:List Int} (he:out++dig u=dig N) (h:u≠0):(out++[((u % 10000:Nat):Int)])++dig (u / 10000)=dig N:=by
 rw [<- he,Jn h]; simp
theorem As2 {u N:Nat} {out:List Int} (he:out++dig u=dig N) (hN:N<10000000000000000000):out.length<=5:=by
 have:=Alk hN;rw [<- he] at this; simp at this; omega
theorem Ane {N:Nat} {out:List Int} (he:out++dig 0=dig N):out=dig N:=by rw [<- he,Bp,Fp]
section
variable (S:List Ent) (tk:List Nat) (k:Nat)
theorem Mu (n:Int) (hn:i64 n):cL prog 54 [.int n] S tk k=some (zA n,S,tk,k):=by
 refine opP func54 ntmps54 (hp3:=rfl) ?_;have hn':=hn;unfold i64 at hn';have hN:n.natAbs<10000000000000000000:=aA
 cases d0:decide (n<0) with
 | true =>
  simp only [decide_eq_true_eq] at d0;have d0':decide (n<0)=true:=by simpa using d0
  have q0:S6.wrap (0 - S6.wrap n)=((n.natAbs:Nat):Int):=by rw [uwrap,uwrap]; omega
  exact Ya3
 | false =>
  simp only [decide_eq_false_iff_not] at d0;have d0':decide (n<0)=false:=by simpa using d0
  have q0:S6.wrap n=((n.natAbs:Nat):Int):=by rw [P5 aA aA]; omega
  exact Ya3
def inZ (z:Int):Bool:=decide (z >= -1000000000000) && decide (z<=1000000000000)
def intZ (z:Int):Int:=if inZ z=true then z else 0
theorem Axr (n:Int):cL prog 58 [.int n] S tk k=some (.bool (inZ n),S,tk,k):=by
 refine opP func58 ntmps58 ?_;simp (maxSteps:=10^6)+contextual(disch:=try exact dqd)only[ev0,simprocAttr,Cc,Ca,Cd,results58];unfold inZ;exact ⟨fun h=>dE,fun h=>dE⟩
end
end Go.Proofs.YthelkgdmgihhiaaGreat
namespace Go.Proofs.YthelkgdmgihhiaaGreat
open Go Tryz
def ratA (p:Bool) (l:List Int) (q:Bool) (r:List Int):AV:=.agg [.prim (.bool p),digA l,.prim (.bool q),digA r]
def qA (n d:Int):AV:=ratA (decide (n<0)) (dig n.natAbs) (decide (d<0)) (dig d.natAbs)
def lowN (n d:Int):Int:=(if d<0 then -n else n).tdiv ((n.natAbs.gcd d.natAbs:Nat):Int)
def lowD (n d:Int):Int:=((d.natAbs / n.natAbs.gcd d.natAbs:Nat):Int)
section
variable (S:List Ent) (tk:List Nat) (k:Nat)
theorem Aeu (n:Int) (hn:i64 n):cL prog 148 [.int n] S tk k=some (qA n 1,S,tk,k):=by
 refine opP func148 ntmps148 (hp3:=rfl) ?_;have h1 S tk k:=Mu S tk k n hn;have h2 S tk k:=Mu S tk k 1 aD;simp only [zA,bigA,digA] at h1 h2;simp (maxSteps:=10^6)+contextual(disch:=try exact dqd)only[ev1,simprocAttr,Cc,Ca,Cd,results148,qA,ratA,digA,h1,h2]
theorem Aro:cL prog 262 [] S tk k=some (qA 0 1,S,tk,k):=by
 refine opP func262 ntmps262 (hp3:=rfl) ?_;have h1 S tk k:=Aeu S tk k 0 aD;simp only [qA,ratA,digA] at h1;simp (maxSteps:=10^6)+contextual(disch:=try exact dqd)only[ev1,simprocAttr,Cc,Ca,Cd,results262,qA,ratA,digA,h1]
theorem Pt (a b c d:Int):cL prog 255 [qA a b,qA c d] S tk k=some (.tup [.agg [.int (smN a),.int (smN b),.int (smN c),.int (smN d)],.bool (smB a && smB b && smB c && smB d)],S,tk,k):=by
 refine opP func255 ntmps255 (hp3:=rfl) ?_;have h z S tk k:=Vm S tk k z;simp only [zA,bigA,digA] at h;cases d1:smB a with
 | false=>simp (maxSteps:=10^6)+contextual(disch:=try exact dqd)only[ev1,simprocAttr,Cc,Ca,Cd,results255,qA,ratA,digA,h,d1,F4]
 | true =>
  cases d2:smB b with
  | false=>simp (maxSteps:=10^6)+contextual(disch:=try exact dqd)only[ev1,simprocAttr,Cc,Ca,Cd,results255,qA,ratA,digA,h,d1,d2,F4,G2]
  | true =>
   cases d3:smB c with
   | false=>simp (maxSteps:=10^6)+contextual(disch:=try exact dqd)only[ev1,simprocAttr,Cc,Ca,Cd,results255,qA,ratA,digA,h,d1,d2,d3,F4,G2]
   | true=>simp (maxSteps:=10^6)+contextual(disch:=try exact dqd)only[ev1,simprocAttr,Cc,Ca,Cd,results255,qA,ratA,digA,h,d1,d2,d3,F4,G2]
theorem Ls (n d:Int) (hn:n.natAbs<=100000000000000000) (hd:d.natAbs<=100000000000000000) (dq:d≠0):cL prog 256 [.int n,.int d] S tk k=some (qA (lowN n d) (lowD n d),S,tk,k):=by
 refine opP func256 ntmps256 (hp3:=rfl) ?_;have hC S tk k:=told (E:=E1) (Qr S tk k n.natAbs d.natAbs aA aA);have j8:0<n.natAbs.gcd d.natAbs:=I6 _ aA;have hgz:¬ (((n.natAbs.gcd d.natAbs:Nat):Int)=0):=aA
 have hm:∀ x:Int,x.natAbs=n.natAbs->(if -x > x then -x else x)=(n.natAbs:Int):=fun x hx=>eA
 have hwn:∀ x:Int,x.natAbs=n.natAbs->Ce.wrap (0 - x)=-x:=fun x hx=>aP
 have kq:Ce.wrap (0 - d)=-d:=aP
 have hq:∀ x:Int,x.natAbs=n.natAbs->i64 (x.tdiv ((n.natAbs.gcd d.natAbs:Nat):Int)):=fun x hx=>by
  have h1:(x.tdiv ((n.natAbs.gcd d.natAbs:Nat):Int)).natAbs<=x.natAbs:=by
   rw [jM]; exact Ob _ _
  unfold i64; omega
 have qx:i64 (lowD n d):=by
  have:=Ob d.natAbs (n.natAbs.gcd d.natAbs);unfold i64 lowD;generalize d.natAbs / n.natAbs.gcd d.natAbs=z at *;omega
 have hdq:∀ x:Int,x=(d.natAbs:Int)->x.tdiv ((n.natAbs.gcd d.natAbs:Nat):Int)=lowD n d:=fun x hx=>by
  subst hx;rw [C8 aA]; rfl
 have hB S tk k:=Mu S tk k (lowD n d) qx;by_cases h:d<0
 ·have d1:decide (d<0)=true:=aI
  have hN:lowN n d=(-n).tdiv ((n.natAbs.gcd d.natAbs:Nat):Int):=by unfold lowN; rw [if_pos h]
  have hA S tk k:=Mu S tk k (lowN n d) (by rw [hN]; exact hq _ aA);have ef:=hm (-n) aA;have hw1:=hwn n rfl;have hw2:=hwn (-n) aA;have hw3:Ce.wrap ((-n).tdiv ((n.natAbs.gcd d.natAbs:Nat):Int))=lowN n d:=by
   rw [hN]; have:=hq (-n) aA; exact Aa this
  have zu:Ce.wrap ((-d).tdiv ((n.natAbs.gcd d.natAbs:Nat):Int))=lowD n d:=by
   rw [hdq (-d) aA]; exact Aa qx
  have hda:(-d)=(d.natAbs:Int):=aA
  have hC':∀ S tk k,cL prog 231 [.int (n.natAbs:Int),.int (-d)] S tk k=some (.int ((n.natAbs.gcd d.natAbs:Nat):Int),S,tk,k):=fun S tk k=>by
   have:=hC S tk k;rwa [<- hda] at this
  simp only [zA,bigA,digA] at hA hB;simp (maxSteps:=10^6)+contextual(disch:=try exact dqd)only[ev1,simprocAttr,Cc,Ca,Cd,results256,maxA_int,qA,ratA,digA,d1,hw1,hw2,kq,ef,hC',hgz,hw3,zu,hA,hB]
 ·have d1:decide (d<0)=false:=aI
  have hN:lowN n d=n.tdiv ((n.natAbs.gcd d.natAbs:Nat):Int):=by unfold lowN; rw [if_neg h]
  have hA S tk k:=Mu S tk k (lowN n d) (by rw [hN]; exact hq _ aA);have ef:=hm n aA;have hw1:=hwn n rfl;have hw3:Ce.wrap (n.tdiv ((n.natAbs.gcd d.natAbs:Nat):Int))=lowN n d:=by
   rw [hN]; have:=hq n aA; exact Aa this
  have zu:Ce.wrap (d.tdiv ((n.natAbs.gcd d.natAbs:Nat):Int))=lowD n d:=by
   rw [hdq d aA]; exact Aa qx
  have hda:d=(d.natAbs:Int):=aA
  have hC2:∀ S tk k,cL prog 231 [.int (n.natAbs:Int),.int d] S tk k=some (.int ((n.natAbs.gcd d.natAbs:Nat):Int),S,tk,k):=fun S tk k=>by
   have:=hC S tk k;rwa [<- hda] at this
  simp only [zA,bigA,digA] at hA hB;simp (maxSteps:=10^6)+contextual(disch:=try exact dqd)only[ev1,simprocAttr,Cc,Ca,Cd,results256,maxA_int,qA,ratA,digA,d1,hw1,ef,hC2,hgz,hw3,zu,hA,hB]
end
end Go.Proofs.YthelkgdmgihhiaaGreat
