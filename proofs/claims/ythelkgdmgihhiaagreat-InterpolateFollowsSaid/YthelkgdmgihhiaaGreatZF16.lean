/- Part 16. -/
import Derived.OpenShut
import Derived.ChangeArms
import Derived.Test.YthelkgdmgihhiaaGreatZF15
open And renaming intro->B6
open Bool renaming and_eq_true->Ch,false_eq_true->C6,false_and->Ff,true_and->Fq,not_true->Gf,not_false->Hs,not_eq_true'->Ih,eq_iff_iff->Vn
open Classical renaming byContradiction->iR
open Go.Addr renaming add->kB
open Go.DataW renaming trod->iZ,Trod->jX
open Go.IntKind renaming i64->Cd,u64->kF
open Go.Proofs.YthelkgdmgihhiaaGreat.AV renaming bool->Bm,int->Ca,str->Cb
open Go.Value renaming oneCell'->jG
open Go.World renaming cell?->I7
open Int renaming tdiv_eq_ediv_of_nonneg->Cz,mul_comm->Fu,tmod_eq_emod_of_nonneg->F7,mul_assoc->G0,mul_ne_zero->Ii,natAbs_mul->Im,pow_succ->L3,mul_add->Oi,natCast_nonneg->Ow,mul_zero->Q4,mul_nonneg->Sl,add_zero->Ss,neg_mul->Sy,add_assoc->Zt,natCast_mul->iX,mul_sub->jF,natAbs_tdiv->kJ
open List renaming replicate->Cg,map_cons->Cn,cons_append->Co,map_nil->Cs,getElem?_append_left->Cv,length_eq_zero_iff->Cw,mem_append->C3,mem_cons->C4,getElem?_eq_none->C5,range->C8,all_eq_true->C9,drop_eq_nil_of_le->Fe,getElem?_append_right->Fh,drop_length->Fi,map_append->Fk,append_nil->Fo,drop_zero->Fx,flatten_cons->F1,length_pos_iff->Ic,mem_of_getElem?->Il,getElem?_eq_getElem->Io,mem_replicate->Ip,take_append_drop->Ir,getElem?_take_of_lt->I5,getElem?_cons_zero->Mf,getElem?_drop->S7,mem_of_mem_take->iK,length_range->jJ,flatten_nil->jS,mem_of_mem_drop->kE
open List.cons renaming injEq->iV
open Nat renaming le_refl->Ce,zero_le->Cl,mul_one->Fj,zero_add->Fm,le_trans->Fp,lt_of_lt_of_le->F3,mul_le_mul_right->F6,lt_or_ge->Ig,add_zero->Ik,gcd_pos_of_pos_right->Iq,mul_comm->Iv,lt_of_le_of_lt->Iw,div_lt_iff_lt_mul->I8,gcd_zero_right->Nd,zero_mul->Om,mod_lt->Oq,add_assoc->Oy,pow_succ->Oz,mul_le_mul->O5,div_add_mod->O9,mul_le_mul_left->Pd,mod_eq_of_lt->Se,div_le_self->Sq,add_mul->Sx,add_right_cancel_iff->iU,eq_zero_or_pos->jA,gcd_comm->jL,div_eq_of_lt->jW,gcd_le_right->jY,pow_pos->kD
open Ne renaming symm->Ix
open Option renaming map_eq_some_iff->Cc,bind_eq_some_iff->Ij,getD_some->Ol
open Option.some renaming injEq->Ba
open Prod.mk renaming injEq->Cf
open Rat renaming intCast_mul->Fa,intCast_neg->Oa,mul_nonneg->iI,le_refl->iJ,intCast_add->kH,intCast_inj->kI
namespace Go.Proofs.YthelkgdmgihhiaaGreat
open Go
inductive Sh (P:Program):TypeId->List AV->Prop
 | bool {t b} : P.underlying t=some .bool->Sh P t [.prim (.bool b)]
 | int {t k n} : P.underlying t=some (.int k)->(Lit.int k n).wf=true->Sh P t [.prim (.int k n)]
 | str {t s} : P.underlying t=some .string->s.size<=maxLen->Sh P t [.prim (.string s)]
 | slice {t e es} : P.underlying t=some (.slice e)->(∀ x ∈ es,Sh P e x)->es.length<=maxLen->Sh P t [.frz es .unk]
 | struct {t fs} {pss:List (List AV)} : P.underlying t=some (.struct fs)->pss.length=fs.size->(∀ i f p,fs[i]?=some f->nth pss i=some p->Sh P f.type p)->Sh P t pss.flatten
 | array {t n e} {pss:List (List AV)} : P.underlying t=some (.array n e)->pss.length=n->(∀ p ∈ pss,Sh P e p)->Sh P t pss.flatten
def Aae (P:Program):List Field->Nat->Nat->Bool
 | [],o,n=>o == n
 | f :: fs,o,n=>f.offset == o && Aae P fs (o+P.cellsOf f.type) n
def Anh (P:Program) (F:List TypeId) (t:TypeId):Bool :=
 match P.underlying t with
 | some .bool=>true
 | some (.int k)=>k != .u64
 | some .string=>true
 | some (.slice e)=>F.contains e && decide (0<P.cellsOf e)
 | some (.struct fs)=>Aae P fs.toList 0 (P.cellsOf t) && fs.toList.all fun f=>F.contains f.type
 | some (.array n e)=>F.contains e && P.cellsOf t == n*P.cellsOf e
 | _=>false
def Acp (P:Program) (F:List TypeId):Bool:=F.all (Anh P F)
def Uo:AV->Bool
 | .prim (.int k _)=>k != .u64
 | .prim _=>true
 | .frz _ _=>true
 | _=>false
theorem Aqj {w:World} {A:Nat->Nat->Prop} {b:Nat} : ∀ (vs:List Value) (o:Nat),(∀ j v,nth vs j=some v->w.cell? ⟨b,o+j,none⟩=some v/\¬ A b (o+j))->Lie w A b o vs
 | [],_,_=>trivial
 | v :: vs,o,h=>by
  have h0:=h 0 v rfl;refine ⟨h0.1,h0.2,Aqj vs (o+1) fun j u hu=>?_⟩;have:=h (j+1) u hu;rwa [show o+(j+1)=o+1+j by omega] at this
theorem Aee {w:World} {A:Nat->Nat->Prop} {b sz:Nat} : ∀ (es:List (List AV)) (o:Nat),(∀ i e,nth es i=some e->e.length=sz/\∃ vs,Lie w A b (o+i*sz) vs/\PRs w A e vs)->B4 w A b sz o es
 | [],_,_=>by simp only [B4]
 | e :: es,o,h=>by
  simp only [B4];have h0:=h 0 e rfl;rw [Om,Ik] at h0;refine ⟨h0.1,h0.2,Aee es (o+sz) fun i f hf=>?_⟩;have:=h (i+1) f hf;exact Ya3x
theorem Acb {w:World} {A:Nat->Nat->Prop} : ∀ {cs ds:List AV} {us vs:List Value},PRs w A cs us->PRs w A ds vs->PRs w A (cs++ds) (us++vs)
 | [],_,[],_,_,h=>h
 | _ :: _,_,_ :: _,_,h1,h2=>by simp only [PRs,Co] at h1 ⊢; exact ⟨h1.1,Acb h1.2 h2⟩
 | [],_,_ :: _,_,h1,_=>by simp only [PRs] at h1
 | _ :: _,_,[],_,h1,_=>by simp only [PRs] at h1
theorem Afm {w:World} {A:Nat->Nat->Prop} : ∀ {cs:List AV} {vs:List Value},PRs w A cs vs->(∀ c ∈ cs,Uo c=true)->∀ v ∈ vs,∀ n,v≠.int .u64 n
 | [],[],_,_,v,hv=>by simp at hv
 | c :: cs,x :: vs,h,hg,v,hv=>by
  simp only [PRs] at h;rcases C4.1 hv with rfl|hv
  ·intro n e;subst e;have hc:=hg c (by simp);have hp:=h.1;cases c with
   | prim y=>simp only [PR] at hp; rw [<- hp.1] at hc; simp [Uo] at hc
   | frz es q=>cases q <;> simp only [PR] at hp; obtain ⟨a,l,q,e,-⟩:=hp; cases e
   | _=>simp [Uo] at hc
  ·exact Afm h.2 (fun d hd=>hg d (by simp [hd])) v hv
 | [],_ :: _,h,_,_,_=>bR
 | _ :: _,[],h,_,_,_=>bR
theorem Adb {α β:Type} {f:α->Option β} : ∀ {l:List α} {ys:List β},l.mapM f=some ys->ys.length=l.length/\∀ i x y,nth l i=some x->nth ys i=some y->f x=some y
 | [],ys,h=>by simp at h; subst h; exact ⟨rfl,fun i x y hx=>by simp [nth] at hx⟩
 | a :: l,ys,h=>by
  rw [List.mapM_cons] at h;simp only [Option.pure_def,Option.bind_eq_bind,Ij] at h;obtain ⟨b,hb,bs,sa,e⟩:=h;simp only [Ba] at e;subst e;obtain ⟨h1,h2⟩:=Adb sa;refine ⟨dF,fun i x y hx hy=>?_⟩;cases i with
  | zero=>simp only [nth,Ba] at hx hy; subst hx hy; exact hb
  | succ i=>exact h2 i x y hx hy
theorem Abm {n i:Nat} (h:i<n):nth (C8 n) i=some i:=by rw [Af,List.getElem?_range h]
theorem Aov {w:World} {b off n:Nat} {vs:List Value} (h:w.cells? 0 ⟨b,off,none⟩ n=some vs):vs.length=n/\∀ j v,nth vs j=some v->w.cell? ⟨b,off+j,none⟩=some v:=by
 unfold World.cells? at h;rw [if_pos (Cl _)] at h;obtain ⟨h1,h2⟩:=Adb h;rw [jJ] at h1;refine ⟨h1,fun j v hv=>?_⟩;have hj:j<n:=by have:=Bn hv; omega
 have:=h2 j j v (Abm hj) hv;unfold kB at this;split at this
 ·rename_i h0; subst h0; exact this
 ·exact this
theorem spot0 {w:World} {a:Addr} {v:Value} (h:w.cell? a=some v):a.spot=none:=by
 unfold I7 at h;split at h
 ·split at h
  ·cases h
  ·rename_i hs; simpa using hs
 ·cases h
section
variable {H:Type} {enc:TypeId × Value->H} {P:Program} {w:World} {sp:Nat->Bool} {ka:Bool} {A:Nat->Nat->Prop} {F:List TypeId}
def Rd (P:Program) (w:World) (A:Nat->Nat->Prop) (t:TypeId) (cs:List Value) (avs:List AV):Prop:=Sh P t avs/\PRs w A avs cs/\∀ c ∈ avs,Uo c=true
theorem Aaq {n:Nat} {cs:List Value} (ih:∀ t ds x,t ∈ F->iZ enc P w 0 sp ka n t ds=some x->∃ avs,Rd P w A t ds avs) :
  ∀ (fs:List Field) (o:Nat) (xs:List (DataW H × List MemPlace)),Aae P fs o cs.length=true->(∀ f ∈ fs,f.type ∈ F)->xs.length=fs.length ->
   (∀ i f,nth fs i=some f->iZ enc P w 0 sp ka n f.type ((cs.drop f.offset).take (P.cellsOf f.type))=nth xs i) ->
   ∃ pss:List (List AV),pss.length=fs.length/\(∀ i f p,nth fs i=some f->nth pss i=some p->Sh P f.type p)/\PRs w A pss.flatten (cs.drop o)/\∀ c ∈ pss.flatten,Uo c=true
 | [],o,xs,hc,_,_,_=>by
  simp only [Aae,beq_iff_eq] at hc;exact ⟨[],rfl,fun i f p hf=>by simp [nth] at hf,by rw [hc,Fi]; simp only [jS,PRs],by simp⟩
 | f :: fs,o,xs,hc,hF,hl,h=>by
  simp only [Aae,Ch,beq_iff_eq] at hc;obtain ⟨ho,hc⟩:=hc;cases xs with
  | nil=>simp at hl
  | cons x xs =>
  have h0:=h 0 f rfl;obtain ⟨avs,s1,p1,g1⟩:=ih _ _ _ (hF f (by simp)) h0;obtain ⟨pss,l2,s2,p2,g2⟩:=Aaq ih fs (o+P.cellsOf f.type) xs hc (fun g hg=>hF g (by simp [hg])) cD fun i g hg=>h (i+1) g hg;refine ⟨avs :: pss,by simp [l2],fun i g p hg hp=>?_,?_,?_⟩
  ·cases i with
   | zero=>simp only [nth,Ba] at hg hp; subst hg hp; exact s1
   | succ i=>exact s2 i g p hg hp
  ·rw [ho] at p1;have e:cs.drop o=(cs.drop o).take (P.cellsOf f.type)++cs.drop (o+P.cellsOf f.type):=by
    rw [<- List.drop_drop,Ir]
   rw [e,F1];exact Acb p1 p2
  ·intro c hc;exact Ya23
theorem Afa {n sz:Nat} {e:TypeId} {cs:List Value} (ih:∀ t ds x,t ∈ F->iZ enc P w 0 sp ka n t ds=some x->∃ avs,Rd P w A t ds avs) (he:e ∈ F) :
  ∀ (k o:Nat),cs.length=o+k*sz->(∀ i,i<k->∃ x,iZ enc P w 0 sp ka n e ((cs.drop (o+i*sz)).take sz)=some x) ->
   ∃ pss:List (List AV),pss.length=k/\(∀ p ∈ pss,Sh P e p)/\PRs w A pss.flatten (cs.drop o)/\∀ c ∈ pss.flatten,Uo c=true
 | 0,o,hl,_=>⟨[],rfl,by simp,by rw [Fe aA]; simp only [jS,PRs],by simp⟩
 | k+1,o,hl,h=>by
  obtain ⟨x,h0⟩:=h 0 aA;rw [Om,Ik] at h0;obtain ⟨avs,s1,p1,g1⟩:=ih _ _ _ he h0;obtain ⟨pss,l2,s2,p2,g2⟩:=Afa (sz:=sz) ih he k (o+sz) (by rw [hl,Sx]; omega) fun i hi=>by
   have:=h (i+1) aA;exact Ya3x
  refine ⟨avs :: pss,by simp [l2],fun p hp=>?_,?_,?_⟩
  ·rcases C4.1 hp with rfl|hp
   ·exact s1
   ·exact s2 p hp
  ·have e:cs.drop o=(cs.drop o).take sz++cs.drop (o+sz):=by rw [<- List.drop_drop,Ir]
   rw [e,F1];exact Acb p1 p2
  ·intro c hc;exact Ya23
theorem Ang (hF:Acp P F=true) (hA:∀ b o v,A b o->w.cell? ⟨b,o,none⟩=some v->∃ n,v=.int .u64 n):∀ (fuel:Nat) (t:TypeId) (cs:List Value) (x:DataW H × List MemPlace),t ∈ F->iZ enc P w 0 sp ka fuel t cs=some x->∃ avs,Rd P w A t cs avs
 | 0,_,_,_,_,h=>by simp [iZ] at h
 | n+1,t,cs,x,ht,h=>by
  have g8:Anh P F t=true:=C9.1 hF t ht;have ih:∀ t ds x,t ∈ F->iZ enc P w 0 sp ka n t ds=some x->∃ avs,Rd P w A t ds avs:=fun t ds x ht h=>Ang hF hA n t ds x ht h;unfold Anh at g8;split at g8
  ·rename_i hu;obtain ⟨b,rfl,-⟩:=DataW.trod_bool hu h;exact ⟨[.prim (.bool b)],.bool hu,Za3s,by simp [Uo]⟩
  ·rename_i k hu;obtain ⟨q,rfl,-,hw⟩:=DataW.trod_int hu h;exact ⟨[.prim (.int k q)],.int hu hw,Za3s,by simpa [Uo] using g8⟩
  ·rename_i hu;obtain ⟨s,rfl,-,hw⟩:=DataW.trod_string hu h;exact ⟨[.prim (.string s)],.str hu hw,Za3s,by simp [Uo]⟩
  ·rename_i e hu;simp only [Ch,decide_eq_true_eq] at g8;obtain ⟨g8,hpos⟩:=g8;have he:e ∈ F:=by simpa using g8
   rcases DataW.trod_slice hu h with ⟨rfl,-⟩|⟨a,len,cap,elems,rest,n',hn,rfl,-,-,hl,hcap,hel,hi,-,-⟩
   ·exact ⟨[.frz [] .unk],.slice hu (by simp) (by simp),by simp only [PRs,PR,and_true]; exact ⟨none,0,0,rfl,rfl,Ce _,.inl trivial⟩,by simp [Uo]⟩
   ·simp only [iU] at hn;subst hn;have jt:∀ i,i<len->∃ vs avs,w.cells? 0 (a.add (i*P.cellsOf e)) (P.cellsOf e)=some vs/\Rd P w A e vs avs:=fun i b6=>by
     have h1:=hi i b6;rw [Io aA] at h1;obtain ⟨vs,h2,h3⟩:=Ij.1 h1;obtain ⟨avs,h4⟩:=ih _ _ _ he h3;exact ⟨vs,avs,h2,h4⟩
    have xc:∃ es:List (List AV),es.length=len/\∀ i av,nth es i=some av->∃ vs,w.cells? 0 (a.add (i*P.cellsOf e)) (P.cellsOf e)=some vs/\Rd P w A e vs av:=by
     clear hi hel hl hcap h;induction len with
     | zero=>exact ⟨[],rfl,fun i av eg=>by simp [nth] at eg⟩
     | succ len ihl =>
      obtain ⟨es,l1,l2⟩:=ihl fun i b6=>jt i aA;obtain ⟨vs,avs,h1,h2⟩:=jt len aA;refine ⟨es++[avs],by simp [l1],fun i av eg=>?_⟩;rw [Af] at eg;rcases Ig i len with hlt|kv
      ·rw [Cv aA,<- Af] at eg; exact l2 i av eg
      ·rw [Fh aA,l1] at eg;have:i - len=0:=by
        rcases jA (i - len) with h0|h0
        ·exact h0
        ·rw [C5 aC] at eg; cases eg
       rw [this] at eg;have e1:i=len:=aA
       simp only [Mf,Ba] at eg;subst eg e1;exact ⟨vs,h1,h2⟩
    obtain ⟨es,l1,l2⟩:=xc;refine ⟨[.frz es .unk],.slice hu (fun x hx=>?_) aA,?_,by simp [Uo]⟩
    ·obtain ⟨i,hx⟩:=List.mem_iff_getElem?.1 hx;obtain ⟨vs,-,h1,-⟩:=l2 i x (by rw [Af]; exact hx);exact h1
    ·simp only [PRs,PR,and_true];refine ⟨some a,len,cap,rfl,l1,hl,?_⟩;by_cases hlen:es=[]
     ·exact .inl hlen
     right;have b8:0<len:=by
      rcases jA len with h0|h0
      ·rw [h0] at l1; exact absurd (Cw.1 l1) hlen
      ·exact h0
     obtain ⟨b,off,spt⟩:=a;have vu:spt=none:=by
      obtain ⟨vs,avs,h1,-⟩:=jt 0 b8;rw [Om] at h1;unfold World.cells? at h1;rw [if_pos (Cl _)] at h1;obtain ⟨h2,h3⟩:=Adb h1;rw [jJ] at h2;obtain ⟨v,hv⟩:=Ac (l:=vs) (i:=0) aA;have h4:=h3 0 0 v (Abm hpos) hv;exact spot0 (a:=(⟨b,off,spt⟩:Addr)) h4
     subst vu;have o9:∀ i,(⟨b,off,none⟩:Addr).add i=⟨b,off+i,none⟩:=fun i=>by
      unfold kB;split
      ·rename_i h0; rw [h0]; rfl
      ·rfl
     refine ⟨b,off,P.cellsOf e,rfl,Aee es off fun i av eg=>?_⟩;obtain ⟨vs,h1,vv,o8,hgd⟩:=l2 i av eg;rw [o9] at h1;obtain ⟨h2,h3⟩:=Aov h1;refine ⟨by rw [Mg o8,h2],vs,Aqj vs _ fun j v hv=>⟨h3 j v hv,fun ha=>?_⟩,o8⟩;obtain ⟨q,hq⟩:=hA _ _ v ha (h3 j v hv);exact Afm o8 hgd v (Il (by rw [Af] at hv; exact hv)) q hq
  ·rename_i fs hu;simp only [Ch] at g8;obtain ⟨xs,n',hn,-,hlen,hxl,hi⟩:=DataW.trod_struct hu h;simp only [iU] at hn;subst hn;rw [<- hlen] at g8;obtain ⟨pss,l1,l2,l3,l4⟩:=Aaq ih fs.toList 0 xs g8.1 (fun f hf=>by simpa using C9.1 g8.2 f hf) (by simpa using hxl) fun i f hf=>by
    rw [Af] at hf ⊢;exact hi i f (by simpa using hf)
   rw [Fx] at l3;exact ⟨pss.flatten,.struct hu (by simpa using l1) (fun i f p hf hp=>l2 i f p (by rw [Af]; simpa using hf) hp),l3,l4⟩
  ·rename_i k e hu;simp only [Ch,beq_iff_eq] at g8;obtain ⟨g8,hsz⟩:=g8;have he:e ∈ F:=by simpa using g8
   obtain ⟨xs,n',hn,-,hlen,hxl,hi⟩:=DataW.trod_array hu h;simp only [iU] at hn;subst hn;obtain ⟨pss,l1,l2,l3,l4⟩:=Afa (sz:=P.cellsOf e) ih he k 0 (by rw [hlen,hsz]; omega) fun i hik=>by
    have:=hi i hik;rw [Io aA] at this;rw [Fm];exact ⟨_,this⟩
   rw [Fx] at l3;exact ⟨pss.flatten,.array hu l1 l2,l3,l4⟩
  ·cases g8
theorem Ast (hF:Acp P F=true) (hA:∀ b o v,A b o->w.cell? ⟨b,o,none⟩=some v->∃ n,v=.int .u64 n) {t:TypeId} {v:Value} {d:DataW H} {p:List MemPlace} (ht:t ∈ F) (h:jX enc P w 0 sp ka t v d p):∃ avs,Sh P t avs/\PRs w A avs v.cells.toList:=by
 obtain ⟨fuel,hf⟩:=h;obtain ⟨avs,h1,h2,-⟩:=Ang hF hA fuel t _ _ ht hf;exact ⟨avs,h1,h2⟩
theorem As8 {t:TypeId} {avs:List AV} (hu:P.underlying t=some .bool) (h:Sh P t avs):∃ b,avs=[.prim (.bool b)]:=by
 cases h <;> rename_i h <;> rw [hu] at h <;> cases h;exact ⟨_,rfl⟩
theorem Avw {t:TypeId} {avs:List AV} (hu:P.underlying t=some .string) (h:Sh P t avs):∃ s:ByteArray,avs=[.prim (.string s)]/\s.size<=maxLen:=by
 cases h with
 | str _ h=>exact ⟨_,rfl,h⟩
 | bool h|int h|slice h|struct h|array h=>rw [hu] at h; cases h
theorem Are {t:TypeId} {k:IntKind} {avs:List AV} (hu:P.underlying t=some (.int k)) (h:Sh P t avs):∃ n,avs=[.prim (.int k n)]/\(Lit.int k n).wf=true:=by
 cases h with
 | int h h'=>rw [hu] at h; cases h; exact ⟨_,rfl,h'⟩
 | bool h|str h|slice h|struct h|array h=>rw [hu] at h; cases h
theorem Agm {t e:TypeId} {avs:List AV} (hu:P.underlying t=some (.slice e)) (h:Sh P t avs):∃ es,avs=[.frz es .unk]/\(∀ x ∈ es,Sh P e x)/\es.length<=maxLen:=by
 cases h with
 | slice h h' hl=>rw [hu] at h; cases h; exact ⟨_,rfl,h',hl⟩
 | bool h|str h|int h|struct h|array h=>rw [hu] at h; cases h
theorem Amy {t:TypeId} {fs:Array Field} {avs:List AV} (hu:P.underlying t=some (.struct fs)) (h:Sh P t avs):∃ pss:List (List AV),avs=pss.flatten/\pss.length=fs.size/\∀ i f p,fs[i]?=some f->nth pss i=some p->Sh P f.type p:=by
 cases h with
 | struct h h1 h2=>rw [hu] at h; cases h; exact ⟨_,rfl,h1,h2⟩
 | bool h|str h|int h|slice h|array h=>rw [hu] at h; cases h
theorem Rg {t:TypeId} {f0 f1:Field} {avs:List AV} (hu:P.underlying t=some (.struct #[f0,f1])) (h:Sh P t avs):∃ p0 p1,avs=p0++p1/\Sh P f0.type p0/\Sh P f1.type p1:=by
 obtain ⟨pss,rfl,hl,hp⟩:=Amy hu h;match pss,hl with
 | [p0,p1],_=>exact ⟨p0,p1,by simp,hp 0 f0 p0 rfl rfl,hp 1 f1 p1 rfl rfl⟩
theorem Alz {α:Type} {f:α->List AV} {Q:α->Prop} : ∀ {es:List (List AV)},(∀ x ∈ es,∃ c,x=f c/\Q c)->∃ cs:List α,es=cs.map f/\∀ c ∈ cs,Q c
 | [],_=>⟨[],rfl,by simp⟩
 | x :: es,h=>by
  obtain ⟨c,hc,hq⟩:=h x (by simp);obtain ⟨cs,h1,h2⟩:=Alz (es:=es) fun y hy=>h y (by simp [hy]);exact ⟨c :: cs,by rw [h1,hc]; rfl,fun d hd=>by
   rcases C4.1 hd with rfl|hd
   ·exact hq
   ·exact h2 d hd⟩
theorem Aub {C:Cx} {avs:List AV} {xs:Array Value} (h:PRs C.w C.Avoid avs (Value.agg xs).cells.toList):VR C (.agg avs) (.agg xs):=by
 simp only [VR]; exact ⟨xs,rfl,Kc h⟩
theorem Avb {C:Cx} {c:AV} {v:Value} (hv:v.cells.toList=[v]) (h:PRs C.w C.Avoid [c] v.cells.toList):VR C c v:=by
 rw [hv] at h; simp only [PRs,and_true] at h; exact Xp h
end
end Go.Proofs.YthelkgdmgihhiaaGreat
namespace Go.Proofs.YthelkgdmgihhiaaGreat.Simp
def sum:Nat->(Nat->Rat)->Rat
 | 0,_=>0
 | n+1,f=>sum n f+f n
theorem sum_congr {f g:Nat->Rat} : ∀ {n:Nat},(∀ j,j<n->f j=g j)->sum n f=sum n g
 | 0,_=>rfl
 | n+1,h=>by rw [sum,sum,sum_congr fun j hj=>h j aA,h n aA]
theorem sum_zero {f:Nat->Rat} {n:Nat} (h:∀ j,j<n->f j=0):sum n f=0:=by
 induction n with
 | zero=>rfl
 | succ n ih=>rw [sum,ih fun j hj=>h j aA,h n aA]; grind
theorem sum_add (f g:Nat->Rat):∀ n,sum n (fun j=>f j+g j)=sum n f+sum n g
 | 0=>eG
 | n+1=>by simp only [sum,sum_add f g n]; grind
theorem Hg (a:Rat) (f:Nat->Rat):∀ n,sum n (fun j=>a*f j)=a*sum n f
 | 0=>eG
 | n+1=>by simp only [sum,Hg a f n]; grind
theorem Ad4 (f g:Nat->Rat):∀ n,sum n (fun j=>f j - g j)=sum n f - sum n g
 | 0=>eG
 | n+1=>by simp only [sum,Ad4 f g n]; grind
theorem Qk (f:Nat->Nat->Rat) (m:Nat):∀ n,sum n (fun j=>sum m fun k=>f j k)=sum m fun k=>sum n fun j=>f j k
 | 0=>by simp only [sum]; exact (sum_zero fun _ _=>rfl).symm
 | n+1=>by simp only [sum,Qk f m n,sum_add]
theorem sum_one {f:Nat->Rat} {s:Nat} : ∀ {n:Nat},s<n->sum n (fun j=>if j=s then f j else 0)=f s
 | 0,h=>aA
 | n+1,h=>by
  rw [sum];by_cases e:n=s
  ·subst e;rw [if_pos rfl,sum_zero fun j hj=>if_neg aA]; grind
  ·rw [if_neg e,sum_one aA]; grind
theorem sum_nonneg {f:Nat->Rat} : ∀ {n:Nat},(∀ j,j<n->0<=f j)->0<=sum n f
 | 0,_=>eG
 | n+1,h=>by
  have h1:=sum_nonneg (f:=f) (n:=n) fun j hj=>h j aA;have h2:=h n aA;rw [sum]; grind
theorem R0 {f:Nat->Rat} : ∀ {n:Nat},0<sum n f->∃ j,j<n/\0<f j
 | 0,h=>by simp only [sum] at h; grind
 | n+1,h=>by
  rw [sum] at h;by_cases h1:0<f n
  ·exact ⟨n,aA,h1⟩
  ·have h2:0<sum n f:=aK
   obtain ⟨j,hj,h3⟩:=R0 h2;exact ⟨j,aA,h3⟩
structure Tab where
 T:Nat->Nat->Rat
 c:Nat->Rat
 B:Nat->Nat
def dot (N:Nat) (a x:Nat->Rat):Rat:=sum (N+1) fun j=>a j*x j
def Ker (m N:Nat) (t:Tab) (x:Nat->Rat):Prop:=∀ i,i<m->dot N (t.T i) x=0
def pivT (t:Tab) (r s:Nat) (i j:Nat):Rat:=if i=r then t.T r j / t.T r s else t.T i j - t.T i s*(t.T r j / t.T r s)
def piv (t:Tab) (r s:Nat):Tab:=⟨pivT t r s,fun j=>t.c j - t.c s*(t.T r j / t.T r s),fun i=>if i=r then s else t.B i⟩
theorem Ae6 (N:Nat) (a:Rat) (f x:Nat->Rat):dot N (fun j=>a*f j) x=a*dot N f x:=by
 unfold dot;rw [<- Hg];exact Ya49
theorem Asd (N:Nat) (f g x:Nat->Rat):dot N (fun j=>f j - g j) x=dot N f x - dot N g x:=by
 unfold dot;rw [<- Ad4];exact Ya49
theorem Akn (N:Nat) (a:Rat) (f x:Nat->Rat):dot N (fun j=>f j / a) x=dot N f x / a:=by
 have h:=Ae6 N a⁻¹ f x;have e1:(fun j=>a⁻¹*f j)=fun j=>f j / a:=by funext j; grind
 rw [e1] at h;rw [h]; grind
theorem Ae5 (N:Nat) (a:Rat) (p:Rat) (f g x:Nat->Rat):dot N (fun j=>f j - a*(g j / p)) x=dot N f x - a*(dot N g x / p):=by
 rw [Asd,Ae6 N a (fun j=>g j / p) x,Akn]
theorem Adq (t:Tab) (r s:Nat) (N:Nat) (x:Nat->Rat) (i:Nat):dot N ((piv t r s).T i) x=if i=r then dot N (t.T r) x / t.T r s else dot N (t.T i) x - t.T i s*(dot N (t.T r) x / t.T r s):=by
 by_cases h:i=r
 ·subst h;rw [if_pos rfl];have e:(piv t i s).T i=fun j=>t.T i j / t.T i s:=by funext j; simp [piv,pivT]
  rw [e,Akn]
 ·rw [if_neg h];have e:(piv t r s).T i=fun j=>t.T i j - t.T i s*(t.T r j / t.T r s):=by funext j; simp [piv,pivT,h]
  rw [e,Ae5]
theorem piv_ker {m N:Nat} {t:Tab} {r s:Nat} (hr:r<m) (hp:t.T r s≠0) (x:Nat->Rat):Ker m N (piv t r s) x↔Ker m N t x:=by
 constructor
 ·intro h;have h0:=h r hr;rw [Adq,if_pos rfl] at h0;have cq:dot N (t.T r) x=0:=by
   have:dot N (t.T r) x=dot N (t.T r) x / t.T r s*t.T r s:=aK
   rw [this,h0]; grind
  intro i hi;have h1:=h i hi;rw [Adq] at h1;by_cases e:i=r
  ·subst e; exact cq
  ·rw [if_neg e,cq] at h1; grind
 ·intro h i hi;rw [Adq,h r hr,h i hi];split <;> grind
theorem piv_cost {m N:Nat} {t:Tab} {r s:Nat} (hr:r<m) {x:Nat->Rat} (hx:Ker m N t x):dot N (piv t r s).c x=dot N t.c x:=by
 show dot N (fun j=>t.c j - t.c s*(t.T r j / t.T r s)) x=_;rw [Ae5,hx r hr]; grind
structure Fit (m N:Nat) (t:Tab):Prop where
 lt:∀ i,i<m->t.B i<N
 unit:∀ i k,i<m->k<m->t.T i (t.B k)=if i=k then 1 else 0
 free:∀ k,k<m->t.c (t.B k)=0
theorem Fit.inj {m N:Nat} {t:Tab} (h:Fit m N t) {i k:Nat} (hi:i<m) (hk:k<m) (e:t.B i=t.B k):i=k:=by
 have h1:=h.unit i i hi hi;have h2:=h.unit i k hi hk;rw [e,h2] at h1;by_cases hik:i=k
 ·exact hik
 ·rw [if_neg hik,if_pos rfl] at h1; grind
theorem piv_fit {m N:Nat} {t:Tab} {r s:Nat} (h:Fit m N t) (hr:r<m) (hs:s<N) (hp:t.T r s≠0):Fit m N (piv t r s):=by
 refine ⟨fun i hi=>?_,fun i k hi hk=>?_,fun k hk=>?_⟩
 ·show (if i=r then s else t.B i)<N;split
  ·exact hs
  ·exact h.lt i hi
 ·show pivT t r s i (if k=r then s else t.B k)=_;unfold pivT;by_cases hkr:k=r
  ·subst hkr;simp only [if_pos];by_cases hik:i=k
   ·subst hik;exact Ya1s
   ·rw [if_neg hik,if_neg hik]; grind
  ·rw [if_neg hkr];have h1:=h.unit r k hr hk;rw [if_neg (Ix hkr)] at h1;have h2:=h.unit i k hi hk;by_cases wa:i=r
   ·subst wa; rw [if_pos rfl,h1,if_neg (Ix hkr)]; grind
   ·rw [if_neg wa,h1,h2]; grind
 ·show t.c (if k=r then s else t.B k) - t.c s*(t.T r (if k=r then s else t.B k) / t.T r s)=0;by_cases hkr:k=r
  ·subst hkr; simp only [if_pos]; grind
  ·rw [if_neg hkr,h.free k hk];have h1:=h.unit r k hr hk;rw [if_neg (Ix hkr)] at h1;rw [h1]; grind
def dir (m:Nat) (t:Tab) (s:Nat) (j:Nat):Rat:=(if j=s then 1 else 0) - sum m fun k=>if j=t.B k then t.T k s else 0
theorem X1 {m N:Nat} {t:Tab} (h:Fit m N t) {s:Nat} (hs:s<N+1) (a:Nat->Rat):dot N a (dir m t s)=a s - sum m fun k=>t.T k s*a (t.B k):=by
 unfold dot dir;have e1:∀ j,a j*((if j=s then 1 else 0) - sum m fun k=>if j=t.B k then t.T k s else 0)=(if j=s then a j else 0) - sum m fun k=>if j=t.B k then t.T k s*a j else 0:=by
  intro j;have e2:(sum m fun k=>if j=t.B k then t.T k s*a j else 0)=a j*sum m fun k=>if j=t.B k then t.T k s else 0:=by
   rw [<- Hg];exact sum_congr fun k _=>gD
  rw [e2];split <;> grind
 rw [sum_congr fun j _=>e1 j,Ad4,sum_one hs,Qk];congr 1;exact sum_congr fun k hk=>by
  have hb:t.B k<N+1:=by have:=h.lt k hk; omega
  rw [sum_one (f:=fun j=>t.T k s*a j) hb]
theorem Ua {m N:Nat} {t:Tab} (h:Fit m N t) {s:Nat} (hs:s<N+1):Ker m N t (dir m t s):=by
 intro i hi;rw [X1 h hs];have:(sum m fun k=>t.T k s*t.T i (t.B k))=t.T i s:=by
  rw [sum_congr (g:=fun k=>if k=i then t.T k s else 0) fun k hk=>?_,sum_one (f:=fun k=>t.T k s) hi];rw [h.unit i k hi hk];exact Ya4e
 rw [this]; grind
theorem Tc {m N:Nat} {t:Tab} (h:Fit m N t) {s:Nat} (hs:s<N+1):dot N t.c (dir m t s)=t.c s:=by
 rw [X1 h hs,sum_zero fun k hk=>by rw [h.free k hk]; grind]; grind
theorem Avy {m N:Nat} {t u:Tab} (ht:Fit m N t) (hu:Fit m N u) (hB:∀ i,i<m->t.B i=u.B i) (hk:∀ x,Ker m N t x->Ker m N u x) (hc:∀ x,Ker m N t x->dot N u.c x=dot N t.c x) :
  (∀ i j,i<m->j<N+1->t.T i j=u.T i j)/\∀ j,j<N+1->t.c j=u.c j:=by
 have key:∀ a j,j<N+1->dot N a (dir m t j)=a j - sum m fun k=>t.T k j*a (u.B k):=fun a j hj=>by
  rw [X1 ht hj];congr 1;exact sum_congr fun k hk=>by rw [hB k hk]
 constructor
 ·intro i j hi hj;have h1:=hk _ (Ua ht hj) i hi;rw [key _ j hj] at h1;have:(sum m fun k=>t.T k j*u.T i (u.B k))=t.T i j:=by
   rw [sum_congr (g:=fun k=>if k=i then t.T k j else 0) fun k hk=>?_,sum_one (f:=fun k=>t.T k j) hi];rw [hu.unit i k hi hk];exact Ya4e
  rw [this] at h1;grind
 ·intro j hj;have h1:=hc _ (Ua ht hj);rw [key _ j hj,Tc ht hj,sum_zero fun k hk=>by rw [hu.free k hk]; grind] at h1;grind
end Go.Proofs.YthelkgdmgihhiaaGreat.Simp
namespace Go.Proofs.YthelkgdmgihhiaaGreat.Simp
structure Step (m N L:Nat) (t:Tab) (r s:Nat):Prop where
 r_lt:r<m
 s_lt:s<L
 neg:t.c s<0
 first:∀ j,j<s->0<=t.c j
 pos:0<t.T r s
 least:∀ i,i<m->0<t.T i s->t.T r N / t.T r s<=t.T i N / t.T i s
 tie:∀ i,i<m->0<t.T i s->t.T r N / t.T r s=t.T i N / t.T i s->t.B r<=t.B i
structure Run (m N L K:Nat) where
 t:Nat->Tab
 r:Nat->Nat
 s:Nat->Nat
 step:∀ k,k<K->Step m N L (t k) (r k) (s k)
 next:∀ k,k<K->t (k+1)=piv (t k) (r k) (s k)
 fit:Fit m N (t 0)
 LN:L<=N
 right:∀ i,i<m->0<=(t 0).T i N
section
variable {m N L K:Nat} (R:Run m N L K)
theorem Run.fits (k:Nat) (h:k<=K):Fit m N (R.t k):=by
 induction k with
 | zero=>exact R.fit
 | succ k ih =>
  have hs:=R.step k aA;rw [R.next k aA];exact piv_fit (ih aA) hs.r_lt (by have:=hs.s_lt; have:=R.LN; omega) (by have:=hs.pos; grind)
theorem Nm {a b:Rat} (ha:0<=a) (hb:0<b):0<=a / b:=by
 rw [Rat.div_def];exact iI ha (Rat.le_of_lt (Rat.inv_pos.mpr hb))
theorem Run.rights (k:Nat) (h:k<=K):∀ i,i<m->0<=(R.t k).T i N:=by
 induction k with
 | zero=>exact R.right
 | succ k ih0 =>
  intro i hi;have hs:=R.step k aA;have ih:=ih0 aA;have hr:=ih (R.r k) hs.r_lt;have hq:=Nm hr hs.pos;rw [R.next k aA];show 0<=pivT _ _ _ _ _;unfold pivT;split
  ·exact hq
  ·have ar:=ih i hi;by_cases hp:0<(R.t k).T i (R.s k)
   ·have hl:=hs.least i hi hp;have h1:(R.t k).T i (R.s k)*((R.t k).T (R.r k) N / (R.t k).T (R.r k) (R.s k))<=(R.t k).T i (R.s k)*((R.t k).T i N / (R.t k).T i (R.s k)):=Rat.mul_le_mul_of_nonneg_left hl (Rat.le_of_lt hp);have h2:(R.t k).T i (R.s k)*((R.t k).T i N / (R.t k).T i (R.s k))=(R.t k).T i N:=aK
    grind
   ·have h1:0<=(-(R.t k).T i (R.s k))*((R.t k).T (R.r k) N / (R.t k).T (R.r k) (R.s k)):=iI aK hq;grind
theorem Run.ker {k l:Nat} (hkl:k<=l) (hl:l<=K) (x:Nat->Rat):Ker m N (R.t l) x↔Ker m N (R.t k) x:=by
 induction l with
 | zero =>
  have:k=0:=aA
  subst this; exact Iff.rfl
 | succ l ih =>
  by_cases e:k=l+1
  ·subst e; exact Iff.rfl
  ·have hs:=R.step l aA;rw [R.next l aA,piv_ker hs.r_lt (by have:=hs.pos; grind)];exact ih aA aA
theorem Run.cost {k l:Nat} (hkl:k<=l) (hl:l<=K) {x:Nat->Rat} (hx:Ker m N (R.t k) x):dot N (R.t l).c x=dot N (R.t k).c x:=by
 induction l with
 | zero =>
  have:k=0:=aA
  subst this; rfl
 | succ l ih =>
  by_cases e:k=l+1
  ·subst e; rfl
  ·have hs:=R.step l aA;rw [R.next l aA,piv_cost hs.r_lt ((R.ker (k:=k) aA aA x).2 hx)];exact ih aA aA
theorem Run.gain {k:Nat} (h:k<K):(R.t (k+1)).c N=(R.t k).c N+(-(R.t k).c (R.s k))*((R.t k).T (R.r k) N / (R.t k).T (R.r k) (R.s k)):=by
 rw [R.next k h];show (R.t k).c N - _=_;grind
theorem Run.grow {k:Nat} (h:k<K):(R.t k).c N<=(R.t (k+1)).c N:=by
 have hs:=R.step k h;have h1:0<=(-(R.t k).c (R.s k))*((R.t k).T (R.r k) N / (R.t k).T (R.r k) (R.s k)):=iI (by have:=hs.neg; grind) (Nm (R.rights k aA _ hs.r_lt) hs.pos);rw [R.gain h]; grind
theorem Run.mono {k l:Nat} (hkl:k<=l) (hl:l<=K):(R.t k).c N<=(R.t l).c N:=by
 induction l with
 | zero =>
  have:k=0:=aA
  subst this; exact iJ
 | succ l ih =>
  by_cases e:k=l+1
  ·subst e; exact iJ
  ·exact Rat.le_trans (ih aA aA) (R.grow aA)
theorem Run.basis {k:Nat} (h:k<K) (i:Nat):(R.t (k+1)).B i=if i=R.r k then R.s k else (R.t k).B i:=by rw [R.next k h]; rfl
theorem Run.out {k l i y:Nat} (hkl:k<=l) (hl:l<=K) (h1:(R.t k).B i=y) (h2:(R.t l).B i≠y):∃ j,k<=j/\j<l/\R.r j=i/\(R.t j).B i=y:=by
 induction l with
 | zero =>
  have:k=0:=aA
  subst this; exact absurd h1 h2
 | succ l ih =>
  by_cases e:k=l+1
  ·subst e; exact absurd h1 h2
  ·by_cases h3:(R.t l).B i=y
   ·refine ⟨l,aA,aA,?_,h3⟩;rw [R.basis aA] at h2;by_cases e2:i=R.r l
    ·exact e2.symm
    ·rw [if_neg e2] at h2; exact absurd h3 h2
   ·obtain ⟨j,a,b,c⟩:=ih aA aA h3;exact ⟨j,a,aA,c⟩
theorem Run.into {k l i y:Nat} (hkl:k<=l) (hl:l<=K) (h1:(R.t k).B i≠y) (h2:(R.t l).B i=y):∃ j,k<=j/\j<l/\R.r j=i/\R.s j=y:=by
 induction l with
 | zero =>
  have:k=0:=aA
  subst this; exact absurd h2 h1
 | succ l ih =>
  by_cases e:k=l+1
  ·subst e; exact absurd h2 h1
  ·by_cases h3:(R.t l).B i=y
   ·obtain ⟨j,a,b,c⟩:=ih aA aA h3;exact ⟨j,a,aA,c⟩
   ·rw [R.basis aA] at h2;by_cases e2:i=R.r l
    ·rw [if_pos e2] at h2; exact ⟨l,aA,aA,e2.symm,h2⟩
    ·rw [if_neg e2] at h2; exact absurd h2 h3
theorem Asr {f:Nat->Nat} {p q:Nat} (h:p<q):∃ k,p<=k/\k<q/\∀ j,p<=j->j<q->f j<=f k:=by
 obtain ⟨d,rfl⟩:∃ d,q=p+d+1:=⟨q - p - 1,aA⟩;clear h;induction d with
 | zero=>exact ⟨p,aA,aA,fun j h1 h2=>by
   have:j=p:=aA
   subst this; exact Ce _⟩
 | succ d ih =>
  obtain ⟨k,h1,h2,h3⟩:=ih;by_cases h4:f k<=f (p+d+1)
  ·refine ⟨p+d+1,aA,aA,fun j h5 h6=>?_⟩;by_cases e:j=p+d+1
   ·subst e;exact Ya39
   ·exact Fp (h3 j h5 aA) h4
  ·refine ⟨k,h1,aA,fun j h5 h6=>?_⟩;by_cases e:j=p+d+1
   ·subst e; omega
   ·exact h3 j h5 aA
theorem Run.bland {p q:Nat} (hpq:p<q) (hq:q<=K) (hB:∀ i,i<m->(R.t p).B i=(R.t q).B i):False:=by
 have hfp:=R.fits p aA;have hfq:=R.fits q hq;obtain ⟨-,hc⟩:=Avy hfp hfq hB (fun x hx=>(R.ker aA hq x).2 hx) (fun x hx=>R.cost aA hq hx);have hz:∀ k,p<=k->k<q->(R.t k).T (R.r k) N=0:=fun k h1 h2=>by
  have hs:=R.step k aA;have g0:=R.mono h1 (show k<=K by omega);have g1:=R.mono (show k+1<=q by omega) hq;have g2:=R.grow (k:=k) aA;have g3:=hc N aA;have g4:=R.gain (k:=k) aA;have g5:(-(R.t k).c (R.s k))*((R.t k).T (R.r k) N / (R.t k).T (R.r k) (R.s k))=0:=aK
  have hn:=hs.neg;have hp:=hs.pos;grind
 have hb:∀ k,p<=k->k<=q->∀ i,i<m->(R.t k).T i N=(R.t p).T i N:=by
  intro k h1 h2;induction k with
  | zero =>
   have:p=0:=aA
   subst this; exact fun _ _=>rfl
  | succ k ih =>
   by_cases e:p=k+1
   ·subst e; exact fun _ _=>rfl
   ·intro i hi;have h0:=hz k aA aA;rw [<- ih aA aA i hi,R.next k aA];show pivT _ _ _ _ _=_;unfold pivT;by_cases e2:i=R.r k
    ·subst e2; rw [if_pos rfl,h0]; grind
    ·rw [if_neg e2,h0]; grind
 have bl:∀ k j,p<=k->k<q->p<=j->j<=q->(R.t j).T (R.r k) N=0:=fun k j h1 h2 h3 h4=>by
  have hs:=R.step k aA;rw [hb j h3 h4 _ hs.r_lt,<- hb k h1 aA _ hs.r_lt];exact hz k h1 h2
 have g8:∀ {i y k l:Nat},i<m->p<=k->k<=q->p<=l->l<=q->(R.t k).B i=y->(R.t l).B i≠y->∃ j,p<=j/\j<q/\R.r j=i/\R.s j=y:=by
  intro i y k l hi h1 h2 h3 h4 h5 h6;by_cases e:(R.t p).B i=y
  ·obtain ⟨j,a,b,c⟩:=R.into h4 hq h6 ((hB i hi).symm.trans e);exact ⟨j,aA,b,c⟩
  ·obtain ⟨j,a,b,c⟩:=R.into h1 aA e h5;exact ⟨j,a,aA,c⟩
 obtain ⟨k1,a1,a2,a3⟩:=Asr (f:=R.s) hpq;have je:=R.step k1 aA;have np:=R.fits k1 aA;obtain ⟨y,hy⟩:∃ y,y=R.s k1:=⟨_,rfl⟩;have a06:∃ k2,p<=k2/\k2<q/\(R.t k2).B (R.r k2)=y:=by
  have a3j:(R.t k1).B (R.r k1)≠y:=fun e=>by
   have:=np.free _ je.r_lt;rw [e,hy] at this;have:=je.neg;grind
  have gf:(R.t (k1+1)).B (R.r k1)=y:=by rw [R.basis aA,if_pos rfl,hy]
  by_cases e:(R.t q).B (R.r k1)=y
  ·obtain ⟨j,b1,b2,b3,b4⟩:=R.out a1 aA ((hB _ je.r_lt).trans e) a3j;exact ⟨j,b1,aA,by rw [b3]; exact b4⟩
  ·obtain ⟨j,b1,b2,b3,b4⟩:=R.out (show k1+1<=q by omega) hq gf e;exact ⟨j,aA,b2,by rw [b3]; exact b4⟩
 obtain ⟨k2,c1,c2,c3⟩:=a06;have gd:=R.step k2 aA;have c8:=R.fits k2 aA;have hsN:R.s k2<N+1:=by have:=gd.s_lt; have:=R.LN; omega
 have hd:=Ua c8 hsN;have e1:=Tc c8 hsN;have e2:dot N (R.t k1).c (dir m (R.t k2) (R.s k2))=dot N (R.t k2).c (dir m (R.t k2) (R.s k2)):=by
  rcases Nat.le_total k1 k2 with h|h
  ·exact (R.cost h aA ((R.ker h aA _).1 hd)).symm
  ·exact R.cost h aA hd
 rw [e1,X1 c8 hsN] at e2;have hsy:R.s k2<y:=by
  have h1:=a3 k2 c1 c2;rw [<- hy] at h1;have h2:R.s k2≠y:=fun e=>by
   have h3:=c8.free _ gd.r_lt;rw [c3,<- e] at h3;have:=gd.neg;grind
  omega
 have h0:=je.first (R.s k2) (by rw [<- hy]; exact hsy)
 have a4i:=gd.neg;obtain ⟨i,hi,hip⟩:=R0 (n:=m) (f:=fun k=>(R.t k2).T k (R.s k2)*(R.t k1).c ((R.t k2).B k)) aK;have hx:∀ i',i'<m->(R.t k1).B i'≠(R.t k2).B i:=fun i' ar e=>by
  have:=np.free i' ar;rw [e] at this;rw [this] at hip;grind
 obtain ⟨j,d1,d2,d3,d4⟩:=g8 hi c1 aA a1 aA rfl (hx i hi);have hle:(R.t k2).B i<=y:=by rw [<- d4,hy]; exact a3 j d1 d2
 have hbi:(R.t k2).T i N=0:=by rw [<- d3]; exact bl j k2 d1 d2 c1 aA
 have hne:(R.t k2).B i≠y:=fun e=>by
  have wa:i=R.r k2:=c8.inj hi gd.r_lt (e.trans c3.symm);subst wa;rw [c3,hy] at hip;have h1:=je.neg;have h2:=gd.pos;have h3:0<(R.t k2).T (R.r k2) (R.s k2)*(-(R.t k1).c (R.s k1)):=Rat.mul_pos h2 aK;grind
 have h5:=je.first ((R.t k2).B i) (by rw [<- hy]; omega)
 have h6:0<(R.t k2).T i (R.s k2):=by
  refine iR fun h=>?_;have h7:0<=(-(R.t k2).T i (R.s k2))*(R.t k1).c ((R.t k2).B i):=iI aK h5;grind
 have h8:=gd.tie i hi h6 (by rw [hbi,hz k2 c1 c2]; grind);rw [c3] at h8;omega
end
end Go.Proofs.YthelkgdmgihhiaaGreat.Simp
namespace Go.Proofs.YthelkgdmgihhiaaGreat.Simp
theorem Amg:∀ (M:Nat) (f:Nat->Nat),(∀ k,k<=M->f k<M)->∃ p q,p<q/\q<=M/\f p=f q
 | 0,f,h=>absurd (h 0 (Ce _)) aA
 | M+1,f,h=>by
  by_cases hx:∃ k,k<=M/\f k=f (M+1)
  ·obtain ⟨k,h1,h2⟩:=hx;exact ⟨k,M+1,aA,Ce _,h2⟩
  ·have hne:∀ k,k<=M->f k≠f (M+1):=fun k hk e=>hx ⟨k,hk,e⟩;obtain ⟨p,q,h1,h2,h3⟩:=Amg M (fun k=>if f k > f (M+1) then f k - 1 else f k) fun k hk=>by
    have a:=h k aA;have b:=h (M+1) (Ce _);have c:=hne k hk;split <;> omega
   have a:=hne p aA;have b:=hne q h2;refine ⟨p,q,h1,aA,?_⟩;split at h3 <;> split at h3 <;> omega
def code (N:Nat) (B:Nat->Nat):Nat->Nat
 | 0=>0
 | m+1=>code N B m*N+B m
theorem Acu {N:Nat} {B:Nat->Nat} : ∀ {m:Nat},(∀ i,i<m->B i<N)->code N B m<N ^ m
 | 0,_=>by simp [code]
 | m+1,h=>by
  have h1:=Acu (m:=m) fun i hi=>h i aA;have h2:=h m aA;rw [code,Oz];have h3:(code N B m+1)*N<=N ^ m*N:=F6 _ h1;rw [Sx] at h3;omega
theorem Xv {N:Nat} {B C:Nat->Nat} : ∀ {m:Nat},(∀ i,i<m->B i<N)->(∀ i,i<m->C i<N)->code N B m=code N C m->∀ i,i<m->B i=C i
 | 0,_,_,_,i,hi=>aA
 | m+1,hb,hc,h,i,hi=>by
  have h1:=hb m aA;have h2:=hc m aA;rw [code,code] at h;have e1:B m=C m:=by
   have a:(code N B m*N+B m) % N=B m:=by rw [Iv,Nat.mul_add_mod]; exact Se h1
   have b:(code N C m*N+C m) % N=C m:=by rw [Iv,Nat.mul_add_mod]; exact Se h2
   rw [h] at a;exact a.symm.trans b
  have e2:code N B m=code N C m:=by
   rw [e1] at h;have h3:code N B m*N=code N C m*N:=aA
   exact Nat.eq_of_mul_eq_mul_right aA h3
  by_cases e:i=m
  ·subst e; exact e1
  ·exact Xv (fun i hi=>hb i aA) (fun i hi=>hc i aA) e2 i aA
theorem Run.short {m N L K:Nat} (R:Run m N L K):K<N ^ m:=by
 refine iR fun hk=>?_;have hk:N ^ m<=K:=aA
 obtain ⟨p,q,h1,h2,h3⟩:=Amg (N ^ m) (fun k=>code N (R.t k).B m) fun k xj=>Acu (R.fits k aA).lt;exact R.bland h1 aA (Xv (R.fits p aA).lt (R.fits q aA).lt h3)
def Run.none {m N L:Nat} {t:Tab} (h:Fit m N t) (hL:L<=N) (hr:∀ i,i<m->0<=t.T i N):Run m N L 0:=⟨fun _=>t,fun _=>0,fun _=>0,fun k hk=>aA,fun k hk=>aA,h,hL,hr⟩
def Run.more {m N L K:Nat} (R:Run m N L K) {r s:Nat} (h:Step m N L (R.t K) r s):Run m N L (K+1) where
 t:=fun k=>if k=K+1 then piv (R.t K) r s else R.t k
 r:=fun k=>if k=K then r else R.r k
 s:=fun k=>if k=K then s else R.s k
 step:=fun k hk=>by
  rw [if_neg (show ¬ k=K+1 by omega)];by_cases e:k=K
  ·subst e; rw [if_pos rfl,if_pos rfl]; exact h
  ·rw [if_neg e,if_neg e]; exact R.step k aA
 next:=fun k hk=>by
  rw [if_neg (show ¬ k=K+1 by omega)];by_cases e:k=K
  ·subst e; rw [if_pos rfl,if_pos rfl,if_pos rfl]
  ·rw [if_neg e,if_neg e,if_neg aA]; exact R.next k aA
 fit:=by rw [if_neg aA]; exact R.fit
 LN:=R.LN
 right:=by rw [if_neg aA]; exact R.right
theorem Run.more_last {m N L K:Nat} (R:Run m N L K) {r s:Nat} (h:Step m N L (R.t K) r s):(R.more h).t (K+1)=piv (R.t K) r s:=if_pos rfl
theorem Run.more_old {m N L K:Nat} (R:Run m N L K) {r s:Nat} (h:Step m N L (R.t K) r s) {k:Nat} (hk:k<=K):(R.more h).t k=R.t k:=if_neg aA
structure Sol (m N:Nat) (t:Tab) (x:Nat->Rat):Prop where
 ker:Ker m N t x
 pos:∀ j,j<N->0<=x j
 one:x N=-1
def base (m N:Nat) (t:Tab) (j:Nat):Rat:=- dir m t N j
theorem Ako (N:Nat) (a x:Nat->Rat):dot N a (fun j=>- x j)=- dot N a x:=by
 unfold dot;have h:=Hg (-1) (fun j=>a j*x j) (N+1);rw [sum_congr (g:=fun j=>-1*(a j*x j)) fun j _=>aK,h]; grind
theorem Aer {m N:Nat} {t:Tab} (h:Fit m N t) (hr:∀ i,i<m->0<=t.T i N):Sol m N t (base m N t):=by
 refine ⟨fun i hi=>?_,fun j hj=>?_,?_⟩
 ·have:=Ua h (s:=N) aA i hi;show dot N (t.T i) (fun j=>- dir m t N j)=0;rw [Ako,this]; grind
 ·show 0<=- dir m t N j;unfold dir;rw [if_neg aA];have:0<=sum m fun k=>if j=t.B k then t.T k N else 0:=sum_nonneg fun k hk=>by
   split
   ·exact hr k hk
   ·exact iJ
  grind
 ·show - dir m t N N=-1;unfold dir;rw [if_pos rfl,sum_zero fun k hk=>if_neg (by have:=h.lt k hk; omega)]; grind
theorem Z0 {m N:Nat} {t:Tab} (h:Fit m N t):dot N t.c (base m N t)=- t.c N:=by
 show dot N t.c (fun j=>- dir m t N j)=_;rw [Ako,Tc h aA]
theorem Ab2 {f:Nat->Rat} {L:Nat} : ∀ {N:Nat},L<=N->(∀ j,L<=j->j<N->f j=0)->sum N f=sum L f
 | 0,h,_=>by
  have:L=0:=aA
  subst this; rfl
 | N+1,h,hz=>by
  by_cases e:L=N+1
  ·subst e; rfl
  ·rw [sum,hz N aA aA,Ab2 aA fun j h1 h2=>hz j h1 aA]; grind
theorem Ao4 {m N L:Nat} {t:Tab} (hL:L<=N) (hc:∀ j,j<L->0<=t.c j) {x:Nat->Rat} (hx:Sol m N t x) (h0:∀ j,L<=j->j<N->x j=0) : - t.c N<=dot N t.c x:=by
 have h1:0<=sum N fun j=>t.c j*x j:=by
  rw [Ab2 hL fun j h1 h2=>by rw [h0 j h1 h2]; grind];exact sum_nonneg fun j hj=>iI (hc j hj) (hx.pos j aA)
 unfold dot;rw [sum,hx.one]; grind
end Go.Proofs.YthelkgdmgihhiaaGreat.Simp
namespace Go.Proofs.YthelkgdmgihhiaaGreat.Simp
def isum:Nat->(Nat->Int)->Int
 | 0,_=>0
 | n+1,f=>isum n f+f n
theorem Afq (f g:Nat->Int):∀ n,isum n (fun j=>f j - g j)=isum n f - isum n g
 | 0=>rfl
 | n+1=>by simp only [isum,Afq f g n]; omega
theorem Q0 {f:Nat->Int} {b:Nat} : ∀ {n:Nat},(∀ j,j<n->(f j).natAbs<=b)->(isum n f).natAbs<=n*b
 | 0,_=>by simp [isum]
 | n+1,h=>by
  have h1:=Q0 (f:=f) (b:=b) (n:=n) fun j hj=>h j aA;have h2:=h n aA;rw [isum,Sx]; omega
theorem Us (f:Nat->Int):∀ n,((isum n f:Int):Rat)=sum n fun j=>((f j:Int):Rat)
 | 0=>by simp [isum,sum]
 | n+1=>by rw [isum,sum,kH,Us f n]
def dg (b n k:Nat):Nat:=k / b ^ n % b
theorem Aur {b:Nat} (hb:0<b):∀ {d p q:Nat},p<b ^ d->q<b ^ d->(∀ n,n<d->dg b n p=dg b n q)->p=q
 | 0,p,q,hp,hq,_=>by simp at hp hq; omega
 | d+1,p,q,hp,hq,h=>by
  have h0:=h 0 aA;simp only [dg,Nat.pow_zero,Nat.div_one] at h0;have h1:p / b=q / b:=by
   refine Aur hb (d:=d) ?_ ?_ fun n hn=>?_
   ·rw [I8 hb,<- Oz]; exact hp
   ·rw [I8 hb,<- Oz]; exact hq
   ·have:=h (n+1) aA;simpa only [dg,Oz,Iv,Nat.div_div_eq_div_mul] using this
  have e1:=O9 p b;have e2:=O9 q b;rw [h1,h0] at e1;omega
theorem Avx (m M:Nat) (hM:1<=M) (a:Nat->Nat->Int) (ha:∀ i k,i<m->k<m+1->(a i k).natAbs<=M) :
  ∃ u:Nat->Int,(∃ k,k<m+1/\u k≠0)/\(∀ k,(u k).natAbs<=(2*((m+1)*M)) ^ m)/\∀ i,i<m->isum (m+1) (fun k=>a i k*u k)=0:=by
 obtain ⟨S,hS⟩:∃ S,S=(m+1)*M:=⟨_,rfl⟩;obtain ⟨H,hH⟩:∃ H,H=(2*S) ^ m:=⟨_,rfl⟩;have ck:1<=S:=by rw [hS]; exact Fp hM (Nat.le_mul_of_pos_left M aA)
 obtain ⟨W,hW⟩:∃ W,W=2*(H*S)+1:=⟨_,rfl⟩;have a3k:W ^ m<(H+1) ^ (m+1):=by
  have h1:W<=(H+1)*(2*S):=by
   have:(H+1)*(2*S)=2*(H*S)+2*S:=by rw [Sx,Nat.mul_left_comm]; omega
   omega
  have h2:W ^ m<=((H+1)*(2*S)) ^ m:=Nat.pow_le_pow_left h1 m;rw [Nat.mul_pow,<- hH] at h2;have h3:(H+1) ^ (m+1)=(H+1) ^ m*(H+1):=Oz _ _;have h4:0<(H+1) ^ m:=kD aA;rw [h3,Nat.mul_add,Fj];omega
 obtain ⟨im,him⟩:∃ im:Nat->Nat->Int,im=fun p i=>isum (m+1) fun k=>a i k*(dg (H+1) k p:Int):=⟨_,rfl⟩;have hdg:∀ k p,dg (H+1) k p<=H:=fun k p=>by
  have:=Oq (p / (H+1) ^ k) (show 0<H+1 by omega);unfold dg; omega
 have hb:∀ p i,i<m->(im p i).natAbs<=H*S:=fun p i hi=>by
  have h1:=Q0 (f:=fun k=>a i k*(dg (H+1) k p:Int)) (b:=M*H) (n:=m+1) fun k hk=>by
   rw [Im];exact O5 (ha i k hi hk) (by have:=hdg k p; omega)
  rw [him,hS];refine Fp h1 (Nat.le_of_eq ?_);rw [<- Nat.mul_assoc,Iv]
 obtain ⟨p,q,h1,h2,h3⟩:=Amg (W ^ m) (fun p=>code W (fun i=>(im p i+(H*S:Nat)).toNat) m) fun p _=>Acu fun i hi=>by
  have:=hb p i hi;omega
 have heq:=Xv (N:=W) (m:=m) (fun i hi=>by have:=hb p i hi; omega) (fun i hi=>by have:=hb q i hi; omega) h3;refine ⟨fun k=>(dg (H+1) k q:Int) - (dg (H+1) k p:Int),?_,fun k=>?_,fun i hi=>?_⟩
 ·refine iR fun hx=>?_;have:p=q:=Aur (b:=H+1) (d:=m+1) aA aA aA fun n hn=>by
   have eh:¬ ((dg (H+1) n q:Int) - (dg (H+1) n p:Int)≠0):=fun h=>hx ⟨n,hn,h⟩;omega
  omega
 ·rw [<- hS,<- hH];have:=hdg k p;have:=hdg k q;dsimp only;omega
 ·have e:isum (m+1) (fun k=>a i k*((dg (H+1) k q:Int) - (dg (H+1) k p:Int)))=im q i - im p i:=by
   rw [him];show _=isum (m+1) _ - isum (m+1) _;rw [<- Afq];congr 1;funext k;rw [jF]
  rw [e];have h4:=heq i hi;have h5:=hb p i hi;have h6:=hb q i hi;omega
end Go.Proofs.YthelkgdmgihhiaaGreat.Simp
namespace Go.Proofs.YthelkgdmgihhiaaGreat.Simp
theorem sum_head (f:Nat->Rat):∀ n,sum (n+1) f=f 0+sum n fun k=>f (k+1)
 | 0=>eG
 | n+1=>by
  rw [sum,sum_head f n,sum]; grind
def Am3 (d:Nat) (col:Nat->Nat) (u:Nat->Int) (c:Nat):Rat:=sum d fun k=>if c=col k then ((u k:Int):Rat) else 0
theorem Mo {N d:Nat} {col:Nat->Nat} {u:Nat->Int} (hc:∀ k,k<d->col k<N+1) (a:Nat->Rat):dot N a (Am3 d col u)=sum d fun k=>a (col k)*((u k:Int):Rat):=by
 unfold dot Am3;have e1:∀ j,a j*(sum d fun k=>if j=col k then ((u k:Int):Rat) else 0)=sum d fun k=>if j=col k then a j*((u k:Int):Rat) else 0:=by
  intro j;rw [<- Hg];exact sum_congr fun k _=>gD
 rw [sum_congr fun j _=>e1 j,Qk];exact sum_congr fun k hk=>by
  have h:=sum_one (f:=fun j=>a j*((u k:Int):Rat)) (s:=col k) (hc k hk);exact h
theorem small {m N M Mc:Nat} (hM:1<=M) {t0 t:Tab} {a:Nat->Nat->Int} {a0:Nat->Int} (ha:∀ i j,i<m->j<N+1->t0.T i j=((a i j:Int):Rat)/\(a i j).natAbs<=M) (pm:∀ j,j<N+1->t0.c j=((a0 j:Int):Rat)/\(a0 j).natAbs<=Mc)
  (ht:Fit m N t) (hk:∀ x,Ker m N t0 x->Ker m N t x) (hc:∀ x,Ker m N t0 x->dot N t.c x=dot N t0.c x) {j:Nat} (hj:j<N+1) :
  ∃ y0:Int,y0≠0/\y0.natAbs<=(2*((m+1)*M)) ^ m/\(∀ i,i<m->∃ y:Int,t.T i j=((y:Int):Rat) / ((y0:Int):Rat)/\y.natAbs<=(2*((m+1)*M)) ^ m)/\∃ w:Int,t.c j=((w:Int):Rat) / ((y0:Int):Rat)/\w.natAbs<=(m+1)*(Mc*(2*((m+1)*M)) ^ m):=by
 obtain ⟨col,d8⟩:∃ col:Nat->Nat,col=fun k=>if k=0 then j else t.B (k - 1):=⟨_,rfl⟩
 have hlt:∀ k,k<m+1->col k<N+1:=fun k hk=>by
  rw [d8]; dsimp only;split
  ·exact hj
  ·have:=ht.lt (k - 1) aA; omega
 have ig:∀ k,col (k+1)=t.B k:=fun k=>by rw [d8]; simp
 have hc0:col 0=j:=by rw [d8]; simp
 obtain ⟨u,⟨k0,hk0,wz⟩,hub,hu⟩:=Avx m M hM (fun i k=>a i (col k)) fun i k hi hk=>(ha i (col k) hi (hlt k hk)).2;have hx:Ker m N t0 (Am3 (m+1) col u):=by
  intro i hi;rw [Mo hlt];have h1:=congrArg (fun z:Int=>(z:Rat)) (hu i hi);rw [Us] at h1;rw [sum_congr (g:=fun k=>((a i (col k)*u k:Int):Rat)) fun k hk=>by rw [(ha i (col k) hi (hlt k hk)).1,Fa]];rw [h1]; rfl
 have bl:∀ i,i<m->t.T i j*((u 0:Int):Rat)+((u (i+1):Int):Rat)=0:=fun i hi=>by
  have h1:=hk _ hx i hi;rw [Mo hlt,sum_head,hc0] at h1;rw [sum_congr (g:=fun k=>if k=i then ((u (k+1):Int):Rat) else 0) fun k hk=>by
   rw [ig,ht.unit i k hi hk];by_cases e:i=k
   ·subst e;exact Ya1s
   ·rw [if_neg e,if_neg (Ix e)]; grind] at h1
  rw [sum_one (f:=fun k=>((u (k+1):Int):Rat)) hi] at h1;exact h1
 have hy:u 0≠0:=fun h0=>by
  rw [h0] at bl;cases k0 with
  | zero=>exact wz h0
  | succ i =>
   have h1:=bl i aA;have h2:((u (i+1):Int):Rat)=((0:Int):Rat):=by
    have:((0:Int):Rat)=0:=rfl;rw [this] at h1 ⊢;grind
   exact wz (kI.mp h2)
 have hyr:((u 0:Int):Rat)≠0:=fun h=>hy (kI.mp (h.trans rfl));refine ⟨u 0,hy,hub 0,fun i hi=>⟨-(u (i+1)),?_,by have:=hub (i+1); omega⟩,?_⟩
 ·have h1:=bl i hi;rw [Oa];grind
 ·have h1:=hc _ hx;rw [Mo hlt,Mo hlt,sum_head,hc0,sum_zero fun k hk=>by rw [ig,ht.free k hk]; grind] at h1;refine ⟨isum (m+1) fun k=>a0 (col k)*u k,?_,?_⟩
  ·rw [Us];rw [sum_congr (g:=fun k=>((a0 (col k)*u k:Int):Rat)) fun k hk=>by rw [(pm (col k) (hlt k hk)).1,Fa]] at h1;rw [<- h1]; grind
  ·exact Q0 fun k hk=>by
    rw [Im];exact O5 (pm (col k) (hlt k hk)).2 (hub k)
end Go.Proofs.YthelkgdmgihhiaaGreat.Simp
namespace Go.Proofs.YthelkgdmgihhiaaGreat.Simp
theorem Y5 (f:Nat->Rat) (L:Nat):∀ m,sum (L+m) f=sum L f+sum m fun k=>f (L+k)
 | 0=>by simp only [sum,Ik]; grind
 | m+1=>by
  rw [<- Oy,sum,Y5 f L m,sum]; grind
theorem Agn {f:Nat->Rat} : ∀ {n:Nat},(∀ j,j<n->0<=f j)->sum n f=0->∀ j,j<n->f j=0
 | 0,_,_,j,hj=>aA
 | n+1,h,h0,j,hj=>by
  rw [sum] at h0;have h1:=sum_nonneg (f:=f) (n:=n) fun j hj=>h j aA;have h2:=h n aA;by_cases e:j=n
  ·subst e; grind
  ·exact Agn (n:=n) (fun j hj=>h j aA) (show sum n f=0 by grind) j aA
theorem Rj (f:Nat->Rat) (n:Nat):sum n (fun j=>- f j)=- sum n f:=by
 have h:=Hg (-1) f n;rw [sum_congr (g:=fun j=>-1*f j) fun j _=>aK,h]; grind
def first (m L:Nat) (R:Nat->Nat->Rat) (b:Nat->Rat):Tab where
 T:=fun i j=>if j<L then R i j else if j<L+m then (if j=L+i then 1 else 0) else b i
 c:=fun j=>if j<L then - sum m (fun i=>R i j) else if j<L+m then 0 else - sum m b
 B:=fun i=>L+i
theorem first_fit (m L:Nat) (R:Nat->Nat->Rat) (b:Nat->Rat):Fit m (L+m) (first m L R b):=by
 refine ⟨fun i hi=>by show L+i<L+m; omega,fun i k hi hk=>?_,fun k hk=>?_⟩
 ·show (if L+k<L then R i (L+k) else if L+k<L+m then (if L+k=L+i then 1 else 0) else b i)=_;rw [if_neg aA,if_pos aA];by_cases e:i=k
  ·subst e; rw [if_pos rfl,if_pos rfl]
  ·rw [if_neg aA,if_neg e]
 ·show (if L+k<L then - sum m (fun i=>R i (L+k)) else if L+k<L+m then 0 else - sum m b)=0;rw [if_neg aA,if_pos aA]
theorem Uj {m L:Nat} {R:Nat->Nat->Rat} {b:Nat->Rat} {i:Nat} (hi:i<m) (x:Nat->Rat):dot (L+m) ((first m L R b).T i) x=sum L (fun j=>R i j*x j)+x (L+i)+b i*x (L+m):=by
 unfold dot;rw [sum,Y5];have e1:sum L (fun j=>(first m L R b).T i j*x j)=sum L fun j=>R i j*x j:=sum_congr fun j hj=>by simp only [first]; rw [if_pos hj]
 have e2:(sum m fun k=>(first m L R b).T i (L+k)*x (L+k))=x (L+i):=by
  rw [sum_congr (g:=fun k=>if k=i then x (L+k) else 0) fun k hk=>?_,sum_one (f:=fun k=>x (L+k)) hi];simp only [first];rw [if_neg aA,if_pos aA];by_cases e:k=i
  ·subst e;exact Ya1s
  ·rw [if_neg aA,if_neg e]; grind
 have e3:(first m L R b).T i (L+m)=b i:=Za6u
 rw [e1,e2,e3]
theorem first_cost {m L:Nat} {R:Nat->Nat->Rat} {b:Nat->Rat} {x:Nat->Rat} (h:Ker m (L+m) (first m L R b) x):dot (L+m) (first m L R b).c x=sum m fun i=>x (L+i):=by
 have h1:∀ i,i<m->x (L+i)=- (sum L (fun j=>R i j*x j)+b i*x (L+m)):=fun i hi=>by
  have:=h i hi;rw [Uj hi] at this;grind
 rw [sum_congr h1];unfold dot;rw [sum,Y5];have e1:sum L (fun j=>(first m L R b).c j*x j)=- sum m (fun i=>sum L fun j=>R i j*x j):=by
  rw [<- Qk,<- Rj];refine sum_congr fun j hj=>?_;have e0:(first m L R b).c j=- sum m (fun i=>R i j):=by simp only [first]; rw [if_pos hj]
  rw [e0];have e2:=Hg (x j) (fun i=>R i j) m;rw [sum_congr (g:=fun i=>R i j*x j) fun i _=>aK] at e2;rw [e2]; grind
 have e2:(sum m fun k=>(first m L R b).c (L+k)*x (L+k))=0:=sum_zero fun k hk=>by
  simp only [first];rw [if_neg aA,if_pos aA]; grind
 have e3:(first m L R b).c (L+m)=- sum m b:=Za6u
 rw [e1,e2,e3];have e4:=Hg (x (L+m)) b m;rw [sum_congr (g:=fun i=>b i*x (L+m)) fun i _=>aK] at e4;rw [Rj,sum_add,e4];grind
theorem phase {m L:Nat} {R:Nat->Nat->Rat} {b:Nat->Rat} {t:Tab} (ht:Fit m (L+m) t) (hr:∀ i,i<m->0<=t.T i (L+m)) (hk:∀ x,Ker m (L+m) t x↔Ker m (L+m) (first m L R b) x)
  (hc:∀ x,Ker m (L+m) (first m L R b) x->dot (L+m) t.c x=dot (L+m) (first m L R b).c x) (a3l:∀ j,j<L->0<=t.c j) :
  t.c (L+m)=0↔∃ x:Nat->Rat,(∀ j,j<L->0<=x j)/\∀ i,i<m->sum L (fun j=>R i j*x j)=b i:=by
 have hs:=Aer ht hr;have hk0:=(hk _).1 hs.ker;have e1:=hc _ hk0;rw [Z0 ht,first_cost hk0] at e1;have hn:∀ i,i<m->0<=base m (L+m) t (L+i):=fun i hi=>hs.pos _ aA;constructor
 ·intro h0;rw [h0] at e1;have hz:=Agn hn aK;refine ⟨base m (L+m) t,fun j hj=>hs.pos j aA,fun i hi=>?_⟩;have h1:=hk0 i hi;rw [Uj hi,hz i hi,hs.one] at h1;grind
 ·rintro ⟨x,hx,hb⟩;obtain ⟨x',hx'⟩:∃ x':Nat->Rat,x'=fun j=>if j<L then x j else if j<L+m then 0 else -1:=⟨_,rfl⟩
  have p1:∀ j,j<L->x' j=x j:=fun j hj=>by rw [hx']; exact if_pos hj
  have p2:∀ j,L<=j->j<L+m->x' j=0:=fun j h1 h2=>by
   rw [hx']; dsimp only; rw [if_neg aA,if_pos h2]
  have p3:x' (L+m)=-1:=by rw [hx']; dsimp only; rw [if_neg aA,if_neg aA]
  have a07:Ker m (L+m) (first m L R b) x':=fun i hi=>by
   rw [Uj hi,p2 _ aA aA,p3,sum_congr (g:=fun j=>R i j*x j) fun j hj=>by rw [p1 j hj],hb i hi];grind
  have a3m:Sol m (L+m) t x':=⟨(hk _).2 a07,fun j hj=>by
   by_cases h:j<L
   ·rw [p1 j h]; exact hx j h
   ·rw [p2 j aA hj]; exact iJ,p3⟩
  have h2:=Ao4 aA a3l a3m p2;rw [hc _ a07,first_cost a07,sum_zero fun k hk=>p2 _ aA aA] at h2;have h3:=sum_nonneg hn;grind
end Go.Proofs.YthelkgdmgihhiaaGreat.Simp
namespace Go.Proofs.YthelkgdmgihhiaaGreat.Simp
theorem Akm (N:Nat) (a x y:Nat->Rat):dot N a (fun j=>x j+y j)=dot N a x+dot N a y:=by
 unfold dot;rw [<- sum_add];exact Ya49
theorem Aai (N:Nat) (k:Rat) (a x:Nat->Rat):dot N a (fun j=>k*x j)=k*dot N a x:=by
 unfold dot;rw [<- Hg];exact Ya49
structure Real (m N L:Nat) (t:Tab) (x:Nat->Rat):Prop where
 sol:Sol m N t x
 zero:∀ j,L<=j->j<N->x j=0
theorem Ajw {m N L:Nat} {t:Tab} (h:Fit m N t) (hr:∀ i,i<m->0<=t.T i N) (ha:∀ i,i<m->L<=t.B i->t.T i N=0):Real m N L t (base m N t):=by
 refine ⟨Aer h hr,fun j h1 h2=>?_⟩;show - dir m t N j=0;unfold dir;rw [if_neg aA,sum_zero fun k hk=>?_]
 ·grind
 ·split
  ·rename_i e;exact ha k hk aA
  ·rfl
theorem least_none {m N L s:Nat} {t:Tab} {f:Nat->Rat} (h:Fit m N t) (hL:L<=N) (hr:∀ i,i<m->0<=t.T i N) (ha:∀ i,i<m->L<=t.B i->t.T i N=0) (hs:s<L) (hn:t.c s<0) (hp:∀ i,i<m->t.T i s<=0) (has:∀ i,i<m->L<=t.B i->t.T i s=0)
  (hf:∀ x,Ker m N t x->dot N t.c x=dot N f x) (V:Rat):∃ x,Real m N L t x/\dot N f x<V:=by
 have hb:=Ajw h hr ha;obtain ⟨d,hd⟩:∃ d,d=dir m t s:=⟨_,rfl⟩;have sk:=Ua h (s:=s) aA;have q6:=Tc h (s:=s) aA;rw [<- hd] at sk q6;have dd:∀ j,0<=d j:=fun j=>by
  rw [hd];unfold dir;have h1:0<=sum m fun k=>if j=t.B k then - t.T k s else 0:=sum_nonneg fun k hk=>by
   split
   ·have:=hp k hk; grind
   ·exact iJ
  have h2:=Rj (fun k=>if j=t.B k then t.T k s else 0) m;rw [sum_congr (g:=fun k=>if j=t.B k then - t.T k s else 0) fun k _=>gD] at h2;rw [h2] at h1;split <;> grind
 have hdz:∀ j,L<=j->d j=0:=fun j hj=>by
  rw [hd];unfold dir;rw [if_neg aA,sum_zero fun k hk=>?_]
  ·grind
  ·split
   ·rename_i e;exact has k hk aA
   ·rfl
 obtain ⟨l,b8,hl⟩:∃ l:Rat,0<=l/\- t.c N+l*t.c s<V:=by
  by_cases hv : - t.c N<V
  ·exact ⟨0,iJ,aK⟩
  ·refine ⟨(- t.c N - V+1) / (- t.c s),Nm aK aK,?_⟩;have:(- t.c N - V+1) / (- t.c s)*t.c s=- (- t.c N - V+1):=aK
   rw [this]; grind
 refine ⟨fun j=>base m N t j+l*d j,⟨⟨fun i hi=>?_,fun j hj=>?_,?_⟩,fun j h1 h2=>?_⟩,?_⟩
 ·rw [Akm,Aai,hb.sol.ker i hi,sk i hi]; grind
 ·have h1:=hb.sol.pos j hj;have h2:=iI b8 (dd j);grind
 ·rw [hb.sol.one,hdz N hL]; grind
 ·rw [hb.zero j h1 h2,hdz j h1]; grind
 ·rw [Akm,Aai,<- hf _ hb.sol.ker,Z0 h,<- hf _ sk,q6];exact hl
end Go.Proofs.YthelkgdmgihhiaaGreat.Simp
namespace Go.Proofs.YthelkgdmgihhiaaGreat.Simp
theorem Ab1 (f:Nat->Rat):∀ n,sum (2*n) f=sum n fun k=>f (2*k)+f (2*k+1)
 | 0=>rfl
 | n+1=>by
  rw [show 2*(n+1)=2*n+1+1 by omega,sum,sum,Ab1 f n,sum]; grind
structure Sys where
 m:Nat
 n:Nat
 A:Nat->Nat->Rat
 c:Nat->Rat
 eq:Nat->Bool
def Sys.val (y:Sys) (v:Nat->Rat) (i:Nat):Rat:=sum y.n (fun k=>y.A i k*v k)+y.c i
def Sys.holds (y:Sys) (v:Nat->Rat):Prop:=∀ i,i<y.m->y.val v i<=0/\(y.eq i=true->y.val v i=0)
structure Cols (y:Sys) (L:Nat) (sg:Nat->Rat) (sl:Nat->Nat) (R:Nat->Nat->Rat) (b:Nat->Rat):Prop where
 sq:∀ i,i<y.m->sg i*sg i=1
 lt:2*y.n<=L
 even:∀ i k,i<y.m->k<y.n->R i (2*k)=sg i*y.A i k
 odd:∀ i k,i<y.m->k<y.n->R i (2*k+1)=- (sg i*y.A i k)
 slack:∀ i j,i<y.m->2*y.n<=j->j<L->R i j=if y.eq i=false/\j=sl i then sg i else 0
 slot:∀ i,i<y.m->y.eq i=false->2*y.n<=sl i/\sl i<L
 apart:∀ i k,i<y.m->k<y.m->y.eq i=false->y.eq k=false->sl i=sl k->i=k
 right:∀ i,i<y.m->b i=- (sg i*y.c i)
theorem Cols.row {y:Sys} {L:Nat} {sg:Nat->Rat} {sl:Nat->Nat} {R:Nat->Nat->Rat} {b:Nat->Rat} (h:Cols y L sg sl R b) {i:Nat} (hi:i<y.m) (x:Nat->Rat) :
  sum L (fun j=>R i j*x j)=sg i*(sum y.n fun k=>y.A i k*(x (2*k) - x (2*k+1)))+if y.eq i=false then sg i*x (sl i) else 0:=by
 obtain ⟨d,hd⟩:∃ d,L=2*y.n+d:=⟨L - 2*y.n,by have:=h.lt; omega⟩;rw [hd,Y5,Ab1];have e1:(sum y.n fun k=>R i (2*k)*x (2*k)+R i (2*k+1)*x (2*k+1))=sg i*sum y.n fun k=>y.A i k*(x (2*k) - x (2*k+1)):=by
  rw [<- Hg];exact sum_congr fun k hk=>by rw [h.even i k hi hk,h.odd i k hi hk]; grind
 rw [e1];congr 1;cases he:y.eq i with
 | true =>
  rw [if_neg (by simp)];exact sum_zero fun k hk=>by
   rw [h.slack i _ hi aA aA,if_neg (by rw [he]; simp)]; grind
 | false =>
  rw [if_pos rfl];obtain ⟨h1,h2⟩:=h.slot i hi he;obtain ⟨q,hq⟩:∃ q,sl i=2*y.n+q:=⟨sl i - 2*y.n,aA⟩;rw [sum_congr (g:=fun k=>if k=q then sg i*x (2*y.n+k) else 0) fun k hk=>?_,sum_one (f:=fun k=>sg i*x (2*y.n+k)) aA,<- hq];rw [h.slack i _ hi aA aA];by_cases e:k=q
  ·subst e; rw [if_pos ⟨he,hq.symm⟩,if_pos rfl]
  ·rw [if_neg (fun h=>e aA),if_neg e]; grind
theorem Cols.to {y:Sys} {L:Nat} {sg:Nat->Rat} {sl:Nat->Nat} {R:Nat->Nat->Rat} {b:Nat->Rat} (h:Cols y L sg sl R b) {x:Nat->Rat} (hx:∀ j,j<L->0<=x j) (hr:∀ i,i<y.m->sum L (fun j=>R i j*x j)=b i):y.holds fun k=>x (2*k) - x (2*k+1):=by
 intro i hi;have h1:=hr i hi;have h2:=h.sq i hi;rw [h.row hi,h.right i hi] at h1;unfold Sys.val;generalize (sum y.n fun k=>y.A i k*(x (2*k) - x (2*k+1)))=z at *;cases he:y.eq i with
 | true =>
  rw [he,if_neg (by simp)] at h1;have h3:z+y.c i=0:=by
   have:sg i*(sg i*z+0)=sg i*(-(sg i*y.c i)):=by rw [h1]
   grind
  exact ⟨aK,fun _=>h3⟩
 | false =>
  rw [he,if_pos rfl] at h1;have h4:=hx (sl i) (h.slot i hi he).2;have h3:z+y.c i=- x (sl i):=by
   have:sg i*(sg i*z+sg i*x (sl i))=sg i*(-(sg i*y.c i)):=by rw [h1]
   grind
  exact ⟨aK,fun h=>aR⟩
theorem Cols.of {y:Sys} {L:Nat} {sg:Nat->Rat} {sl:Nat->Nat} {R:Nat->Nat->Rat} {b:Nat->Rat} (h:Cols y L sg sl R b) {v:Nat->Rat} (hv:y.holds v):∃ x:Nat->Rat,(∀ j,j<L->0<=x j)/\(∀ i,i<y.m->sum L (fun j=>R i j*x j)=b i)/\∀ k,k<y.n->x (2*k) - x (2*k+1)=v k:=by
 obtain ⟨x,hx⟩:∃ x:Nat->Rat,(∀ k,k<y.n->x (2*k)=if 0<=v k then v k else 0)/\(∀ k,k<y.n->x (2*k+1)=if 0<=v k then 0 else - v k)/\(∀ i,i<y.m->y.eq i=false->x (sl i)=- y.val v i)/\∀ j,j<L->0<=x j:=by
  classical
  refine ⟨fun j=>if j<2*y.n then (if j % 2=0 then (if 0<=v (j / 2) then v (j / 2) else 0) else (if 0<=v (j / 2) then 0 else - v (j / 2))) else if hq:∃ i,i<y.m/\y.eq i=false/\sl i=j then - y.val v hq.choose else 0,fun k hk=>?_,fun k hk=>?_,fun i hi he=>?_,fun j hj=>?_⟩
  ·simp only [];rw [if_pos aA,if_pos aA,show 2*k / 2=k by omega]
  ·simp only [];rw [if_pos aA,if_neg aA,show (2*k+1) / 2=k by omega]
  ·have hq:∃ i',i'<y.m/\y.eq i'=false/\sl i'=sl i:=⟨i,hi,he,rfl⟩;simp only [];rw [if_neg (by have:=(h.slot i hi he).1; omega),dif_pos hq];have:=h.apart _ _ hq.choose_spec.1 hi hq.choose_spec.2.1 he hq.choose_spec.2.2;rw [this]
  ·simp only [];split
   ·split <;> split <;> grind
   ·split
    ·rename_i hq;have:=(hv _ hq.choose_spec.1).1;grind
    ·exact iJ
 obtain ⟨x1,x2,x3,x4⟩:=hx;refine ⟨x,x4,fun i hi=>?_,fun k hk=>by rw [x1 k hk,x2 k hk]; split <;> grind⟩;rw [h.row hi,h.right i hi];have e1:(sum y.n fun k=>y.A i k*(x (2*k) - x (2*k+1)))=sum y.n fun k=>y.A i k*v k:=sum_congr fun k hk=>by
  rw [x1 k hk,x2 k hk];split <;> grind
 rw [e1];obtain ⟨g1,g2⟩:=hv i hi;cases he:y.eq i with
 | true =>
  rw [if_neg (by simp)];have:=g2 he;unfold Sys.val at this;grind
 | false =>
  rw [if_pos rfl,x3 i hi he];unfold Sys.val;grind
theorem Cols.solve {y:Sys} {L:Nat} {sg:Nat->Rat} {sl:Nat->Nat} {R:Nat->Nat->Rat} {b:Nat->Rat} (h:Cols y L sg sl R b) :
  (∃ x:Nat->Rat,(∀ j,j<L->0<=x j)/\∀ i,i<y.m->sum L (fun j=>R i j*x j)=b i)↔∃ v,y.holds v :=
 ⟨fun ⟨_,hx,hr⟩=>⟨_,h.to hx hr⟩,fun ⟨_,hv⟩=>have ⟨x,h1,h2,_⟩:=h.of hv; ⟨x,h1,h2⟩⟩
end Go.Proofs.YthelkgdmgihhiaaGreat.Simp
namespace Go.Proofs.YthelkgdmgihhiaaGreat.Simp
def red (t:Tab) (f:Nat->Rat):Nat->Nat->Rat
 | 0=>f
 | k+1=>fun j=>red t f k j - red t f k (t.B k)*t.T k j
def Arc (m:Nat) (t:Tab) (f:Nat->Rat):Tab:=⟨t.T,red t f m,t.B⟩
end Go.Proofs.YthelkgdmgihhiaaGreat.Simp
namespace Go.Proofs.YthelkgdmgihhiaaGreat.Simp
def Comb (m N:Nat) (t0 t:Tab):Prop:=∀ i,i<m->∃ w:Nat->Rat,∀ j,j<N+1->t.T i j=sum m fun k=>w k*t0.T k j
theorem Y7 {m p q:Nat} (hp:p<m) (hq:q<m) (x y:Rat) (f:Nat->Rat):(sum m fun k=>((if k=p then x else 0)+(if k=q then y else 0))*f k)=x*f p+y*f q:=by
 have e:∀ k,((if k=p then x else 0)+(if k=q then y else 0))*f k=(if k=p then x*f k else 0)+(if k=q then y*f k else 0):=fun k=>by
  split <;> split <;> grind
 rw [sum_congr fun k _=>e k,sum_add,sum_one (f:=fun k=>x*f k) hp,sum_one (f:=fun k=>y*f k) hq]
theorem Comb.refl {m N:Nat} {t:Tab} : Comb m N t t:=fun i hi=>⟨fun k=>if k=i then 1 else 0,fun j _=>by
 rw [sum_congr (g:=fun k=>if k=i then t.T k j else 0) fun k _=>gD,sum_one (f:=fun k=>t.T k j) hi]⟩
theorem Akg {m N:Nat} {a b:Tab} (h:Comb m N a b) (w:Nat->Rat):∃ u:Nat->Rat,∀ j,j<N+1->(sum m fun k=>w k*b.T k j)=sum m fun k=>u k*a.T k j:=by
 classical
 obtain ⟨v,hv⟩:∃ v:Nat->Nat->Rat,∀ k,k<m->∀ j,j<N+1->b.T k j=sum m fun l=>v k l*a.T l j :=
  ⟨fun k=>if hk:k<m then (h k hk).choose else fun _=>0,fun k hk j hj=>by
   simp only [dif_pos hk]; exact (h k hk).choose_spec j hj⟩
 refine ⟨fun l=>sum m fun k=>w k*v k l,fun j hj=>?_⟩;have e1:(sum m fun k=>w k*b.T k j)=sum m fun k=>sum m fun l=>w k*(v k l*a.T l j):=sum_congr fun k hk=>by
  rw [hv k hk j hj,Hg]
 rw [e1,Qk];refine sum_congr fun l _=>?_;have e2:=Hg (a.T l j) (fun k=>w k*v k l) m;rw [sum_congr (g:=fun k=>w k*(v k l*a.T l j)) fun k _=>aK] at e2;rw [e2]; grind
theorem Comb.trans {m N:Nat} {a b c:Tab} (h1:Comb m N a b) (h2:Comb m N b c):Comb m N a c:=fun i hi=>by
 obtain ⟨w,hw⟩:=h2 i hi;obtain ⟨u,hu⟩:=Akg h1 w;exact ⟨u,fun j hj=>by rw [hw j hj,hu j hj]⟩
theorem Aoy {m N:Nat} {t:Tab} {r s:Nat} (hr:r<m):Comb m N t (piv t r s):=fun i hi=>by
 by_cases e:i=r
 ·subst e;refine ⟨fun k=>(if k=i then 1 / t.T i s else 0)+(if k=i then 0 else 0),fun j _=>?_⟩;rw [Y7 hi hi];show pivT t i s i j=_;unfold pivT;rw [if_pos rfl]; grind
 ·refine ⟨fun k=>(if k=i then 1 else 0)+(if k=r then - t.T i s / t.T r s else 0),fun j _=>?_⟩;rw [Y7 hi hr];show pivT t r s i j=_;unfold pivT;rw [if_neg e]; grind
theorem Aps {m N:Nat} {t:Tab} {r s:Nat} (hr:r<m) (hp:t.T r s≠0):Comb m N (piv t r s) t:=fun i hi=>by
 by_cases e:i=r
 ·subst e;refine ⟨fun k=>(if k=i then t.T i s else 0)+(if k=i then 0 else 0),fun j _=>?_⟩;rw [Y7 hi hi];show _=_*pivT t i s i j+_*pivT t i s i j;unfold pivT;rw [if_pos rfl]; grind
 ·refine ⟨fun k=>(if k=i then 1 else 0)+(if k=r then t.T i s else 0),fun j _=>?_⟩;rw [Y7 hi hr];show _=_*pivT t r s i j+_*pivT t r s r j;unfold pivT;rw [if_neg e,if_pos rfl]; grind
structure Span (m N:Nat) (t0 t:Tab):Prop where
 to:Comb m N t0 t
 of:Comb m N t t0
 cost:∃ u:Nat->Rat,∀ j,j<N+1->t.c j=t0.c j+sum m fun k=>u k*t0.T k j
theorem Span.refl {m N:Nat} {t:Tab} : Span m N t t:=⟨Comb.refl,Comb.refl,fun _=>0,fun j _=>by rw [sum_zero fun k _=>aK]; grind⟩
theorem Span.piv {m N:Nat} {t0 t:Tab} (h:Span m N t0 t) {r s:Nat} (hr:r<m) (hp:t.T r s≠0):Span m N t0 (piv t r s):=by
 refine ⟨h.to.trans (Aoy hr),(Aps hr hp).trans h.of,?_⟩;obtain ⟨u,hu⟩:=h.cost;obtain ⟨w,hw⟩:=h.to r hr;refine ⟨fun k=>u k+(- t.c s / t.T r s)*w k,fun j hj=>?_⟩;show t.c j - t.c s*(t.T r j / t.T r s)=_;have e:(sum m fun k=>(u k+(- t.c s / t.T r s)*w k)*t0.T k j)=(sum m fun k=>u k*t0.T k j)+(- t.c s / t.T r s)*sum m fun k=>w k*t0.T k j:=by
  rw [<- Hg,<- sum_add];exact sum_congr fun k _=>aK
 rw [e,<- hw j hj,hu j hj]; grind
end Go.Proofs.YthelkgdmgihhiaaGreat.Simp
namespace Go.Proofs.YthelkgdmgihhiaaGreat.Simp
end Go.Proofs.YthelkgdmgihhiaaGreat.Simp
namespace Go.Proofs.YthelkgdmgihhiaaGreat
open Go
end Go.Proofs.YthelkgdmgihhiaaGreat
namespace Go.Proofs.YthelkgdmgihhiaaGreat
open Go
theorem Ph {l:List Int} {i:Nat} {x:Int} (h:i<l.length):(l.set i x).drop i=x :: l.drop (i+1):=by
 rw [Aw (Rw h)];congr 1;rw [List.drop_set]; simp
theorem Abn (n:Nat):okD (Cg n 0):=fun d hd=>by
 exact Ya3m
structure Short (A:Nat) (b:Int) (m:Nat) (r:Int) (out:List Int):Prop where
 len:out.length=(dig A).length
 ok:okD out
 r0:0<=r/\r<b
 eqv:val ((dig A).drop m)=val (out.drop m)*b+r
theorem Short.start {A:Nat} {b:Int} (h:0<b):Short A b (dig A).length 0 (Cg (dig A).length 0):=by
 refine ⟨by simp,Abn _,aA,?_⟩;exact Ya3y
theorem Short.step {A:Nat} {b:Int} {m:Nat} {r x:Int} {out:List Int} (h:Short A b m r out) (hm:m≠0) (rt:m<=(dig A).length) (hx:nth (dig A) (m - 1)=some x) :
  Short A b (m - 1) ((r*10000+x).tmod b) (out.set (m - 1) ((r*10000+x).tdiv b))/\0<=(r*10000+x).tdiv b/\(r*10000+x).tdiv b<10000/\0<=(r*10000+x).tmod b/\(r*10000+x).tmod b<b:=by
 have hr:=h.r0;have hxk:=Df (Bf A) hx;have hn:0<=r*10000+x:=aA
 have e1:(r*10000+x).tdiv b=(r*10000+x) / b:=Cz hn;have e2:(r*10000+x).tmod b=(r*10000+x) % b:=F7 hn;have m0:=Int.emod_nonneg (r*10000+x) (show b≠0 by omega);have m1:=Int.emod_lt_of_pos (r*10000+x) (show 0<b by omega);have q0:0<=(r*10000+x) / b:=Int.ediv_nonneg hn aA;have q1:(r*10000+x) / b<10000:=Int.ediv_lt_of_lt_mul aA aA;have dk:m - 1+1=m:=aA
 have hlen:m - 1<out.length:=by have:=h.len; omega
 rw [e1,e2];refine ⟨⟨bQ,Ns h.ok q0 q1,⟨m0,m1⟩,?_⟩,q0,q1,m0,m1⟩;have hv:=h.eqv;rw [Aw hx,Ph hlen,val,val,dk,hv];exact Ya06
theorem Aqy {A B Q R:Int} (h:A=Q*B+R) (h0:0<=R) (h1:R<B):A / B=Q/\A % B=R:=by
 exact Ya0i
theorem Akk {A B:Nat} {Q R:Int} (h:(A:Int)=Q*B+R) (h0:0<=R) (h1:R<B):Q=((A / B:Nat):Int)/\R=((A % B:Nat):Int):=by
 obtain ⟨e1,e2⟩:=Aqy h h0 h1;rw [<- e1,<- e2];exact Ya45
theorem Short.done {A B:Nat} {r:Int} {out:List Int} (h:Short A B 0 r out):Dm out=dig (A / B)/\r.toNat=A % B:=by
 have hv:=h.eqv;rw [Fx,Fx,Br] at hv;obtain ⟨e1,e2⟩:=Akk hv h.r0.1 h.r0.2;rw [D6 h.ok,e1];exact ⟨by congr 1,aA⟩
end Go.Proofs.YthelkgdmgihhiaaGreat
namespace Go.Proofs.YthelkgdmgihhiaaGreat
open Go
def padD (v m:Nat):List Int:=padL (dig v) m
theorem P7 {v m:Nat} (h:(dig v).length<=m):(padD v m).length=m:=Yo h
theorem Yn (v m:Nat):val (padD v m)=v:=by rw [padD,Yp,Br]
theorem Yj (v m:Nat):okD (padD v m):=fun d hd=>by
 rcases C3.1 hd with hd|hd
 ·exact Bf v d hd
 ·exact Ya3m
theorem Aal:∀ {l r:List Int},okD l->okD r->l.length=r.length->val l=val r->l=r
 | [],[],_,_,_,_=>rfl
 | d :: l,e :: r,h1,h2,hl,hv=>by
  have g1:=h1 d (by simp);have g2:=h2 e (by simp);simp only [val] at hv;have hde:d=e:=aA
  have ih:=Aal (l:=l) (r:=r) (fun x hx=>h1 x bN) (fun x hx=>h2 x bN) cD aA;rw [hde,ih]
 | [],_ :: _,_,_,hl,_=>dW
 | _ :: _,[],_,_,hl,_=>dW
theorem Yr (n:Nat):((10000 ^ n:Nat):Int)=(10000:Int) ^ n:=Int.natCast_pow ..
theorem Au6 {a n:Nat} (h:(a:Int)<10000 ^ n):a<10000 ^ n:=by rw [<- Yr] at h; omega
theorem Avk {a n:Nat} (h:a<10000 ^ n):(a:Int)<10000 ^ n:=by rw [<- Yr]; omega
theorem Ase {l:List Int} {v:Nat} (h:okD l) (hv:val l=v):l=padD v l.length:=by
 have hl:(dig v).length<=l.length:=by
  refine Bg.2 ?_;have:=Agw h;rw [hv] at this;exact Au6 this
 exact Aal h (Yj _ _) (P7 hl).symm (by rw [hv,Yn])
theorem App {l:List Int} (h:okD l) (i:Nat):okD (l.take i):=fun d hd=>h d (iK hd)
theorem Ab8 {l:List Int} {i:Nat} (h:i<=l.length):val l=val (l.take i)+10000 ^ i*val (l.drop i):=by
 have e:=Gj (l.take i) (l.drop i);rw [Ir] at e;rw [e];have:(l.take i).length=i:=aC
 rw [this]
theorem Vw {l:List Int} {i:Nat} (h:okD (l.take i)) (hi:i<=l.length):0<=val (l.take i)/\val (l.take i)<10000 ^ i:=by
 have h1:=Agw h;have:(l.take i).length=i:=aC
 rw [this] at h1;exact ⟨Ed h,h1⟩
theorem Ab7 {l:List Int} (h:okD l) {i:Nat} (hi:i<=l.length):val (l.drop i)=val l / 10000 ^ i:=by
 obtain ⟨h1,h2⟩:=Vw (App h i) hi;have h3:=Ab8 hi;have hp:=J0 i;generalize (10000:Int) ^ i=P at *;have:=(Aqy (A:=val l) (B:=P) (Q:=val (l.drop i)) (R:=val (l.take i)) (by rw [h3,Fu P]; omega) h1 h2).1;exact this.symm
theorem Asw {v m j:Nat} (h:(dig v).length<=m) (hj:j<m):nth (padD v m) j=some ((v / 10000 ^ j % 10000:Nat):Int):=by
 obtain ⟨x,hx⟩:=Ac (show j<(padD v m).length by rw [P7 h]; exact hj);have hk:=Yj v m;have h1:=Ab7 hk (i:=j) (by rw [P7 h]; omega);rw [Aw hx,val,Yn] at h1;have hxk:=Df hk hx;rw [hx]; congr 1;have e:((v / 10000 ^ j:Nat):Int)=(v:Int) / 10000 ^ j:=by simp
 omega
theorem Akl (v i j:Nat):v / 10000 ^ (i+j)=v / 10000 ^ i / 10000 ^ j:=by rw [Nat.pow_add,Nat.div_div_eq_div_mul]
structure Off (B m i k:Nat) (q c E:Int) (o:List Int):Prop where
 len:o.length=m
 ok:okD o
 c0:0<=c/\c<=9999
 high:∀ j x,i+(dig B).length<j->nth o j=some x->x=0
 eqv:val o - 10000 ^ (i+k)*(c+q*val ((dig B).drop k))=E
theorem Off.step {B m i k:Nat} {q c E x d y:Int} {o:List Int} (h:Off B m i k q c E o) (hq:0<=q/\q<=9999) (hx:nth o (i+k)=some x) (hd:nth (dig B) k=some d) (hy:y=x - q*d - c) :
  -99990000<=y/\y<=9999/\(y<0->(0 - y+10000 - 1).tdiv 10000<=9999/\0<=(0 - y+10000 - 1).tdiv 10000/\0<=y+(0 - y+10000 - 1).tdiv 10000*10000/\y+(0 - y+10000 - 1).tdiv 10000*10000<=9999/\Off B m i (k+1) q ((0 - y+10000 - 1).tdiv 10000) E (o.set (i+k) (y+(0 - y+10000 - 1).tdiv 10000*10000)))
   /\ (¬ y<0->Off B m i (k+1) q 0 E (o.set (i+k) y)):=by
 have sk:=Df (Bf B) hd;have hxk:=Df h.ok hx;have hk:=Bn hd;have hc:=h.c0;have p0:0<=q*d:=Sl hq.1 sk.1;have p1:q*d<=9999*9999:=Int.mul_le_mul hq.2 aA sk.1 aA;have hv:=h.eqv;rw [Aw hd,val,Oi q,Int.mul_left_comm] at hv;have main:∀ c' z:Int,0<=c'->c'<=9999->0<=z->z<10000->z=y+c'*10000->Off B m i (k+1) q c' E (o.set (i+k) z):=fun c' z a1 a2 a3 a4 a5=>by
  refine ⟨bQ,Ns h.ok a3 a4,⟨a1,a2⟩,fun j u hj hu=>?_,?_⟩
  ·exact Ya0h
  ·rw [Hh hx,<- hv,<- Oy,L3,Fu (z - x)];generalize (10000:Int) ^ (i+k)=P at *;generalize val ((dig B).drop (k+1))=D at *;have e1:P*10000*(c'+q*D)=P*(10000*(c'+q*D)):=G0 ..;have e2:P*(z - x)=P*(10000*(c'+q*D)) - P*(c+(q*d+10000*(q*D))):=by
    rw [<- jF]; congr 1;generalize q*D=u at *;generalize q*d=t at *;omega
   omega
 refine ⟨aA,aA,fun hn=>?_,fun hn=>main 0 y aA aA aA aA aA⟩;have e:(0 - y+10000 - 1).tdiv 10000=(0 - y+10000 - 1) / 10000:=Cz aA;rw [e];exact ⟨aA,aA,aA,aA,main _ _ aA aA aA aA rfl⟩
structure Mid (v B m i:Nat) (q:Int) (o:List Int):Prop where
 len:o.length=m
 ok:∀ j x,j≠i+(dig B).length->nth o j=some x->0<=x/\x<10000
 top:∀ x,nth o (i+(dig B).length)=some x->-10000<=x/\x<=9999
 high:∀ j x,i+(dig B).length<j->nth o j=some x->x=0
 q0:((v / 10000 ^ i / B:Nat):Int)<=q/\q<=9999
 eqv:val o=v - 10000 ^ i*(q*B)
theorem Off.start {v B m i:Nat} {q:Int} (hv:(dig v).length<=m) (hR:v / 10000 ^ i<10000*B):Off B m i 0 q 0 (v - 10000 ^ i*(q*B)) (padD v m):=by
 refine ⟨P7 hv,Yj v m,aA,fun j x hj hx=>?_,?_⟩
 ·have hjm:=Bn hx;rw [P7 hv] at hjm;rw [Asw hv hjm] at hx;simp only [Ba] at hx;subst hx;have hB:=(Bg (n:=B) (k:=(dig B).length)).1 (Ce _);have e:v / 10000 ^ j=0:=by
   have e1:j=i+((dig B).length+1)+(j - (i+(dig B).length+1)):=aA
   rw [e1,Akl,Akl];have:v / 10000 ^ i / 10000 ^ ((dig B).length+1)=0:=jW (by rw [Oz]; omega);rw [this,Nat.zero_div]
  rw [e]; rfl
 ·rw [Yn,Fx,Br,Ik]; simp
theorem Off.done {v B m i:Nat} {q c x:Int} {o:List Int} (h:Off B m i (dig B).length q c (v - 10000 ^ i*(q*B)) o) (hx:nth o (i+(dig B).length)=some x) (hq:((v / 10000 ^ i / B:Nat):Int)<=q/\q<=9999):Mid v B m i q (o.set (i+(dig B).length) (x - c)):=by
 have hxk:=Df h.ok hx;have hc:=h.c0;refine ⟨bQ,fun j u hj hu=>?_,fun u hu=>?_,fun j u hj hu=>?_,hq,?_⟩
 ·rcases Dh hu with ⟨e,-⟩|⟨-,hu⟩
  ·omega
  ·exact Df h.ok hu
 ·exact Ya46
 ·exact Ya0h
 ·have hv:=h.eqv;rw [Fi] at hv;rw [Hh hx,<- hv];simp only [val,Q4,Ss];have e:x - c - x=-c:=aA
  rw [e,Sy,Fu c]; omega
theorem Mid.val_eq {v B m i:Nat} {q x:Int} {o:List Int} (h:Mid v B m i q o) (hx:nth o (i+(dig B).length)=some x):∃ P,val o=P+10000 ^ (i+(dig B).length)*x/\0<=P/\P<10000 ^ (i+(dig B).length):=by
 have hl:=Bn hx;have hk:okD (o.take (i+(dig B).length)):=W3 fun j y hy=>by
  have hj:=Bn hy;have fh:j<i+(dig B).length:=by simp at hj; omega
  rw [Af,I5 fh,<- Af] at hy;exact h.ok j y aA hy
 obtain ⟨h1,h2⟩:=Vw hk aA;refine ⟨_,?_,h1,h2⟩;rw [Ab8 (l:=o) (i:=i+(dig B).length) aA,Aw hx,val];have hz:∀ l:List Int,(∀ d ∈ l,d=0)->val l=0:=fun l hl=>by
  induction l with
  | nil=>rfl
  | cons d l ih=>rw [val,ih fun d hd=>hl d (by simp [hd]),hl d (by simp)]; rfl
 rw [hz (o.drop (i+(dig B).length+1)) fun d hd=>by
  obtain ⟨j,hj⟩:=List.mem_iff_getElem?.1 hd;rw [S7] at hj;exact h.high (i+(dig B).length+1+j) d aA (by rw [Af]; exact hj)]
 simp
theorem Anl (v i:Nat):∃ L:Nat,(v:Int)=10000 ^ i*((v / 10000 ^ i:Nat):Int)+L/\L<10000 ^ i:=by
 refine ⟨v % 10000 ^ i,?_,Oq _ (kD aP)⟩;have h:=O9 v (10000 ^ i);have:((10000 ^ i*(v / 10000 ^ i)+v % 10000 ^ i:Nat):Int)=v:=by rw [h]
 rw [<- this]; simp
theorem Mid.neg {v B m i:Nat} {q x:Int} {o:List Int} (h:Mid v B m i q o) (hB:0<B) (hx:nth o (i+(dig B).length)=some x) (hn:x<0):((v / 10000 ^ i / B:Nat):Int)<=q - 1:=by
 obtain ⟨P,hP,h0,h1⟩:=h.val_eq hx;obtain ⟨L,hL,su⟩:=Anl v i;have hv:=h.eqv;have hp:=J0 i;have hpp:=J0 (i+(dig B).length);have hneg:val o<0:=by
  have:(10000:Int) ^ (i+(dig B).length)*x<=10000 ^ (i+(dig B).length)*(-1):=Int.mul_le_mul_of_nonneg_left aA aA;omega
 have hlt:10000 ^ i*(((v / 10000 ^ i:Nat):Int) - q*B)<0:=by rw [jF]; omega
 have cd:((v / 10000 ^ i:Nat):Int) - q*B<0:=by
  rcases Int.lt_or_le (((v / 10000 ^ i:Nat):Int) - q*B) 0 with h|h
  ·exact h
  ·have:=Sl (Int.le_of_lt hp) h; omega
 have:((v / 10000 ^ i / B:Nat):Int)<q:=by
  have e:((v / 10000 ^ i / B:Nat):Int)=((v / 10000 ^ i:Nat):Int) / (B:Int):=by simp
  rw [e]; exact Int.ediv_lt_of_lt_mul aA aA
 omega
theorem Mid.done {v B m i:Nat} {q x:Int} {o:List Int} (h:Mid v B m i q o) (hB:0<B) (hx:nth o (i+(dig B).length)=some x) (hn:¬ x<0):q=((v / 10000 ^ i / B:Nat):Int)/\o=padD (v - 10000 ^ i*(v / 10000 ^ i / B*B)) m:=by
 obtain ⟨P,hP,h0,h1⟩:=h.val_eq hx;obtain ⟨L,hL,su⟩:=Anl v i;have hv:=h.eqv;have hp:=J0 i;have hpp:=J0 (i+(dig B).length);have hpos:0<=val o:=by
  have:0<=(10000:Int) ^ (i+(dig B).length)*x:=Sl aA aA;omega
 have hL1':(L:Int)<10000 ^ i:=Avk su;have wx : -(10000 ^ i)<10000 ^ i*(((v / 10000 ^ i:Nat):Int) - q*B):=by rw [jF]; omega
 have kv:0<=((v / 10000 ^ i:Nat):Int) - q*B:=by
  rcases Int.lt_or_le (((v / 10000 ^ i:Nat):Int) - q*B) 0 with h|h
  ·have:(10000:Int) ^ i*(((v / 10000 ^ i:Nat):Int) - q*B)<=10000 ^ i*(-1):=Int.mul_le_mul_of_nonneg_left aA aA;omega
  ·exact h
 have hqe:q=((v / 10000 ^ i / B:Nat):Int):=by
  have e:((v / 10000 ^ i / B:Nat):Int)=((v / 10000 ^ i:Nat):Int) / (B:Int):=by simp
  have h1:=h.q0.1;have h2:q<=((v / 10000 ^ i:Nat):Int) / (B:Int):=by rw [Int.le_ediv_iff_mul_le aA]; omega
  omega
 refine ⟨hqe,?_⟩;have hk:okD o:=W3 fun j y hy=>by
  by_cases e:j=i+(dig B).length
  ·subst e; rw [hx] at hy; simp only [Ba] at hy; have:=h.top x hx; omega
  ·exact h.ok j y e hy
 have hle:10000 ^ i*(v / 10000 ^ i / B*B)<=v:=by
  refine Fp (Pd _ (Nat.div_mul_le_self _ _)) (Nat.mul_div_le _ _)
 have j8:val o=((v - 10000 ^ i*(v / 10000 ^ i / B*B):Nat):Int):=by
  rw [hv,hqe,Int.ofNat_sub hle]; simp
 have:=Ase hk j8;rw [h.len] at this;exact this
structure Back (v B m i k:Nat) (q c:Int) (o:List Int):Prop where
 len:o.length=m
 ok:∀ j x,j≠i+(dig B).length->nth o j=some x->0<=x/\x<10000
 top:∀ x,nth o (i+(dig B).length)=some x->-10000<=x/\x<0
 high:∀ j x,i+(dig B).length<j->nth o j=some x->x=0
 c0:0<=c/\c<=1
 q0:((v / 10000 ^ i / B:Nat):Int)<=q/\q<=9999
 eqv:val o+10000 ^ (i+k)*(c+val ((dig B).drop k))=v - 10000 ^ i*(q*B)
theorem Back.step {v B m i k:Nat} {q c x d y:Int} {o:List Int} (h:Back v B m i k q c o) (hx:nth o (i+k)=some x) (hd:nth (dig B) k=some d) (hy:y=x+d+c) :
  Back v B m i (k+1) q (y.tdiv 10000) (o.set (i+k) (y.tmod 10000))/\0<=y/\y<=19999/\0<=x/\x<10000:=by
 have sk:=Df (Bf B) hd;have hk:=Bn hd;have hxk:=h.ok _ x aA hx;have hc:=h.c0;have e1:y.tdiv 10000=y / 10000:=Cz aA;have e2:y.tmod 10000=y % 10000:=F7 aA;refine ⟨⟨bQ,fun j u hj hu=>?_,fun u hu=>?_,fun j u hj hu=>?_,aA,h.q0,?_⟩,aA,aA,hxk.1,hxk.2⟩
 ·rcases Dh hu with ⟨-,e⟩|⟨-,hu⟩
  ·omega
  ·exact h.ok j u hj hu
 ·rcases Dh hu with ⟨e,-⟩|⟨-,hu⟩
  ·omega
  ·exact h.top u hu
 ·exact Ya0h
 ·have hv:=h.eqv;rw [Aw hd,val] at hv;rw [Hh hx,<- hv,<- Oy,L3,Fu (y.tmod 10000 - x)];generalize (10000:Int) ^ (i+k)=P at *;generalize val ((dig B).drop (k+1))=D at *;rw [G0,Zt,<- Oi];congr 2;omega
theorem Back.done {v B m i:Nat} {q c x:Int} {o:List Int} (h:Back v B m i (dig B).length q c o) (hx:nth o (i+(dig B).length)=some x):Mid v B m i q (o.set (i+(dig B).length) (x+c)):=by
 have hxk:=h.top x hx;have hc:=h.c0;refine ⟨bQ,fun j u hj hu=>?_,fun u hu=>?_,fun j u hj hu=>?_,h.q0,?_⟩
 ·rcases Dh hu with ⟨e,-⟩|⟨-,hu⟩
  ·omega
  ·exact h.ok j u hj hu
 ·exact Ya46
 ·exact Ya0h
 ·have hv:=h.eqv;rw [Fi] at hv;rw [Hh hx,<- hv];simp only [val,Ss];have e:x+c - x=c:=aA
  rw [e,Fu c]
end Go.Proofs.YthelkgdmgihhiaaGreat
namespace Go.Proofs.YthelkgdmgihhiaaGreat
open Go
end Go.Proofs.YthelkgdmgihhiaaGreat
namespace Go.Proofs.YthelkgdmgihhiaaGreat
open Go
structure Quo (A B L j v:Nat) (out:List Int):Prop where
 len:out.length=L
 ok:okD out
 lt:v<B*10000 ^ j
 le:v<=A
 eqv:(A:Int)=v+10000 ^ j*(val (out.drop j)*B)
theorem Au2 {B:Nat} (hB:0<B):10000 ^ ((dig B).length - 1)<=B:=by
 have h0:(dig B).length≠0:=fun h=>by
  have:=Ej.1 (Cw.1 h); omega
 rcases Ig B (10000 ^ ((dig B).length - 1)) with h|h
 ·have:=(Bg (n:=B) (k:=(dig B).length - 1)).2 h; omega
 ·exact h
theorem Quo.start {A B:Nat} (hB:0<B) (hAB:B<=A):Quo A B ((dig A).length - (dig B).length+1) ((dig A).length - (dig B).length+1) A (Cg ((dig A).length - (dig B).length+1) 0):=by
 refine ⟨by simp,Abn _,?_,Ce _,?_⟩
 ·have h1:=(Bg (n:=A) (k:=(dig A).length)).1 (Ce _);have h2:=Au2 hB;have h0:(dig B).length≠0:=fun h=>by
   have:=Ej.1 (Cw.1 h); omega
  have h3:=Mt hAB;have h4:=F6 (10000 ^ ((dig A).length - (dig B).length+1)) h2;rw [<- Nat.pow_add] at h4;have e:(dig B).length - 1+((dig A).length - (dig B).length+1)=(dig A).length:=aA
  rw [e] at h4;omega
 ·rw [Fe (by simp)]; simp [val]
theorem Quo.top {A B L j v:Nat} {out:List Int} (h:Quo A B L j v out) (hj:j≠0):v / 10000 ^ (j - 1)<10000*B:=by
 rw [I8 (kD aP)];have:=h.lt;have e:j=(j - 1)+1:=aA
 rw [e,Oz] at this;rw [Iv 10000 B,Nat.mul_assoc,Iv 10000]; exact this
theorem Quo.step {A B L j v:Nat} {out:List Int} (h:Quo A B L j v out) (hB:0<B) (hj:j≠0) (jd:j<=L) :
  Quo A B L (j - 1) (v - 10000 ^ (j - 1)*(v / 10000 ^ (j - 1) / B*B)) (out.set (j - 1) ((v / 10000 ^ (j - 1) / B:Nat):Int)):=by
 have ht:=h.top hj;have hq:v / 10000 ^ (j - 1) / B<10000:=by rw [I8 hB]; omega
 have k8:v / 10000 ^ (j - 1) / B*B<=v / 10000 ^ (j - 1):=Nat.div_mul_le_self _ _;have sb:10000 ^ (j - 1)*(v / 10000 ^ (j - 1) / B*B)<=v:=Fp (Pd _ k8) (Nat.mul_div_le _ _);have a3n:=Oq (v / 10000 ^ (j - 1)) hB;have hdm:=O9 (v / 10000 ^ (j - 1)) B;have hdv:=O9 v (10000 ^ (j - 1));have rt:=Oq v (kD (n:=j - 1) (show 0<10000 by decide));have hj1:j - 1+1=j:=aA
 refine ⟨bQ,Ns h.ok (Ow _) (Int.ofNat_lt.2 hq),?_,by have:=h.le; omega,?_⟩
 ·generalize 10000 ^ (j - 1)=P at *;generalize v / P / B=q at *;generalize v % P=l at *;generalize v / P % B=r at *;generalize v / P=R at *;have e1:P*R=P*(B*q)+P*r:=by rw [<- hdm,Nat.mul_add]
  have e2:P*(q*B)=P*(B*q):=by rw [Iv q B]
  have e3:P*r+P<=B*P:=by
   rw [<- Nat.mul_succ,Iv]; exact F6 _ a3n
  omega
 ·have hv:=h.eqv;have hlt:j - 1<out.length:=by have:=h.len; omega
  rw [Ph hlt,val,hj1,Int.ofNat_sub sb,hv];have hp:(10000:Int) ^ j=10000 ^ (j - 1)*10000:=by
   have:=L3 (10000:Int) (j - 1);rwa [Nat.succ_eq_add_one,hj1] at this
  rw [hp,iX,iX,Yr,Int.add_mul,Oi];generalize (10000:Int) ^ (j - 1)=P;generalize ((v / 10000 ^ (j - 1) / B:Nat):Int)*(B:Int)=t;rw [G0 P 10000,G0 10000 _ (B:Int)];omega
theorem Quo.done {A B L v:Nat} {out:List Int} (h:Quo A B L 0 v out):Dm out=dig (A / B)/\v=A % B:=by
 have hv:=h.eqv;have hl:=h.lt;rw [Fx,Int.pow_zero,Int.one_mul] at hv;rw [Nat.pow_zero,Fj] at hl;obtain ⟨e1,e2⟩:=Akk (Q:=val out) (R:=(v:Int)) (by rw [hv,Int.add_comm]) (Ow _) (Int.ofNat_lt.2 hl);rw [D6 h.ok,e1];exact ⟨by congr 1,Int.ofNat.inj e2⟩
end Go.Proofs.YthelkgdmgihhiaaGreat
namespace Go.Proofs.YthelkgdmgihhiaaGreat
open Go
end Go.Proofs.YthelkgdmgihhiaaGreat
namespace Go.Proofs.YthelkgdmgihhiaaGreat
open Go Tryz Go.RowKit
theorem Lie.other {w:World} {A A':Nat->Nat->Prop} {b:Nat} (h:∀ o,¬ A' b o):∀ {vs:List Value} {o:Nat},Lie w A b o vs->Lie w A' b o vs
 | [],_,_=>trivial
 | _ :: _,_,⟨h1,_,h3⟩=>⟨h1,h _,Lie.other h h3⟩
theorem B4.other {w:World} {A A':Nat->Nat->Prop} {b:Nat} (h:∀ o,¬ A' b o):∀ (l:List Int) (o:Nat),B4 w A b 1 o (l.map digC)->B4 w A' b 1 o (l.map digC)
 | [],_,_=>by simp only [Cs,B4]
 | x :: l,o,hr=>by
  simp only [Cn,B4] at hr ⊢;obtain ⟨h1,⟨vs,h2,h3⟩,h4⟩:=hr;refine ⟨h1,⟨vs,h2.other h,?_⟩,B4.other h l _ h4⟩;match vs,h3 with
  | [v],h3 =>
   simp only [digC,PRs,PR,and_true] at h3 ⊢;exact h3
theorem Atu {C:Cx} (hs:SR C) {l:List Int} {c:Cap} {v:Value} (h:VR C (.frz (l.map digC) c) v):RD C.w v l:=by
 simp only [VR] at h;obtain ⟨a,len,cap,rfl,h1,h2,-,h4⟩:=h;simp only [RD,digA,VR];refine ⟨a,len,cap,rfl,h1,h2,trivial,h4.imp id ?_⟩;rintro ⟨b,o,sz,ea,hr⟩;exact ⟨b,o,sz,ea,B4.stays (A:=C.Avoid) (fun b' o' v hv ha=>⟨hv,Xc⟩) b sz o _ hr⟩
theorem Zu {C:Cx} (hs:SR C) {w':World} {v:Value} {l:List Int} (h:RD w' v l) (hn:NewB C.w.heap.size v):VR (C.at w') (digA l) v:=by
 obtain ⟨a,cap,rfl,h2,hc⟩:=Mh h;by_cases hl:l=[]
 ·subst hl;simp only [digA,Cs,VR];exact ⟨a,0,cap,rfl,rfl,Cl _,trivial,.inl trivial⟩
 ·simp only [RD,digA,VR] at h ⊢;obtain ⟨a',len,cap',e,h1,h3,-,h4⟩:=h;refine ⟨a',len,cap',e,h1,h3,trivial,.inr ?_⟩;rcases h4 with h4|⟨b,o,sz,ea,hr⟩
  ·exact absurd (by simpa using h4) hl
  ·have hsz:sz=1:=by
    cases l with
    | nil=>exact absurd rfl hl
    | cons y l=>simp only [Cn,B4,digC] at hr; exact hr.1.symm
   subst hsz;subst ea;have hb:=hn b o _ _ e;exact ⟨b,o,1,rfl,B4.other (fun o' ha=>by
    rcases ha with ha|ha
    ·have:=hs.avlt b o' ha; omega
    ·have:=Al4 hs (show C.Mut b o' from ha); omega) l o hr⟩
theorem Ark {C:Cx} {vs:Array Value} (hs:SR C) (l r:List Int) (c d:Cap) (hl:l=dig (val l).toNat) (hr:r=dig (val r).toNat) (cq:r≠[]) (h1:l.length<=90000) (h2:r.length<=90000) (hv:VRs C [.frz (l.map digC) c,.frz (r.map digC) d] vs.toList) :
  Calls prog 228 vs C.w fun e w'=>∃ v C',e=.returned v/\C'.w=w'/\Le C C'/\SR C'/\C'.S=C.S/\C'.tk=C.tk/\C'.n=C.n/\VR C' (.tup [digA (dig ((val l).toNat / (val r).toNat)),digA (dig ((val l).toNat % (val r).toNat))]) v:=by
 obtain ⟨vl⟩:=vs;match vl,hv with
 | [x,y],hv =>
 simp only [VRs,and_true] at hv;obtain ⟨hx,hy⟩:=hv;have hb0:0<(val r).toNat:=by
  rcases jA (val r).toNat with h|h
  ·rw [h,B3] at hr; exact absurd hr cq
  ·exact h
 have pn:0<C.w.heap.size:=by
  simp only [VR] at hy;obtain ⟨a,len,cap,rfl,h1,h2,-,h4⟩:=hy;rcases h4 with h4|⟨b,o,sz,rfl,hr⟩
  ·exact absurd (by simpa using h4) cq
  ·cases r with
   | nil=>exact absurd rfl cq
   | cons z r =>
    simp only [Cn,B4,digC] at hr;obtain ⟨-,⟨vs,p9,hp⟩,-⟩:=hr;match vs,hp with
    | [u],_=>exact Iw (Cl _) (Gx p9.1)
 refine (Abs C.w x y (val l).toNat (val r).toNat pn (by rw [<- hl]; exact Atu hs hx) (by rw [<- hr]; exact Atu hs hy) hb0 (by rw [<- hl]; exact h1) (by rw [<- hr]; exact h2)).mono ?_;rintro e w' ⟨v1,v2,rfl,g1,g2,hb,n1,n2⟩;refine ⟨_,C.at w',rfl,rfl,Le.of_below hb,SR.of_below hs hb,rfl,rfl,rfl,?_⟩;unfold VR;refine ⟨_,rfl,?_⟩;simp only [VRs,and_true];refine ⟨Zu hs g1 n1,?_⟩;rcases n2 with ⟨rfl,e2⟩|n2
 ·rw [e2,<- hl];have zw:=VR.mono (Le.of_below hb) _ _ hx;simp only [digA,VR] at zw ⊢;obtain ⟨a,len,cap,q1,q2,q3,-,q4⟩:=zw;exact ⟨a,len,cap,q1,q2,q3,trivial,q4⟩
 ·exact Zu hs g2 n2
theorem Np:∀ {es:List (List AV)} {l:List Int},Rr es=some l->es=l.map digC
 | [],l,h=>by simp only [Rr,Ba] at h; subst h; rfl
 | e :: es,l,h=>by
  unfold Rr at h;split at h
  ·rename_i he; simp at he
  ·rename_i x r he;simp only [iV] at he;obtain ⟨rfl,rfl⟩:=he;simp only [Cc] at h;obtain ⟨l',h1,rfl⟩:=h;rw [Np h1]; rfl
  ·simp at h
theorem Apw {l r:List Int} {v:AV} (h:quoF l r=some v):l=dig (val l).toNat/\r=dig (val r).toNat/\r≠[]/\l.length<=90000/\r.length<=90000/\v=.tup [digA (dig ((val l).toNat / (val r).toNat)),digA (dig ((val l).toNat % (val r).toNat))]:=by
 unfold quoF at h;split at h
 ·rename_i hh;simp only [Ba] at h;exact ⟨hh.1,hh.2.1,hh.2.2.1,hh.2.2.2.1,hh.2.2.2.2,h.symm⟩
 ·simp at h
theorem Af6 {args:List AV} {S:List Ent} {tk:List Nat} {n:Nat} {r:AV} {S':List Ent} {tk':List Nat} {n':Nat} (h:quoC args S tk n=some (r,S',tk',n')):∃ l y c d,args=[.frz (l.map digC) c,.frz (y.map digC) d]/\quoF l y=some r/\S'=S/\tk'=tk/\n'=n:=by
 unfold quoC at h;split at h
 ·rename_i es c ys d;split at h
  ·rename_i l y hl hy;split at h
   ·rename_i v hv;simp only [Ba,Cf] at h;obtain ⟨rfl,rfl,rfl,rfl⟩:=h;exact ⟨l,y,c,d,by rw [Np hl,Np hy],hv,rfl,rfl,rfl⟩
   ·simp at h
  ·simp at h
 ·simp at h
theorem Agu {args:List AV} {S:List Ent} {tk:List Nat} {n:Nat} {r:AV} {S':List Ent} {tk':List Nat} {n':Nat} (h:uniC args S tk n=some (r,S',tk',n')):∃ l c,args=[.frz (l.map strC) c,.frz [] .nilc]/\l.length<=1000000/\(!l.isEmpty || Ur c)=true/\r=Ap (uniS l)/\S'=S/\tk'=tk/\n'=n:=by
 unfold uniC at h;split at h
 ·rename_i es c;split at h
  ·rename_i l hl;split at h
   ·rename_i hlen;simp only [Ch,decide_eq_true_eq] at hlen;simp only [Ba,Cf] at h;obtain ⟨rfl,rfl,rfl,rfl⟩:=h;exact ⟨l,c,by rw [Vu hl],hlen.1,hlen.2,rfl,rfl,rfl,rfl⟩
   ·simp at h
  ·simp at h
 ·simp at h
theorem Avl {l y:List Int} {c d:Cap} {r:AV} (hq:quoF l y=some r) (S:List Ent) (tk:List Nat) (n:Nat):quoC [.frz (l.map digC) c,.frz (y.map digC) d] S tk n=some (r,S,tk,n):=by simp [quoC,Qy,hq]
theorem Arg {l:List ByteArray} {c:Cap} (hlen:l.length<=1000000) (hc:(!l.isEmpty || Ur c)=true) (S:List Ent) (tk:List Nat) (n:Nat):uniC [.frz (l.map strC) c,.frz [] .nilc] S tk n=some (Ap (uniS l),S,tk,n):=by
 simp only [uniC,Xb];rw [if_pos (by rw [hc]; simpa using hlen)]
theorem Aao {f:FuncId} {args:List AV} {S:List Ent} {tk:List Nat} {n:Nat} {r:AV} {S':List Ent} {tk':List Nat} {n':Nat} (h:@extC prog E1 f args S tk n=some (r,S',tk',n')) :
  (f=78/\uniC args S tk n=some (r,S',tk',n'))\/(f=228/\quoC args S tk n=some (r,S',tk',n')):=by
 unfold extC at h;split at h
 ·simp only [Ext.call] at h;split at h
  ·rename_i hf; exact .inl ⟨by simpa using hf,h⟩
  ·split at h
   ·rename_i hf; exact .inr ⟨by simpa using hf,h⟩
   ·simp at h
 ·simp at h
theorem Ao7 (args:List AV) (S:List Ent) (tk:List Nat) (n:Nat):@extC prog E1 78 args S tk n=uniC args S tk n:=by
 simp [extC,Ext.on,Ext.call]
theorem Ao6 (args:List AV) (S:List Ent) (tk:List Nat) (n:Nat):@extC prog E1 228 args S tk n=quoC args S tk n:=by
 simp [extC,Ext.on,Ext.call]
@[reducible] noncomputable instance E1i:Ext prog:=E1
instance ok1:Agx prog:={
 ok:=fun f args S tk n r S' tk' n' h=>by
  rcases Aao h with ⟨rfl,hh⟩|⟨rfl,hh⟩
  ·obtain ⟨l,c,rfl,hlen,hc,rfl,rfl,rfl,rfl⟩:=Agu hh;refine ⟨⟨_,func78,aX,aX⟩,fun C vs h1 h2 h3 hs hv=>?_⟩;subst h1 h2 h3;refine Ajg hs l c hlen (fun e=>?_) hv;subst e;cases c <;> simp [Ur] at hc;rfl
  ·obtain ⟨l,y,c,d,rfl,hq,rfl,rfl,rfl⟩:=Af6 hh;refine ⟨⟨_,func228,aX,aX⟩,fun C vs h1 h2 h3 hs hv=>?_⟩;subst h1 h2 h3;obtain ⟨q1,q2,q3,q4,q5,rfl⟩:=Apw hq;exact Ark hs l y c d q1 q2 q3 q4 q5 hv
 indep:=fun M f args S tk n r S' tk' n' h=>by
  unfold Gc at h;split at h
  ·rename_i hp;rcases Aao h with ⟨rfl,hh⟩|⟨rfl,hh⟩
   ·obtain ⟨l,c,rfl,hlen,hc,rfl,rfl,rfl,rfl⟩:=Agu hh;refine ⟨rfl,rfl,.inr ⟨rfl,fun S2 tk2 n2=>?_⟩⟩;unfold Gc;rw [if_pos hp,Ao7];exact Arg hlen hc S2 tk2 n2
   ·obtain ⟨l,y,c,d,rfl,hq,rfl,rfl,rfl⟩:=Af6 hh;refine ⟨rfl,rfl,.inr ⟨rfl,fun S2 tk2 n2=>?_⟩⟩;unfold Gc;rw [if_pos hp,Ao6];exact Avl hq S2 tk2 n2
  ·simp at h }
section
variable (S:List Ent) (tk:List Nat) (k:Nat)
theorem Adg (l:List ByteArray) (c:Cap) (hlen:l.length<=1000000) (hc:(!l.isEmpty || Ur c)=true):cL prog 78 [.frz (l.map strC) c,.frz [] .nilc] S tk k=some (Ap (uniS l),S,tk,k):=by
 refine Xu rfl ?_;simp only [Ext.call,beq_self_eq_true,if_true];exact Arg hlen hc S tk k
theorem L6 (a b:Nat) (c d:Cap) (hb:0<b) (ha:(dig a).length<=90000) (hb2:(dig b).length<=90000):cL prog 228 [.frz ((dig a).map digC) c,.frz ((dig b).map digC) d] S tk k=some (.tup [digA (dig (a / b)),digA (dig (a % b))],S,tk,k):=by
 refine Xu rfl ?_;have e1:(val (dig a)).toNat=a:=by rw [Br]; rfl
 have e2:(val (dig b)).toNat=b:=by rw [Br]; rfl
 have hq:quoF (dig a) (dig b)=some (.tup [digA (dig (a / b)),digA (dig (a % b))]):=by
  unfold quoF;rw [e1,e2,if_pos ⟨rfl,rfl,fun h=>by have:=Ej.1 h; omega,ha,hb2⟩]
 simp [Ext.call,quoC,Qy,hq]
end
end Go.Proofs.YthelkgdmgihhiaaGreat
namespace Go.Proofs.YthelkgdmgihhiaaGreat
open Go Tryz
set_option maxRecDepth 100000
theorem Pg {a n:Nat} (h:(dig a).length<=n):a<10000 ^ n:=Bg.1 h
theorem Rk {a k:Nat} : topV (dig a) k<=a:=by
 have h1:val ((dig a).take k)+10000 ^ ((dig a).take k).length*val ((dig a).drop k)=a:=by
  rw [<- Gj,Ir,Br]
 have h2:=Ed (l:=(dig a).take k) fun d hd=>Bf a d (iK hd);have h3:=Ed (l:=(dig a).drop k) fun d hd=>Bf a d (kE hd);have h4:val ((dig a).drop k)<=10000 ^ ((dig a).take k).length*val ((dig a).drop k):=by
  have hp:(1:Int)<=10000 ^ ((dig a).take k).length:=by
   have:=J0 ((dig a).take k).length; omega
  have:=Int.mul_le_mul_of_nonneg_right hp h3;omega
 unfold topV;omega
theorem Y8 (A:List Int):topV A A.length=0:=Za49
section
variable (S:List Ent) (tk:List Nat) (k:Nat)
theorem Rb (a:Nat) (ha:(dig a).length<=4):cL prog 232 [digA (dig a)] S tk k=some (.int (a:Nat),S,tk,k):=by
 have hsm:a<10000000000000000:=Pg ha;have d3:=Hv (n:=(dig a).length) aA;refine opP func232 ntmps232 ?_;simp (maxSteps:=10^6)+contextual(disch:=try exact dqd)only[ev0,simprocAttr,Ca,Bm,Cb,results232,digA,d3];refine loop1 (P:=prog) (fun x st=>st.T.length=20/\(x.1<=(dig a).length)/\(x.2=((topV (dig a) x.1:Nat):Int))/\getT st.T 0=digA (dig a)/\getT st.T 3=.int x.2/\getT st.T 4=.int ((x.1:Int) - 1)/\st.S=[]) (fun x=>x.1) (fun x=>.int (a:Nat)) ((dig a).length,(0:Int)) ?_ ?_;case refine_2=>exact ⟨rfl,Ce _,by rw [Y8]; rfl,rfl,rfl,rfl,rfl⟩
 rintro ⟨n,v⟩ ⟨T,S',tk',n'⟩ ⟨hl,hn,hv,e0,e3,e4,eS⟩ IH;simp only at hn hv e0 e3 e4 eS;subst eS;obtain ⟨g,hg,hT⟩:=Ar hl;rw [hg] at e0 e3 e4;subst hT;clear hg hl;subst hv;by_cases h0:n=0
 ·subst h0;have d2:decide (((0:Nat):Int) - 1 >= 0)=false:=rfl;have ht:topV (dig a) 0=a:=eZ
  rw [ht] at e3;simp (maxSteps:=10^6)+contextual(disch:=try exact dqd)only[ev0,simprocAttr,Ca,Bm,Cb,results232,e0,e3,e4,d2,digA]
 ·have d2:decide ((n:Int) - 1 >= 0)=true:=aC
  have hi:(n:Int) - 1=((n - 1:Nat):Int):=aA
  obtain ⟨x,hx⟩:=Ac (show n - 1<(dig a).length by omega);have hx':=B0 hx;have hxk:=Df (Bf a) hx;have aj:=Ql (Bf a) hx;rw [show n - 1+1=n by omega] at aj;have hb1:=Rk (a:=a) (k:=n);have hb2:=Rk (a:=a) (k:=n - 1);have hp:=Hv (n:=n - 1) aA;have hw1:Cd.wrap ((topV (dig a) n:Int)*10000)=(topV (dig a) n:Int)*10000:=Aa aD;have hw2:Cd.wrap ((topV (dig a) n:Int)*10000+x)=((topV (dig a) (n - 1):Nat):Int):=by
   rw [Aa aD]; omega
  rw [hi] at e4 d2;simp (maxSteps:=10^6)+contextual(disch:=try exact dqd)only[ev0,simprocAttr,Ca,Bm,Cb,results232,e0,e3,e4,d2,digA,hx',hp,hw1,hw2];exact IH (n - 1,((topV (dig a) (n - 1):Nat):Int)) _ aF ⟨rfl,aE,rfl,aB,aB,aB,aB⟩
theorem Ah7 (a:Nat) (ha:a<10000000000000000):cL prog 230 [.int (a:Nat)] S tk k=some (digA (dig a),S,tk,k):=by
 refine opP func230 ntmps230 ?_;simp (maxSteps:=10^6)+contextual(disch:=try exact dqd)only[ev0,simprocAttr,Ca,Bm,Cb,results230];refine loop1 (P:=prog) (fun x st=>st.T.length=14/\(x.1<=a)/\(x.2.1++dig x.1=dig a)/\(Be st.tk x.2.2 1=true)/\getT st.T 0=.int (x.1:Nat)/\getT st.T 3=.frz (x.2.1.map digC) x.2.2/\st.S=[]) (fun x=>x.1) (fun x=>digA (dig a)) (a,[],.nilc) ?_ ?_;case refine_2=>exact ⟨rfl,Ce _,rfl,rfl,rfl,rfl,rfl⟩
 rintro ⟨m,zs,cp⟩ ⟨T,S',tk',n'⟩ ⟨hl,hm,he,ab,e0,e3,eS⟩ IH;simp only at hm he ab e0 e3 eS;subst eS;obtain ⟨g,hg,hT⟩:=Ar hl;rw [hg] at e0 e3;subst hT;clear hg hl;have hr:=Dv zs;have am:=Bi ab;have hla:(dig a).length<=4:=Bg.2 ha;have hzl:zs.length<=4:=by
  have:=congrArg List.length he;simp at this; omega
 have ci:(zs.map digC).length+1<=1048576:=aC
 by_cases h0:m=0
 ·subst h0;have d1:decide (((0:Nat):Int) > 0)=false:=rfl;rw [B3,Fo] at he;subst he;simp (maxSteps:=10^6)+contextual(disch:=try exact dqd)only[ev0,simprocAttr,Ca,Bm,Cb,results230,e0,e3,d1];rfl
 ·have d1:decide ((m:Int) > 0)=true:=aC
  have ft:¬ ((10000:Int)=0):=aA
  have hq:Cd.wrap ((m:Int).tdiv 10000)=((m / 10000:Nat):Int):=by
   rw [Cz aA,Aa aD]; rfl
  have fg:(m:Int).tmod 10000=((m % 10000:Nat):Int):=cC
  simp (maxSteps:=10^6)+contextual(disch:=try exact dqd)only[ev0,simprocAttr,Ca,Bm,Cb,results230,e0,e3,d1,ft,hq,fg,hr];exact IH (m / 10000,zs++[((m % 10000:Nat):Int)],Az tk' cp 1) _ aF ⟨rfl,aE,by rw [<- he,Ju h0]; simp,am,aB,aB,aB⟩
theorem Vj (a b:Nat) (ha:(dig a).length<=90000) (hb:(dig b).length<=90000):cL prog 227 [digA (dig a),digA (dig b)] S tk k=some (digA (dig (a.gcd b)),S,tk,k):=by
 refine opP func227 ntmps227 ?_;simp (maxSteps:=10^6)+contextual(disch:=try exact dqd)only[ev0,simprocAttr,Ca,Bm,Cb,results227,digA];refine loop1 (P:=prog) (fun x st=>st.T.length=33/\(x.1.gcd x.2=a.gcd b)/\((dig x.1).length<=90000)/\((dig x.2).length<=90000)/\getT st.T 0=digA (dig x.1)/\getT st.T 1=digA (dig x.2)/\st.S=[]) (fun x=>x.2) (fun x=>digA (dig (a.gcd b))) (a,b) ?_ ?_;case refine_2=>exact ⟨rfl,rfl,ha,hb,rfl,rfl,rfl⟩
 rintro ⟨x,y⟩ ⟨T,S',tk',n'⟩ ⟨hl,hg,hx,hy,e0,e1,eS⟩ IH;simp only at hg hx hy e0 e1 eS;subst eS;obtain ⟨g,hg,hT⟩:=Ar hl;rw [hg] at e0 e1;subst hT;clear hg hl;by_cases h0:y=0
 ·subst h0;have d1:decide ((((dig 0).length:Nat):Int) > 0)=false:=rfl;rw [Nd] at hg;simp (maxSteps:=10^6)+contextual(disch:=try exact dqd)only[ev0,simprocAttr,Ca,Bm,Cb,results227,e0,e1,d1,digA];rw [hg]
 ·have hyl:0<(dig y).length:=Ic.2 fun h=>h0 (Ej.1 h);have d1:decide (((dig y).length:Int) > 0)=true:=aC
  have hQ c d S tk k:=L6 S tk k x y c d aA hx hy;simp only [digA] at hQ;have hlt:=Oq x (by omega:0<y);have hym:(dig (x % y)).length<=90000:=Fp (Bg.2 (Nat.lt_trans hlt (Bg.1 (Ce _)))) hy;have hgn:y.gcd (x % y)=a.gcd b:=Za0f
  by_cases h4:(dig x).length<=4
  ·have d2:decide (((dig x).length:Int)<=4)=true:=aC
   by_cases h5:(dig y).length<=4
   ·have d3:decide (((dig y).length:Int)<=4)=true:=aC
    have hx1:x<10000000000000000:=Pg h4;have hy1:y<10000000000000000:=Pg h5;have hN1 S tk k:=Rb S tk k x h4;have hN2 S tk k:=Rb S tk k y h5;have hC S tk k:=told (E:=E1) (Ra S tk k x y aA aA);have hD S tk k:=Ah7 S tk k (x.gcd y) (Iw (jY x aA) hy1);simp only [digA] at hN1 hN2 hD;simp (maxSteps:=10^6)+contextual(disch:=try exact dqd)only[ev0,simprocAttr,Ca,Bm,Cb,results227,e0,e1,d1,d2,d3,digA,hN1,hN2,hC,hD];rw [hg]
   ·have d3:decide (((dig y).length:Int)<=4)=false:=aC
    simp (maxSteps:=10^6)+contextual(disch:=try exact dqd)only[ev0,simprocAttr,Ca,Bm,Cb,results227,e0,e1,d1,d2,d3,digA,hQ];exact Ya24
  ·have d2:decide (((dig x).length:Int)<=4)=false:=aC
   simp (maxSteps:=10^6)+contextual(disch:=try exact dqd)only[ev0,simprocAttr,Ca,Bm,Cb,results227,e0,e1,d1,d2,digA,hQ];exact Ya24
end
end Go.Proofs.YthelkgdmgihhiaaGreat
namespace Go.Proofs.YthelkgdmgihhiaaGreat
open Go Tryz
def smB (z:Int):Bool:=!decide (2<(dig z.natAbs).length)
def smN (z:Int):Int:=if smB z=true then z else 0
theorem Ng {z:Int} (h:smB z=true):z.natAbs<100000000:=by
 have h2:(dig z.natAbs).length<=2:=by simpa [smB] using h
 exact Pg h2
theorem zneg (z:Int):(!decide (z<0) && !decide (dig z.natAbs=[]))=decide (-z<0):=by
 have h1:dig z.natAbs=[]↔z.natAbs=0:=Ej;by_cases h:z<0
 ·have h2:¬ (-z<0):=aA
  simp [h]; omega
 ·by_cases h0:z=0
  ·subst h0; rfl
  ·have h2 : -z<0:=aA
   have h3:¬ dig z.natAbs=[]:=fun e=>by have:=h1.1 e; omega
   simp [h,h3]; omega
theorem Jv (n:Nat):decide (((dig n).length:Int) > 0)=!decide (dig n=[]):=by
 cases h:dig n with
 | nil=>rfl
 | cons x l=>simp
theorem Aia (z:Int):sg (decide (z<0)) z.natAbs=z:=by
 by_cases h:z<0 <;> simp [sg,h] <;> omega
theorem Rv {x y:Int} (h:decide (x<0)=decide (y<0)):decide (x+y<0)=decide (x<0)/\(x+y).natAbs=x.natAbs+y.natAbs:=by
 have h':(x<0)↔(y<0):=aL
 constructor
 ·rw [decide_eq_decide]; omega
 ·omega
section
variable (S:List Ent) (tk:List Nat) (k:Nat)
theorem Vl (z:Int):cL prog 263 [zA z] S tk k=some (.tup [.int (smN z),.bool (smB z)],S,tk,k):=by
 refine opP func263 ntmps263 (hp3:=rfl) ?_;by_cases h:(dig z.natAbs).length<=2
 ·have hN S tk k:=Rb S tk k z.natAbs aA;have hb:smB z=true:=dN
  have hlt:=Ng hb;have d1:decide (((dig z.natAbs).length:Int) > 2)=false:=aC
  have e1:smN z=z:=by simp [smN,hb]
  rw [e1,hb];simp only [digA] at hN;by_cases hn:z<0
  ·have d2:decide (z<0)=true:=dB
   have hw:Cd.wrap (0 - (z.natAbs:Int))=z:=aS
   have hw2:Cd.wrap (-(z.natAbs:Int))=z:=aS
   simp (maxSteps:=10^6)+contextual(disch:=try exact dqd)only[ev0,simprocAttr,Ca,Bm,Cb,results263,zA,bigA,digA,d1,d2,hN,hw,hw2]
  ·have d2:decide (z<0)=false:=dB
   have hz:(z.natAbs:Int)=z:=aA
   rw [hz] at hN;simp (maxSteps:=10^6)+contextual(disch:=try exact dqd)only[ev0,simprocAttr,Ca,Bm,Cb,results263,zA,bigA,digA,d1,d2,hN]
 ·have hb:smB z=false:=dN
  have d1:decide (((dig z.natAbs).length:Int) > 2)=true:=aC
  have e1:smN z=0:=by simp [smN,hb]
  rw [e1,hb];simp (maxSteps:=10^6)+contextual(disch:=try exact dqd)only[ev0,simprocAttr,Ca,Bm,Cb,results263,zA,bigA,digA,d1]
theorem Hc (z:Int):cL prog 226 [zA z] S tk k=some (zA z,S,tk,k):=by
 refine opP func226 ntmps226 (hp3:=rfl) ?_;simp (maxSteps:=10^6)+contextual(disch:=try exact dqd)only[ev0,simprocAttr,Ca,Bm,Cb,results226,zA,bigA,digA]
theorem Wd (z:Int):cL prog 264 [zA z] S tk k=some (zA (-z),S,tk,k):=by
 refine opP func264 ntmps264 (hp3:=rfl) ?_;have hz:=zneg z;have hp:=Jv z.natAbs;have ha:(-z).natAbs=z.natAbs:=aA
 simp only [zA,ha];rw [<- hz];cases d1:decide (z<0) with
 | true=>simp (maxSteps:=10^6)+contextual(disch:=try exact dqd)only[ev0,simprocAttr,Ca,Bm,Cb,results264,bigA,digA,d1]
 | false=>simp (maxSteps:=10^6)+contextual(disch:=try exact dqd)only[ev0,simprocAttr,Ca,Bm,Cb,results264,bigA,digA,d1,hp]
end
end Go.Proofs.YthelkgdmgihhiaaGreat
namespace Go.Proofs.YthelkgdmgihhiaaGreat
open Go Tryz
theorem ext_mv1 (f:FuncId) (h:mvF0 f=false):Ext.mv prog f=false:=h
set_option linter.defProp false in
def ev1:=B6 ext_mv1 ev0
set_option linter.defProp false in
def evs1:=B6 ext_mv1 evs0
theorem iq1:((-1:Int) == 1)=false:=rfl
theorem iq2:((0:Int) == 1)=false:=rfl
theorem iq3:((0:Int) == -1)=false:=rfl
theorem iq4:((1:Int) == 1)=true:=rfl
theorem iq5:((-1:Int) == -1)=true:=rfl
theorem Aqc {p:Bool} {n:Nat} (h:n=0->p=false):bigA p (dig n)=zA (sg p n):=by
 unfold zA;rw [Avu];cases p with
 | false =>
  have:¬ ((n:Int)<0):=aA
  simp [sg,this]
 | true =>
  have h0:n≠0:=fun e=>by simpa using h e
  have:(sg true n<0):=by simp [sg]; omega
  simp [this]
theorem Av7 {p q:Bool} (h:p≠q) {X Y:Nat} (hl:Y<X):bigA p (dig (X - Y))=zA (sg p X+sg q Y):=by
 rw [<- Aqo h aA];exact Aqc (fun e=>aA)
theorem Av6 {p q:Bool} (h:p≠q) {X Y:Nat} (hl:X<Y):bigA q (dig (Y - X))=zA (sg p X+sg q Y):=by
 rw [<- Aua h aA];exact Aqc (fun e=>aA)
theorem Amx (x y:Int):bigA (decide (x<0) != decide (y<0) && !decide (dig (x.natAbs*y.natAbs)=[])) (dig (x.natAbs*y.natAbs))=zA (x*y):=by
 rw [Aqc (fun e=>by rw [e,B3]; simp)];congr 1;have h:=Au7 (decide (x<0)) (decide (y<0)) x.natAbs y.natAbs;rw [Aia,Aia] at h;rw [<- h];by_cases h0:x.natAbs*y.natAbs=0
 ·rw [h0]; simp [sg]
 ·have:¬ dig (x.natAbs*y.natAbs)=[]:=fun e=>h0 (Ej.1 e);simp [this]
section
variable (S:List Ent) (tk:List Nat) (k:Nat)
theorem Ail (x y:Int) (hx:(dig x.natAbs).length<=90000) (hy:(dig y.natAbs).length<=90000):cL prog 260 [zA x,zA y] S tk k=some (zA (x+y),S,tk,k):=by
 refine opP func260 ntmps260 (hp3:=rfl) ?_;by_cases hpq:decide (x<0)=decide (y<0)
 ·obtain ⟨h1,h2⟩:=Rv hpq;have hP S tk k:=told (E:=E1) (As2 S tk k x.natAbs y.natAbs aA aA);have d1:(decide (x<0) == decide (y<0))=true:=eM
  simp only [zA,h1,h2];simp only [digA] at hP;simp (maxSteps:=10^6)+contextual(disch:=try exact dqd)only[ev1,simprocAttr,Ca,Bm,Cb,results260,iq1,iq2,iq3,iq4,iq5,bigA,digA,d1,hP]
 ·have d1:(decide (x<0) == decide (y<0))=false:=eM
  have hC S tk k:=told (E:=E1) (Qb S tk k x.natAbs y.natAbs aA aA);have hs:=Aia x;have ht:=Aia y;by_cases wx:y.natAbs<x.natAbs
  ·have hM S tk k:=told (E:=E1) (Af9 S tk k x.natAbs y.natAbs aA aA);have hz:=Av7 hpq wx;rw [hs,ht] at hz;rw [<- hz];have hc:cmpN x.natAbs y.natAbs=1:=by unfold cmpN; rw [if_neg aA,if_pos wx]
   exact Ya0j
  ·by_cases hlt:x.natAbs<y.natAbs
   ·have hM S tk k:=told (E:=E1) (Af9 S tk k y.natAbs x.natAbs aA aA);have hz:=Av6 hpq hlt;rw [hs,ht] at hz;rw [<- hz];have hc:cmpN x.natAbs y.natAbs=-1:=by unfold cmpN; rw [if_pos hlt]
    exact Ya0j
   ·have hc:cmpN x.natAbs y.natAbs=0:=by unfold cmpN; rw [if_neg hlt,if_neg wx]
    have h0:x+y=0:=by
     have h5:¬ ((x<0)↔(y<0)):=eM
     omega
    rw [hc] at hC;rw [h0];simp only [digA] at hC;simp (maxSteps:=10^6)+contextual(disch:=try exact dqd)only[ev1,simprocAttr,Ca,Bm,Cb,results260,iq1,iq2,iq3,iq4,iq5,zA,bigA,digA,d1,hC];first|rfl|(rw [show Int.natAbs 0=0 from rfl,B3]; rfl)|(rw [B3]; rfl)
theorem Em (x y:Int) (hx:(dig x.natAbs).length<=90000) (hy:(dig y.natAbs).length<=90000):cL prog 257 [zA x,zA y] S tk k=some (zA (x*y),S,tk,k):=by
 refine opP func257 ntmps257 (hp3:=rfl) ?_;have hP S tk k:=told (E:=E1) (Vk S tk k x.natAbs y.natAbs aA aA);have hz:=Amx x y;have hp:=Jv (x.natAbs*y.natAbs);simp only [digA] at hP;rw [<- hz];have sv:(decide (x<0) != decide (y<0))=!(decide (x<0) == decide (y<0)):=rfl;rw [sv];cases d1:decide (x<0) == decide (y<0) with
 | true=>simp (maxSteps:=10^6)+contextual(disch:=try exact dqd)only[ev1,simprocAttr,Ca,Bm,Cb,results257,iq1,iq2,iq3,iq4,iq5,zA,bigA,digA,d1,sv,hp,hP,Gf,Hs,Fq,Ff]
 | false=>simp (maxSteps:=10^6)+contextual(disch:=try exact dqd)only[ev1,simprocAttr,Ca,Bm,Cb,results257,iq1,iq2,iq3,iq4,iq5,zA,bigA,digA,d1,sv,hp,hP,Gf,Hs,Fq,Ff]
theorem Vy (x y:Int) (hx:(dig x.natAbs).length<=90000) (hy:(dig y.natAbs).length<=90000):cL prog 259 [zA x,zA y] S tk k=some (zA (x - y),S,tk,k):=by
 refine opP func259 ntmps259 (hp3:=rfl) ?_;have hO S tk k:=Wd S tk k y;have hP S tk k:=Ail S tk k x (-y) hx (by rw [show (-y).natAbs=y.natAbs by omega]; exact hy);rw [show x+-y=x - y by omega] at hP;simp only [zA,bigA,digA] at hO hP;simp (maxSteps:=10^6)+contextual(disch:=try exact dqd)only[ev1,simprocAttr,Ca,Bm,Cb,results259,iq1,iq2,iq3,iq4,iq5,zA,bigA,digA,hO,hP]
theorem Y2 (l:List Int) (c:Cap) (hlen:l.length<=1048576):cL prog 229 [.frz (l.map digC) c] S tk k=some (digA l,S,tk,k):=by
 have hr cs:=Dq (f:=digC) (sz:=1) (fun _=>rfl) cs;cases l with
 | nil =>
  simp only [Cs];refine Rp func229 rfl rfl aX aX ntmps229 rfl rfl _ _ _ ?_ ?_ <;> rw [Atv]
  ·exact Ya17
  ·exact Ya17
 | cons x l =>
  simp only [Cn];refine Pf func229 rfl rfl aX aX ntmps229 rfl rfl _ _ _ rfl ?_; rw [Atv];have dz:=hr (x :: l);simp only [Cn] at dz;have hl:([]:List (List AV)).length+(digC x :: l.map digC).length<=1048576:=by simp at hlen ⊢; omega
  simp (maxSteps:=10^6)+contextual(disch:=try exact dqd)only[ev1,simprocAttr,Ca,Bm,Cb,results229,iq1,iq2,iq3,iq4,iq5,Mv,digA,dz]
end
end Go.Proofs.YthelkgdmgihhiaaGreat
namespace Go.Proofs.YthelkgdmgihhiaaGreat
open Go Tryz
set_option maxRecDepth 100000
theorem Zb {n:Int} (h0:0<=n) (h1:n<18446744073709551616):kF.wrap n=n:=by
 have e:(n.toNat:Int)=n:=aA
 rw [<- e];exact Go.IntWalk.u64_in _ aA
theorem Ap9 (u:Int):(u.tmod 10000).natAbs=u.natAbs % 10000:=by
 rw [Int.natAbs_tmod]; rfl
theorem Ap8 (u:Int):(u.tdiv 10000).natAbs=u.natAbs / 10000:=by
 rw [kJ]; rfl
theorem uwrap (n:Int):kF.wrap n=n % 18446744073709551616:=by
 simp [IntKind.wrap,IntKind.bits,IntKind.signed]
theorem Akj {n:Nat} (h:n<10000000000000000000):(dig n).length<=5:=Bg.2 (F3 h aP)
theorem Adm {u N:Nat} {out:List Int} (he:out++dig u=dig N) (h:u≠0):(out++[((u % 10000:Nat):Int)])++dig (u / 10000)=dig N:=by
 rw [<- he,Ju h]; simp
theorem Al9 {u N:Nat} {out:List Int} (he:out++dig u=dig N) (hN:N<10000000000000000000):out.length<=5:=by
 have:=Akj hN;rw [<- he] at this; simp at this; omega
theorem Adl {N:Nat} {out:List Int} (he:out++dig 0=dig N):out=dig N:=by rw [<- he,B3,Fo]
section
variable (S:List Ent) (tk:List Nat) (k:Nat)
theorem T3 (n:Int) (hn:i64 n):cL prog 54 [.int n] S tk k=some (zA n,S,tk,k):=by
 refine opP func54 ntmps54 (hp3:=rfl) ?_;have hn':=hn;unfold i64 at hn';have hN:n.natAbs<10000000000000000000:=aA
 cases d0:decide (n<0) with
 | true =>
  simp only [decide_eq_true_eq] at d0;have d0':decide (n<0)=true:=by simpa using d0
  have q0:kF.wrap (0 - kF.wrap n)=((n.natAbs:Nat):Int):=by rw [uwrap,uwrap]; omega
  exact Ya3
 | false =>
  simp only [decide_eq_false_iff_not] at d0;have d0':decide (n<0)=false:=by simpa using d0
  have q0:kF.wrap n=((n.natAbs:Nat):Int):=by rw [Zb aA aA]; omega
  exact Ya3
theorem N5 (n:Int) (hn:i64 n):cL prog 165 [.int n] S tk k=some (zA n,S,tk,k):=by
 refine opP func165 ntmps165 (hp3:=rfl) ?_;have hn':=hn;unfold i64 at hn';have hN:n.natAbs<10000000000000000000:=aA
 simp (maxSteps:=10^6)+contextual(disch:=try exact dqd)only[ev0,simprocAttr,Ca,Bm,Cb,results165];refine loop1 (P:=prog) (fun x st=>st.T.length=25/\(i64 x.1)/\(x.2.1++dig x.1.natAbs=dig n.natAbs)/\(Be st.tk x.2.2 1=true)/\getT st.T 0=.int x.1/\getT st.T 2=.ref 0 0 0/\getT st.T 3=.frz (x.2.1.map digC) x.2.2/\getT st.T 4=.bool (decide (n<0))/\st.S=[⟨0,[.bool false,.frz [] .nilc]⟩]) (fun x=>x.1.natAbs) (fun x=>zA n) (n,[],.nilc) ?_ ?_;case refine_2=>exact ⟨rfl,hn,rfl,rfl,rfl,rfl,rfl,rfl,rfl⟩
 rintro ⟨u,out,c⟩ ⟨T,S',tk',n'⟩ ⟨hl,hu,he,ab,e0,e2,e3,e4,eS⟩ IH;simp only at hu he ab e0 e2 e3 e4 eS;subst eS;obtain ⟨g,hg,hT⟩:=Ar hl;rw [hg] at e0 e2 e3 e4;subst hT;clear hg hl;have hlen:=Al9 he hN;have hr:=Dv out;have am:=Bi ab;unfold i64 at hu;by_cases h0:u=0
 ·have d1:(u != 0)=false:=aC
  subst h0;have hd:=Adl he;subst hd;simp (maxSteps:=10^6)+contextual(disch:=try exact dqd)only[ev0,simprocAttr,Ca,Bm,Cb,results165,e0,e2,e3,e4,d1];simp [zA,bigA,digA]
 ·have d1:(u != 0)=true:=aC
  have ft:¬ ((10000:Int)=0):=aA
  have ci:(out.map digC).length+1<=1048576:=aC
  have t1:=Ap9 u;have t2:=Ap8 u;have q1:Cd.wrap (u.tmod 10000)=u.tmod 10000:=Aa aD;have q3:Cd.wrap (u.tdiv 10000)=u.tdiv 10000:=Aa aD;have hs:=Adm he (u:=u.natAbs) aA;cases d2:decide (u.tmod 10000<0) with
  | true =>
   simp only [decide_eq_true_eq] at d2;have d2':decide (u.tmod 10000<0)=true:=by simpa using d2
   have q4:Cd.wrap (0 - u.tmod 10000)=((u.natAbs % 10000:Nat):Int):=aS
   simp (maxSteps:=10^6)+contextual(disch:=try exact dqd)only[ev0,simprocAttr,Ca,Bm,Cb,results165,e0,e2,e3,e4,d1,ft,q1,q3,d2',q4,hr];exact Ya1d
  | false =>
   simp only [decide_eq_false_iff_not] at d2;have d2':decide (u.tmod 10000<0)=false:=by simpa using d2
   have q4:u.tmod 10000=((u.natAbs % 10000:Nat):Int):=aA
   rw [q4] at d2' q1;simp (maxSteps:=10^6)+contextual(disch:=try exact dqd)only[ev0,simprocAttr,Ca,Bm,Cb,results165,e0,e2,e3,e4,d1,ft,q4,q1,q3,d2',hr];exact Ya1d
end
end Go.Proofs.YthelkgdmgihhiaaGreat
namespace Go.Proofs.YthelkgdmgihhiaaGreat
open Go Tryz
def ratA (p:Bool) (l:List Int) (q:Bool) (r:List Int):AV:=.agg [.prim (.bool p),digA l,.prim (.bool q),digA r]
def qA (n d:Int):AV:=ratA (decide (n<0)) (dig n.natAbs) (decide (d<0)) (dig d.natAbs)
def lowN (n d:Int):Int:=(if d<0 then -n else n).tdiv ((n.natAbs.gcd d.natAbs:Nat):Int)
def lowD (n d:Int):Int:=((d.natAbs / n.natAbs.gcd d.natAbs:Nat):Int)
section
variable (S:List Ent) (tk:List Nat) (k:Nat)
theorem Adv (n:Int) (hn:i64 n):cL prog 148 [.int n] S tk k=some (qA n 1,S,tk,k):=by
 refine opP func148 ntmps148 (hp3:=rfl) ?_;have h1 S tk k:=T3 S tk k n hn;have h2 S tk k:=T3 S tk k 1 aD;simp only [zA,bigA,digA] at h1 h2;simp (maxSteps:=10^6)+contextual(disch:=try exact dqd)only[ev1,simprocAttr,Ca,Bm,Cb,results148,qA,ratA,digA,h1,h2]
theorem Apz:cL prog 262 [] S tk k=some (qA 0 1,S,tk,k):=by
 refine opP func262 ntmps262 (hp3:=rfl) ?_;have h1 S tk k:=Adv S tk k 0 aD;simp only [qA,ratA,digA] at h1;simp (maxSteps:=10^6)+contextual(disch:=try exact dqd)only[ev1,simprocAttr,Ca,Bm,Cb,results262,qA,ratA,digA,h1]
theorem Qc (a b c d:Int):cL prog 255 [qA a b,qA c d] S tk k=some (.tup [.agg [.int (smN a),.int (smN b),.int (smN c),.int (smN d)],.bool (smB a && smB b && smB c && smB d)],S,tk,k):=by
 refine opP func255 ntmps255 (hp3:=rfl) ?_;have h z S tk k:=Vl S tk k z;simp only [zA,bigA,digA] at h;cases d1:smB a with
 | false=>simp (maxSteps:=10^6)+contextual(disch:=try exact dqd)only[ev1,simprocAttr,Ca,Bm,Cb,results255,qA,ratA,digA,h,d1,Ff]
 | true =>
  cases d2:smB b with
  | false=>simp (maxSteps:=10^6)+contextual(disch:=try exact dqd)only[ev1,simprocAttr,Ca,Bm,Cb,results255,qA,ratA,digA,h,d1,d2,Ff,Fq]
  | true =>
   cases d3:smB c with
   | false=>simp (maxSteps:=10^6)+contextual(disch:=try exact dqd)only[ev1,simprocAttr,Ca,Bm,Cb,results255,qA,ratA,digA,h,d1,d2,d3,Ff,Fq]
   | true=>simp (maxSteps:=10^6)+contextual(disch:=try exact dqd)only[ev1,simprocAttr,Ca,Bm,Cb,results255,qA,ratA,digA,h,d1,d2,d3,Ff,Fq]
theorem L5 (n d:Int) (hn:n.natAbs<=100000000000000000) (hd:d.natAbs<=100000000000000000) (dd:d≠0):cL prog 256 [.int n,.int d] S tk k=some (qA (lowN n d) (lowD n d),S,tk,k):=by
 refine opP func256 ntmps256 (hp3:=rfl) ?_;have hC S tk k:=told (E:=E1) (Ra S tk k n.natAbs d.natAbs aA aA);have lg:0<n.natAbs.gcd d.natAbs:=Iq _ aA;have hgz:¬ (((n.natAbs.gcd d.natAbs:Nat):Int)=0):=aA
 have hm:∀ x:Int,x.natAbs=n.natAbs->(if -x > x then -x else x)=(n.natAbs:Int):=fun x hx=>by split <;> omega
 have hwn:∀ x:Int,x.natAbs=n.natAbs->Cd.wrap (0 - x)=-x:=fun x hx=>aS
 have lj:Cd.wrap (0 - d)=-d:=aS
 have hq:∀ x:Int,x.natAbs=n.natAbs->i64 (x.tdiv ((n.natAbs.gcd d.natAbs:Nat):Int)):=fun x hx=>by
  have h1:(x.tdiv ((n.natAbs.gcd d.natAbs:Nat):Int)).natAbs<=x.natAbs:=by
   rw [kJ]; exact Sq _ _
  unfold i64; omega
 have yc:i64 (lowD n d):=by
  have:=Sq d.natAbs (n.natAbs.gcd d.natAbs);unfold i64 lowD;generalize d.natAbs / n.natAbs.gcd d.natAbs=z at *;omega
 have hdq:∀ x:Int,x=(d.natAbs:Int)->x.tdiv ((n.natAbs.gcd d.natAbs:Nat):Int)=lowD n d:=fun x hx=>by
  subst hx;rw [Cz aA]; rfl
 have hB S tk k:=T3 S tk k (lowD n d) yc;by_cases h:d<0
 ·have d1:decide (d<0)=true:=aL
  have hN:lowN n d=(-n).tdiv ((n.natAbs.gcd d.natAbs:Nat):Int):=by unfold lowN; rw [if_pos h]
  have hA S tk k:=T3 S tk k (lowN n d) (by rw [hN]; exact hq _ aA);have fg:=hm (-n) aA;have hw1:=hwn n rfl;have hw2:=hwn (-n) aA;have hw3:Cd.wrap ((-n).tdiv ((n.natAbs.gcd d.natAbs:Nat):Int))=lowN n d:=by
   rw [hN]; have:=hq (-n) aA; exact Aa this
  have hw4:Cd.wrap ((-d).tdiv ((n.natAbs.gcd d.natAbs:Nat):Int))=lowD n d:=by
   rw [hdq (-d) aA]; exact Aa yc
  have hda:(-d)=(d.natAbs:Int):=aA
  have hC':∀ S tk k,cL prog 231 [.int (n.natAbs:Int),.int (-d)] S tk k=some (.int ((n.natAbs.gcd d.natAbs:Nat):Int),S,tk,k):=fun S tk k=>by
   have:=hC S tk k;rwa [<- hda] at this
  simp only [zA,bigA,digA] at hA hB;simp (maxSteps:=10^6)+contextual(disch:=try exact dqd)only[ev1,simprocAttr,Ca,Bm,Cb,results256,maxA_int,qA,ratA,digA,d1,hw1,hw2,lj,fg,hC',hgz,hw3,hw4,hA,hB]
 ·have d1:decide (d<0)=false:=aL
  have hN:lowN n d=n.tdiv ((n.natAbs.gcd d.natAbs:Nat):Int):=by unfold lowN; rw [if_neg h]
  have hA S tk k:=T3 S tk k (lowN n d) (by rw [hN]; exact hq _ aA);have fg:=hm n aA;have hw1:=hwn n rfl;have hw3:Cd.wrap (n.tdiv ((n.natAbs.gcd d.natAbs:Nat):Int))=lowN n d:=by
   rw [hN]; have:=hq n aA; exact Aa this
  have hw4:Cd.wrap (d.tdiv ((n.natAbs.gcd d.natAbs:Nat):Int))=lowD n d:=by
   rw [hdq d aA]; exact Aa yc
  have hda:d=(d.natAbs:Int):=aA
  have hC2:∀ S tk k,cL prog 231 [.int (n.natAbs:Int),.int d] S tk k=some (.int ((n.natAbs.gcd d.natAbs:Nat):Int),S,tk,k):=fun S tk k=>by
   have:=hC S tk k;rwa [<- hda] at this
  simp only [zA,bigA,digA] at hA hB;simp (maxSteps:=10^6)+contextual(disch:=try exact dqd)only[ev1,simprocAttr,Ca,Bm,Cb,results256,maxA_int,qA,ratA,digA,d1,hw1,fg,hC2,hgz,hw3,hw4,hA,hB]
end
end Go.Proofs.YthelkgdmgihhiaaGreat
namespace Go.Proofs.YthelkgdmgihhiaaGreat
open Go Tryz
theorem G4 {p:Bool} {l:List Int} (h:Dy p l=true):p=decide (V p l<0)/\l=dig (V p l).natAbs:=by
 have ha:=At8 p l;rw [if_pos h] at ha;refine ⟨?_,ha.symm⟩;have hs:=V_sg p l;cases p with
 | false =>
  have:¬ V false l<0:=by rw [hs]; simp [sg]
  simp [this]
 | true =>
  have hl:l≠[]:=fun e=>by subst e; simp [Dy] at h
  have h0:(V true l).natAbs≠0:=fun e=>by rw [e,B3] at ha; exact hl ha.symm
  have:V true l<0:=by rw [hs]; simp only [sg,if_true]; omega
  simp [this]
def M3 (n d:Int):Bool:=decide (0<d) && decide (n.natAbs.gcd d.natAbs=1)
def J4 (p:Bool) (l:List Int) (q:Bool) (r:List Int):Bool:=Dy p l && Dy q r && M3 (V p l) (V q r)
def nQ (p:Bool) (l:List Int) (q:Bool) (r:List Int):Int:=if J4 p l q r=true then V p l else 0
def dQ (p:Bool) (l:List Int) (q:Bool) (r:List Int):Int:=if J4 p l q r=true then V q r else 1
theorem Ar8 (g:Nat):decide (cmpN g 1=0)=decide (g=1):=by
 rw [decide_eq_decide];unfold cmpN;split
 ·omega
 ·split <;> omega
section
variable (S:List Ent) (tk:List Nat) (k:Nat)
theorem Yu (a:Nat) (ha:(dig a).length<=1000000):cL prog 233 [digA (dig a),.frz [[.prim (.int .i64 1)]] .tight] S tk k=some (.int (cmpN a 1),S,tk,k):=by
 have qe:dig 1=[(1:Int)]:=Nl (d:=(1:Int)) aA aA;have h2:=told (E:=E1) (Qb S tk k a 1 ha (by rw [qe]; simp));rw [qe] at h2;exact (Aco (args:=[digA (dig a),.frz [[.prim (.int .i64 1)]] .tight]) (args':=[digA (dig a),digA [(1:Int)]]) rfl rfl rfl).trans h2
theorem Amo (p:Bool) (l:List Int) (q:Bool) (r:List Int) (hl:l.length<=1000000) (hr:r.length<=1000000):cL prog 261 [ratA p l q r] S tk k=some (.bool (J4 p l q r),S,tk,k):=by
 have ll S tk k:=told (E:=E1) (Pe S tk k p l .unk hl);have lm S tk k:=told (E:=E1) (Pe S tk k q r .unk hr);refine opP func261 ntmps261 (hp3:=rfl) ?_;unfold J4;cases h1:Dy p l with
 | false =>
  rw [h1] at ll;simp (maxSteps:=10^6)+contextual(disch:=try exact dqd)only[ev1,simprocAttr,Ca,Bm,Cb,results261,ratA,digA,ll,Ff]
 | true =>
 rw [h1] at ll;cases h2:Dy q r with
 | false =>
  rw [h2] at lm;simp (maxSteps:=10^6)+contextual(disch:=try exact dqd)only[ev1,simprocAttr,Ca,Bm,Cb,results261,ratA,digA,ll,lm,Ff,Fq]
 | true =>
 rw [h2] at lm;obtain ⟨hp,d9⟩:=G4 h1;obtain ⟨hq,sw⟩:=G4 h2;have lw:=(Jk h1).2.2;have i5:=(Jk h2).2.2;by_cases sx:q=true
 ·subst sx;have hg:M3 (V p l) (V true r)=false:=by
   have:V true r<0:=fL
   have h3:¬ 0<V true r:=aA
   simp [M3,h3]
  rw [hg];simp (maxSteps:=10^6)+contextual(disch:=try exact dqd)only[ev1,simprocAttr,Ca,Bm,Cb,results261,ratA,digA,ll,lm,Fq]
 ·have hqf:q=false:=by simpa using sx
  subst hqf;have dd:0<=V false r:=by
   have:¬ V false r<0:=fL
   omega
  by_cases cq:r=[]
  ·subst cq;have hg:M3 (V p l) (V false [])=false:=by
    have:V false []=0:=Za4o
    simp [M3,this]
   rw [hg];simp only [Cs] at lm;have iz:(((0:Nat):Int) == 0)=true:=rfl;simp (maxSteps:=10^6)+contextual(disch:=try exact dqd)only[ev1,simprocAttr,Ca,Bm,Cb,results261,ratA,digA,ll,lm,iz,Fq]
  ·have wb:(((r.length:Nat):Int) == 0)=false:=by
    exact Ya3b
   have hd1:0<V false r:=by
    have:(V false r).natAbs≠0:=fun e=>cq (by rw [sw,e,B3]);omega
   have hgd:M3 (V p l) (V false r)=decide ((V p l).natAbs.gcd (V false r).natAbs=1):=by simp [M3,hd1]
   rw [hgd];have ck S tk k:=Vl S tk k (V p l);have bm S tk k:=Vl S tk k (V false r);simp only [zA,bigA,digA,<- hp,<- d9,<- hq,<- sw] at ck bm;by_cases hs:smB (V p l)=true/\smB (V false r)=true
   ·obtain ⟨s1,s2⟩:=hs;have e1:smN (V p l)=V p l:=by simp [smN,s1]
    have e2:smN (V false r)=V false r:=by simp [smN,s2]
    have b1:=Ng s1;have b2:=Ng s2;rw [e1,s1] at ck;rw [e2,s2] at bm;have hw:Cd.wrap (0 - V p l)=- V p l:=aS
    have hm:(if - V p l > V p l then - V p l else V p l)=((V p l).natAbs:Int):=by split <;> omega
    have hC S tk k:=told (E:=E1) (Ra S tk k (V p l).natAbs (V false r).natAbs aA aA);have hda:((V false r).natAbs:Int)=V false r:=aA
    rw [hda] at hC;have kv:((((V p l).natAbs.gcd (V false r).natAbs:Nat):Int) == 1)=decide ((V p l).natAbs.gcd (V false r).natAbs=1):=by
     rw [Vn]; simp; omega
    simp (maxSteps:=10^6)+contextual(disch:=try exact dqd)only[ev1,simprocAttr,Ca,Bm,Cb,results261,maxA_int,ratA,digA,ll,lm,wb,ck,bm,hw,hm,hC,kv,Fq]
   ·have hD S tk k:=Vj S tk k (V p l).natAbs (V false r).natAbs (by rw [<- d9]; omega) (by rw [<- sw]; omega);rw [<- d9,<- sw] at hD;have hgl:(dig ((V p l).natAbs.gcd (V false r).natAbs)).length<=200:=by
     have h3:(V p l).natAbs.gcd (V false r).natAbs<=(V false r).natAbs:=jY _ aA;have h4:(dig (V false r).natAbs).length<=200:=by rw [<- sw]; exact i5
     exact Bg.2 (Iw h3 (Bg.1 h4))
    have hO S tk k:=Yu S tk k ((V p l).natAbs.gcd (V false r).natAbs) aA;have du:(cmpN ((V p l).natAbs.gcd (V false r).natAbs) 1 == 0)=decide ((V p l).natAbs.gcd (V false r).natAbs=1):=by
     rw [<- Ar8]; rfl
    simp only [digA] at hD hO;cases s1:smB (V p l) with
    | false =>
     rw [s1] at ck;exact Ya0p
    | true =>
     have s2:smB (V false r)=false:=by simpa [s1] using hs
     rw [s1] at ck;rw [s2] at bm;exact Ya0p
end
end Go.Proofs.YthelkgdmgihhiaaGreat
namespace Go.Proofs.YthelkgdmgihhiaaGreat
open Go Tryz
theorem Vx {p:Bool} {l:List Int} {q:Bool} {r:List Int} (h:J4 p l q r=true):Dy p l=true/\Dy q r=true/\M3 (V p l) (V q r)=true:=by
 unfold J4 at h;simp only [Ch] at h;exact ⟨h.1.1,h.1.2,h.2⟩
theorem W8 {p:Bool} {l:List Int} {q:Bool} {r:List Int} (h:J4 p l q r=true):ratA p l q r=qA (V p l) (V q r):=by
 obtain ⟨h1,h2,-⟩:=Vx h;obtain ⟨a1,a2⟩:=G4 h1;obtain ⟨b1,b2⟩:=G4 h2;unfold qA;rw [<- a1,<- a2,<- b1,<- b2]
structure Jm (n d:Int):Prop where
 pos:0<d
 cop:n.natAbs.gcd d.natAbs=1
 ln:(dig n.natAbs).length<=200
 ld:(dig d.natAbs).length<=200
theorem Ez (p:Bool) (l:List Int) (q:Bool) (r:List Int):Jm (nQ p l q r) (dQ p l q r):=by
 unfold nQ dQ;cases h:J4 p l q r with
 | false =>
  simp only [C6,if_false];exact ⟨aA,rfl,aX,aX⟩
 | true =>
  obtain ⟨h1,h2,h3⟩:=Vx h;simp only [M3,Ch,decide_eq_true_eq] at h3;exact ⟨h3.1,h3.2,Aoo p l,Aoo q r⟩
def Er (n d:Int):Bool:=!decide (d=0) && okZ (lowN n d) && okZ (lowD n d)
def resN (n d:Int):Int:=if Er n d=true then lowN n d else 0
def resD (n d:Int):Int:=if Er n d=true then lowD n d else 0
def resQ (n d:Int):AV:=.tup [qA (resN n d) (resD n d),.bool (Er n d)]
theorem Q6 (n d:Int):(lowN n d).natAbs=n.natAbs / n.natAbs.gcd d.natAbs:=by
 unfold lowN;rw [kJ];split <;> simp <;> rfl
theorem Afw (n d:Int) (hd:d≠0):(decide (n<0) != decide (d<0) && !decide (dig (n.natAbs / n.natAbs.gcd d.natAbs)=[]))=decide (lowN n d<0):=by
 have ha:=Q6 n d;have lg:0<n.natAbs.gcd d.natAbs:=Iq _ aA;have hz:dig (n.natAbs / n.natAbs.gcd d.natAbs)=[]↔lowN n d=0:=by rw [Ej,<- ha]; omega
 have hsg:∀ x:Int,0<=x->0<=x.tdiv ((n.natAbs.gcd d.natAbs:Nat):Int):=fun x hx=>Int.tdiv_nonneg hx aA;have hneg:∀ x:Int,x<=0->x.tdiv ((n.natAbs.gcd d.natAbs:Nat):Int)<=0:=fun x hx=>by
  have h1:=hsg (-x) aA;rw [Int.neg_tdiv] at h1;omega
 rw [Vn];simp only [Ch,bne_iff_ne,ne_eq,decide_eq_decide,Ih,decide_eq_false_iff_not,decide_eq_true_eq,hz];by_cases h:d<0
 ·have e:lowN n d=(-n).tdiv ((n.natAbs.gcd d.natAbs:Nat):Int):=by unfold lowN; rw [if_pos h]
  have h1:=hsg (-n);have h2:=hneg (-n);rw [<- e] at h1 h2;constructor
  ·rintro ⟨h3,h4⟩; have:0<=n:=aA
   have:=h2 aA; omega
  ·intro h3;have:¬ 0<=-n:=fun h4=>by have:=h1 h4; omega
   omega
 ·have e:lowN n d=n.tdiv ((n.natAbs.gcd d.natAbs:Nat):Int):=by unfold lowN; rw [if_neg h]
  have h1:=hsg n;have h2:=hneg n;rw [<- e] at h1 h2;constructor
  ·rintro ⟨h3,h4⟩; have:n<0:=aA
   have:=h2 aA; omega
  ·intro h3;have:¬ 0<=n:=fun h4=>by have:=h1 h4; omega
   omega
section
variable (S:List Ent) (tk:List Nat) (k:Nat)
theorem Ho (p:Bool) (l:List Int) (q:Bool) (r:List Int) (hl:l.length<=1000000) (hr:r.length<=1000000):cL prog 254 [ratA p l q r] S tk k=some (qA (nQ p l q r) (dQ p l q r),S,tk,k):=by
 have hV S tk k:=Amo S tk k p l q r hl hr;have hZ S tk k:=Apz S tk k;refine opP func254 ntmps254 (hp3:=rfl) ?_;unfold nQ dQ;cases h:J4 p l q r with
 | true =>
  rw [h] at hV;have e:=W8 h;simp only [if_true];rw [<- e];simp only [ratA,digA] at hV;simp (maxSteps:=10^6)+contextual(disch:=try exact dqd)only[ev1,simprocAttr,Ca,Bm,Cb,results254,ratA,digA,hV]
 | false =>
  rw [h] at hV;simp only [C6,if_false];simp only [ratA,qA,digA] at hV hZ;simp (maxSteps:=10^6)+contextual(disch:=try exact dqd)only[ev1,simprocAttr,Ca,Bm,Cb,results254,ratA,qA,digA,hV,hZ]
theorem My (n d:Int) (hn:(dig n.natAbs).length<=90000) (hd:(dig d.natAbs).length<=90000) (dd:d≠0):cL prog 225 [zA n,zA d] S tk k=some (resQ n d,S,tk,k):=by
 refine opP func225 ntmps225 (hp3:=rfl) ?_;have lg:0<n.natAbs.gcd d.natAbs:=Iq _ aA;have hD S tk k:=Vj S tk k n.natAbs d.natAbs hn hd;have hgl:(dig (n.natAbs.gcd d.natAbs)).length<=90000:=by
  exact Ya15
 have sy S tk k:=L6 S tk k n.natAbs (n.natAbs.gcd d.natAbs) .unk .unk lg hn hgl;have qh S tk k:=L6 S tk k d.natAbs (n.natAbs.gcd d.natAbs) .unk .unk lg hd hgl;have hla:=Q6 n d;have hlb:(lowD n d).natAbs=d.natAbs / n.natAbs.gcd d.natAbs:=rfl;have hs:=Afw n d dd;have hp:=Jv (n.natAbs / n.natAbs.gcd d.natAbs);have hdn:decide (lowD n d<0)=false:=by
  have:¬ lowD n d<0:=by unfold lowD; omega
  simp [this]
 have hC:=fun (m:Nat) (h:(dig m).length<=200) S tk k=>Y2 S tk k (dig m) .unk aA;unfold resQ resN resD;simp only [digA] at hD sy qh hC;by_cases h1:(dig (n.natAbs / n.natAbs.gcd d.natAbs)).length<=200
 ·have d1:decide (((dig (n.natAbs / n.natAbs.gcd d.natAbs)).length:Int) > 200)=false:=aC
  by_cases h2:(dig (d.natAbs / n.natAbs.gcd d.natAbs)).length<=200
  ·have d2:decide (((dig (d.natAbs / n.natAbs.gcd d.natAbs)).length:Int) > 200)=false:=aC
   have hf:Er n d=true:=dH
   have hC1:=hC _ h1;have hC2:=hC _ h2;rw [hf];simp only [if_true,qA,hla,hlb,<- hs,hdn];have sv:(decide (n<0) != decide (d<0))=!(decide (n<0) == decide (d<0)):=rfl;rw [sv];cases d3:decide (n<0) == decide (d<0) with
   | true=>simp (maxSteps:=10^6)+contextual(disch:=try exact dqd)only[ev1,simprocAttr,Ca,Bm,Cb,results225,zA,bigA,ratA,digA,hD,sy,qh,d1,d2,d3,sv,hp,hC1,hC2,Gf,Hs,Fq,Ff]
   | false=>simp (maxSteps:=10^6)+contextual(disch:=try exact dqd)only[ev1,simprocAttr,Ca,Bm,Cb,results225,zA,bigA,ratA,digA,hD,sy,qh,d1,d2,d3,sv,hp,hC1,hC2,Gf,Hs,Fq,Ff]
  ·have d2:decide (((dig (d.natAbs / n.natAbs.gcd d.natAbs)).length:Int) > 200)=true:=aC
   have hf:Er n d=false:=dH
   rw [hf];simp only [C6,if_false];have hz:dig 0=[]:=B3;simp (maxSteps:=10^6)+contextual(disch:=try exact dqd)only[ev1,simprocAttr,Ca,Bm,Cb,results225,zA,bigA,qA,ratA,digA,hz,hD,sy,qh,d1,d2]
 ·have d1:decide (((dig (n.natAbs / n.natAbs.gcd d.natAbs)).length:Int) > 200)=true:=aC
  have hf:Er n d=false:=dH
  rw [hf];simp only [C6,if_false];have hz:dig 0=[]:=B3;simp (maxSteps:=10^6)+contextual(disch:=try exact dqd)only[ev1,simprocAttr,Ca,Bm,Cb,results225,zA,bigA,qA,ratA,digA,hz,hD,sy,qh,d1]
end
end Go.Proofs.YthelkgdmgihhiaaGreat
namespace Go.Proofs.YthelkgdmgihhiaaGreat
open Go Tryz
theorem D0 {x y:Int} {a b:Nat} (hx:(dig x.natAbs).length<=a) (hy:(dig y.natAbs).length<=b):(dig (x*y).natAbs).length<=a+b:=by
 rw [Bg] at hx hy ⊢;rw [Im,Nat.pow_add];exact Nat.mul_lt_mul_of_lt_of_le hx aA (kD aP)
theorem Afs {x y:Int} {a:Nat} (hx:(dig x.natAbs).length<=a) (hy:(dig y.natAbs).length<=a):(dig (x+y).natAbs).length<=a+1:=by
 rw [Bg] at hx hy ⊢;rw [Oz];omega
theorem Apg {y:Int} {a:Nat} (hy:(dig y.natAbs).length<=a):(dig (-y).natAbs).length<=a:=by
 rw [show (-y).natAbs=y.natAbs by omega]; exact hy
theorem Wt {n d:Int} (hn:n.natAbs<=100000000000000000) (hd:d.natAbs<=100000000000000000) (dd:d≠0):Er n d=true:=by
 have h1:(dig (lowN n d).natAbs).length<=5:=Bg.2 (by
  have:=Sq n.natAbs (n.natAbs.gcd d.natAbs);rw [<- Q6] at this;omega)
 have h2:(dig (lowD n d).natAbs).length<=5:=Bg.2 (by
  have:=Sq d.natAbs (n.natAbs.gcd d.natAbs);have e:(lowD n d).natAbs=d.natAbs / n.natAbs.gcd d.natAbs:=rfl;rw [e];omega)
 simp only [Er,okZ];simp [dd];omega
theorem Vo {n d:Int} (hn:n.natAbs<=100000000000000000) (hd:d.natAbs<=100000000000000000) (dd:d≠0):resQ n d=.tup [qA (lowN n d) (lowD n d),.bool true]:=by
 have h:=Wt hn hd dd;unfold resQ resN resD;rw [h]; rfl
theorem Qf (n:Int):resQ n 0=.tup [qA 0 0,.bool false]:=rfl
theorem G8 {a b:Int} (ha:smB a=true) (hb:smB b=true):(a*b).natAbs<10000000000000000:=by
 have h1:=Ng ha;have h2:=Ng hb;rw [Im];have:=Nat.mul_lt_mul_of_lt_of_le h1 (Nat.le_of_lt h2) (by omega:0<100000000);omega
theorem M4 {z:Int} (h:smB z=true):smN z=z:=by simp [smN,h]
def ofQ (p:Bool) (l:List Int) (q:Bool) (r:List Int):AV:=resQ (V p l) (if Dy p l=true then V q r else 0)
section
variable (S:List Ent) (tk:List Nat) (k:Nat)
theorem Avr (p:Bool) (l:List Int) (q:Bool) (r:List Int) (hl:l.length<=1000000) (hr:r.length<=1000000):cL prog 224 [bigA p l,bigA q r] S tk k=some (ofQ p l q r,S,tk,k):=by
 have ll S tk k:=told (E:=E1) (Pe S tk k p l .unk hl);have lm S tk k:=told (E:=E1) (Pe S tk k q r .unk hr);refine opP func224 ntmps224 (hp3:=rfl) ?_;have hz:dig 0=[]:=B3;have yd:decide ((0:Int)<0)=false:=aP
 unfold ofQ;cases h1:Dy p l with
 | false =>
  rw [h1] at ll;rw [if_neg (by simp),Qf];simp (maxSteps:=10^6)+contextual(disch:=try exact dqd)only[ev1,simprocAttr,Ca,Bm,Cb,results224,qA,ratA,bigA,digA,hz,yd,ll]
 | true =>
 rw [h1] at ll;rw [if_pos rfl];cases h2:Dy q r with
 | false =>
  rw [h2] at lm;rw [V_bad h2,Qf];simp (maxSteps:=10^6)+contextual(disch:=try exact dqd)only[ev1,simprocAttr,Ca,Bm,Cb,results224,qA,ratA,bigA,digA,hz,yd,ll,lm]
 | true =>
 rw [h2] at lm;obtain ⟨hp,d9⟩:=G4 h1;obtain ⟨hq,sw⟩:=G4 h2;by_cases cq:r=[]
 ·subst cq;have e0:V q []=0:=Za4o
  rw [e0,Qf];simp only [Cs] at lm;have iz:(((0:Nat):Int) == 0)=true:=rfl;simp (maxSteps:=10^6)+contextual(disch:=try exact dqd)only[ev1,simprocAttr,Ca,Bm,Cb,results224,qA,ratA,bigA,digA,hz,yd,iz,ll,lm]
 ·have iz:(((r.length:Nat):Int) == 0)=false:=by
   exact Ya3b
  have dd:V q r≠0:=fun e=>cq (by rw [sw,e]; rfl);have hR S tk k:=My S tk k (V p l) (V q r) (by have:=Aoo p l; omega) (by have:=Aoo q r; omega) dd;have hO1 S tk k:=Hc S tk k (V p l);have hO2 S tk k:=Hc S tk k (V q r);simp only [zA,bigA,digA,<- hp,<- d9,<- hq,<- sw] at hR hO1 hO2;simp only [resQ,qA,ratA,digA] at hR ⊢;simp (maxSteps:=10^6)+contextual(disch:=try exact dqd)only[ev1,simprocAttr,Ca,Bm,Cb,results224,qA,ratA,bigA,digA,iz,ll,lm,hO1,hO2,hR]
theorem As0 (p1:Bool) (l1:List Int) (q1:Bool) (r1:List Int) (p2:Bool) (l2:List Int) (q2:Bool) (r2:List Int) (h1:l1.length<=1000000) (h2:r1.length<=1000000) (h3:l2.length<=1000000) (h4:r2.length<=1000000) :
  cL prog 252 [ratA p1 l1 q1 r1,ratA p2 l2 q2 r2] S tk k=some (resQ (nQ p1 l1 q1 r1*nQ p2 l2 q2 r2) (dQ p1 l1 q1 r1*dQ p2 l2 q2 r2),S,tk,k):=by
 have hA S tk k:=Ho S tk k p1 l1 q1 r1 h1 h2;have hB S tk k:=Ho S tk k p2 l2 q2 r2 h3 h4;have gA:=Ez p1 l1 q1 r1;have gB:=Ez p2 l2 q2 r2;generalize nQ p1 l1 q1 r1=a at *;generalize dQ p1 l1 q1 r1=b at *;generalize nQ p2 l2 q2 r2=c at *;generalize dQ p2 l2 q2 r2=d at *;have u7:b*d≠0:=Ii Za5k (by have:=gB.pos; omega);refine opP func252 ntmps252 (hp3:=rfl) ?_;have hK S tk k:=Qc S tk k a b c d;cases hs:smB a && smB b && smB c && smB d with
 | true =>
  rw [hs] at hK;simp only [Ch] at hs;obtain ⟨⟨⟨s1,s2⟩,s3⟩,s4⟩:=hs;rw [M4 s1,M4 s2,M4 s3,M4 s4] at hK;have b1:=G8 s1 s3;have b2:=G8 s2 s4;have hw1:Cd.wrap (a*c)=a*c:=Aa aD;have hw2:Cd.wrap (b*d)=b*d:=Aa aD;have hF S tk k:=L5 S tk k (a*c) (b*d) aA aA u7;rw [Vo aA aA u7];simp only [qA,ratA,digA] at hA hB hK hF ⊢;simp (maxSteps:=10^6)+contextual(disch:=try exact dqd)only[ev1,simprocAttr,Ca,Bm,Cb,results252,ratA,digA,hA,hB,hK,hF,hw1,hw2]
 | false =>
  rw [hs] at hK;have hO1 S tk k:=Hc S tk k a;have hO2 S tk k:=Hc S tk k b;have qi S tk k:=Hc S tk k c;have hO4 S tk k:=Hc S tk k d;have l1:=gA.ln;have l2:=gA.ld;have l3:=gB.ln;have l4:=gB.ld;have bc S tk k:=Em S tk k a c aA aA;have ah S tk k:=Em S tk k b d aA aA;have m1:=D0 l1 l3;have m2:=D0 l2 l4;have hR S tk k:=My S tk k (a*c) (b*d) aA aA u7;simp only [zA,bigA,digA] at hO1 hO2 qi hO4 bc ah hR;simp only [resQ,qA,ratA,digA] at hA hB hK hR ⊢;simp (maxSteps:=10^6)+contextual(disch:=try exact dqd)only[ev1,simprocAttr,Ca,Bm,Cb,results252,ratA,digA,hA,hB,hK,hO1,hO2,qi,hO4,bc,ah,hR]
end
end Go.Proofs.YthelkgdmgihhiaaGreat
namespace Go.Proofs.YthelkgdmgihhiaaGreat
open Go Tryz
theorem Z8 {x y:Int} (hs:decide (x<0)=decide (y<0)):(cmpN x.natAbs y.natAbs == 0)=decide (x=y):=by
 have h1:(x<0)↔(y<0):=by simpa using hs
 rw [Vn];simp only [beq_iff_eq,decide_eq_true_eq];unfold cmpN;split
 ·omega
 ·split <;> omega
theorem Acs {x y:Int} (h:x<y):cmpZ x y=-1:=by simp [cmpZ,h]
theorem Acr {x y:Int} (h:y<x):cmpZ x y=1:=by unfold cmpZ; rw [if_neg aA,if_pos h]
theorem Acq {x y:Int} (h:x=y):cmpZ x y=0:=by unfold cmpZ; rw [if_neg aA,if_neg aA]
section
variable (S:List Ent) (tk:List Nat) (k:Nat)
theorem Asz (p1:Bool) (l1:List Int) (q1:Bool) (r1:List Int) (p2:Bool) (l2:List Int) (q2:Bool) (r2:List Int) (h1:l1.length<=1000000) (h2:r1.length<=1000000) (h3:l2.length<=1000000) (h4:r2.length<=1000000) :
  cL prog 250 [ratA p1 l1 q1 r1,ratA p2 l2 q2 r2] S tk k=some (resQ (nQ p1 l1 q1 r1*dQ p2 l2 q2 r2) (dQ p1 l1 q1 r1*nQ p2 l2 q2 r2),S,tk,k):=by
 have hA S tk k:=Ho S tk k p1 l1 q1 r1 h1 h2;have hB S tk k:=Ho S tk k p2 l2 q2 r2 h3 h4;have gA:=Ez p1 l1 q1 r1;have gB:=Ez p2 l2 q2 r2;generalize nQ p1 l1 q1 r1=a at *;generalize dQ p1 l1 q1 r1=b at *;generalize nQ p2 l2 q2 r2=c at *;generalize dQ p2 l2 q2 r2=d at *;refine opP func250 ntmps250 (hp3:=rfl) ?_;have hz:dig 0=[]:=B3;have yd:decide ((0:Int)<0)=false:=aP
 by_cases hc:c=0
 ·subst hc;have iz:((((dig (Int.natAbs 0)).length:Nat):Int) == 0)=true:=rfl;have iz2:(((0:Nat):Int) == 0)=true:=rfl;rw [Q4,Qf];simp only [qA,ratA,digA,hz,Cs] at hA hB ⊢;simp (maxSteps:=10^6)+contextual(disch:=try exact dqd)only[ev1,simprocAttr,Ca,Bm,Cb,results250,ratA,digA,hz,yd,hA,hB,iz,iz2]
 have iz:((((dig c.natAbs).length:Nat):Int) == 0)=false:=by
  have:(dig c.natAbs)≠[]:=fun e=>hc Za5v;exact Ya1j
 have u7:b*c≠0:=Ii Za5k hc;have hK S tk k:=Qc S tk k a b c d;cases hs:smB a && smB b && smB c && smB d with
 | true =>
  rw [hs] at hK;simp only [Ch] at hs;obtain ⟨⟨⟨s1,s2⟩,s3⟩,s4⟩:=hs;rw [M4 s1,M4 s2,M4 s3,M4 s4] at hK;have b1:=G8 s1 s4;have b2:=G8 s2 s3;have hw1:Cd.wrap (a*d)=a*d:=Aa aD;have hw2:Cd.wrap (b*c)=b*c:=Aa aD;have hF S tk k:=L5 S tk k (a*d) (b*c) aA aA u7;rw [Vo aA aA u7];simp only [qA,ratA,digA] at hA hB hK hF ⊢;simp (maxSteps:=10^6)+contextual(disch:=try exact dqd)only[ev1,simprocAttr,Ca,Bm,Cb,results250,ratA,digA,hA,hB,hK,hF,hw1,hw2,iz]
 | false =>
  rw [hs] at hK;have hO1 S tk k:=Hc S tk k a;have hO2 S tk k:=Hc S tk k b;have qi S tk k:=Hc S tk k c;have hO4 S tk k:=Hc S tk k d;have l1:=gA.ln;have l2:=gA.ld;have l3:=gB.ln;have l4:=gB.ld;have bc S tk k:=Em S tk k a d aA aA;have ah S tk k:=Em S tk k b c aA aA;have m1:=D0 l1 l4;have m2:=D0 l2 l3;have hR S tk k:=My S tk k (a*d) (b*c) aA aA u7;simp only [zA,bigA,digA] at hO1 hO2 qi hO4 bc ah hR;simp only [resQ,qA,ratA,digA] at hA hB hK hR ⊢;simp (maxSteps:=10^6)+contextual(disch:=try exact dqd)only[ev1,simprocAttr,Ca,Bm,Cb,results250,ratA,digA,hA,hB,hK,hO1,hO2,qi,hO4,bc,ah,hR,iz]
theorem Apy (x y:Int) (hx:(dig x.natAbs).length<=90000) (hy:(dig y.natAbs).length<=90000):cL prog 258 [zA x,zA y] S tk k=some (.bool (decide (x=y)),S,tk,k):=by
 refine opP func258 ntmps258 (hp3:=rfl) ?_;have hO S tk k:=told (E:=E1) (Qb S tk k x.natAbs y.natAbs aA aA);simp only [digA] at hO;by_cases hs:decide (x<0)=decide (y<0)
 ·have d1:(decide (x<0) == decide (y<0))=true:=by simpa using hs
  by_cases hl:(dig x.natAbs).length=(dig y.natAbs).length
  ·have d2:(((dig x.natAbs).length:Int) == ((dig y.natAbs).length:Int))=true:=by rw [beq_iff_eq]; omega
   have hz:=Z8 hs;simp (maxSteps:=10^6)+contextual(disch:=try exact dqd)only[ev1,simprocAttr,Ca,Bm,Cb,results258,zA,bigA,digA,d1,d2,hO,hz]
  ·have d2:(((dig x.natAbs).length:Int) == ((dig y.natAbs).length:Int))=false:=by
    rw [Bool.eq_false_iff]; intro h; exact hl (by have:=beq_iff_eq.1 h; omega)
   have hne:decide (x=y)=false:=by
    have:x≠y:=fun e=>hl (by rw [e]);simp [this]
   rw [hne];simp (maxSteps:=10^6)+contextual(disch:=try exact dqd)only[ev1,simprocAttr,Ca,Bm,Cb,results258,zA,bigA,digA,d1,d2]
 ·have d1:(decide (x<0) == decide (y<0))=false:=by simpa using hs
  have hne:decide (x=y)=false:=by
   have:x≠y:=fun e=>hs (by rw [e]);simp [this]
  rw [hne];simp (maxSteps:=10^6)+contextual(disch:=try exact dqd)only[ev1,simprocAttr,Ca,Bm,Cb,results258,zA,bigA,digA,d1]
theorem Asy (p1:Bool) (l1:List Int) (q1:Bool) (r1:List Int) (p2:Bool) (l2:List Int) (q2:Bool) (r2:List Int) (h1:l1.length<=1000000) (h2:r1.length<=1000000) (h3:l2.length<=1000000) (h4:r2.length<=1000000) :
  cL prog 251 [ratA p1 l1 q1 r1,ratA p2 l2 q2 r2] S tk k=some (.int (cmpZ (nQ p1 l1 q1 r1*dQ p2 l2 q2 r2) (nQ p2 l2 q2 r2*dQ p1 l1 q1 r1)),S,tk,k):=by
 have hA S tk k:=Ho S tk k p1 l1 q1 r1 h1 h2;have hB S tk k:=Ho S tk k p2 l2 q2 r2 h3 h4;have gA:=Ez p1 l1 q1 r1;have gB:=Ez p2 l2 q2 r2;generalize nQ p1 l1 q1 r1=a at *;generalize dQ p1 l1 q1 r1=b at *;generalize nQ p2 l2 q2 r2=c at *;generalize dQ p2 l2 q2 r2=d at *;refine opP func251 ntmps251 (hp3:=rfl) ?_;have hK S tk k:=Qc S tk k a b c d;cases hs:smB a && smB b && smB c && smB d with
 | true =>
  rw [hs] at hK;simp only [Ch] at hs;obtain ⟨⟨⟨s1,s2⟩,s3⟩,s4⟩:=hs;rw [M4 s1,M4 s2,M4 s3,M4 s4] at hK;have b1:=G8 s1 s4;have b2:=G8 s3 s2;have hw1:Cd.wrap (a*d)=a*d:=Aa aD;have hw2:Cd.wrap (c*b)=c*b:=Aa aD;simp only [qA,ratA,digA] at hA hB hK;by_cases g1:a*d<c*b
  ·have d1:decide (a*d<c*b)=true:=gL
   rw [Acs g1];simp (maxSteps:=10^6)+contextual(disch:=try exact dqd)only[ev1,simprocAttr,Ca,Bm,Cb,results251,ratA,digA,hA,hB,hK,hw1,hw2,d1]
  ·have d1:decide (a*d<c*b)=false:=gL
   by_cases g2:a*d > c*b
   ·have d2:decide (a*d > c*b)=true:=eR
    rw [Acr g2];exact Ya14
   ·have d2:decide (a*d > c*b)=false:=eR
    rw [Acq aA];exact Ya14
 | false =>
  rw [hs] at hK;have hO1 S tk k:=Hc S tk k a;have hO2 S tk k:=Hc S tk k b;have qi S tk k:=Hc S tk k c;have hO4 S tk k:=Hc S tk k d;have l1:=gA.ln;have l2:=gA.ld;have l3:=gB.ln;have l4:=gB.ld;have bc S tk k:=Em S tk k a d aA aA;have ah S tk k:=Em S tk k c b aA aA;have m1:=D0 l1 l4;have m2:=D0 l3 l2;have hS S tk k:=Apy S tk k (a*d) (c*b) aA aA;have hM S tk k:=Vy S tk k (a*d) (c*b) aA aA;simp only [zA,bigA,digA] at hO1 hO2 qi hO4 bc ah hS hM;simp only [qA,ratA,digA] at hA hB hK;by_cases g1:a*d=c*b
  ·have d1:decide (a*d=c*b)=true:=gL
   rw [d1] at hS;rw [Acq g1];simp (maxSteps:=10^6)+contextual(disch:=try exact dqd)only[ev1,simprocAttr,Ca,Bm,Cb,results251,ratA,digA,hA,hB,hK,hO1,hO2,qi,hO4,bc,ah,hS]
  ·have d1:decide (a*d=c*b)=false:=gL
   rw [d1] at hS;by_cases g2:a*d<c*b
   ·have d2:decide (a*d - c*b<0)=true:=aC
    rw [d2] at hM;rw [Acs g2];exact Ya0y
   ·have d2:decide (a*d - c*b<0)=false:=aC
    rw [d2] at hM;rw [Acr aA];exact Ya0y
end
end Go.Proofs.YthelkgdmgihhiaaGreat
namespace Go.Proofs.YthelkgdmgihhiaaGreat
open Go
theorem Jm.valid {n d:Int} (h:Jm n d):J4 (decide (n<0)) (dig n.natAbs) (decide (d<0)) (dig d.natAbs)=true:=by
 unfold J4 M3;rw [Tn _ h.ln,Tn _ h.ld,V_of _ h.ln,V_of _ h.ld];simp [h.pos,h.cop]
theorem Jm.nQ {n d:Int} (h:Jm n d):nQ (decide (n<0)) (dig n.natAbs) (decide (d<0)) (dig d.natAbs)=n:=by
 unfold Proofs.YthelkgdmgihhiaaGreat.nQ;rw [if_pos h.valid,V_of _ h.ln]
theorem Jm.dQ {n d:Int} (h:Jm n d):dQ (decide (n<0)) (dig n.natAbs) (decide (d<0)) (dig d.natAbs)=d:=by
 unfold Proofs.YthelkgdmgihhiaaGreat.dQ;rw [if_pos h.valid,V_of _ h.ld]
theorem Jm.neg {n d:Int} (h:Jm n d):Jm (-n) d:=by
 have e:(-n).natAbs=n.natAbs:=aA
 exact ⟨h.pos,by rw [e]; exact h.cop,by rw [e]; exact h.ln,h.ld⟩
end Go.Proofs.YthelkgdmgihhiaaGreat
namespace Go.Proofs.YthelkgdmgihhiaaGreat
open Go Tryz
set_option maxRecDepth 100000
section
variable (S:List Ent) (tk:List Nat) (k:Nat)
theorem R9 (l:List Int) (c:Cap) (hlen:l.length<=1000000):cL prog 199 [.frz (l.map digC) c] S tk k=some (digA (Dm l),S,tk,k):=by
 refine opP func199 ntmps199 ?_;simp (maxSteps:=10^6)+contextual(disch:=try exact dqd)only[ev1,simprocAttr,Ca,Bm,Cb,results199];refine loop1 (P:=prog) (fun x st=>st.T.length=22/\(x<=l.length)/\(∀ j,x<=j->∀ x,nth l j=some x->x=0)/\getT st.T 0=digA l/\getT st.T 3=.int (x:Nat)/\st.S=[]) (fun x=>x) (fun x=>digA (Dm l)) (l.length) ?_ ?_;case refine_2=>exact ⟨rfl,Ce _,Pp l,rfl,rfl,rfl⟩
 rintro n ⟨T,S',tk',n'⟩ ⟨hl,hn,hz,e0,e3,eS⟩ IH;subst eS;obtain ⟨g,hg,hT⟩:=Ar hl;rw [hg] at e0 e3;subst hT;clear hg hl;have hr:=Dv l;by_cases h0:n=0
 ·have d1:decide ((n:Int) > 0)=false:=aC
  have ht:=Gs hn hz (.inl h0);simp (maxSteps:=10^6)+contextual(disch:=try exact dqd)only[ev1,simprocAttr,Ca,Bm,Cb,results199,e0,e3,d1,digA,Hy,hr,bound,intN_cast,hn,Ce,Cl];rw [ht]; simp [h0]
 ·have d1:decide ((n:Int) > 0)=true:=aC
  have hp:=Tk h0 aA;obtain ⟨x,hx⟩:=Ac (show n - 1<l.length by omega);have hx':=B0 hx;by_cases iw:x=0
  ·have d2:(x == 0)=true:=cR
   simp (maxSteps:=10^6)+contextual(disch:=try exact dqd)only[ev1,simprocAttr,Ca,Bm,Cb,results199,e0,e3,d1,d2,hp,hx',digA];exact IH (n - 1) _ aF ⟨rfl,aE,Up hz hx iw,aB,aB,aB⟩
  ·have d2:(x == 0)=false:=cR
   have ht:=Gs hn hz (.inr ⟨x,hx,iw⟩);simp (maxSteps:=10^6)+contextual(disch:=try exact dqd)only[ev1,simprocAttr,Ca,Bm,Cb,results199,e0,e3,d1,d2,hp,hx',digA,Hy,hr,bound,intN_cast,hn,Ce,Cl];rw [ht]; simp
theorem Xg (a b:Nat) (ha:(dig a).length<=1000000) (hb:(dig b).length<=1000000):cL prog 194 [digA (dig a),digA (dig b)] S tk k=some (.bool (decide (a<b)),S,tk,k):=by
 refine opP func194 ntmps194 ?_;by_cases hl:(dig a).length=(dig b).length;case neg =>
  have d1:(((dig a).length:Int) != ((dig b).length:Int))=true:=aC
  have d2:decide (((dig a).length:Int)<((dig b).length:Int))=decide (a<b):=by
   rw [decide_eq_decide];constructor
   ·intro h; exact Ks aA
   ·intro h;rcases Ig (dig a).length (dig b).length with h'|h'
    ·omega
    ·have:=Ks (a:=b) (b:=a) aA; omega
  simp (maxSteps:=10^6)+contextual(disch:=try exact dqd)only[ev1,simprocAttr,Ca,Bm,Cb,results194,digA,d1,d2]
 have d1:(((dig a).length:Int) != ((dig b).length:Int))=false:=aC
 have d3:=Hv ha;simp (maxSteps:=10^6)+contextual(disch:=try exact dqd)only[ev1,simprocAttr,Ca,Bm,Cb,results194,digA,d1,d3];refine loop1 (P:=prog) (fun x st=>st.T.length=41/\(x<=(dig a).length)/\(∀ j,x<=j->nth (dig a) j=nth (dig b) j)/\getT st.T 0=digA (dig a)/\getT st.T 1=digA (dig b)/\getT st.T 5=.int ((x:Int) - 1)/\st.S=[]) (fun x=>x) (fun x=>.bool (decide (a<b))) ((dig a).length) ?_ ?_;case refine_2=>exact ⟨rfl,Ce _,fun j hj=>by rw [Af,Af,C5 hj,C5 aA],rfl,rfl,rfl,rfl⟩
 rintro n ⟨T,S',tk',n'⟩ ⟨hl,hn,he,e0,e1,e5,eS⟩ IH;subst eS;obtain ⟨g,hg,hT⟩:=Ar hl;rw [hg] at e0 e1 e5;subst hT;clear hg hl;by_cases h0:n=0
 ·have d2:decide ((n:Int) - 1 >= 0)=false:=aC
  have:=Aew fun j=>he j aA;subst this;simp (maxSteps:=10^6)+contextual(disch:=try exact dqd)only[ev1,simprocAttr,Ca,Bm,Cb,results194,e0,e1,e5,d2,digA];simp
 ·have d2:decide ((n:Int) - 1 >= 0)=true:=aC
  have hi:(n:Int) - 1=((n - 1:Nat):Int):=aA
  obtain ⟨x,hx⟩:=Ac (show n - 1<(dig a).length by omega);obtain ⟨y,hy⟩:=Ac (show n - 1<(dig b).length by omega);have hx':=B0 hx;have f9:=B0 hy;have pg:∀ j,n - 1<j->nth (dig a) j=nth (dig b) j:=fun j hj=>he j aA;have hp:=Hv (n:=n - 1) aA;rw [hi] at e5 d2;by_cases ja:x=y
  ·have d4:(x != y)=false:=gJ
   simp (maxSteps:=10^6)+contextual(disch:=try exact dqd)only[ev1,simprocAttr,Ca,Bm,Cb,results194,e0,e1,e5,d2,d4,digA,hx',f9,hp];exact IH (n - 1) _ aF ⟨rfl,aE,fun j hj=>Za6p,aB,aB,aB,aB⟩
  ·have d4:(x != y)=true:=gJ
   have d5:decide (x<y)=decide (a<b):=by
    rw [decide_eq_decide];constructor
    ·intro h1; exact Aev hl hx hy h1 pg
    ·intro h1;by_cases h2:x<y
     ·exact h2
     ·have:=Aev hl.symm hy hx aA fun j hj=>(pg j hj).symm;omega
   simp (maxSteps:=10^6)+contextual(disch:=try exact dqd)only[ev1,simprocAttr,Ca,Bm,Cb,results194,e0,e1,e5,d2,d4,d5,digA,hx',f9,hp]
theorem Aeg (a b:Nat) (ha:(dig a).length<=100000) (hb:(dig b).length<=100000):cL prog 193 [digA (dig a),digA (dig b)] S tk k=some (digA (dig (a+b)),S,tk,k):=by
 refine opP func193 ntmps193 ?_;simp (maxSteps:=10^6)+contextual(disch:=try exact dqd)only[ev1,simprocAttr,Ca,Bm,Cb,results193,digA];refine loop1 (P:=prog) (fun x st=>st.T.length=53/\(Sum1 a b x.1 x.2.1 x.2.2.1)/\(x.1<=100001)/\(Be st.tk x.2.2.2 1=true)/\(x.1=100001->x.2.1=0)/\getT st.T 0=digA (dig a)/\getT st.T 1=digA (dig b)/\getT st.T 5=.frz (x.2.2.1.map digC) x.2.2.2/\getT st.T 6=.int x.2.1/\getT st.T 7=.int (x.1:Nat)/\st.S=[]) (fun x=>2*(max (dig a).length (dig b).length - x.1)+x.2.1.toNat) (fun x=>digA (dig (a+b))) (0,0,[],.nilc) ?_ ?_;case refine_2=>exact ⟨rfl,⟨rfl,by intro d hd; simp at hd,by simp,by rw [Fx,Fx,Br,Br]; simp [val]⟩,aA,rfl,fun _=>rfl,rfl,rfl,rfl,rfl,rfl,rfl⟩
 rintro ⟨i,w,out,c⟩ ⟨T,S',tk',n'⟩ ⟨hl,hp,hi,ab,hib,e0,e1,e5,e6,e7,eS⟩ IH;simp only at hp hi ab hib e0 e1 e5 e6 e7 eS;subst eS;obtain ⟨g,hg,hT⟩:=Ar hl;rw [hg] at e0 e1 e5 e6 e7;subst hT;clear hg hl;have hlen:=hp.len;have hr:=Dv out;have hn:(out.map digC).length+1<=1048576:=aC
 have am:=Bi ab;have dx:=A4 (i:=i) aA;have pn:=hp.c0;obtain ⟨n,eh⟩:∃ n,n=(nth (dig a) i).getD 0+(nth (dig b) i).getD 0+w:=⟨_,rfl⟩;obtain ⟨aj,ci,bo,dk,fi⟩:=hp.step eh;have g1:=Mn a i;have g2:=Mn b i;have qg:Cd.wrap (n.tdiv 10000)=n.tdiv 10000:=by
  exact Ya3c
 have ft:¬ ((10000:Int)=0):=aA
 have a4j:n.tdiv 10000=n / 10000:=Cz aA;by_cases ca:i<(dig a).length
 ·have d1:decide ((i:Int)<((dig a).length:Int))=true:=gN
  obtain ⟨x,hx⟩:=Ac ca;have hx':=B0 hx;rw [hx,Ol] at eh g1;have hw1:Cd.wrap (w+x)=w+x:=Aa aD;by_cases cb:i<(dig b).length
  ·have d2:decide ((i:Int)<((dig b).length:Int))=true:=gP
   obtain ⟨y,hy⟩:=Ac cb;have f9:=B0 hy;rw [hy,Ol] at eh g2;have hw2:Cd.wrap (w+x+y)=n:=aS
   simp (maxSteps:=10^6)+contextual(disch:=try exact dqd)only[ev1,simprocAttr,Ca,Bm,Cb,results193,digA,e0,e1,e5,e6,e7,d1,d2,hx',f9,hw1,hw2,qg,hr,dx,ft];exact Yar
  ·have d2:decide ((i:Int)<((dig b).length:Int))=false:=gP
   have hb0:(nth (dig b) i).getD 0=0:=by rw [Af,C5 aA]; rfl
   have a3o:Cd.wrap (w+x)=n:=by rw [hw1]; omega
   simp (maxSteps:=10^6)+contextual(disch:=try exact dqd)only[ev1,simprocAttr,Ca,Bm,Cb,results193,digA,e0,e1,e5,e6,e7,d1,d2,hx',a3o,qg,hr,dx,ft];exact Yar
 ·have d1:decide ((i:Int)<((dig a).length:Int))=false:=gN
  have pm:(nth (dig a) i).getD 0=0:=by rw [Af,C5 aA]; rfl
  by_cases cb:i<(dig b).length
  ·have d2:decide ((i:Int)<((dig b).length:Int))=true:=gP
   obtain ⟨y,hy⟩:=Ac cb;have f9:=B0 hy;rw [hy,Ol] at eh g2;have hw2:Cd.wrap (w+y)=n:=aS
   simp (maxSteps:=10^6)+contextual(disch:=try exact dqd)only[ev1,simprocAttr,Ca,Bm,Cb,results193,digA,e0,e1,e5,e6,e7,d1,d2,f9,hw2,qg,hr,dx,ft];exact Yar
  ·have d2:decide ((i:Int)<((dig b).length:Int))=false:=gP
   have hb0:(nth (dig b) i).getD 0=0:=by rw [Af,C5 aA]; rfl
   by_cases cw:w > 0
   ·have d3:decide (w > 0)=true:=gQ
    have a08:n=w:=aA
    subst a08;simp (maxSteps:=10^6)+contextual(disch:=try exact dqd)only[ev1,simprocAttr,Ca,Bm,Cb,results193,digA,e0,e1,e5,e6,e7,d1,d2,d3,qg,hr,dx,ft];exact Yar
   ·have d3:decide (w > 0)=false:=gQ
    have ot:=hp.done aA aA aA;have hT S tk k:=R9 S tk k out c aA;simp only [digA,ot] at hT;simp (maxSteps:=10^6)+contextual(disch:=try exact dqd)only[ev1,simprocAttr,Ca,Bm,Cb,results193,digA,e0,e1,e5,e6,e7,d1,d2,d3,hT]
end
end Go.Proofs.YthelkgdmgihhiaaGreat
namespace Go.Proofs.YthelkgdmgihhiaaGreat
open Go Tryz
set_option maxRecDepth 100000
section
variable (S:List Ent) (tk:List Nat) (k:Nat)
theorem Tu (a b:Nat) (hab:b<=a) (ha:(dig a).length<=100000):cL prog 195 [digA (dig a),digA (dig b)] S tk k=some (digA (dig (a - b)),S,tk,k):=by
 have hlb:(dig b).length<=(dig a).length:=Bg.2 (Iw hab (Bg.1 (Ce _)));refine opP func195 ntmps195 ?_;simp (maxSteps:=10^6)+contextual(disch:=try exact dqd)only[ev1,simprocAttr,Ca,Bm,Cb,results195,digA];refine loop1 (P:=prog) (fun x st=>st.T.length=41/\(x.1<=(dig a).length)/\(N3 (dig a) (dig b) x.1 x.2.1 x.2.2.1)/\(Be st.tk x.2.2.2 1=true)/\getT st.T 0=digA (dig a)/\getT st.T 1=digA (dig b)/\getT st.T 5=.frz (x.2.1.map digC) x.2.2.2/\getT st.T 6=.int x.2.2.1/\getT st.T 7=.int (x.1:Nat)/\st.S=[]) (fun x=>(dig a).length - x.1) (fun x=>digA (dig (a - b))) (0,[],0,.nilc) ?_ ?_;case refine_2=>exact ⟨rfl,Cl _,N3.start _ _,rfl,rfl,rfl,rfl,rfl,rfl,rfl⟩
 rintro ⟨i,zs,c,cp⟩ ⟨T,S',tk',n'⟩ ⟨hl,hi,hI,ab,e0,e1,e5,e6,e7,eS⟩ IH;simp only at hi hI ab e0 e1 e5 e6 e7 eS;subst eS;obtain ⟨g,hg,hT⟩:=Ar hl;rw [hg] at e0 e1 e5 e6 e7;subst hT;clear hg hl;have dx:=A4 (i:=i) aA;have hzl:=hI.len;have hr:=Dv zs;have hc:=hI.c01;have am:=Bi ab;have ci:(zs.map digC).length+1<=1048576:=aC
 by_cases hlt:i<(dig a).length
 ·have d2:decide ((i:Int)<((dig a).length:Int))=true:=aN
  obtain ⟨x,hx⟩:=Ac hlt;have hx':=B0 hx;have hxk:=Df (Bf a) hx;have hw1:Cd.wrap (x - c)=x - c:=Aa aD;by_cases hm:i<(dig b).length
  ·have d3:decide ((i:Int)<((dig b).length:Int))=true:=bX
   obtain ⟨y,hy⟩:=Ac hm;have f9:=B0 hy;have hyk:=Df (Bf b) hy;have yb:y=(nth (dig b) i).getD 0:=gX
   have hw2:Cd.wrap (x - c - y)=x - c - y:=Aa aD;by_cases hneg:x - c - y<0
   ·have d4:decide (x - c - y<0)=true:=aZ
    have hw3:Cd.wrap (x - c - y+10000)=x - c - y+10000:=Aa aD;simp (maxSteps:=10^6)+contextual(disch:=try exact dqd)only[ev1,simprocAttr,Ca,Bm,Cb,results195,e0,e1,e5,e6,e7,digA,d2,d3,d4,hx',f9,dx,hw1,hw2,hw3,hr];exact IH (i+1,zs++[x - c - y+10000],1,Az tk' cp 1) _ aF ⟨rfl,aE,hI.step hx yb aE (.inr rfl) aE,am,aB,aB,aB,aB,aB,aB⟩
   ·have d4:decide (x - c - y<0)=false:=aZ
    simp (maxSteps:=10^6)+contextual(disch:=try exact dqd)only[ev1,simprocAttr,Ca,Bm,Cb,results195,e0,e1,e5,e6,e7,digA,d2,d3,d4,hx',f9,dx,hw1,hw2,hr];exact IH (i+1,zs++[x - c - y],0,Az tk' cp 1) _ aF ⟨rfl,aE,hI.step hx yb aE (.inl rfl) aE,am,aB,aB,aB,aB,aB,aB⟩
  ·have d3:decide ((i:Int)<((dig b).length:Int))=false:=bX
   have yb:(0:Int)=(nth (dig b) i).getD 0:=by rw [Af,C5 aA]; rfl
   by_cases hneg:x - c<0
   ·have d4:decide (x - c<0)=true:=aZ
    have hw3:Cd.wrap (x - c+10000)=x - c+10000:=Aa aD;simp (maxSteps:=10^6)+contextual(disch:=try exact dqd)only[ev1,simprocAttr,Ca,Bm,Cb,results195,e0,e1,e5,e6,e7,digA,d2,d3,d4,hx',dx,hw1,hw3,hr];exact IH (i+1,zs++[x - c+10000],1,Az tk' cp 1) _ aF ⟨rfl,aE,hI.step hx yb aE (.inr rfl) aE,am,aB,aB,aB,aB,aB,aB⟩
   ·have d4:decide (x - c<0)=false:=aZ
    simp (maxSteps:=10^6)+contextual(disch:=try exact dqd)only[ev1,simprocAttr,Ca,Bm,Cb,results195,e0,e1,e5,e6,e7,digA,d2,d3,d4,hx',dx,hw1,hr];exact IH (i+1,zs++[x - c],0,Az tk' cp 1) _ aF ⟨rfl,aE,hI.step hx yb aE (.inl rfl) aE,am,aB,aB,aB,aB,aB,aB⟩
 ·have d2:decide ((i:Int)<((dig a).length:Int))=false:=aN
  have g9:i=(dig a).length:=aA
  subst g9;have hT c' S tk k:=R9 S tk k zs c' aA;rw [hI.done hab] at hT;simp only [digC,digA] at hT;simp (maxSteps:=10^6)+contextual(disch:=try exact dqd)only[ev1,simprocAttr,Ca,Bm,Cb,results195,e0,e1,e5,e6,e7,digA,d2,hT]
end
end Go.Proofs.YthelkgdmgihhiaaGreat
namespace Go.Proofs.YthelkgdmgihhiaaGreat
open Go Tryz
theorem Anp {p q:Bool} (h:p≠q) {X Y:Nat} (hl:Y<=X):bigA (p && !decide (dig (X - Y)=[])) (dig (X - Y))=zA (sg p X+sg q Y):=by
 rw [<- Aqo h hl,Aqc (fun e=>by rw [e,B3]; simp)];congr 1;by_cases h0:X - Y=0
 ·rw [h0]; cases p <;> simp [sg]
 ·have:¬ dig (X - Y)=[]:=fun e=>h0 (Ej.1 e);simp [this]
section
variable (S:List Ent) (tk:List Nat) (k:Nat)
theorem Zl (x y:Int) (hx:(dig x.natAbs).length<=90000) (hy:(dig y.natAbs).length<=90000):cL prog 184 [zA x,zA y] S tk k=some (zA (x+y),S,tk,k):=by
 refine opP func184 ntmps184 (hp3:=rfl) ?_;have hL S tk k:=Xg S tk k x.natAbs y.natAbs aA aA;have hs:=Aia x;have ht:=Aia y;by_cases hpq:decide (x<0)=decide (y<0)
 ·obtain ⟨h1,h2⟩:=Rv hpq;have hP S tk k:=Aeg S tk k x.natAbs y.natAbs aA aA;have d1:(decide (x<0) == decide (y<0))=true:=eM
  simp only [zA,h1,h2];simp only [digA] at hP;simp (maxSteps:=10^6)+contextual(disch:=try exact dqd)only[ev1,simprocAttr,Ca,Bm,Cb,results184,bigA,digA,d1,hP]
 ·have d1:(decide (x<0) == decide (y<0))=false:=eM
  by_cases hlt:x.natAbs<y.natAbs
  ·have d2:decide (x.natAbs<y.natAbs)=true:=aN
   have hM S tk k:=Tu S tk k y.natAbs x.natAbs aA aA;have hz:=Anp (p:=decide (y<0)) (q:=decide (x<0)) (fun e=>hpq e.symm) (X:=y.natAbs) (Y:=x.natAbs) aA;have hp:=Jv (y.natAbs - x.natAbs);rw [hs,ht,Int.add_comm] at hz;rw [<- hz];rw [d2] at hL;simp only [digA] at hL hM;cases d3:decide (y<0) with
   | true =>
    exact Yaj
   | false =>
    exact Yaj
  ·have d2:decide (x.natAbs<y.natAbs)=false:=aN
   have hM S tk k:=Tu S tk k x.natAbs y.natAbs aA aA;have hz:=Anp (p:=decide (x<0)) (q:=decide (y<0)) hpq (X:=x.natAbs) (Y:=y.natAbs) aA;have hp:=Jv (x.natAbs - y.natAbs);rw [hs,ht] at hz;rw [<- hz];rw [d2] at hL;simp only [digA] at hL hM;cases d3:decide (x<0) with
   | true =>
    exact Yaj
   | false =>
    exact Yaj
theorem An1:cL prog 190 [] S tk k=some (qA 0 1,S,tk,k):=by
 have qe:dig 1=[(1:Int)]:=Nl (d:=(1:Int)) aA aA;refine opP func190 ntmps190 (hp3:=rfl) ?_;simp (maxSteps:=10^6)+contextual(disch:=try exact dqd)only[ev1,simprocAttr,Ca,Bm,Cb,results190,qA,ratA,digA];simp [qe,B3,digC]
theorem Arm (n:Int) (hn:i64 n):cL prog 138 [.int n] S tk k=some (qA n 1,S,tk,k):=by
 have qe:dig 1=[(1:Int)]:=Nl (d:=(1:Int)) aA aA;refine opP func138 ntmps138 (hp3:=rfl) ?_;have h1 S tk k:=N5 S tk k n hn;simp only [zA,bigA,digA] at h1;simp (maxSteps:=10^6)+contextual(disch:=try exact dqd)only[ev1,simprocAttr,Ca,Bm,Cb,results138,qA,ratA,digA,h1];simp [qe,digC]
end
end Go.Proofs.YthelkgdmgihhiaaGreat
namespace Go.Proofs.YthelkgdmgihhiaaGreat
open Go Tryz
set_option maxHeartbeats 1000000
theorem Al5 {a:Int} (ha:smB a=true):smB (-a)=true:=by
 simp only [smB,Int.natAbs_neg] at ha ⊢; exact ha
section
variable (S:List Ent) (tk:List Nat) (k:Nat)
theorem As1 (p1:Bool) (l1:List Int) (q1:Bool) (r1:List Int) (p2:Bool) (l2:List Int) (q2:Bool) (r2:List Int) (h1:l1.length<=1000000) (h2:r1.length<=1000000) (h3:l2.length<=1000000) (h4:r2.length<=1000000) :
  cL prog 253 [ratA p1 l1 q1 r1,ratA p2 l2 q2 r2,.bool true] S tk k=some (resQ (nQ p1 l1 q1 r1*dQ p2 l2 q2 r2+-nQ p2 l2 q2 r2*dQ p1 l1 q1 r1) (dQ p1 l1 q1 r1*dQ p2 l2 q2 r2),S,tk,k):=by
 have hA S tk k:=Ho S tk k p1 l1 q1 r1 h1 h2;have hB S tk k:=Ho S tk k p2 l2 q2 r2 h3 h4;have gA:=Ez p1 l1 q1 r1;have gB:=Ez p2 l2 q2 r2;generalize nQ p1 l1 q1 r1=a at *;generalize dQ p1 l1 q1 r1=b at *;generalize nQ p2 l2 q2 r2=c at *;generalize dQ p2 l2 q2 r2=d at *;have u7:b*d≠0:=Ii Za5k (by have:=gB.pos; omega);refine opP func253 ntmps253 (hp3:=rfl) ?_;have hK S tk k:=Qc S tk k a b c d;cases hs:smB a && smB b && smB c && smB d with
 | true =>
  rw [hs] at hK;simp only [Ch] at hs;obtain ⟨⟨⟨s1,s2⟩,s3⟩,s4⟩:=hs;rw [M4 s1,M4 s2,M4 s3,M4 s4] at hK;have b0:=Ng s3;have b1:=G8 s1 s4;have b2:=G8 (Al5 s3) s2;have b3:=G8 s2 s4;have pn:Cd.wrap (0 - c)=-c:=aS
  have hw1:Cd.wrap (a*d)=a*d:=Aa aD;have hw2:Cd.wrap (-c*b)=-c*b:=Aa aD;have hw3:Cd.wrap (b*d)=b*d:=Aa aD;have hw4:Cd.wrap (a*d+-c*b)=a*d+-c*b:=Aa aD;have hF S tk k:=L5 S tk k (a*d+-c*b) (b*d) aA aA u7;rw [Vo aA aA u7];simp only [qA,ratA,digA] at hA hB hK hF ⊢;simp (maxSteps:=10^6)+contextual(disch:=try exact dqd)only[ev1,simprocAttr,Ca,Bm,Cb,results253,ratA,digA,hA,hB,hK,hF,pn,hw1,hw2,hw3,hw4]
 | false =>
  rw [hs] at hK;have hO1 S tk k:=Hc S tk k a;have hO2 S tk k:=Hc S tk k b;have qi S tk k:=Hc S tk k c;have hO4 S tk k:=Hc S tk k d;have l1:=gA.ln;have l2:=gA.ld;have l3:=gB.ln;have l4:=gB.ld;have bc S tk k:=Em S tk k a d aA aA;have ah S tk k:=Em S tk k b d aA aA;have c9 S tk k:=Em S tk k c b aA aA;have m1:=D0 l1 l4;have m2:=D0 l2 l4;have m3:=D0 l3 l2;have m5:=Apg m3;have hP S tk k:=Vy S tk k (a*d) (c*b) aA aA;have e1:a*d - c*b=a*d+-c*b:=by rw [Sy]; omega
  rw [e1] at hP;rw [<- Sy] at m5;have m4:=Afs (x:=a*d) (y:=-c*b) (a:=45000) aA aA;have hR S tk k:=My S tk k (a*d+-c*b) (b*d) aA aA u7;simp only [zA,bigA,digA] at hO1 hO2 qi hO4 bc ah c9 hP hR;simp only [resQ,qA,ratA,digA] at hA hB hK hR ⊢;simp (maxSteps:=10^6)+contextual(disch:=try exact dqd)only[ev1,simprocAttr,Ca,Bm,Cb,results253,ratA,digA,hA,hB,hK,hO1,hO2,qi,hO4,bc,ah,c9,hP,hR]
theorem Apx (p1:Bool) (l1:List Int) (q1:Bool) (r1:List Int) (p2:Bool) (l2:List Int) (q2:Bool) (r2:List Int) (h1:l1.length<=1000000) (h2:r1.length<=1000000) (h3:l2.length<=1000000) (h4:r2.length<=1000000) :
  cL prog 249 [ratA p1 l1 q1 r1,ratA p2 l2 q2 r2] S tk k=some (resQ (nQ p1 l1 q1 r1*dQ p2 l2 q2 r2+-nQ p2 l2 q2 r2*dQ p1 l1 q1 r1) (dQ p1 l1 q1 r1*dQ p2 l2 q2 r2),S,tk,k):=by
 have hJ S tk k:=As1 S tk k p1 l1 q1 r1 p2 l2 q2 r2 h1 h2 h3 h4;refine opP func249 ntmps249 (hp3:=rfl) ?_;simp only [resQ,qA,ratA,digA] at hJ ⊢;simp (maxSteps:=10^6)+contextual(disch:=try exact dqd)only[ev1,simprocAttr,Ca,Bm,Cb,results249,ratA,digA,hJ]
end
end Go.Proofs.YthelkgdmgihhiaaGreat
