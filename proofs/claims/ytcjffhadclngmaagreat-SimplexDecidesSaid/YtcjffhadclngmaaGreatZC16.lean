/- Part 16. -/
import Derived.OpenShut
import Derived.ChangeArms
import Derived.Test.YtcjffhadclngmaaGreatZC15
open And renaming intro->Bu
open Bool renaming and_eq_true->Ci,false_eq_true->Ef,false_and->Fq,true_and->F0,not_eq_true'->Ob,not_false->Oe,not_true->Oj,eq_iff_iff->S9
open Classical renaming byContradiction->O0
open Go.Addr renaming add->kA
open Go.DataW renaming trod->iZ,Trod->jY
open Go.IntKind renaming i64->Ca,u64->kF
open Go.Proofs.YtcjffhadclngmaaGreat.AV renaming bool->Bg,int->Cb,str->Cc
open Go.Value renaming oneCell'->jF
open Go.World renaming cell?->N5
open Int renaming tdiv_eq_ediv_of_nonneg->Fe,mul_comm->Hk,tmod_eq_emod_of_nonneg->Ic,natAbs_mul->Ii,mul_assoc->Ij,mul_ne_zero->Il,mul_add->O4,mul_zero->Sq,natCast_nonneg->Sy,neg_mul->iD,add_zero->iK,add_assoc->iP,mul_nonneg->jI,natAbs_tdiv->kK,toNat_of_nonneg->kN
open List renaming replicate->Cf,cons_append->Cn,map_cons->Ct,getElem?_eq_none->Cu,mem_cons->Cv,drop_eq_nil_of_le->Cy,range->Cz,getElem?_append_left->C3,length_eq_zero_iff->C4,mem_append->C5,take_of_length_le->C6,map_nil->Ei,all_eq_true->Fb,getElem?_append_right->Fc,drop_zero->Fg,take_length->Fm,append_nil->Fy,flatten_cons->F3,map_append->F4,length_pos_iff->F8,drop_length->Ik,length_take->Iu,getElem?_eq_getElem->Iw,mem_replicate->Ix,mem_of_getElem?->I8,getElem?_cons_zero->Oc,take_append_drop->Oq,take_add_one->V7,length_range->jJ,mem_of_mem_drop->kD,mem_of_mem_take->kE
open List.cons renaming injEq->kH
open Nat renaming le_refl->Ce,zero_le->Cl,mul_one->C9,zero_add->El,le_trans->Fs,lt_of_lt_of_le->F1,mul_le_mul_right->F2,lt_or_ge->Im,mul_le_mul->Iv,gcd_pos_of_pos_right->Iy,add_zero->I5,lt_of_le_of_lt->J9,gcd_zero_right->Og,zero_mul->Ov,mul_comm->Ox,div_lt_iff_lt_mul->O1,add_mul->O7,mod_eq_of_lt->Po,mod_lt->Si,div_le_self->Sn,pow_succ->Sp,add_assoc->Sr,mul_le_mul_left->iM,add_right_cancel_iff->iS,div_add_mod->iU,eq_zero_or_pos->jA,le_mul_of_pos_left->jK,gcd_comm->jM,gcd_le_right->jZ,lt_irrefl->lA
open Ne renaming symm->Ih
open Option renaming map_eq_some_iff->Cd,bind_eq_some_iff->Io,getD_some->Nl,bind_some->Ou
open Option.some renaming injEq->A8
open Prod.mk renaming injEq->Cg
open Rat renaming intCast_mul->C7,intCast_neg->K9,le_refl->Sw,mul_nonneg->iE,intCast_inj->iV,intCast_add->kJ
namespace Go.Proofs.YtcjffhadclngmaaGreat
open Go
inductive Sh (P:Program):TypeId->List AV->Prop
 | bool {t b} : P.underlying t=some .bool->Sh P t [.prim (.bool b)]
 | int {t k n} : P.underlying t=some (.int k)->(Lit.int k n).wf=true->Sh P t [.prim (.int k n)]
 | str {t s} : P.underlying t=some .string->s.size<=maxLen->Sh P t [.prim (.string s)]
 | slice {t e es} : P.underlying t=some (.slice e)->(∀ x ∈ es,Sh P e x)->es.length<=maxLen->Sh P t [.frz es .unk]
 | struct {t fs} {pss:List (List AV)} : P.underlying t=some (.struct fs)->pss.length=fs.size->(∀ i f p,fs[i]?=some f->nth pss i=some p->Sh P f.type p)->Sh P t pss.flatten
 | array {t n e} {pss:List (List AV)} : P.underlying t=some (.array n e)->pss.length=n->(∀ p ∈ pss,Sh P e p)->Sh P t pss.flatten
def Abx (P:Program):List Field->Nat->Nat->Bool
 | [],o,n=>o == n
 | f :: fs,o,n=>f.offset == o && Abx P fs (o+P.cellsOf f.type) n
def Aog (P:Program) (F:List TypeId) (t:TypeId):Bool :=
 match P.underlying t with
 | some .bool=>true
 | some (.int k)=>k != .u64
 | some .string=>true
 | some (.slice e)=>F.contains e && decide (0<P.cellsOf e)
 | some (.struct fs)=>Abx P fs.toList 0 (P.cellsOf t) && fs.toList.all fun f=>F.contains f.type
 | some (.array n e)=>F.contains e && P.cellsOf t == n*P.cellsOf e
 | _=>false
def Aee (P:Program) (F:List TypeId):Bool:=F.all (Aog P F)
def Vq:AV->Bool
 | .prim (.int k _)=>k != .u64
 | .prim _=>true
 | .frz _ _=>true
 | _=>false
theorem Arh {w:World} {A:Nat->Nat->Prop} {b:Nat} : ∀ (vs:List Value) (o:Nat),(∀ j v,nth vs j=some v->w.cell? ⟨b,o+j,none⟩=some v/\¬ A b (o+j))->Lie w A b o vs
 | [],_,_=>trivial
 | v :: vs,o,h=>by
  have h0:=h 0 v rfl;refine ⟨h0.1,h0.2,Arh vs (o+1) fun j u hu=>?_⟩;have:=h (j+1) u hu;rwa [show o+(j+1)=o+1+j by omega] at this
theorem Afy {w:World} {A:Nat->Nat->Prop} {b sz:Nat} : ∀ (es:List (List AV)) (o:Nat),(∀ i e,nth es i=some e->e.length=sz/\∃ vs,Lie w A b (o+i*sz) vs/\PRs w A e vs)->Da w A b sz o es
 | [],_,_=>by simp only [Da]
 | e :: es,o,h=>by
  simp only [Da];have h0:=h 0 e rfl;rw [Ov,I5] at h0;refine ⟨h0.1,h0.2,Afy es (o+sz) fun i f hf=>?_⟩;have:=h (i+1) f hf;exact Ya40
theorem Adx {w:World} {A:Nat->Nat->Prop} : ∀ {cs ds:List AV} {us vs:List Value},PRs w A cs us->PRs w A ds vs->PRs w A (cs++ds) (us++vs)
 | [],_,[],_,_,h=>h
 | _ :: _,_,_ :: _,_,h1,h2=>by simp only [PRs,Cn] at h1 ⊢; exact ⟨h1.1,Adx h1.2 h2⟩
 | [],_,_ :: _,_,h1,_=>by simp only [PRs] at h1
 | _ :: _,_,[],_,h1,_=>by simp only [PRs] at h1
theorem Ag0 {w:World} {A:Nat->Nat->Prop} : ∀ {cs:List AV} {vs:List Value},PRs w A cs vs->(∀ c ∈ cs,Vq c=true)->∀ v ∈ vs,∀ n,v≠.int .u64 n
 | [],[],_,_,v,hv=>dR
 | c :: cs,x :: vs,h,hg,v,hv=>by
  simp only [PRs] at h;rcases Cv.1 hv with rfl|hv
  ·intro n e;subst e;have hc:=hg c (by simp);have hp:=h.1;cases c with
   | prim y=>simp only [PR] at hp; rw [<- hp.1] at hc; simp [Vq] at hc
   | frz es q=>cases q <;> simp only [PR] at hp; obtain ⟨a,l,q,e,-⟩:=hp; cases e
   | _=>simp [Vq] at hc
  ·exact Ag0 h.2 (fun d hd=>hg d (by simp [hd])) v hv
 | [],_ :: _,h,_,_,_=>bL
 | _ :: _,[],h,_,_,_=>bL
theorem Ae0 {α β:Type} {f:α->Option β} : ∀ {l:List α} {ys:List β},l.mapM f=some ys->ys.length=l.length/\∀ i x y,nth l i=some x->nth ys i=some y->f x=some y
 | [],ys,h=>by simp at h; subst h; exact ⟨rfl,fun i x y hx=>by simp [nth] at hx⟩
 | a :: l,ys,h=>by
  rw [List.mapM_cons] at h;simp only [Option.pure_def,Option.bind_eq_bind,Io] at h;obtain ⟨b,hb,bs,lg,e⟩:=h;simp only [A8] at e;subst e;obtain ⟨h1,h2⟩:=Ae0 lg;refine ⟨dB,fun i x y hx hy=>?_⟩;cases i with
  | zero=>simp only [nth,A8] at hx hy; subst hx hy; exact hb
  | succ i=>exact h2 i x y hx hy
theorem Ac3 {n i:Nat} (h:i<n):nth (Cz n) i=some i:=by rw [Ag,List.getElem?_range h]
theorem Apv {w:World} {b off n:Nat} {vs:List Value} (h:w.cells? 0 ⟨b,off,none⟩ n=some vs):vs.length=n/\∀ j v,nth vs j=some v->w.cell? ⟨b,off+j,none⟩=some v:=by
 unfold World.cells? at h;rw [if_pos (Cl _)] at h;obtain ⟨h1,h2⟩:=Ae0 h;rw [jJ] at h1;refine ⟨h1,fun j v hv=>?_⟩;have hj:j<n:=by have:=Br hv; omega
 have:=h2 j j v (Ac3 hj) hv;unfold kA at this;split at this
 ·rename_i h0; subst h0; exact this
 ·exact this
theorem spot0 {w:World} {a:Addr} {v:Value} (h:w.cell? a=some v):a.spot=none:=by
 unfold N5 at h;split at h
 ·split at h
  ·cases h
  ·rename_i hs; simpa using hs
 ·cases h
section
variable {H:Type} {enc:TypeId × Value->H} {P:Program} {w:World} {sp:Nat->Bool} {lp:Bool} {A:Nat->Nat->Prop} {F:List TypeId}
def Rd (P:Program) (w:World) (A:Nat->Nat->Prop) (t:TypeId) (cs:List Value) (avs:List AV):Prop:=Sh P t avs/\PRs w A avs cs/\∀ c ∈ avs,Vq c=true
theorem Ab9 {n:Nat} {cs:List Value} (ih:∀ t ds x,t ∈ F->iZ enc P w 0 sp lp n t ds=some x->∃ avs,Rd P w A t ds avs) :
  ∀ (fs:List Field) (o:Nat) (xs:List (DataW H × List MemPlace)),Abx P fs o cs.length=true->(∀ f ∈ fs,f.type ∈ F)->xs.length=fs.length ->
   (∀ i f,nth fs i=some f->iZ enc P w 0 sp lp n f.type ((cs.drop f.offset).take (P.cellsOf f.type))=nth xs i) ->
   ∃ pss:List (List AV),pss.length=fs.length/\(∀ i f p,nth fs i=some f->nth pss i=some p->Sh P f.type p)/\PRs w A pss.flatten (cs.drop o)/\∀ c ∈ pss.flatten,Vq c=true
 | [],o,xs,hc,_,_,_=>by
  simp only [Abx,beq_iff_eq] at hc;exact ⟨[],rfl,fun i f p hf=>by simp [nth] at hf,by rw [hc,Ik]; simp only [List.flatten_nil,PRs],by simp⟩
 | f :: fs,o,xs,hc,hF,hl,h=>by
  simp only [Abx,Ci,beq_iff_eq] at hc;obtain ⟨ho,hc⟩:=hc;cases xs with
  | nil=>simp at hl
  | cons x xs =>
  have h0:=h 0 f rfl;obtain ⟨avs,s1,p1,g1⟩:=ih _ _ _ (hF f (by simp)) h0;obtain ⟨pss,l2,s2,p2,g2⟩:=Ab9 ih fs (o+P.cellsOf f.type) xs hc (fun g hg=>hF g (by simp [hg])) cI fun i g hg=>h (i+1) g hg;refine ⟨avs :: pss,by simp [l2],fun i g p hg hp=>?_,?_,?_⟩
  ·cases i with
   | zero=>simp only [nth,A8] at hg hp; subst hg hp; exact s1
   | succ i=>exact s2 i g p hg hp
  ·rw [ho] at p1;have e:cs.drop o=(cs.drop o).take (P.cellsOf f.type)++cs.drop (o+P.cellsOf f.type):=by
    rw [<- List.drop_drop,Oq]
   rw [e,F3];exact Adx p1 p2
  ·exact Ya1w
theorem Agr {n sz:Nat} {e:TypeId} {cs:List Value} (ih:∀ t ds x,t ∈ F->iZ enc P w 0 sp lp n t ds=some x->∃ avs,Rd P w A t ds avs) (he:e ∈ F) :
  ∀ (k o:Nat),cs.length=o+k*sz->(∀ i,i<k->∃ x,iZ enc P w 0 sp lp n e ((cs.drop (o+i*sz)).take sz)=some x) ->
   ∃ pss:List (List AV),pss.length=k/\(∀ p ∈ pss,Sh P e p)/\PRs w A pss.flatten (cs.drop o)/\∀ c ∈ pss.flatten,Vq c=true
 | 0,o,hl,_=>⟨[],rfl,by simp,by rw [Cy aA]; simp only [List.flatten_nil,PRs],by simp⟩
 | k+1,o,hl,h=>by
  obtain ⟨x,h0⟩:=h 0 aA;rw [Ov,I5] at h0;obtain ⟨avs,s1,p1,g1⟩:=ih _ _ _ he h0;obtain ⟨pss,l2,s2,p2,g2⟩:=Agr (sz:=sz) ih he k (o+sz) (by rw [hl,O7]; omega) fun i hi=>by
   have:=h (i+1) aA;exact Ya40
  refine ⟨avs :: pss,by simp [l2],fun p hp=>?_,?_,?_⟩
  ·rcases Cv.1 hp with rfl|hp
   ·exact s1
   ·exact s2 p hp
  ·have e:cs.drop o=(cs.drop o).take sz++cs.drop (o+sz):=by rw [<- List.drop_drop,Oq]
   rw [e,F3];exact Adx p1 p2
  ·exact Ya1w
theorem Aof (hF:Aee P F=true) (hA:∀ b o v,A b o->w.cell? ⟨b,o,none⟩=some v->∃ n,v=.int .u64 n):∀ (fuel:Nat) (t:TypeId) (cs:List Value) (x:DataW H × List MemPlace),t ∈ F->iZ enc P w 0 sp lp fuel t cs=some x->∃ avs,Rd P w A t cs avs
 | 0,_,_,_,_,h=>by simp [iZ] at h
 | n+1,t,cs,x,ht,h=>by
  have gd:Aog P F t=true:=Fb.1 hF t ht;have ih:∀ t ds x,t ∈ F->iZ enc P w 0 sp lp n t ds=some x->∃ avs,Rd P w A t ds avs:=fun t ds x ht h=>Aof hF hA n t ds x ht h;unfold Aog at gd;split at gd
  ·rename_i hu;obtain ⟨b,rfl,-⟩:=DataW.trod_bool hu h;exact ⟨[.prim (.bool b)],.bool hu,Za3n,by simp [Vq]⟩
  ·rename_i k hu;obtain ⟨q,rfl,-,hw⟩:=DataW.trod_int hu h;exact ⟨[.prim (.int k q)],.int hu hw,Za3n,by simpa [Vq] using gd⟩
  ·rename_i hu;obtain ⟨s,rfl,-,hw⟩:=DataW.trod_string hu h;exact ⟨[.prim (.string s)],.str hu hw,Za3n,by simp [Vq]⟩
  ·rename_i e hu;simp only [Ci,decide_eq_true_eq] at gd;obtain ⟨gd,hpos⟩:=gd;have he:e ∈ F:=by simpa using gd
   rcases DataW.trod_slice hu h with ⟨rfl,-⟩|⟨a,len,cap,elems,rest,n',hn,rfl,-,-,hl,hcap,hel,hi,-,-⟩
   ·exact ⟨[.frz [] .unk],.slice hu (by simp) (by simp),by simp only [PRs,PR,and_true]; exact ⟨none,0,0,rfl,rfl,Ce _,.inl trivial⟩,by simp [Vq]⟩
   ·simp only [iS] at hn;subst hn;have gg:∀ i,i<len->∃ vs avs,w.cells? 0 (a.add (i*P.cellsOf e)) (P.cellsOf e)=some vs/\Rd P w A e vs avs:=fun i b7=>by
     have h1:=hi i b7;rw [Iw aA] at h1;obtain ⟨vs,h2,h3⟩:=Io.1 h1;obtain ⟨avs,h4⟩:=ih _ _ _ he h3;exact ⟨vs,avs,h2,h4⟩
    have hes:∃ es:List (List AV),es.length=len/\∀ i av,nth es i=some av->∃ vs,w.cells? 0 (a.add (i*P.cellsOf e)) (P.cellsOf e)=some vs/\Rd P w A e vs av:=by
     clear hi hel hl hcap h;induction len with
     | zero=>exact ⟨[],rfl,fun i av fy=>by simp [nth] at fy⟩
     | succ len ihl =>
      obtain ⟨es,l1,l2⟩:=ihl fun i b7=>gg i aA;obtain ⟨vs,avs,h1,h2⟩:=gg len aA;refine ⟨es++[avs],by simp [l1],fun i av fy=>?_⟩;rw [Ag] at fy;rcases Im i len with hlt|mf
      ·rw [C3 aA,<- Ag] at fy; exact l2 i av fy
      ·rw [Fc aA,l1] at fy;have:i - len=0:=by
        rcases jA (i - len) with h0|h0
        ·exact h0
        ·rw [Cu aD] at fy; cases fy
       rw [this] at fy;have e1:i=len:=aA
       simp only [Oc,A8] at fy;subst fy e1;exact ⟨vs,h1,h2⟩
    obtain ⟨es,l1,l2⟩:=hes;refine ⟨[.frz es .unk],.slice hu (fun x hx=>?_) aA,?_,by simp [Vq]⟩
    ·obtain ⟨i,hx⟩:=List.mem_iff_getElem?.1 hx;obtain ⟨vs,-,h1,-⟩:=l2 i x (by rw [Ag]; exact hx);exact h1
    ·simp only [PRs,PR,and_true];refine ⟨some a,len,cap,rfl,l1,hl,?_⟩;by_cases hlen:es=[]
     ·exact .inl hlen
     right;have c8:0<len:=by
      rcases jA len with h0|h0
      ·rw [h0] at l1; exact absurd (C4.1 l1) hlen
      ·exact h0
     obtain ⟨b,off,spt⟩:=a;have yp:spt=none:=by
      obtain ⟨vs,avs,h1,-⟩:=gg 0 c8;rw [Ov] at h1;unfold World.cells? at h1;rw [if_pos (Cl _)] at h1;obtain ⟨h2,h3⟩:=Ae0 h1;rw [jJ] at h2;obtain ⟨v,hv⟩:=Af (l:=vs) (i:=0) aA;have h4:=h3 0 0 v (Ac3 hpos) hv;exact spot0 (a:=(⟨b,off,spt⟩:Addr)) h4
     subst yp;have a2j:∀ i,(⟨b,off,none⟩:Addr).add i=⟨b,off+i,none⟩:=fun i=>by
      unfold kA;split
      ·rename_i h0; rw [h0]; rfl
      ·rfl
     refine ⟨b,off,P.cellsOf e,rfl,Afy es off fun i av fy=>?_⟩;obtain ⟨vs,h1,sd,r9,hgd⟩:=l2 i av fy;rw [a2j] at h1;obtain ⟨h2,h3⟩:=Apv h1;refine ⟨by rw [M6 r9,h2],vs,Arh vs _ fun j v hv=>⟨h3 j v hv,fun ha=>?_⟩,r9⟩;obtain ⟨q,hq⟩:=hA _ _ v ha (h3 j v hv);exact Ag0 r9 hgd v (I8 (by rw [Ag] at hv; exact hv)) q hq
  ·rename_i fs hu;simp only [Ci] at gd;obtain ⟨xs,n',hn,-,hlen,hxl,hi⟩:=DataW.trod_struct hu h;simp only [iS] at hn;subst hn;rw [<- hlen] at gd;obtain ⟨pss,l1,l2,l3,l4⟩:=Ab9 ih fs.toList 0 xs gd.1 (fun f hf=>by simpa using Fb.1 gd.2 f hf) (by simpa using hxl) fun i f hf=>by
    rw [Ag] at hf ⊢;exact hi i f (by simpa using hf)
   rw [Fg] at l3;exact ⟨pss.flatten,.struct hu (by simpa using l1) (fun i f p hf hp=>l2 i f p (by rw [Ag]; simpa using hf) hp),l3,l4⟩
  ·rename_i k e hu;simp only [Ci,beq_iff_eq] at gd;obtain ⟨gd,hsz⟩:=gd;have he:e ∈ F:=by simpa using gd
   obtain ⟨xs,n',hn,-,hlen,hxl,hi⟩:=DataW.trod_array hu h;simp only [iS] at hn;subst hn;obtain ⟨pss,l1,l2,l3,l4⟩:=Agr (sz:=P.cellsOf e) ih he k 0 (by rw [hlen,hsz]; omega) fun i hik=>by
    have:=hi i hik;rw [Iw aA] at this;rw [El];exact ⟨_,this⟩
   rw [Fg] at l3;exact ⟨pss.flatten,.array hu l1 l2,l3,l4⟩
  ·cases gd
theorem Atq (hF:Aee P F=true) (hA:∀ b o v,A b o->w.cell? ⟨b,o,none⟩=some v->∃ n,v=.int .u64 n) {t:TypeId} {v:Value} {d:DataW H} {p:List MemPlace} (ht:t ∈ F) (h:jY enc P w 0 sp lp t v d p):∃ avs,Sh P t avs/\PRs w A avs v.cells.toList:=by
 obtain ⟨fuel,hf⟩:=h;obtain ⟨avs,h1,h2,-⟩:=Aof hF hA fuel t _ _ ht hf;exact ⟨avs,h1,h2⟩
theorem At3 {t:TypeId} {avs:List AV} (hu:P.underlying t=some .bool) (h:Sh P t avs):∃ b,avs=[.prim (.bool b)]:=by
 cases h <;> rename_i h <;> rw [hu] at h <;> cases h;exact ⟨_,rfl⟩
theorem Awe {t:TypeId} {avs:List AV} (hu:P.underlying t=some .string) (h:Sh P t avs):∃ s:ByteArray,avs=[.prim (.string s)]/\s.size<=maxLen:=by
 cases h with
 | str _ h=>exact ⟨_,rfl,h⟩
 | bool h|int h|slice h|struct h|array h=>rw [hu] at h; cases h
theorem Anw {t:TypeId} {k:IntKind} {avs:List AV} (hu:P.underlying t=some (.int k)) (h:Sh P t avs):∃ n,avs=[.prim (.int k n)]/\(Lit.int k n).wf=true:=by
 cases h with
 | int h h'=>rw [hu] at h; cases h; exact ⟨_,rfl,h'⟩
 | bool h|str h|slice h|struct h|array h=>rw [hu] at h; cases h
theorem Aaf {t e:TypeId} {avs:List AV} (hu:P.underlying t=some (.slice e)) (h:Sh P t avs):∃ es,avs=[.frz es .unk]/\(∀ x ∈ es,Sh P e x)/\es.length<=maxLen:=by
 cases h with
 | slice h h' hl=>rw [hu] at h; cases h; exact ⟨_,rfl,h',hl⟩
 | bool h|str h|int h|struct h|array h=>rw [hu] at h; cases h
theorem Anx {t:TypeId} {fs:Array Field} {avs:List AV} (hu:P.underlying t=some (.struct fs)) (h:Sh P t avs):∃ pss:List (List AV),avs=pss.flatten/\pss.length=fs.size/\∀ i f p,fs[i]?=some f->nth pss i=some p->Sh P f.type p:=by
 cases h with
 | struct h h1 h2=>rw [hu] at h; cases h; exact ⟨_,rfl,h1,h2⟩
 | bool h|str h|int h|slice h|array h=>rw [hu] at h; cases h
theorem Nt {t:TypeId} {f0 f1:Field} {avs:List AV} (hu:P.underlying t=some (.struct #[f0,f1])) (h:Sh P t avs):∃ p0 p1,avs=p0++p1/\Sh P f0.type p0/\Sh P f1.type p1:=by
 obtain ⟨pss,rfl,hl,hp⟩:=Anx hu h;match pss,hl with
 | [p0,p1],_=>exact ⟨p0,p1,by simp,hp 0 f0 p0 rfl rfl,hp 1 f1 p1 rfl rfl⟩
theorem Ahe {α:Type} {f:α->List AV} {Q:α->Prop} : ∀ {es:List (List AV)},(∀ x ∈ es,∃ c,x=f c/\Q c)->∃ cs:List α,es=cs.map f/\∀ c ∈ cs,Q c
 | [],_=>⟨[],rfl,by simp⟩
 | x :: es,h=>by
  obtain ⟨c,hc,hq⟩:=h x (by simp);obtain ⟨cs,h1,h2⟩:=Ahe (es:=es) fun y hy=>h y (by simp [hy]);exact ⟨c :: cs,by rw [h1,hc]; rfl,fun d hd=>by
   rcases Cv.1 hd with rfl|hd
   ·exact hq
   ·exact h2 d hd⟩
theorem Au1 {C:Cx} {avs:List AV} {xs:Array Value} (h:PRs C.w C.Avoid avs (Value.agg xs).cells.toList):VR C (.agg avs) (.agg xs):=by
 simp only [VR]; exact ⟨xs,rfl,Kx h⟩
theorem Avu {C:Cx} {c:AV} {v:Value} (hv:v.cells.toList=[v]) (h:PRs C.w C.Avoid [c] v.cells.toList):VR C c v:=by
 rw [hv] at h; simp only [PRs,and_true] at h; exact Y4 h
end
end Go.Proofs.YtcjffhadclngmaaGreat
namespace Go.Proofs.YtcjffhadclngmaaGreat.Simp
def sum:Nat->(Nat->Rat)->Rat
 | 0,_=>0
 | n+1,f=>sum n f+f n
theorem sum_congr {f g:Nat->Rat} : ∀ {n:Nat},(∀ j,j<n->f j=g j)->sum n f=sum n g
 | 0,_=>rfl
 | n+1,h=>by rw [sum,sum,sum_congr fun j hj=>h j aA,h n aA]
theorem sum_zero {f:Nat->Rat} {n:Nat} (h:∀ j,j<n->f j=0):sum n f=0:=by
 induction n with
 | zero=>rfl
 | succ n ih=>rw [sum,ih fun j hj=>h j aA,h n aA]; grind
theorem sum_add (f g:Nat->Rat):∀ n,sum n (fun j=>f j+g j)=sum n f+sum n g
 | 0=>dW
 | n+1=>by simp only [sum,sum_add f g n]; grind
theorem Kv (a:Rat) (f:Nat->Rat):∀ n,sum n (fun j=>a*f j)=a*sum n f
 | 0=>dW
 | n+1=>by simp only [sum,Kv a f n]; grind
theorem Afm (f g:Nat->Rat):∀ n,sum n (fun j=>f j - g j)=sum n f - sum n g
 | 0=>dW
 | n+1=>by simp only [sum,Afm f g n]; grind
theorem Uf (f:Nat->Nat->Rat) (m:Nat):∀ n,sum n (fun j=>sum m fun k=>f j k)=sum m fun k=>sum n fun j=>f j k
 | 0=>by simp only [sum]; exact (sum_zero fun _ _=>rfl).symm
 | n+1=>by simp only [sum,Uf f m n,sum_add]
theorem sum_one {f:Nat->Rat} {s:Nat} : ∀ {n:Nat},s<n->sum n (fun j=>if j=s then f j else 0)=f s
 | 0,h=>aA
 | n+1,h=>by
  rw [sum];by_cases e:n=s
  ·subst e;rw [if_pos rfl,sum_zero fun j hj=>if_neg aA]; grind
  ·rw [if_neg e,sum_one aA]; grind
theorem sum_nonneg {f:Nat->Rat} : ∀ {n:Nat},(∀ j,j<n->0<=f j)->0<=sum n f
 | 0,_=>dW
 | n+1,h=>by
  have h1:=sum_nonneg (f:=f) (n:=n) fun j hj=>h j aA;have h2:=h n aA;rw [sum]; grind
theorem Tr {f:Nat->Rat} : ∀ {n:Nat},0<sum n f->∃ j,j<n/\0<f j
 | 0,h=>by simp only [sum] at h; grind
 | n+1,h=>by
  rw [sum] at h;by_cases h1:0<f n
  ·exact ⟨n,aA,h1⟩
  ·have h2:0<sum n f:=aL
   obtain ⟨j,hj,h3⟩:=Tr h2;exact ⟨j,aA,h3⟩
structure Tab where
 T:Nat->Nat->Rat
 c:Nat->Rat
 B:Nat->Nat
def dot (N:Nat) (a x:Nat->Rat):Rat:=sum (N+1) fun j=>a j*x j
def Ker (m N:Nat) (t:Tab) (x:Nat->Rat):Prop:=∀ i,i<m->dot N (t.T i) x=0
def pivT (t:Tab) (r s:Nat) (i j:Nat):Rat:=if i=r then t.T r j / t.T r s else t.T i j - t.T i s*(t.T r j / t.T r s)
def piv (t:Tab) (r s:Nat):Tab:=⟨pivT t r s,fun j=>t.c j - t.c s*(t.T r j / t.T r s),fun i=>if i=r then s else t.B i⟩
theorem Zm (N:Nat) (a:Rat) (f x:Nat->Rat):dot N (fun j=>a*f j) x=a*dot N f x:=by
 unfold dot;rw [<- Kv];exact Ya49
theorem Aln (N:Nat) (f g x:Nat->Rat):dot N (fun j=>f j - g j) x=dot N f x - dot N g x:=by
 unfold dot;rw [<- Afm];exact Ya49
theorem Alk (N:Nat) (a:Rat) (f x:Nat->Rat):dot N (fun j=>f j / a) x=dot N f x / a:=by
 have h:=Zm N a⁻¹ f x;have e1:(fun j=>a⁻¹*f j)=fun j=>f j / a:=by funext j; grind
 rw [e1] at h;rw [h]; grind
theorem Agq (N:Nat) (a:Rat) (p:Rat) (f g x:Nat->Rat):dot N (fun j=>f j - a*(g j / p)) x=dot N f x - a*(dot N g x / p):=by
 rw [Aln,Zm N a (fun j=>g j / p) x,Alk]
theorem Afc (t:Tab) (r s:Nat) (N:Nat) (x:Nat->Rat) (i:Nat):dot N ((piv t r s).T i) x=if i=r then dot N (t.T r) x / t.T r s else dot N (t.T i) x - t.T i s*(dot N (t.T r) x / t.T r s):=by
 by_cases h:i=r
 ·subst h;rw [if_pos rfl];have e:(piv t i s).T i=fun j=>t.T i j / t.T i s:=by funext j; simp [piv,pivT]
  rw [e,Alk]
 ·rw [if_neg h];have e:(piv t r s).T i=fun j=>t.T i j - t.T i s*(t.T r j / t.T r s):=by funext j; simp [piv,pivT,h]
  rw [e,Agq]
theorem piv_ker {m N:Nat} {t:Tab} {r s:Nat} (hr:r<m) (hp:t.T r s≠0) (x:Nat->Rat):Ker m N (piv t r s) x↔Ker m N t x:=by
 constructor
 ·intro h;have h0:=h r hr;rw [Afc,if_pos rfl] at h0;have cg:dot N (t.T r) x=0:=by
   have:dot N (t.T r) x=dot N (t.T r) x / t.T r s*t.T r s:=aL
   rw [this,h0]; grind
  intro i hi;have h1:=h i hi;rw [Afc] at h1;by_cases e:i=r
  ·subst e; exact cg
  ·rw [if_neg e,cg] at h1; grind
 ·intro h i hi;rw [Afc,h r hr,h i hi];split <;> grind
theorem piv_cost {m N:Nat} {t:Tab} {r s:Nat} (hr:r<m) {x:Nat->Rat} (hx:Ker m N t x):dot N (piv t r s).c x=dot N t.c x:=by
 show dot N (fun j=>t.c j - t.c s*(t.T r j / t.T r s)) x=_;rw [Agq,hx r hr]; grind
structure Fit (m N:Nat) (t:Tab):Prop where
 lt:∀ i,i<m->t.B i<N
 unit:∀ i k,i<m->k<m->t.T i (t.B k)=if i=k then 1 else 0
 free:∀ k,k<m->t.c (t.B k)=0
theorem Fit.inj {m N:Nat} {t:Tab} (h:Fit m N t) {i k:Nat} (hi:i<m) (hk:k<m) (e:t.B i=t.B k):i=k:=by
 have h1:=h.unit i i hi hi;have h2:=h.unit i k hi hk;rw [e,h2] at h1;by_cases hik:i=k
 ·exact hik
 ·rw [if_neg hik,if_pos rfl] at h1; grind
theorem piv_fit {m N:Nat} {t:Tab} {r s:Nat} (h:Fit m N t) (hr:r<m) (hs:s<N) (hp:t.T r s≠0):Fit m N (piv t r s):=by
 refine ⟨fun i hi=>?_,fun i k hi hk=>?_,fun k hk=>?_⟩
 ·show (if i=r then s else t.B i)<N;split
  ·exact hs
  ·exact h.lt i hi
 ·show pivT t r s i (if k=r then s else t.B k)=_;unfold pivT;by_cases hkr:k=r
  ·subst hkr;simp only [if_pos];by_cases hik:i=k
   ·subst hik;exact Ya1v
   ·rw [if_neg hik,if_neg hik]; grind
  ·rw [if_neg hkr];have h1:=h.unit r k hr hk;rw [if_neg (Ih hkr)] at h1;have h2:=h.unit i k hi hk;by_cases yx:i=r
   ·subst yx; rw [if_pos rfl,h1,if_neg (Ih hkr)]; grind
   ·rw [if_neg yx,h1,h2]; grind
 ·show t.c (if k=r then s else t.B k) - t.c s*(t.T r (if k=r then s else t.B k) / t.T r s)=0;by_cases hkr:k=r
  ·subst hkr; simp only [if_pos]; grind
  ·rw [if_neg hkr,h.free k hk];have h1:=h.unit r k hr hk;rw [if_neg (Ih hkr)] at h1;rw [h1]; grind
def dir (m:Nat) (t:Tab) (s:Nat) (j:Nat):Rat:=(if j=s then 1 else 0) - sum m fun k=>if j=t.B k then t.T k s else 0
theorem Zl {m N:Nat} {t:Tab} (h:Fit m N t) {s:Nat} (hs:s<N+1) (a:Nat->Rat):dot N a (dir m t s)=a s - sum m fun k=>t.T k s*a (t.B k):=by
 unfold dot dir;have e1:∀ j,a j*((if j=s then 1 else 0) - sum m fun k=>if j=t.B k then t.T k s else 0)=(if j=s then a j else 0) - sum m fun k=>if j=t.B k then t.T k s*a j else 0:=by
  intro j;have e2:(sum m fun k=>if j=t.B k then t.T k s*a j else 0)=a j*sum m fun k=>if j=t.B k then t.T k s else 0:=by
   rw [<- Kv];exact sum_congr fun k _=>by split <;> grind
  rw [e2];split <;> grind
 rw [sum_congr fun j _=>e1 j,Afm,sum_one hs,Uf];congr 1;exact sum_congr fun k hk=>by
  have hb:t.B k<N+1:=by have:=h.lt k hk; omega
  rw [sum_one (f:=fun j=>t.T k s*a j) hb]
theorem Vc {m N:Nat} {t:Tab} (h:Fit m N t) {s:Nat} (hs:s<N+1):Ker m N t (dir m t s):=by
 intro i hi;rw [Zl h hs];have:(sum m fun k=>t.T k s*t.T i (t.B k))=t.T i s:=by
  rw [sum_congr (g:=fun k=>if k=i then t.T k s else 0) fun k hk=>?_,sum_one (f:=fun k=>t.T k s) hi];rw [h.unit i k hi hk];exact Ya4e
 rw [this]; grind
theorem T5 {m N:Nat} {t:Tab} (h:Fit m N t) {s:Nat} (hs:s<N+1):dot N t.c (dir m t s)=t.c s:=by
 rw [Zl h hs,sum_zero fun k hk=>by rw [h.free k hk]; grind]; grind
theorem Awg {m N:Nat} {t u:Tab} (ht:Fit m N t) (hu:Fit m N u) (hB:∀ i,i<m->t.B i=u.B i) (hk:∀ x,Ker m N t x->Ker m N u x) (hc:∀ x,Ker m N t x->dot N u.c x=dot N t.c x) :
  (∀ i j,i<m->j<N+1->t.T i j=u.T i j)/\∀ j,j<N+1->t.c j=u.c j:=by
 have key:∀ a j,j<N+1->dot N a (dir m t j)=a j - sum m fun k=>t.T k j*a (u.B k):=fun a j hj=>by
  rw [Zl ht hj];congr 1;exact sum_congr fun k hk=>by rw [hB k hk]
 constructor
 ·intro i j hi hj;have h1:=hk _ (Vc ht hj) i hi;rw [key _ j hj] at h1;have:(sum m fun k=>t.T k j*u.T i (u.B k))=t.T i j:=by
   rw [sum_congr (g:=fun k=>if k=i then t.T k j else 0) fun k hk=>?_,sum_one (f:=fun k=>t.T k j) hi];rw [hu.unit i k hi hk];exact Ya4e
  rw [this] at h1;grind
 ·intro j hj;have h1:=hc _ (Vc ht hj);rw [key _ j hj,T5 ht hj,sum_zero fun k hk=>by rw [hu.free k hk]; grind] at h1;grind
end Go.Proofs.YtcjffhadclngmaaGreat.Simp
namespace Go.Proofs.YtcjffhadclngmaaGreat.Simp
structure Step (m N L:Nat) (t:Tab) (r s:Nat):Prop where
 r_lt:r<m
 s_lt:s<L
 neg:t.c s<0
 first:∀ j,j<s->0<=t.c j
 pos:0<t.T r s
 least:∀ i,i<m->0<t.T i s->t.T r N / t.T r s<=t.T i N / t.T i s
 tie:∀ i,i<m->0<t.T i s->t.T r N / t.T r s=t.T i N / t.T i s->t.B r<=t.B i
structure Run (m N L K:Nat) where
 t:Nat->Tab
 r:Nat->Nat
 s:Nat->Nat
 step:∀ k,k<K->Step m N L (t k) (r k) (s k)
 next:∀ k,k<K->t (k+1)=piv (t k) (r k) (s k)
 fit:Fit m N (t 0)
 LN:L<=N
 right:∀ i,i<m->0<=(t 0).T i N
section
variable {m N L K:Nat} (R:Run m N L K)
theorem Run.fits (k:Nat) (h:k<=K):Fit m N (R.t k):=by
 induction k with
 | zero=>exact R.fit
 | succ k ih =>
  have hs:=R.step k aA;rw [R.next k aA];exact piv_fit (ih aA) hs.r_lt (by have:=hs.s_lt; have:=R.LN; omega) (by have:=hs.pos; grind)
theorem Pa {a b:Rat} (ha:0<=a) (hb:0<b):0<=a / b:=by
 rw [Rat.div_def];exact iE ha (Rat.le_of_lt (Rat.inv_pos.mpr hb))
theorem Run.rights (k:Nat) (h:k<=K):∀ i,i<m->0<=(R.t k).T i N:=by
 induction k with
 | zero=>exact R.right
 | succ k ih0 =>
  intro i hi;have hs:=R.step k aA;have ih:=ih0 aA;have hr:=ih (R.r k) hs.r_lt;have hq:=Pa hr hs.pos;rw [R.next k aA];show 0<=pivT _ _ _ _ _;unfold pivT;split
  ·exact hq
  ·have bc:=ih i hi;by_cases hp:0<(R.t k).T i (R.s k)
   ·have hl:=hs.least i hi hp;have h1:(R.t k).T i (R.s k)*((R.t k).T (R.r k) N / (R.t k).T (R.r k) (R.s k))<=(R.t k).T i (R.s k)*((R.t k).T i N / (R.t k).T i (R.s k)):=Rat.mul_le_mul_of_nonneg_left hl (Rat.le_of_lt hp);have h2:(R.t k).T i (R.s k)*((R.t k).T i N / (R.t k).T i (R.s k))=(R.t k).T i N:=aL
    grind
   ·have h1:0<=(-(R.t k).T i (R.s k))*((R.t k).T (R.r k) N / (R.t k).T (R.r k) (R.s k)):=iE aL hq;grind
theorem Run.ker {k l:Nat} (hkl:k<=l) (hl:l<=K) (x:Nat->Rat):Ker m N (R.t l) x↔Ker m N (R.t k) x:=by
 induction l with
 | zero =>
  have:k=0:=aA
  subst this; exact Iff.rfl
 | succ l ih =>
  by_cases e:k=l+1
  ·subst e; exact Iff.rfl
  ·have hs:=R.step l aA;rw [R.next l aA,piv_ker hs.r_lt (by have:=hs.pos; grind)];exact ih aA aA
theorem Run.cost {k l:Nat} (hkl:k<=l) (hl:l<=K) {x:Nat->Rat} (hx:Ker m N (R.t k) x):dot N (R.t l).c x=dot N (R.t k).c x:=by
 induction l with
 | zero =>
  have:k=0:=aA
  subst this; rfl
 | succ l ih =>
  by_cases e:k=l+1
  ·subst e; rfl
  ·have hs:=R.step l aA;rw [R.next l aA,piv_cost hs.r_lt ((R.ker (k:=k) aA aA x).2 hx)];exact ih aA aA
theorem Run.gain {k:Nat} (h:k<K):(R.t (k+1)).c N=(R.t k).c N+(-(R.t k).c (R.s k))*((R.t k).T (R.r k) N / (R.t k).T (R.r k) (R.s k)):=by
 rw [R.next k h];show (R.t k).c N - _=_;grind
theorem Run.grow {k:Nat} (h:k<K):(R.t k).c N<=(R.t (k+1)).c N:=by
 have hs:=R.step k h;have h1:0<=(-(R.t k).c (R.s k))*((R.t k).T (R.r k) N / (R.t k).T (R.r k) (R.s k)):=iE (by have:=hs.neg; grind) (Pa (R.rights k aA _ hs.r_lt) hs.pos);rw [R.gain h]; grind
theorem Run.mono {k l:Nat} (hkl:k<=l) (hl:l<=K):(R.t k).c N<=(R.t l).c N:=by
 induction l with
 | zero =>
  have:k=0:=aA
  subst this; exact Sw
 | succ l ih =>
  by_cases e:k=l+1
  ·subst e; exact Sw
  ·exact Rat.le_trans (ih aA aA) (R.grow aA)
theorem Run.basis {k:Nat} (h:k<K) (i:Nat):(R.t (k+1)).B i=if i=R.r k then R.s k else (R.t k).B i:=by rw [R.next k h]; rfl
theorem Run.out {k l i y:Nat} (hkl:k<=l) (hl:l<=K) (h1:(R.t k).B i=y) (h2:(R.t l).B i≠y):∃ j,k<=j/\j<l/\R.r j=i/\(R.t j).B i=y:=by
 induction l with
 | zero =>
  have:k=0:=aA
  subst this; exact absurd h1 h2
 | succ l ih =>
  by_cases e:k=l+1
  ·subst e; exact absurd h1 h2
  ·by_cases h3:(R.t l).B i=y
   ·refine ⟨l,aA,aA,?_,h3⟩;rw [R.basis aA] at h2;by_cases e2:i=R.r l
    ·exact e2.symm
    ·rw [if_neg e2] at h2; exact absurd h3 h2
   ·obtain ⟨j,a,b,c⟩:=ih aA aA h3;exact ⟨j,a,aA,c⟩
theorem Run.into {k l i y:Nat} (hkl:k<=l) (hl:l<=K) (h1:(R.t k).B i≠y) (h2:(R.t l).B i=y):∃ j,k<=j/\j<l/\R.r j=i/\R.s j=y:=by
 induction l with
 | zero =>
  have:k=0:=aA
  subst this; exact absurd h2 h1
 | succ l ih =>
  by_cases e:k=l+1
  ·subst e; exact absurd h2 h1
  ·by_cases h3:(R.t l).B i=y
   ·obtain ⟨j,a,b,c⟩:=ih aA aA h3;exact ⟨j,a,aA,c⟩
   ·rw [R.basis aA] at h2;by_cases e2:i=R.r l
    ·rw [if_pos e2] at h2; exact ⟨l,aA,aA,e2.symm,h2⟩
    ·rw [if_neg e2] at h2; exact absurd h2 h3
theorem Atp {f:Nat->Nat} {p q:Nat} (h:p<q):∃ k,p<=k/\k<q/\∀ j,p<=j->j<q->f j<=f k:=by
 obtain ⟨d,rfl⟩:∃ d,q=p+d+1:=⟨q - p - 1,aA⟩;clear h;induction d with
 | zero=>exact ⟨p,aA,aA,fun j h1 h2=>by
   have:j=p:=aA
   subst this; exact Ce _⟩
 | succ d ih =>
  obtain ⟨k,h1,h2,h3⟩:=ih;by_cases h4:f k<=f (p+d+1)
  ·refine ⟨p+d+1,aA,aA,fun j h5 h6=>?_⟩;by_cases e:j=p+d+1
   ·subst e;exact Ya3b
   ·exact Fs (h3 j h5 aA) h4
  ·refine ⟨k,h1,aA,fun j h5 h6=>?_⟩;by_cases e:j=p+d+1
   ·subst e; omega
   ·exact h3 j h5 aA
theorem Run.bland {p q:Nat} (hpq:p<q) (hq:q<=K) (hB:∀ i,i<m->(R.t p).B i=(R.t q).B i):False:=by
 have hfp:=R.fits p aA;have hfq:=R.fits q hq;obtain ⟨-,hc⟩:=Awg hfp hfq hB (fun x hx=>(R.ker aA hq x).2 hx) (fun x hx=>R.cost aA hq hx);have hz:∀ k,p<=k->k<q->(R.t k).T (R.r k) N=0:=fun k h1 h2=>by
  have hs:=R.step k aA;have g0:=R.mono h1 (show k<=K by omega);have g1:=R.mono (show k+1<=q by omega) hq;have g2:=R.grow (k:=k) aA;have g3:=hc N aA;have g4:=R.gain (k:=k) aA;have g5:(-(R.t k).c (R.s k))*((R.t k).T (R.r k) N / (R.t k).T (R.r k) (R.s k))=0:=aL
  have hn:=hs.neg;have hp:=hs.pos;grind
 have hb:∀ k,p<=k->k<=q->∀ i,i<m->(R.t k).T i N=(R.t p).T i N:=by
  intro k h1 h2;induction k with
  | zero =>
   have:p=0:=aA
   subst this; exact fun _ _=>rfl
  | succ k ih =>
   by_cases e:p=k+1
   ·subst e; exact fun _ _=>rfl
   ·intro i hi;have h0:=hz k aA aA;rw [<- ih aA aA i hi,R.next k aA];show pivT _ _ _ _ _=_;unfold pivT;by_cases e2:i=R.r k
    ·subst e2; rw [if_pos rfl,h0]; grind
    ·rw [if_neg e2,h0]; grind
 have az:∀ k j,p<=k->k<q->p<=j->j<=q->(R.t j).T (R.r k) N=0:=fun k j h1 h2 h3 h4=>by
  have hs:=R.step k aA;rw [hb j h3 h4 _ hs.r_lt,<- hb k h1 aA _ hs.r_lt];exact hz k h1 h2
 have gd:∀ {i y k l:Nat},i<m->p<=k->k<=q->p<=l->l<=q->(R.t k).B i=y->(R.t l).B i≠y->∃ j,p<=j/\j<q/\R.r j=i/\R.s j=y:=by
  intro i y k l hi h1 h2 h3 h4 h5 h6;by_cases e:(R.t p).B i=y
  ·obtain ⟨j,a,b,c⟩:=R.into h4 hq h6 ((hB i hi).symm.trans e);exact ⟨j,aA,b,c⟩
  ·obtain ⟨j,a,b,c⟩:=R.into h1 aA e h5;exact ⟨j,a,aA,c⟩
 obtain ⟨k1,a1,a2,a3⟩:=Atp (f:=R.s) hpq;have jd:=R.step k1 aA;have qw:=R.fits k1 aA;obtain ⟨y,hy⟩:∃ y,y=R.s k1:=⟨_,rfl⟩;have a2u:∃ k2,p<=k2/\k2<q/\(R.t k2).B (R.r k2)=y:=by
  have a5q:(R.t k1).B (R.r k1)≠y:=fun e=>by
   have:=qw.free _ jd.r_lt;rw [e,hy] at this;have:=jd.neg;grind
  have jh:(R.t (k1+1)).B (R.r k1)=y:=by rw [R.basis aA,if_pos rfl,hy]
  by_cases e:(R.t q).B (R.r k1)=y
  ·obtain ⟨j,b1,b2,b3,b4⟩:=R.out a1 aA ((hB _ jd.r_lt).trans e) a5q;exact ⟨j,b1,aA,by rw [b3]; exact b4⟩
  ·obtain ⟨j,b1,b2,b3,b4⟩:=R.out (show k1+1<=q by omega) hq jh e;exact ⟨j,aA,b2,by rw [b3]; exact b4⟩
 obtain ⟨k2,c1,c2,c3⟩:=a2u;have fh:=R.step k2 aA;have dp:=R.fits k2 aA;have hsN:R.s k2<N+1:=by have:=fh.s_lt; have:=R.LN; omega
 have hd:=Vc dp hsN;have e1:=T5 dp hsN;have e2:dot N (R.t k1).c (dir m (R.t k2) (R.s k2))=dot N (R.t k2).c (dir m (R.t k2) (R.s k2)):=by
  rcases Nat.le_total k1 k2 with h|h
  ·exact (R.cost h aA ((R.ker h aA _).1 hd)).symm
  ·exact R.cost h aA hd
 rw [e1,Zl dp hsN] at e2;have hsy:R.s k2<y:=by
  have h1:=a3 k2 c1 c2;rw [<- hy] at h1;have h2:R.s k2≠y:=fun e=>by
   have h3:=dp.free _ fh.r_lt;rw [c3,<- e] at h3;have:=fh.neg;grind
  omega
 have h0:=jd.first (R.s k2) (by rw [<- hy]; exact hsy)
 have a6z:=fh.neg;obtain ⟨i,hi,hip⟩:=Tr (n:=m) (f:=fun k=>(R.t k2).T k (R.s k2)*(R.t k1).c ((R.t k2).B k)) aL;have hx:∀ i',i'<m->(R.t k1).B i'≠(R.t k2).B i:=fun i' bc e=>by
  have:=qw.free i' bc;rw [e] at this;rw [this] at hip;grind
 obtain ⟨j,d1,d2,d3,d4⟩:=gd hi c1 aA a1 aA rfl (hx i hi);have hle:(R.t k2).B i<=y:=by rw [<- d4,hy]; exact a3 j d1 d2
 have hbi:(R.t k2).T i N=0:=by rw [<- d3]; exact az j k2 d1 d2 c1 aA
 have hne:(R.t k2).B i≠y:=fun e=>by
  have yx:i=R.r k2:=dp.inj hi fh.r_lt (e.trans c3.symm);subst yx;rw [c3,hy] at hip;have h1:=jd.neg;have h2:=fh.pos;have h3:0<(R.t k2).T (R.r k2) (R.s k2)*(-(R.t k1).c (R.s k1)):=Rat.mul_pos h2 aL;grind
 have h5:=jd.first ((R.t k2).B i) (by rw [<- hy]; omega)
 have h6:0<(R.t k2).T i (R.s k2):=by
  refine O0 fun h=>?_;have h7:0<=(-(R.t k2).T i (R.s k2))*(R.t k1).c ((R.t k2).B i):=iE aL h5;grind
 have h8:=fh.tie i hi h6 (by rw [hbi,hz k2 c1 c2]; grind);rw [c3] at h8;omega
end
end Go.Proofs.YtcjffhadclngmaaGreat.Simp
namespace Go.Proofs.YtcjffhadclngmaaGreat.Simp
theorem Anb:∀ (M:Nat) (f:Nat->Nat),(∀ k,k<=M->f k<M)->∃ p q,p<q/\q<=M/\f p=f q
 | 0,f,h=>absurd (h 0 (Ce _)) aA
 | M+1,f,h=>by
  by_cases hx:∃ k,k<=M/\f k=f (M+1)
  ·obtain ⟨k,h1,h2⟩:=hx;exact ⟨k,M+1,aA,Ce _,h2⟩
  ·have hne:∀ k,k<=M->f k≠f (M+1):=fun k hk e=>hx ⟨k,hk,e⟩;obtain ⟨p,q,h1,h2,h3⟩:=Anb M (fun k=>if f k > f (M+1) then f k - 1 else f k) fun k hk=>by
    have a:=h k aA;have b:=h (M+1) (Ce _);have c:=hne k hk;split <;> omega
   have a:=hne p aA;have b:=hne q h2;refine ⟨p,q,h1,aA,?_⟩;split at h3 <;> split at h3 <;> omega
def code (N:Nat) (B:Nat->Nat):Nat->Nat
 | 0=>0
 | m+1=>code N B m*N+B m
theorem Aeh {N:Nat} {B:Nat->Nat} : ∀ {m:Nat},(∀ i,i<m->B i<N)->code N B m<N ^ m
 | 0,_=>by simp [code]
 | m+1,h=>by
  have h1:=Aeh (m:=m) fun i hi=>h i aA;have h2:=h m aA;rw [code,Sp];have h3:(code N B m+1)*N<=N ^ m*N:=F2 _ h1;rw [O7] at h3;omega
theorem Ze {N:Nat} {B C:Nat->Nat} : ∀ {m:Nat},(∀ i,i<m->B i<N)->(∀ i,i<m->C i<N)->code N B m=code N C m->∀ i,i<m->B i=C i
 | 0,_,_,_,i,hi=>aA
 | m+1,hb,hc,h,i,hi=>by
  have h1:=hb m aA;have h2:=hc m aA;rw [code,code] at h;have e1:B m=C m:=by
   have a:(code N B m*N+B m) % N=B m:=by rw [Ox,Nat.mul_add_mod]; exact Po h1
   have b:(code N C m*N+C m) % N=C m:=by rw [Ox,Nat.mul_add_mod]; exact Po h2
   rw [h] at a;exact a.symm.trans b
  have e2:code N B m=code N C m:=by
   rw [e1] at h;have h3:code N B m*N=code N C m*N:=aA
   exact Nat.eq_of_mul_eq_mul_right aA h3
  by_cases e:i=m
  ·subst e; exact e1
  ·exact Ze (fun i hi=>hb i aA) (fun i hi=>hc i aA) e2 i aA
theorem Run.short {m N L K:Nat} (R:Run m N L K):K<N ^ m:=by
 refine O0 fun hk=>?_;have hk:N ^ m<=K:=aA
 obtain ⟨p,q,h1,h2,h3⟩:=Anb (N ^ m) (fun k=>code N (R.t k).B m) fun k hk'=>Aeh (R.fits k aA).lt;exact R.bland h1 aA (Ze (R.fits p aA).lt (R.fits q aA).lt h3)
def Run.none {m N L:Nat} {t:Tab} (h:Fit m N t) (hL:L<=N) (hr:∀ i,i<m->0<=t.T i N):Run m N L 0:=⟨fun _=>t,fun _=>0,fun _=>0,fun k hk=>aA,fun k hk=>aA,h,hL,hr⟩
def Run.more {m N L K:Nat} (R:Run m N L K) {r s:Nat} (h:Step m N L (R.t K) r s):Run m N L (K+1) where
 t:=fun k=>if k=K+1 then piv (R.t K) r s else R.t k
 r:=fun k=>if k=K then r else R.r k
 s:=fun k=>if k=K then s else R.s k
 step:=fun k hk=>by
  rw [if_neg (show ¬ k=K+1 by omega)];by_cases e:k=K
  ·subst e; rw [if_pos rfl,if_pos rfl]; exact h
  ·rw [if_neg e,if_neg e]; exact R.step k aA
 next:=fun k hk=>by
  rw [if_neg (show ¬ k=K+1 by omega)];by_cases e:k=K
  ·subst e; rw [if_pos rfl,if_pos rfl,if_pos rfl]
  ·rw [if_neg e,if_neg e,if_neg aA]; exact R.next k aA
 fit:=by rw [if_neg aA]; exact R.fit
 LN:=R.LN
 right:=by rw [if_neg aA]; exact R.right
theorem Run.more_last {m N L K:Nat} (R:Run m N L K) {r s:Nat} (h:Step m N L (R.t K) r s):(R.more h).t (K+1)=piv (R.t K) r s:=if_pos rfl
theorem Run.more_old {m N L K:Nat} (R:Run m N L K) {r s:Nat} (h:Step m N L (R.t K) r s) {k:Nat} (hk:k<=K):(R.more h).t k=R.t k:=if_neg aA
structure Sol (m N:Nat) (t:Tab) (x:Nat->Rat):Prop where
 ker:Ker m N t x
 pos:∀ j,j<N->0<=x j
 one:x N=-1
def base (m N:Nat) (t:Tab) (j:Nat):Rat:=- dir m t N j
theorem Alm (N:Nat) (a x:Nat->Rat):dot N a (fun j=>- x j)=- dot N a x:=by
 unfold dot;have h:=Kv (-1) (fun j=>a j*x j) (N+1);rw [sum_congr (g:=fun j=>-1*(a j*x j)) fun j _=>aL,h]; grind
theorem Y8 {m N:Nat} {t:Tab} (h:Fit m N t) (hr:∀ i,i<m->0<=t.T i N):Sol m N t (base m N t):=by
 refine ⟨fun i hi=>?_,fun j hj=>?_,?_⟩
 ·have:=Vc h (s:=N) aA i hi;show dot N (t.T i) (fun j=>- dir m t N j)=0;rw [Alm,this]; grind
 ·show 0<=- dir m t N j;unfold dir;rw [if_neg aA];have:0<=sum m fun k=>if j=t.B k then t.T k N else 0:=sum_nonneg fun k hk=>by
   split
   ·exact hr k hk
   ·exact Sw
  grind
 ·show - dir m t N N=-1;unfold dir;rw [if_pos rfl,sum_zero fun k hk=>if_neg (by have:=h.lt k hk; omega)]; grind
theorem Px {m N:Nat} {t:Tab} (h:Fit m N t):dot N t.c (base m N t)=- t.c N:=by
 show dot N t.c (fun j=>- dir m t N j)=_;rw [Alm,T5 h aA]
theorem Adq {f:Nat->Rat} {L:Nat} : ∀ {N:Nat},L<=N->(∀ j,L<=j->j<N->f j=0)->sum N f=sum L f
 | 0,h,_=>by
  have:L=0:=aA
  subst this; rfl
 | N+1,h,hz=>by
  by_cases e:L=N+1
  ·subst e; rfl
  ·rw [sum,hz N aA aA,Adq aA fun j h1 h2=>hz j h1 aA]; grind
theorem Ags {m N L:Nat} {t:Tab} (hL:L<=N) (hc:∀ j,j<L->0<=t.c j) {x:Nat->Rat} (hx:Sol m N t x) (h0:∀ j,L<=j->j<N->x j=0) : - t.c N<=dot N t.c x:=by
 have h1:0<=sum N fun j=>t.c j*x j:=by
  rw [Adq hL fun j h1 h2=>by rw [h0 j h1 h2]; grind];exact sum_nonneg fun j hj=>iE (hc j hj) (hx.pos j aA)
 unfold dot;rw [sum,hx.one]; grind
end Go.Proofs.YtcjffhadclngmaaGreat.Simp
namespace Go.Proofs.YtcjffhadclngmaaGreat.Simp
def isum:Nat->(Nat->Int)->Int
 | 0,_=>0
 | n+1,f=>isum n f+f n
theorem Ag3 (f g:Nat->Int):∀ n,isum n (fun j=>f j - g j)=isum n f - isum n g
 | 0=>rfl
 | n+1=>by simp only [isum,Ag3 f g n]; omega
theorem Ru {f:Nat->Int} {b:Nat} : ∀ {n:Nat},(∀ j,j<n->(f j).natAbs<=b)->(isum n f).natAbs<=n*b
 | 0,_=>by simp [isum]
 | n+1,h=>by
  have h1:=Ru (f:=f) (b:=b) (n:=n) fun j hj=>h j aA;have h2:=h n aA;rw [isum,O7]; omega
theorem Vv (f:Nat->Int):∀ n,((isum n f:Int):Rat)=sum n fun j=>((f j:Int):Rat)
 | 0=>by simp [isum,sum]
 | n+1=>by rw [isum,sum,kJ,Vv f n]
def dg (b n k:Nat):Nat:=k / b ^ n % b
theorem Avf {b:Nat} (hb:0<b):∀ {d p q:Nat},p<b ^ d->q<b ^ d->(∀ n,n<d->dg b n p=dg b n q)->p=q
 | 0,p,q,hp,hq,_=>by simp at hp hq; omega
 | d+1,p,q,hp,hq,h=>by
  have h0:=h 0 aA;simp only [dg,Nat.pow_zero,Nat.div_one] at h0;have h1:p / b=q / b:=by
   refine Avf hb (d:=d) ?_ ?_ fun n hn=>?_
   ·rw [O1 hb,<- Sp]; exact hp
   ·rw [O1 hb,<- Sp]; exact hq
   ·have:=h (n+1) aA;simpa only [dg,Sp,Ox,Nat.div_div_eq_div_mul] using this
  have e1:=iU p b;have e2:=iU q b;rw [h1,h0] at e1;omega
theorem Awf (m M:Nat) (hM:1<=M) (a:Nat->Nat->Int) (ha:∀ i k,i<m->k<m+1->(a i k).natAbs<=M) :
  ∃ u:Nat->Int,(∃ k,k<m+1/\u k≠0)/\(∀ k,(u k).natAbs<=(2*((m+1)*M)) ^ m)/\∀ i,i<m->isum (m+1) (fun k=>a i k*u k)=0:=by
 obtain ⟨S,hS⟩:∃ S,S=(m+1)*M:=⟨_,rfl⟩;obtain ⟨H,hH⟩:∃ H,H=(2*S) ^ m:=⟨_,rfl⟩;have b8:1<=S:=by rw [hS]; exact Fs hM (jK M aA)
 obtain ⟨W,hW⟩:∃ W,W=2*(H*S)+1:=⟨_,rfl⟩;have a5r:W ^ m<(H+1) ^ (m+1):=by
  have h1:W<=(H+1)*(2*S):=by
   have:(H+1)*(2*S)=2*(H*S)+2*S:=by rw [O7,Nat.mul_left_comm]; omega
   omega
  have h2:W ^ m<=((H+1)*(2*S)) ^ m:=Nat.pow_le_pow_left h1 m;rw [Nat.mul_pow,<- hH] at h2;have h3:(H+1) ^ (m+1)=(H+1) ^ m*(H+1):=Sp _ _;have h4:0<(H+1) ^ m:=Nat.pow_pos aA;rw [h3,Nat.mul_add,C9];omega
 obtain ⟨im,o6⟩:∃ im:Nat->Nat->Int,im=fun p i=>isum (m+1) fun k=>a i k*(dg (H+1) k p:Int):=⟨_,rfl⟩;have hdg:∀ k p,dg (H+1) k p<=H:=fun k p=>by
  have:=Si (p / (H+1) ^ k) (show 0<H+1 by omega);unfold dg; omega
 have hb:∀ p i,i<m->(im p i).natAbs<=H*S:=fun p i hi=>by
  have h1:=Ru (f:=fun k=>a i k*(dg (H+1) k p:Int)) (b:=M*H) (n:=m+1) fun k hk=>by
   rw [Ii];exact Iv (ha i k hi hk) (by have:=hdg k p; omega)
  rw [o6,hS];refine Fs h1 (Nat.le_of_eq ?_);rw [<- Nat.mul_assoc,Ox]
 obtain ⟨p,q,h1,h2,h3⟩:=Anb (W ^ m) (fun p=>code W (fun i=>(im p i+(H*S:Nat)).toNat) m) fun p _=>Aeh fun i hi=>by
  have:=hb p i hi;omega
 have heq:=Ze (N:=W) (m:=m) (fun i hi=>by have:=hb p i hi; omega) (fun i hi=>by have:=hb q i hi; omega) h3;refine ⟨fun k=>(dg (H+1) k q:Int) - (dg (H+1) k p:Int),?_,fun k=>?_,fun i hi=>?_⟩
 ·refine O0 fun hx=>?_;have:p=q:=Avf (b:=H+1) (d:=m+1) aA aA aA fun n hn=>by
   have gn:¬ ((dg (H+1) n q:Int) - (dg (H+1) n p:Int)≠0):=fun h=>hx ⟨n,hn,h⟩;omega
  omega
 ·rw [<- hS,<- hH];have:=hdg k p;have:=hdg k q;dsimp only;omega
 ·have e:isum (m+1) (fun k=>a i k*((dg (H+1) k q:Int) - (dg (H+1) k p:Int)))=im q i - im p i:=by
   rw [o6];show _=isum (m+1) _ - isum (m+1) _;rw [<- Ag3];congr 1;funext k;rw [Int.mul_sub]
  rw [e];have h4:=heq i hi;have h5:=hb p i hi;have h6:=hb q i hi;omega
end Go.Proofs.YtcjffhadclngmaaGreat.Simp
namespace Go.Proofs.YtcjffhadclngmaaGreat.Simp
theorem sum_head (f:Nat->Rat):∀ n,sum (n+1) f=f 0+sum n fun k=>f (k+1)
 | 0=>dW
 | n+1=>by
  rw [sum,sum_head f n,sum]; grind
def An4 (d:Nat) (col:Nat->Nat) (u:Nat->Int) (c:Nat):Rat:=sum d fun k=>if c=col k then ((u k:Int):Rat) else 0
theorem Nh {N d:Nat} {col:Nat->Nat} {u:Nat->Int} (hc:∀ k,k<d->col k<N+1) (a:Nat->Rat):dot N a (An4 d col u)=sum d fun k=>a (col k)*((u k:Int):Rat):=by
 unfold dot An4;have e1:∀ j,a j*(sum d fun k=>if j=col k then ((u k:Int):Rat) else 0)=sum d fun k=>if j=col k then a j*((u k:Int):Rat) else 0:=by
  intro j;rw [<- Kv];exact sum_congr fun k _=>by split <;> grind
 rw [sum_congr fun j _=>e1 j,Uf];exact sum_congr fun k hk=>by
  have h:=sum_one (f:=fun j=>a j*((u k:Int):Rat)) (s:=col k) (hc k hk);exact h
theorem small {m N M Mc:Nat} (hM:1<=M) {t0 t:Tab} {a:Nat->Nat->Int} {a0:Nat->Int} (ha:∀ i j,i<m->j<N+1->t0.T i j=((a i j:Int):Rat)/\(a i j).natAbs<=M) (ui:∀ j,j<N+1->t0.c j=((a0 j:Int):Rat)/\(a0 j).natAbs<=Mc)
  (ht:Fit m N t) (hk:∀ x,Ker m N t0 x->Ker m N t x) (hc:∀ x,Ker m N t0 x->dot N t.c x=dot N t0.c x) {j:Nat} (hj:j<N+1) :
  ∃ y0:Int,y0≠0/\y0.natAbs<=(2*((m+1)*M)) ^ m/\(∀ i,i<m->∃ y:Int,t.T i j=((y:Int):Rat) / ((y0:Int):Rat)/\y.natAbs<=(2*((m+1)*M)) ^ m)/\∃ w:Int,t.c j=((w:Int):Rat) / ((y0:Int):Rat)/\w.natAbs<=(m+1)*(Mc*(2*((m+1)*M)) ^ m):=by
 obtain ⟨col,fe⟩:∃ col:Nat->Nat,col=fun k=>if k=0 then j else t.B (k - 1):=⟨_,rfl⟩
 have hlt:∀ k,k<m+1->col k<N+1:=fun k hk=>by
  rw [fe]; dsimp only;split
  ·exact hj
  ·have:=ht.lt (k - 1) aA; omega
 have j1:∀ k,col (k+1)=t.B k:=fun k=>by rw [fe]; simp
 have wc:col 0=j:=by rw [fe]; simp
 obtain ⟨u,⟨k0,hk0,hu0⟩,hub,hu⟩:=Awf m M hM (fun i k=>a i (col k)) fun i k hi hk=>(ha i (col k) hi (hlt k hk)).2;have hx:Ker m N t0 (An4 (m+1) col u):=by
  intro i hi;rw [Nh hlt];have h1:=congrArg (fun z:Int=>(z:Rat)) (hu i hi);rw [Vv] at h1;rw [sum_congr (g:=fun k=>((a i (col k)*u k:Int):Rat)) fun k hk=>by rw [(ha i (col k) hi (hlt k hk)).1,C7]];rw [h1]; rfl
 have az:∀ i,i<m->t.T i j*((u 0:Int):Rat)+((u (i+1):Int):Rat)=0:=fun i hi=>by
  have h1:=hk _ hx i hi;rw [Nh hlt,sum_head,wc] at h1;rw [sum_congr (g:=fun k=>if k=i then ((u (k+1):Int):Rat) else 0) fun k hk=>by
   rw [j1,ht.unit i k hi hk];by_cases e:i=k
   ·subst e;exact Ya1v
   ·rw [if_neg e,if_neg (Ih e)]; grind] at h1
  rw [sum_one (f:=fun k=>((u (k+1):Int):Rat)) hi] at h1;exact h1
 have hy:u 0≠0:=fun h0=>by
  rw [h0] at az;cases k0 with
  | zero=>exact hu0 h0
  | succ i =>
   have h1:=az i aA;have h2:((u (i+1):Int):Rat)=((0:Int):Rat):=by
    have:((0:Int):Rat)=0:=rfl;rw [this] at h1 ⊢;grind
   exact hu0 (iV.mp h2)
 have hyr:((u 0:Int):Rat)≠0:=fun h=>hy (iV.mp (h.trans rfl));refine ⟨u 0,hy,hub 0,fun i hi=>⟨-(u (i+1)),?_,by have:=hub (i+1); omega⟩,?_⟩
 ·have h1:=az i hi;rw [K9];grind
 ·have h1:=hc _ hx;rw [Nh hlt,Nh hlt,sum_head,wc,sum_zero fun k hk=>by rw [j1,ht.free k hk]; grind] at h1;refine ⟨isum (m+1) fun k=>a0 (col k)*u k,?_,?_⟩
  ·rw [Vv];rw [sum_congr (g:=fun k=>((a0 (col k)*u k:Int):Rat)) fun k hk=>by rw [(ui (col k) (hlt k hk)).1,C7]] at h1;rw [<- h1]; grind
  ·exact Ru fun k hk=>by
    rw [Ii];exact Iv (ui (col k) (hlt k hk)).2 (hub k)
end Go.Proofs.YtcjffhadclngmaaGreat.Simp
namespace Go.Proofs.YtcjffhadclngmaaGreat.Simp
theorem Wx (f:Nat->Rat) (L:Nat):∀ m,sum (L+m) f=sum L f+sum m fun k=>f (L+k)
 | 0=>by simp only [sum,I5]; grind
 | m+1=>by
  rw [<- Sr,sum,Wx f L m,sum]; grind
theorem Aam {f:Nat->Rat} : ∀ {n:Nat},(∀ j,j<n->0<=f j)->sum n f=0->∀ j,j<n->f j=0
 | 0,_,_,j,hj=>aA
 | n+1,h,h0,j,hj=>by
  rw [sum] at h0;have h1:=sum_nonneg (f:=f) (n:=n) fun j hj=>h j aA;have h2:=h n aA;by_cases e:j=n
  ·subst e; grind
  ·exact Aam (n:=n) (fun j hj=>h j aA) (show sum n f=0 by grind) j aA
theorem R9 (f:Nat->Rat) (n:Nat):sum n (fun j=>- f j)=- sum n f:=by
 have h:=Kv (-1) f n;rw [sum_congr (g:=fun j=>-1*f j) fun j _=>aL,h]; grind
def first (m L:Nat) (R:Nat->Nat->Rat) (b:Nat->Rat):Tab where
 T:=fun i j=>if j<L then R i j else if j<L+m then (if j=L+i then 1 else 0) else b i
 c:=fun j=>if j<L then - sum m (fun i=>R i j) else if j<L+m then 0 else - sum m b
 B:=fun i=>L+i
theorem first_fit (m L:Nat) (R:Nat->Nat->Rat) (b:Nat->Rat):Fit m (L+m) (first m L R b):=by
 refine ⟨fun i hi=>by show L+i<L+m; omega,fun i k hi hk=>?_,fun k hk=>?_⟩
 ·show (if L+k<L then R i (L+k) else if L+k<L+m then (if L+k=L+i then 1 else 0) else b i)=_;rw [if_neg aA,if_pos aA];by_cases e:i=k
  ·subst e; rw [if_pos rfl,if_pos rfl]
  ·rw [if_neg aA,if_neg e]
 ·show (if L+k<L then - sum m (fun i=>R i (L+k)) else if L+k<L+m then 0 else - sum m b)=0;rw [if_neg aA,if_pos aA]
theorem Mi {m L:Nat} {R:Nat->Nat->Rat} {b:Nat->Rat} {i:Nat} (hi:i<m) (x:Nat->Rat):dot (L+m) ((first m L R b).T i) x=sum L (fun j=>R i j*x j)+x (L+i)+b i*x (L+m):=by
 unfold dot;rw [sum,Wx];have e1:sum L (fun j=>(first m L R b).T i j*x j)=sum L fun j=>R i j*x j:=sum_congr fun j hj=>by simp only [first]; rw [if_pos hj]
 have e2:(sum m fun k=>(first m L R b).T i (L+k)*x (L+k))=x (L+i):=by
  rw [sum_congr (g:=fun k=>if k=i then x (L+k) else 0) fun k hk=>?_,sum_one (f:=fun k=>x (L+k)) hi];simp only [first];rw [if_neg aA,if_pos aA];by_cases e:k=i
  ·subst e;exact Ya1v
  ·rw [if_neg aA,if_neg e]; grind
 have e3:(first m L R b).T i (L+m)=b i:=Za72
 rw [e1,e2,e3]
theorem first_cost {m L:Nat} {R:Nat->Nat->Rat} {b:Nat->Rat} {x:Nat->Rat} (h:Ker m (L+m) (first m L R b) x):dot (L+m) (first m L R b).c x=sum m fun i=>x (L+i):=by
 have h1:∀ i,i<m->x (L+i)=- (sum L (fun j=>R i j*x j)+b i*x (L+m)):=fun i hi=>by
  have:=h i hi;rw [Mi hi] at this;grind
 rw [sum_congr h1];unfold dot;rw [sum,Wx];have e1:sum L (fun j=>(first m L R b).c j*x j)=- sum m (fun i=>sum L fun j=>R i j*x j):=by
  rw [<- Uf,<- R9];refine sum_congr fun j hj=>?_;have e0:(first m L R b).c j=- sum m (fun i=>R i j):=by simp only [first]; rw [if_pos hj]
  rw [e0];have e2:=Kv (x j) (fun i=>R i j) m;rw [sum_congr (g:=fun i=>R i j*x j) fun i _=>aL] at e2;rw [e2]; grind
 have e2:(sum m fun k=>(first m L R b).c (L+k)*x (L+k))=0:=sum_zero fun k hk=>by
  simp only [first];rw [if_neg aA,if_pos aA]; grind
 have e3:(first m L R b).c (L+m)=- sum m b:=Za72
 rw [e1,e2,e3];have e4:=Kv (x (L+m)) b m;rw [sum_congr (g:=fun i=>b i*x (L+m)) fun i _=>aL] at e4;rw [R9,sum_add,e4];grind
theorem phase {m L:Nat} {R:Nat->Nat->Rat} {b:Nat->Rat} {t:Tab} (ht:Fit m (L+m) t) (hr:∀ i,i<m->0<=t.T i (L+m)) (hk:∀ x,Ker m (L+m) t x↔Ker m (L+m) (first m L R b) x)
  (hc:∀ x,Ker m (L+m) (first m L R b) x->dot (L+m) t.c x=dot (L+m) (first m L R b).c x) (a5s:∀ j,j<L->0<=t.c j) :
  t.c (L+m)=0↔∃ x:Nat->Rat,(∀ j,j<L->0<=x j)/\∀ i,i<m->sum L (fun j=>R i j*x j)=b i:=by
 have hs:=Y8 ht hr;have hk0:=(hk _).1 hs.ker;have e1:=hc _ hk0;rw [Px ht,first_cost hk0] at e1;have hn:∀ i,i<m->0<=base m (L+m) t (L+i):=fun i hi=>hs.pos _ aA;constructor
 ·intro h0;rw [h0] at e1;have hz:=Aam hn aL;refine ⟨base m (L+m) t,fun j hj=>hs.pos j aA,fun i hi=>?_⟩;have h1:=hk0 i hi;rw [Mi hi,hz i hi,hs.one] at h1;grind
 ·rintro ⟨x,hx,hb⟩;obtain ⟨x',hx'⟩:∃ x':Nat->Rat,x'=fun j=>if j<L then x j else if j<L+m then 0 else -1:=⟨_,rfl⟩
  have p1:∀ j,j<L->x' j=x j:=fun j hj=>by rw [hx']; exact if_pos hj
  have p2:∀ j,L<=j->j<L+m->x' j=0:=fun j h1 h2=>by
   rw [hx']; dsimp only; rw [if_neg aA,if_pos h2]
  have p3:x' (L+m)=-1:=by rw [hx']; dsimp only; rw [if_neg aA,if_neg aA]
  have a2v:Ker m (L+m) (first m L R b) x':=fun i hi=>by
   rw [Mi hi,p2 _ aA aA,p3,sum_congr (g:=fun j=>R i j*x j) fun j hj=>by rw [p1 j hj],hb i hi];grind
  have a5t:Sol m (L+m) t x':=⟨(hk _).2 a2v,fun j hj=>by
   by_cases h:j<L
   ·rw [p1 j h]; exact hx j h
   ·rw [p2 j aA hj]; exact Sw,p3⟩
  have h2:=Ags aA a5s a5t p2;rw [hc _ a2v,first_cost a2v,sum_zero fun k hk=>p2 _ aA aA] at h2;have h3:=sum_nonneg hn;grind
end Go.Proofs.YtcjffhadclngmaaGreat.Simp
namespace Go.Proofs.YtcjffhadclngmaaGreat.Simp
theorem Alj (N:Nat) (a x y:Nat->Rat):dot N a (fun j=>x j+y j)=dot N a x+dot N a y:=by
 unfold dot;rw [<- sum_add];exact Ya49
theorem Ab1 (N:Nat) (k:Rat) (a x:Nat->Rat):dot N a (fun j=>k*x j)=k*dot N a x:=by
 unfold dot;rw [<- Kv];exact Ya49
structure Real (m N L:Nat) (t:Tab) (x:Nat->Rat):Prop where
 sol:Sol m N t x
 zero:∀ j,L<=j->j<N->x j=0
theorem Abi {m N L:Nat} {t:Tab} (h:Fit m N t) (hr:∀ i,i<m->0<=t.T i N) (ha:∀ i,i<m->L<=t.B i->t.T i N=0):Real m N L t (base m N t):=by
 refine ⟨Y8 h hr,fun j h1 h2=>?_⟩;show - dir m t N j=0;unfold dir;rw [if_neg aA,sum_zero fun k hk=>?_]
 ·grind
 ·split
  ·rename_i e;exact ha k hk aA
  ·rfl
theorem Ap9 {m N L:Nat} {t:Tab} {f:Nat->Rat} (h:Fit m N t) (hL:L<=N) (hr:∀ i,i<m->0<=t.T i N) (ha:∀ i,i<m->L<=t.B i->t.T i N=0) (hc:∀ j,j<L->0<=t.c j)
  (hf:∀ x,Ker m N t x->dot N t.c x=dot N f x):(∀ x,Real m N L t x->- t.c N<=dot N f x)/\∃ x,Real m N L t x/\dot N f x=- t.c N:=by
 constructor
 ·intro x hx;rw [<- hf x hx.sol.ker];exact Ags hL hc hx.sol hx.zero
 ·have hb:=Abi h hr ha;exact ⟨_,hb,by rw [<- hf _ hb.sol.ker,Px h]⟩
theorem least_none {m N L s:Nat} {t:Tab} {f:Nat->Rat} (h:Fit m N t) (hL:L<=N) (hr:∀ i,i<m->0<=t.T i N) (ha:∀ i,i<m->L<=t.B i->t.T i N=0) (hs:s<L) (hn:t.c s<0) (hp:∀ i,i<m->t.T i s<=0) (has:∀ i,i<m->L<=t.B i->t.T i s=0)
  (hf:∀ x,Ker m N t x->dot N t.c x=dot N f x) (V:Rat):∃ x,Real m N L t x/\dot N f x<V:=by
 have hb:=Abi h hr ha;obtain ⟨d,hd⟩:∃ d,d=dir m t s:=⟨_,rfl⟩;have hdk:=Vc h (s:=s) aA;have lq:=T5 h (s:=s) aA;rw [<- hd] at hdk lq;have di:∀ j,0<=d j:=fun j=>by
  rw [hd];unfold dir;have h1:0<=sum m fun k=>if j=t.B k then - t.T k s else 0:=sum_nonneg fun k hk=>by
   split
   ·have:=hp k hk; grind
   ·exact Sw
  have h2:=R9 (fun k=>if j=t.B k then t.T k s else 0) m;rw [sum_congr (g:=fun k=>if j=t.B k then - t.T k s else 0) fun k _=>by split <;> grind] at h2;rw [h2] at h1;split <;> grind
 have hdz:∀ j,L<=j->d j=0:=fun j hj=>by
  rw [hd];unfold dir;rw [if_neg aA,sum_zero fun k hk=>?_]
  ·grind
  ·split
   ·rename_i e;exact has k hk aA
   ·rfl
 obtain ⟨l,c8,hl⟩:∃ l:Rat,0<=l/\- t.c N+l*t.c s<V:=by
  by_cases hv : - t.c N<V
  ·exact ⟨0,Sw,aL⟩
  ·refine ⟨(- t.c N - V+1) / (- t.c s),Pa aL aL,?_⟩;have:(- t.c N - V+1) / (- t.c s)*t.c s=- (- t.c N - V+1):=aL
   rw [this]; grind
 refine ⟨fun j=>base m N t j+l*d j,⟨⟨fun i hi=>?_,fun j hj=>?_,?_⟩,fun j h1 h2=>?_⟩,?_⟩
 ·rw [Alj,Ab1,hb.sol.ker i hi,hdk i hi]; grind
 ·have h1:=hb.sol.pos j hj;have h2:=iE c8 (di j);grind
 ·rw [hb.sol.one,hdz N hL]; grind
 ·rw [hb.zero j h1 h2,hdz j h1]; grind
 ·rw [Alj,Ab1,<- hf _ hb.sol.ker,Px h,<- hf _ hdk,lq];exact hl
end Go.Proofs.YtcjffhadclngmaaGreat.Simp
namespace Go.Proofs.YtcjffhadclngmaaGreat.Simp
theorem Wy (f:Nat->Rat):∀ n,sum (2*n) f=sum n fun k=>f (2*k)+f (2*k+1)
 | 0=>rfl
 | n+1=>by
  rw [show 2*(n+1)=2*n+1+1 by omega,sum,sum,Wy f n,sum]; grind
structure Sys where
 m:Nat
 n:Nat
 A:Nat->Nat->Rat
 c:Nat->Rat
 eq:Nat->Bool
def Sys.val (y:Sys) (v:Nat->Rat) (i:Nat):Rat:=sum y.n (fun k=>y.A i k*v k)+y.c i
def Sys.holds (y:Sys) (v:Nat->Rat):Prop:=∀ i,i<y.m->y.val v i<=0/\(y.eq i=true->y.val v i=0)
structure Cols (y:Sys) (L:Nat) (sg:Nat->Rat) (sl:Nat->Nat) (R:Nat->Nat->Rat) (b:Nat->Rat):Prop where
 sq:∀ i,i<y.m->sg i*sg i=1
 lt:2*y.n<=L
 even:∀ i k,i<y.m->k<y.n->R i (2*k)=sg i*y.A i k
 odd:∀ i k,i<y.m->k<y.n->R i (2*k+1)=- (sg i*y.A i k)
 slack:∀ i j,i<y.m->2*y.n<=j->j<L->R i j=if y.eq i=false/\j=sl i then sg i else 0
 slot:∀ i,i<y.m->y.eq i=false->2*y.n<=sl i/\sl i<L
 apart:∀ i k,i<y.m->k<y.m->y.eq i=false->y.eq k=false->sl i=sl k->i=k
 right:∀ i,i<y.m->b i=- (sg i*y.c i)
theorem Cols.row {y:Sys} {L:Nat} {sg:Nat->Rat} {sl:Nat->Nat} {R:Nat->Nat->Rat} {b:Nat->Rat} (h:Cols y L sg sl R b) {i:Nat} (hi:i<y.m) (x:Nat->Rat) :
  sum L (fun j=>R i j*x j)=sg i*(sum y.n fun k=>y.A i k*(x (2*k) - x (2*k+1)))+if y.eq i=false then sg i*x (sl i) else 0:=by
 obtain ⟨d,hd⟩:∃ d,L=2*y.n+d:=⟨L - 2*y.n,by have:=h.lt; omega⟩;rw [hd,Wx,Wy];have e1:(sum y.n fun k=>R i (2*k)*x (2*k)+R i (2*k+1)*x (2*k+1))=sg i*sum y.n fun k=>y.A i k*(x (2*k) - x (2*k+1)):=by
  rw [<- Kv];exact sum_congr fun k hk=>by rw [h.even i k hi hk,h.odd i k hi hk]; grind
 rw [e1];congr 1;cases he:y.eq i with
 | true =>
  rw [if_neg (by simp)];exact sum_zero fun k hk=>by
   rw [h.slack i _ hi aA aA,if_neg (by rw [he]; simp)]; grind
 | false =>
  rw [if_pos rfl];obtain ⟨h1,h2⟩:=h.slot i hi he;obtain ⟨q,hq⟩:∃ q,sl i=2*y.n+q:=⟨sl i - 2*y.n,aA⟩;rw [sum_congr (g:=fun k=>if k=q then sg i*x (2*y.n+k) else 0) fun k hk=>?_,sum_one (f:=fun k=>sg i*x (2*y.n+k)) aA,<- hq];rw [h.slack i _ hi aA aA];by_cases e:k=q
  ·subst e; rw [if_pos ⟨he,hq.symm⟩,if_pos rfl]
  ·rw [if_neg (fun h=>e aA),if_neg e]; grind
theorem Cols.to {y:Sys} {L:Nat} {sg:Nat->Rat} {sl:Nat->Nat} {R:Nat->Nat->Rat} {b:Nat->Rat} (h:Cols y L sg sl R b) {x:Nat->Rat} (hx:∀ j,j<L->0<=x j) (hr:∀ i,i<y.m->sum L (fun j=>R i j*x j)=b i):y.holds fun k=>x (2*k) - x (2*k+1):=by
 intro i hi;have h1:=hr i hi;have h2:=h.sq i hi;rw [h.row hi,h.right i hi] at h1;unfold Sys.val;generalize (sum y.n fun k=>y.A i k*(x (2*k) - x (2*k+1)))=z at *;cases he:y.eq i with
 | true =>
  rw [he,if_neg (by simp)] at h1;have h3:z+y.c i=0:=by
   have:sg i*(sg i*z+0)=sg i*(-(sg i*y.c i)):=by rw [h1]
   grind
  exact ⟨aL,fun _=>h3⟩
 | false =>
  rw [he,if_pos rfl] at h1;have h4:=hx (sl i) (h.slot i hi he).2;have h3:z+y.c i=- x (sl i):=by
   have:sg i*(sg i*z+sg i*x (sl i))=sg i*(-(sg i*y.c i)):=by rw [h1]
   grind
  exact ⟨aL,fun h=>aR⟩
theorem Cols.of {y:Sys} {L:Nat} {sg:Nat->Rat} {sl:Nat->Nat} {R:Nat->Nat->Rat} {b:Nat->Rat} (h:Cols y L sg sl R b) {v:Nat->Rat} (hv:y.holds v):∃ x:Nat->Rat,(∀ j,j<L->0<=x j)/\(∀ i,i<y.m->sum L (fun j=>R i j*x j)=b i)/\∀ k,k<y.n->x (2*k) - x (2*k+1)=v k:=by
 obtain ⟨x,hx⟩:∃ x:Nat->Rat,(∀ k,k<y.n->x (2*k)=if 0<=v k then v k else 0)/\(∀ k,k<y.n->x (2*k+1)=if 0<=v k then 0 else - v k)/\(∀ i,i<y.m->y.eq i=false->x (sl i)=- y.val v i)/\∀ j,j<L->0<=x j:=by
  classical
  refine ⟨fun j=>if j<2*y.n then (if j % 2=0 then (if 0<=v (j / 2) then v (j / 2) else 0) else (if 0<=v (j / 2) then 0 else - v (j / 2))) else if hq:∃ i,i<y.m/\y.eq i=false/\sl i=j then - y.val v hq.choose else 0,fun k hk=>?_,fun k hk=>?_,fun i hi he=>?_,fun j hj=>?_⟩
  ·simp only [];rw [if_pos aA,if_pos aA,show 2*k / 2=k by omega]
  ·simp only [];rw [if_pos aA,if_neg aA,show (2*k+1) / 2=k by omega]
  ·have hq:∃ i',i'<y.m/\y.eq i'=false/\sl i'=sl i:=⟨i,hi,he,rfl⟩;simp only [];rw [if_neg (by have:=(h.slot i hi he).1; omega),dif_pos hq];have:=h.apart _ _ hq.choose_spec.1 hi hq.choose_spec.2.1 he hq.choose_spec.2.2;rw [this]
  ·simp only [];split
   ·split <;> split <;> grind
   ·split
    ·rename_i hq;have:=(hv _ hq.choose_spec.1).1;grind
    ·exact Sw
 obtain ⟨x1,x2,x3,x4⟩:=hx;refine ⟨x,x4,fun i hi=>?_,fun k hk=>by rw [x1 k hk,x2 k hk]; split <;> grind⟩;rw [h.row hi,h.right i hi];have e1:(sum y.n fun k=>y.A i k*(x (2*k) - x (2*k+1)))=sum y.n fun k=>y.A i k*v k:=sum_congr fun k hk=>by
  rw [x1 k hk,x2 k hk];split <;> grind
 rw [e1];obtain ⟨g1,g2⟩:=hv i hi;cases he:y.eq i with
 | true =>
  rw [if_neg (by simp)];have:=g2 he;unfold Sys.val at this;grind
 | false =>
  rw [if_pos rfl,x3 i hi he];unfold Sys.val;grind
theorem Cols.solve {y:Sys} {L:Nat} {sg:Nat->Rat} {sl:Nat->Nat} {R:Nat->Nat->Rat} {b:Nat->Rat} (h:Cols y L sg sl R b) :
  (∃ x:Nat->Rat,(∀ j,j<L->0<=x j)/\∀ i,i<y.m->sum L (fun j=>R i j*x j)=b i)↔∃ v,y.holds v :=
 ⟨fun ⟨_,hx,hr⟩=>⟨_,h.to hx hr⟩,fun ⟨_,hv⟩=>have ⟨x,h1,h2,_⟩:=h.of hv; ⟨x,h1,h2⟩⟩
end Go.Proofs.YtcjffhadclngmaaGreat.Simp
namespace Go.Proofs.YtcjffhadclngmaaGreat.Simp
theorem As0 {m N:Nat} {t:Tab} (h:Fit m N t) {i:Nat} (hi:i<m):base m N t (t.B i)=t.T i N:=by
 show - dir m t N (t.B i)=_;unfold dir;have hb:=h.lt i hi;rw [if_neg aA,sum_congr (g:=fun k=>if k=i then t.T k N else 0) fun k hk=>?_,sum_one (f:=fun k=>t.T k N) hi]
 ·grind
 ·by_cases e:k=i
  ·subst e; rw [if_pos rfl,if_pos rfl]
  ·rw [if_neg e,if_neg fun e2=>e (h.inj hk hi e2.symm)]
theorem art_zero {m L:Nat} {R:Nat->Nat->Rat} {b:Nat->Rat} {t:Tab} (ht:Fit m (L+m) t) (hr:∀ i,i<m->0<=t.T i (L+m)) (hk:∀ x,Ker m (L+m) t x↔Ker m (L+m) (first m L R b) x)
  (hc:∀ x,Ker m (L+m) (first m L R b) x->dot (L+m) t.c x=dot (L+m) (first m L R b).c x) (h0:t.c (L+m)=0):∀ i,i<m->L<=t.B i->t.T i (L+m)=0:=by
 intro i hi hL;have hs:=Y8 ht hr;have hk0:=(hk _).1 hs.ker;have e1:=hc _ hk0;rw [Px ht,first_cost hk0,h0] at e1;have hb:=ht.lt i hi;have h2:=Aam (f:=fun i=>base m (L+m) t (L+i)) (n:=m) (fun i hi=>hs.pos _ aA) (by rw [<- e1]; grind) (t.B i - L) (show t.B i - L<m by omega);rw [show L+(t.B i - L)=t.B i by omega,As0 ht hi] at h2;exact h2
theorem Ahk {N:Nat} {t:Tab} {r s:Nat} (h0:t.T r N=0) (i:Nat):(piv t r s).T i N=t.T i N:=by
 show pivT t r s i N=_;unfold pivT;split
 ·rename_i e;subst e; rw [h0]; grind
 ·rw [h0]; grind
def red (t:Tab) (f:Nat->Rat):Nat->Nat->Rat
 | 0=>f
 | k+1=>fun j=>red t f k j - red t f k (t.B k)*t.T k j
theorem Ank {m N:Nat} {t:Tab} {f:Nat->Rat} {x:Nat->Rat} (hx:Ker m N t x):∀ k,k<=m->dot N (red t f k) x=dot N f x
 | 0,_=>rfl
 | k+1,h=>by
  show dot N (fun j=>red t f k j - red t f k (t.B k)*t.T k j) x=_;rw [Aln,Zm,hx k aA,Ank hx k aA]; grind
theorem red_basis {m N:Nat} {t:Tab} {f:Nat->Rat} (h:Fit m N t):∀ k,k<=m->∀ i,i<m->red t f k (t.B i)=if i<k then 0 else f (t.B i)
 | 0,_,i,_=>by rw [if_neg aA]; rfl
 | k+1,hk,i,hi=>by
  show red t f k (t.B i) - red t f k (t.B k)*t.T k (t.B i)=_;rw [red_basis h k aA i hi,red_basis h k aA k aA,if_neg (lA k),h.unit k i aA hi];by_cases e:k=i
  ·subst e; rw [if_neg (lA k),if_pos rfl,if_pos aA]; grind
  ·rw [if_neg e];by_cases e2:i<k
   ·rw [if_pos e2,if_pos aA]; grind
   ·rw [if_neg e2,if_neg aA]; grind
def second (m:Nat) (t:Tab) (f:Nat->Rat):Tab:=⟨t.T,red t f m,t.B⟩
theorem second_fit {m N:Nat} {t:Tab} {f:Nat->Rat} (h:Fit m N t):Fit m N (second m t f) :=
 ⟨h.lt,h.unit,fun k hk=>by
  show red t f m (t.B k)=0;rw [red_basis h m (Ce _) k hk,if_pos hk]⟩
theorem second_ker {m N:Nat} {t:Tab} {f:Nat->Rat} (x:Nat->Rat):Ker m N (second m t f) x↔Ker m N t x:=Iff.rfl
theorem second_cost {m N:Nat} {t:Tab} {f:Nat->Rat} {x:Nat->Rat} (hx:Ker m N t x):dot N (second m t f).c x=dot N f x:=Ank hx m (Ce _)
theorem An7 {m N L:Nat} {t:Tab} {r s:Nat} (h:Step m N L t r s) {i:Nat} (hz:∀ j,j<L->t.T i j=0):i≠r/\(∀ j,j<L->(piv t r s).T i j=0)/\(piv t r s).T i N=t.T i N/\(piv t r s).B i=t.B i:=by
 have h0:=hz s h.s_lt;have hne:i≠r:=fun e=>by
  subst e;have:=h.pos;rw [h0] at this;grind
 refine ⟨hne,fun j hj=>?_,?_,if_neg hne⟩
 ·show pivT t r s i j=0;unfold pivT;rw [if_neg hne,hz j hj,h0]; grind
 ·show pivT t r s i N=_;unfold pivT;rw [if_neg hne,h0]; grind
end Go.Proofs.YtcjffhadclngmaaGreat.Simp
namespace Go.Proofs.YtcjffhadclngmaaGreat.Simp
section
variable {m N L K k s:Nat} {t:Tab}
structure Settled (m N L k:Nat) (t:Tab):Prop where
 fit:Fit m N t
 right:∀ i,i<m->0<=t.T i N
 art:∀ i,i<m->L<=t.B i->t.T i N=0
 done:∀ i,i<k->L<=t.B i->∀ j,j<L->t.T i j=0
theorem Settled.piv (h:Settled m N L k t) (hk:k<m) (hL:L<=N) (hB:L<=t.B k) (hs:s<L) (hp:t.T k s≠0):Settled m N L (k+1) (piv t k s):=by
 have h0:=h.art k hk hB;have hb:∀ i,(Simp.piv t k s).B i=if i=k then s else t.B i:=fun i=>rfl
 refine ⟨piv_fit h.fit hk aA hp,fun i hi=>by rw [Ahk h0]; exact h.right i hi,fun i hi hBi=>?_,fun i hi hBi j hj=>?_⟩
 ·rw [Ahk h0];rw [hb] at hBi;split at hBi
  ·omega
  ·exact h.art i hi hBi
 ·rw [hb] at hBi;split at hBi
  ·omega
  ·rename_i hne;have hz:=h.done i aA hBi;show pivT t k s i j=0;unfold pivT;rw [if_neg hne,hz j hj,hz s hs]; grind
theorem Settled.skip (h:Settled m N L k t) (hs:t.B k<L\/∀ j,j<L->t.T k j=0):Settled m N L (k+1) t :=
 ⟨h.fit,h.right,h.art,fun i hi hB j hj=>by
  by_cases e:i=k
  ·subst e;rcases hs with hs|hs
   ·omega
   ·exact hs j hj
  ·exact h.done i aA hB j hj⟩
def Zer (m N L:Nat) (t:Tab):Prop:=∀ i,i<m->L<=t.B i->(∀ j,j<L->t.T i j=0)/\t.T i N=0
theorem Settled.zer (h:Settled m N L m t):Zer m N L t:=fun i hi hB=>⟨h.done i hi hB,h.art i hi hB⟩
theorem Zer.step {r:Nat} (h:Zer m N L t) (st:Step m N L t r s):Zer m N L (Simp.piv t r s):=fun i hi hB=>by
 have hb:(Simp.piv t r s).B i=if i=r then s else t.B i:=rfl
 rw [hb] at hB;split at hB
 ·have:=st.s_lt; omega
 ·obtain ⟨h1,h2⟩:=h i hi hB;obtain ⟨-,h3,h4,-⟩:=An7 st h1;exact ⟨h3,h4.trans h2⟩
theorem Zer.run (R:Run m N L K) (h:Zer m N L (R.t 0)):∀ k,k<=K->Zer m N L (R.t k)
 | 0,_=>h
 | k+1,hk=>by
  rw [R.next k aA];exact (Zer.run R h k aA).step (R.step k aA)
theorem Real.of_ker {t u:Tab} (hk:∀ x,Ker m N t x↔Ker m N u x) {x:Nat->Rat} : Real m N L t x↔Real m N L u x :=
 ⟨fun h=>⟨⟨(hk x).1 h.sol.ker,h.sol.pos,h.sol.one⟩,h.zero⟩,fun h=>⟨⟨(hk x).2 h.sol.ker,h.sol.pos,h.sol.one⟩,h.zero⟩⟩
section
variable {f:Nat->Rat} (h:Settled m N L m t) (R:Run m N L K) (h0:R.t 0=second m t f)
include h h0
theorem Yh:Zer m N L (R.t K)/\(∀ x,Ker m N (R.t K) x↔Ker m N t x)/\∀ x,Ker m N (R.t K) x->dot N (R.t K).c x=dot N f x:=by
 have hz:Zer m N L (R.t 0):=by rw [h0]; exact h.zer
 have hk:∀ x,Ker m N (R.t K) x↔Ker m N t x:=fun x=>by
  rw [R.ker (Cl K) (Ce K) x,h0]; exact second_ker x
 refine ⟨hz.run R K (Ce _),hk,fun x hx=>?_⟩;have mc:Ker m N (R.t 0) x:=by rw [h0]; exact (hk x).1 hx
 rw [R.cost (Cl K) (Ce K) mc,h0];exact second_cost ((hk x).1 hx)
theorem second_at (hc:∀ j,j<L->0<=(R.t K).c j):(∀ x,Real m N L t x->- (R.t K).c N<=dot N f x)/\∃ x,Real m N L t x/\dot N f x=- (R.t K).c N:=by
 obtain ⟨hz,hk,hf⟩:=Yh h R h0;obtain ⟨h1,x,h2,h3⟩:=Ap9 (R.fits K (Ce _)) R.LN (R.rights K (Ce _)) (fun i hi hB=>(hz i hi hB).2) hc hf;exact ⟨fun x hx=>h1 x ((Real.of_ker hk).2 hx),x,(Real.of_ker hk).1 h2,h3⟩
theorem second_none (hs:s<L) (hn:(R.t K).c s<0) (hp:∀ i,i<m->(R.t K).T i s<=0) (V:Rat):∃ x,Real m N L t x/\dot N f x<V:=by
 obtain ⟨hz,hk,hf⟩:=Yh h R h0;obtain ⟨x,h2,h3⟩:=least_none (R.fits K (Ce _)) R.LN (R.rights K (Ce _)) (fun i hi hB=>(hz i hi hB).2) hs hn hp (fun i hi hB=>(hz i hi hB).1 s hs) hf V;exact ⟨x,(Real.of_ker hk).1 h2,h3⟩
end
theorem Xw {R:Nat->Nat->Rat} {b:Nat->Rat} {x:Nat->Rat} : Real m (L+m) L (first m L R b) x↔(∀ j,j<L->0<=x j)/\(∀ i,i<m->x (L+i)=0)/\x (L+m)=-1/\∀ i,i<m->sum L (fun j=>R i j*x j)=b i:=by
 constructor
 ·intro h;have hz:∀ i,i<m->x (L+i)=0:=fun i hi=>h.zero _ aA aA;refine ⟨fun j hj=>h.sol.pos j aA,hz,h.sol.one,fun i hi=>?_⟩;have:=h.sol.ker i hi;rw [Mi hi,hz i hi,h.sol.one] at this;grind
 ·rintro ⟨h1,h2,h3,h4⟩;refine ⟨⟨fun i hi=>?_,fun j hj=>?_,h3⟩,fun j hj tw=>?_⟩
  ·rw [Mi hi,h2 i hi,h3,h4 i hi]; grind
  ·by_cases e:j<L
   ·exact h1 j e
   ·have:=h2 (j - L) aA;rw [show L+(j - L)=j by omega] at this;rw [this]; exact Sw
  ·have:=h2 (j - L) aA;rw [show L+(j - L)=j by omega] at this;exact this
end
end Go.Proofs.YtcjffhadclngmaaGreat.Simp
namespace Go.Proofs.YtcjffhadclngmaaGreat.Simp
def formC (n:Nat) (a:Nat->Rat) (j:Nat):Rat:=if j<2*n then (if j % 2=0 then a (j / 2) else - a (j / 2)) else 0
theorem Agx {n N:Nat} {a x:Nat->Rat} (hN:2*n<=N):dot N (formC n a) x=sum n fun k=>a k*(x (2*k) - x (2*k+1)):=by
 unfold dot;obtain ⟨d,hd⟩:∃ d,N+1=2*n+d:=⟨N+1 - 2*n,aA⟩;rw [hd,Wx,Wy,sum_zero (f:=fun k=>formC n a (2*n+k)*x (2*n+k)) fun k _=>?_]
 ·rw [sum_congr (g:=fun k=>a k*(x (2*k) - x (2*k+1))) fun k hk=>?_]
  ·grind
  ·unfold formC;rw [if_pos aA,if_pos aA,if_pos aA,if_neg aA,show 2*k / 2=k by omega,show (2*k+1) / 2=k by omega]; grind
 ·unfold formC;rw [if_neg aA]; grind
section
variable {y:Sys} {L:Nat} {sg:Nat->Rat} {sl:Nat->Nat} {R:Nat->Nat->Rat} {b:Nat->Rat} (h:Cols y L sg sl R b) {a:Nat->Rat}
include h
theorem Cols.vals (V:Rat):(∃ x,Real y.m (L+y.m) L (first y.m L R b) x/\dot (L+y.m) (formC y.n a) x=V)↔∃ v,y.holds v/\(sum y.n fun k=>a k*v k)=V:=by
 have hl:=h.lt;constructor
 ·rintro ⟨x,hx,hV⟩;obtain ⟨h1,-,-,h4⟩:=Xw.1 hx;exact ⟨_,h.to h1 h4,by rw [<- hV,Agx aA]⟩
 ·rintro ⟨v,hv,hV⟩;obtain ⟨x,h1,h2,h3⟩:=h.of hv;refine ⟨fun j=>if j<L then x j else if j<L+y.m then 0 else -1,Xw.2 ⟨fun j hj=>by rw [if_pos hj]; exact h1 j hj,fun i hi=>by rw [if_neg aA,if_pos aA],Za75,fun i hi=>?_⟩,?_⟩
  ·rw [<- h2 i hi];exact sum_congr fun j hj=>by rw [if_pos hj]
  ·rw [Agx aA,<- hV];exact sum_congr fun k hk=>by rw [if_pos aA,if_pos aA,h3 k hk]
theorem Cols.least {c:Rat} (hl:(∀ x,Real y.m (L+y.m) L (first y.m L R b) x->c<=dot (L+y.m) (formC y.n a) x)/\∃ x,Real y.m (L+y.m) L (first y.m L R b) x/\dot (L+y.m) (formC y.n a) x=c):(∀ v,y.holds v->c<=sum y.n fun k=>a k*v k)/\∃ v,y.holds v/\(sum y.n fun k=>a k*v k)=c:=by
 obtain ⟨h1,x,h2,h3⟩:=hl;refine ⟨fun v hv=>?_,(h.vals c).1 ⟨x,h2,h3⟩⟩;obtain ⟨x',hx',e⟩:=(h.vals (a:=a) _).2 ⟨v,hv,rfl⟩;rw [<- e]; exact h1 x' hx'
theorem Cols.none (hl:∀ V,∃ x,Real y.m (L+y.m) L (first y.m L R b) x/\dot (L+y.m) (formC y.n a) x<V) (V:Rat):∃ v,y.holds v/\(sum y.n fun k=>a k*v k)<V:=by
 obtain ⟨x,h1,h2⟩:=hl V;obtain ⟨v,h3,h4⟩:=(h.vals _).1 ⟨x,h1,rfl⟩;exact ⟨v,h3,by rw [h4]; exact h2⟩
end
end Go.Proofs.YtcjffhadclngmaaGreat.Simp
namespace Go.Proofs.YtcjffhadclngmaaGreat
open Go Tryz Go.RowKit
theorem Lie.other {w:World} {A A':Nat->Nat->Prop} {b:Nat} (h:∀ o,¬ A' b o):∀ {vs:List Value} {o:Nat},Lie w A b o vs->Lie w A' b o vs
 | [],_,_=>trivial
 | _ :: _,_,⟨h1,_,h3⟩=>⟨h1,h _,Lie.other h h3⟩
theorem Da.other {w:World} {A A':Nat->Nat->Prop} {b:Nat} (h:∀ o,¬ A' b o):∀ (l:List Int) (o:Nat),Da w A b 1 o (l.map digC)->Da w A' b 1 o (l.map digC)
 | [],_,_=>by simp only [Ei,Da]
 | x :: l,o,hr=>by
  simp only [Ct,Da] at hr ⊢;obtain ⟨h1,⟨vs,h2,h3⟩,h4⟩:=hr;refine ⟨h1,⟨vs,h2.other h,?_⟩,Da.other h l _ h4⟩;match vs,h3 with
  | [v],h3 =>
   simp only [digC,PRs,PR,and_true] at h3 ⊢;exact h3
theorem Aun {C:Cx} (hs:SR C) {l:List Int} {c:Cap} {v:Value} (h:VR C (.frz (l.map digC) c) v):RD C.w v l:=by
 simp only [VR] at h;obtain ⟨a,len,cap,rfl,h1,h2,-,h4⟩:=h;simp only [RD,digA,VR];refine ⟨a,len,cap,rfl,h1,h2,trivial,h4.imp id ?_⟩;rintro ⟨b,o,sz,ea,hr⟩;exact ⟨b,o,sz,ea,Da.stays (A:=C.Avoid) (fun b' o' v hv ha=>⟨hv,Ym⟩) b sz o _ hr⟩
theorem Abc {C:Cx} (hs:SR C) {w':World} {v:Value} {l:List Int} (h:RD w' v l) (hn:NewB C.w.heap.size v):VR (C.at w') (digA l) v:=by
 obtain ⟨a,cap,rfl,h2,hc⟩:=M8 h;by_cases hl:l=[]
 ·subst hl;simp only [digA,Ei,VR];exact ⟨a,0,cap,rfl,rfl,Cl _,trivial,.inl trivial⟩
 ·simp only [RD,digA,VR] at h ⊢;obtain ⟨a',len,cap',e,h1,h3,-,h4⟩:=h;refine ⟨a',len,cap',e,h1,h3,trivial,.inr ?_⟩;rcases h4 with h4|⟨b,o,sz,ea,hr⟩
  ·exact absurd (by simpa using h4) hl
  ·have hsz:sz=1:=by
    cases l with
    | nil=>exact absurd rfl hl
    | cons y l=>simp only [Ct,Da,digC] at hr; exact hr.1.symm
   subst hsz;subst ea;have hb:=hn b o _ _ e;exact ⟨b,o,1,rfl,Da.other (fun o' ha=>by
    rcases ha with ha|ha
    ·have:=hs.avlt b o' ha; omega
    ·have:=Amw hs (show C.Mut b o' from ha); omega) l o hr⟩
theorem Asf {C:Cx} {vs:Array Value} (hs:SR C) (l r:List Int) (c d:Cap) (hl:l=dig (val l).toNat) (hr:r=dig (val r).toNat) (cg:r≠[]) (h1:l.length<=90000) (h2:r.length<=90000) (hv:VRs C [.frz (l.map digC) c,.frz (r.map digC) d] vs.toList) :
  Calls prog 169 vs C.w fun e w'=>∃ v C',e=.returned v/\C'.w=w'/\Le C C'/\SR C'/\C'.S=C.S/\C'.tk=C.tk/\C'.n=C.n/\VR C' (.tup [digA (dig ((val l).toNat / (val r).toNat)),digA (dig ((val l).toNat % (val r).toNat))]) v:=by
 obtain ⟨vl⟩:=vs;match vl,hv with
 | [x,y],hv =>
 simp only [VRs,and_true] at hv;obtain ⟨hx,hy⟩:=hv;have hb0:0<(val r).toNat:=by
  rcases jA (val r).toNat with h|h
  ·rw [h,B9] at hr; exact absurd hr cg
  ·exact h
 have kk:0<C.w.heap.size:=by
  simp only [VR] at hy;obtain ⟨a,len,cap,rfl,h1,h2,-,h4⟩:=hy;rcases h4 with h4|⟨b,o,sz,rfl,hr⟩
  ·exact absurd (by simpa using h4) cg
  ·cases r with
   | nil=>exact absurd rfl cg
   | cons z r =>
    simp only [Ct,Da,digC] at hr;obtain ⟨-,⟨vs,tp,hp⟩,-⟩:=hr;match vs,hp with
    | [u],_=>exact J9 (Cl _) (G5 tp.1)
 refine (Adc C.w x y (val l).toNat (val r).toNat kk (by rw [<- hl]; exact Aun hs hx) (by rw [<- hr]; exact Aun hs hy) hb0 (by rw [<- hl]; exact h1) (by rw [<- hr]; exact h2)).mono ?_;rintro e w' ⟨v1,v2,rfl,g1,g2,hb,n1,n2⟩;refine ⟨_,C.at w',rfl,rfl,Le.of_below hb,SR.of_below hs hb,rfl,rfl,rfl,?_⟩;unfold VR;refine ⟨_,rfl,?_⟩;simp only [VRs,and_true];refine ⟨Abc hs g1 n1,?_⟩;rcases n2 with ⟨rfl,e2⟩|n2
 ·rw [e2,<- hl];have vf:=VR.mono (Le.of_below hb) _ _ hx;simp only [digA,VR] at vf ⊢;obtain ⟨a,len,cap,q1,q2,q3,-,q4⟩:=vf;exact ⟨a,len,cap,q1,q2,q3,trivial,q4⟩
 ·exact Abc hs g2 n2
theorem Pd:∀ {es:List (List AV)} {l:List Int},Ti es=some l->es=l.map digC
 | [],l,h=>by simp only [Ti,A8] at h; subst h; rfl
 | e :: es,l,h=>by
  unfold Ti at h;split at h
  ·rename_i he; simp at he
  ·rename_i x r he;simp only [kH] at he;obtain ⟨rfl,rfl⟩:=he;simp only [Cd] at h;obtain ⟨l',h1,rfl⟩:=h;rw [Pd h1]; rfl
  ·simp at h
theorem Aqq {l r:List Int} {v:AV} (h:quoF l r=some v):l=dig (val l).toNat/\r=dig (val r).toNat/\r≠[]/\l.length<=90000/\r.length<=90000/\v=.tup [digA (dig ((val l).toNat / (val r).toNat)),digA (dig ((val l).toNat % (val r).toNat))]:=by
 unfold quoF at h;split at h
 ·rename_i hh;simp only [A8] at h;exact ⟨hh.1,hh.2.1,hh.2.2.1,hh.2.2.2.1,hh.2.2.2.2,h.symm⟩
 ·simp at h
theorem Aho {args:List AV} {S:List Ent} {tk:List Nat} {n:Nat} {r:AV} {S':List Ent} {tk':List Nat} {n':Nat} (h:quoC args S tk n=some (r,S',tk',n')):∃ l y c d,args=[.frz (l.map digC) c,.frz (y.map digC) d]/\quoF l y=some r/\S'=S/\tk'=tk/\n'=n:=by
 unfold quoC at h;split at h
 ·rename_i es c ys d;split at h
  ·rename_i l y hl hy;split at h
   ·rename_i v hv;simp only [A8,Cg] at h;obtain ⟨rfl,rfl,rfl,rfl⟩:=h;exact ⟨l,y,c,d,by rw [Pd hl,Pd hy],hv,rfl,rfl,rfl⟩
   ·simp at h
  ·simp at h
 ·simp at h
theorem Aia {args:List AV} {S:List Ent} {tk:List Nat} {n:Nat} {r:AV} {S':List Ent} {tk':List Nat} {n':Nat} (h:uniC args S tk n=some (r,S',tk',n')):∃ l c,args=[.frz (l.map strC) c,.frz [] .nilc]/\l.length<=1000000/\(!l.isEmpty || Vu c)=true/\r=Aq (uniS l)/\S'=S/\tk'=tk/\n'=n:=by
 unfold uniC at h;split at h
 ·rename_i es c;split at h
  ·rename_i l hl;split at h
   ·rename_i hlen;simp only [Ci,decide_eq_true_eq] at hlen;simp only [A8,Cg] at h;obtain ⟨rfl,rfl,rfl,rfl⟩:=h;exact ⟨l,c,by rw [Ww hl],hlen.1,hlen.2,rfl,rfl,rfl,rfl⟩
   ·simp at h
  ·simp at h
 ·simp at h
theorem Av1 {l y:List Int} {c d:Cap} {r:AV} (hq:quoF l y=some r) (S:List Ent) (tk:List Nat) (n:Nat):quoC [.frz (l.map digC) c,.frz (y.map digC) d] S tk n=some (r,S,tk,n):=by simp [quoC,Rr,hq]
theorem Ar8 {l:List ByteArray} {c:Cap} (hlen:l.length<=1000000) (hc:(!l.isEmpty || Vu c)=true) (S:List Ent) (tk:List Nat) (n:Nat):uniC [.frz (l.map strC) c,.frz [] .nilc] S tk n=some (Aq (uniS l),S,tk,n):=by
 simp only [uniC,Yk];rw [if_pos (by rw [hc]; simpa using hlen)]
theorem Ab5 {f:FuncId} {args:List AV} {S:List Ent} {tk:List Nat} {n:Nat} {r:AV} {S':List Ent} {tk':List Nat} {n':Nat} (h:@extC prog E1 f args S tk n=some (r,S',tk',n')) :
  (f=55/\uniC args S tk n=some (r,S',tk',n'))\/(f=169/\quoC args S tk n=some (r,S',tk',n')):=by
 unfold extC at h;split at h
 ·simp only [Ext.call] at h;split at h
  ·rename_i hf; exact .inl ⟨by simpa using hf,h⟩
  ·split at h
   ·rename_i hf; exact .inr ⟨by simpa using hf,h⟩
   ·simp at h
 ·simp at h
theorem Ap3 (args:List AV) (S:List Ent) (tk:List Nat) (n:Nat):@extC prog E1 55 args S tk n=uniC args S tk n:=by
 simp [extC,Ext.on,Ext.call]
theorem Ap2 (args:List AV) (S:List Ent) (tk:List Nat) (n:Nat):@extC prog E1 169 args S tk n=quoC args S tk n:=by
 simp [extC,Ext.on,Ext.call]
@[reducible] noncomputable instance E1i:Ext prog:=E1
instance ok1:Aid prog:={
 ok:=fun f args S tk n r S' tk' n' h=>by
  rcases Ab5 h with ⟨rfl,hh⟩|⟨rfl,hh⟩
  ·obtain ⟨l,c,rfl,hlen,hc,rfl,rfl,rfl,rfl⟩:=Aia hh;refine ⟨⟨_,func55,aV,aV⟩,fun C vs h1 h2 h3 hs hv=>?_⟩;subst h1 h2 h3;refine Akh hs l c hlen (fun e=>?_) hv;subst e;cases c <;> simp [Vu] at hc;rfl
  ·obtain ⟨l,y,c,d,rfl,hq,rfl,rfl,rfl⟩:=Aho hh;refine ⟨⟨_,func169,aV,aV⟩,fun C vs h1 h2 h3 hs hv=>?_⟩;subst h1 h2 h3;obtain ⟨q1,q2,q3,q4,q5,rfl⟩:=Aqq hq;exact Asf hs l y c d q1 q2 q3 q4 q5 hv
 indep:=fun M f args S tk n r S' tk' n' h=>by
  unfold Gn at h;split at h
  ·rename_i hp;rcases Ab5 h with ⟨rfl,hh⟩|⟨rfl,hh⟩
   ·obtain ⟨l,c,rfl,hlen,hc,rfl,rfl,rfl,rfl⟩:=Aia hh;refine ⟨rfl,rfl,.inr ⟨rfl,fun S2 tk2 n2=>?_⟩⟩;unfold Gn;rw [if_pos hp,Ap3];exact Ar8 hlen hc S2 tk2 n2
   ·obtain ⟨l,y,c,d,rfl,hq,rfl,rfl,rfl⟩:=Aho hh;refine ⟨rfl,rfl,.inr ⟨rfl,fun S2 tk2 n2=>?_⟩⟩;unfold Gn;rw [if_pos hp,Ap2];exact Av1 hq S2 tk2 n2
  ·simp at h }
section
variable (S:List Ent) (tk:List Nat) (k:Nat)
theorem Ae3 (l:List ByteArray) (c:Cap) (hlen:l.length<=1000000) (hc:(!l.isEmpty || Vu c)=true):cL prog 55 [.frz (l.map strC) c,.frz [] .nilc] S tk k=some (Aq (uniS l),S,tk,k):=by
 refine Agd rfl ?_;simp only [Ext.call,beq_self_eq_true,if_true];exact Ar8 hlen hc S tk k
theorem My (a b:Nat) (c d:Cap) (hb:0<b) (ha:(dig a).length<=90000) (hb2:(dig b).length<=90000):cL prog 169 [.frz ((dig a).map digC) c,.frz ((dig b).map digC) d] S tk k=some (.tup [digA (dig (a / b)),digA (dig (a % b))],S,tk,k):=by
 refine Agd rfl ?_;have e1:(val (dig a)).toNat=a:=by rw [B5]; rfl
 have e2:(val (dig b)).toNat=b:=by rw [B5]; rfl
 have hq:quoF (dig a) (dig b)=some (.tup [digA (dig (a / b)),digA (dig (a % b))]):=by
  unfold quoF;rw [e1,e2,if_pos ⟨rfl,rfl,fun h=>by have:=Gh.1 h; omega,ha,hb2⟩]
 simp [Ext.call,quoC,Rr,hq]
end
end Go.Proofs.YtcjffhadclngmaaGreat
namespace Go.Proofs.YtcjffhadclngmaaGreat
open Go Tryz
set_option maxRecDepth 100000
theorem P6 {a n:Nat} (h:(dig a).length<=n):a<10000 ^ n:=Bp.1 h
theorem Ta {a k:Nat} : topV (dig a) k<=a:=by
 have h1:val ((dig a).take k)+10000 ^ ((dig a).take k).length*val ((dig a).drop k)=a:=by
  rw [<- Ha,Oq,B5]
 have h2:=E9 (l:=(dig a).take k) fun d hd=>Bo a d (kE hd);have h3:=E9 (l:=(dig a).drop k) fun d hd=>Bo a d (kD hd);have h4:val ((dig a).drop k)<=10000 ^ ((dig a).take k).length*val ((dig a).drop k):=by
  have hp:(1:Int)<=10000 ^ ((dig a).take k).length:=by
   have:=Z2 ((dig a).take k).length; omega
  have:=Int.mul_le_mul_of_nonneg_right hp h3;omega
 unfold topV;omega
theorem Aao (A:List Int):topV A A.length=0:=Za49
section
variable (S:List Ent) (tk:List Nat) (k:Nat)
theorem R1 (a:Nat) (ha:(dig a).length<=4):cL prog 173 [digA (dig a)] S tk k=some (.int (a:Nat),S,tk,k):=by
 have hsm:a<10000000000000000:=P6 ha;have d3:=Jd (n:=(dig a).length) aA;refine opP func173 ntmps173 ?_;simp (maxSteps:=10^6)+contextual(disch:=try exact dqd)only[ev0,simprocAttr,Cb,Bg,Cc,results173,digA,d3];refine loop1 (P:=prog) (fun x st=>st.T.length=20/\(x.1<=(dig a).length)/\(x.2=((topV (dig a) x.1:Nat):Int))/\getT st.T 0=digA (dig a)/\getT st.T 3=.int x.2/\getT st.T 4=.int ((x.1:Int) - 1)/\st.S=[]) (fun x=>x.1) (fun x=>.int (a:Nat)) ((dig a).length,(0:Int)) ?_ ?_;case refine_2=>exact ⟨rfl,Ce _,by rw [Aao]; rfl,rfl,rfl,rfl,rfl⟩
 rintro ⟨n,v⟩ ⟨T,S',tk',n'⟩ ⟨hl,hn,hv,e0,e3,e4,eS⟩ IH;simp only at hn hv e0 e3 e4 eS;subst eS;obtain ⟨g,hg,hT⟩:=Au hl;rw [hg] at e0 e3 e4;subst hT;clear hg hl;subst hv;by_cases h0:n=0
 ·subst h0;have d2:decide (((0:Nat):Int) - 1 >= 0)=false:=rfl;have ht:topV (dig a) 0=a:=eV
  rw [ht] at e3;simp (maxSteps:=10^6)+contextual(disch:=try exact dqd)only[ev0,simprocAttr,Cb,Bg,Cc,results173,e0,e3,e4,d2,digA]
 ·have d2:decide ((n:Int) - 1 >= 0)=true:=aD
  have hi:(n:Int) - 1=((n - 1:Nat):Int):=aA
  obtain ⟨x,hx⟩:=Af (show n - 1<(dig a).length by omega);have hx':=B2 hx;have hxk:=Ed (Bo a) hx;have aj:=Re (Bo a) hx;rw [show n - 1+1=n by omega] at aj;have hb1:=Ta (a:=a) (k:=n);have hb2:=Ta (a:=a) (k:=n - 1);have hp:=Jd (n:=n - 1) aA;have hw1:Ca.wrap ((topV (dig a) n:Int)*10000)=(topV (dig a) n:Int)*10000:=Ac aC;have hw2:Ca.wrap ((topV (dig a) n:Int)*10000+x)=((topV (dig a) (n - 1):Nat):Int):=by
   rw [Ac aC]; omega
  rw [hi] at e4 d2;simp (maxSteps:=10^6)+contextual(disch:=try exact dqd)only[ev0,simprocAttr,Cb,Bg,Cc,results173,e0,e3,e4,d2,digA,hx',hp,hw1,hw2];exact IH (n - 1,((topV (dig a) (n - 1):Nat):Int)) _ aF ⟨rfl,aE,rfl,aB,aB,aB,aB⟩
theorem Ajh (a:Nat) (ha:a<10000000000000000):cL prog 171 [.int (a:Nat)] S tk k=some (digA (dig a),S,tk,k):=by
 refine opP func171 ntmps171 ?_;simp (maxSteps:=10^6)+contextual(disch:=try exact dqd)only[ev0,simprocAttr,Cb,Bg,Cc,results171];refine loop1 (P:=prog) (fun x st=>st.T.length=14/\(x.1<=a)/\(x.2.1++dig x.1=dig a)/\(Bn st.tk x.2.2 1=true)/\getT st.T 0=.int (x.1:Nat)/\getT st.T 3=.frz (x.2.1.map digC) x.2.2/\st.S=[]) (fun x=>x.1) (fun x=>digA (dig a)) (a,[],.nilc) ?_ ?_;case refine_2=>exact ⟨rfl,Ce _,rfl,rfl,rfl,rfl,rfl⟩
 rintro ⟨m,zs,cp⟩ ⟨T,S',tk',n'⟩ ⟨hl,hm,he,ah,e0,e3,eS⟩ IH;simp only at hm he ah e0 e3 eS;subst eS;obtain ⟨g,hg,hT⟩:=Au hl;rw [hg] at e0 e3;subst hT;clear hg hl;have hr:=D5 zs;have ci:=B3 ah;have hla:(dig a).length<=4:=Bp.2 ha;have hzl:zs.length<=4:=by
  have:=congrArg List.length he;simp at this; omega
 have bo:(zs.map digC).length+1<=1048576:=aD
 by_cases h0:m=0
 ·subst h0;have d1:decide (((0:Nat):Int) > 0)=false:=rfl;rw [B9,Fy] at he;subst he;simp (maxSteps:=10^6)+contextual(disch:=try exact dqd)only[ev0,simprocAttr,Cb,Bg,Cc,results171,e0,e3,d1];rfl
 ·have d1:decide ((m:Int) > 0)=true:=aD
  have iv:¬ ((10000:Int)=0):=aA
  have hq:Ca.wrap ((m:Int).tdiv 10000)=((m / 10000:Nat):Int):=by
   rw [Fe aA,Ac aC]; rfl
  have gf:(m:Int).tmod 10000=((m % 10000:Nat):Int):=bY
  simp (maxSteps:=10^6)+contextual(disch:=try exact dqd)only[ev0,simprocAttr,Cb,Bg,Cc,results171,e0,e3,d1,iv,hq,gf,hr];exact IH (m / 10000,zs++[((m % 10000:Nat):Int)],A6 tk' cp 1) _ aF ⟨rfl,aE,by rw [<- he,Kd h0]; simp,ci,aB,aB,aB⟩
theorem Wl (a b:Nat) (ha:(dig a).length<=90000) (hb:(dig b).length<=90000):cL prog 168 [digA (dig a),digA (dig b)] S tk k=some (digA (dig (a.gcd b)),S,tk,k):=by
 refine opP func168 ntmps168 ?_;simp (maxSteps:=10^6)+contextual(disch:=try exact dqd)only[ev0,simprocAttr,Cb,Bg,Cc,results168,digA];refine loop1 (P:=prog) (fun x st=>st.T.length=33/\(x.1.gcd x.2=a.gcd b)/\((dig x.1).length<=90000)/\((dig x.2).length<=90000)/\getT st.T 0=digA (dig x.1)/\getT st.T 1=digA (dig x.2)/\st.S=[]) (fun x=>x.2) (fun x=>digA (dig (a.gcd b))) (a,b) ?_ ?_;case refine_2=>exact ⟨rfl,rfl,ha,hb,rfl,rfl,rfl⟩
 rintro ⟨x,y⟩ ⟨T,S',tk',n'⟩ ⟨hl,hg,hx,hy,e0,e1,eS⟩ IH;simp only at hg hx hy e0 e1 eS;subst eS;obtain ⟨g,hg,hT⟩:=Au hl;rw [hg] at e0 e1;subst hT;clear hg hl;by_cases h0:y=0
 ·subst h0;have d1:decide ((((dig 0).length:Nat):Int) > 0)=false:=rfl;rw [Og] at hg;simp (maxSteps:=10^6)+contextual(disch:=try exact dqd)only[ev0,simprocAttr,Cb,Bg,Cc,results168,e0,e1,d1,digA];rw [hg]
 ·have hyl:0<(dig y).length:=F8.2 fun h=>h0 (Gh.1 h);have d1:decide (((dig y).length:Int) > 0)=true:=aD
  have hQ:=fun c d S tk k=>My S tk k x y c d aA hx hy;simp only [digA] at hQ;have hlt:=Si x (by omega:0<y);have hym:(dig (x % y)).length<=90000:=Fs (Bp.2 (Nat.lt_trans hlt (Bp.1 (Ce _)))) hy;have hgn:y.gcd (x % y)=a.gcd b:=Za09
  by_cases h4:(dig x).length<=4
  ·have d2:decide (((dig x).length:Int)<=4)=true:=aD
   by_cases h5:(dig y).length<=4
   ·have d3:decide (((dig y).length:Int)<=4)=true:=aD
    have ru:x<10000000000000000:=P6 h4;have hy1:y<10000000000000000:=P6 h5;have hN1:=fun S tk k=>R1 S tk k x h4;have hN2:=fun S tk k=>R1 S tk k y h5;have hC:=fun S tk k=>told (E:=E1) (R0 S tk k x y aA aA);have hD:=fun S tk k=>Ajh S tk k (x.gcd y) (J9 (jZ x aA) hy1);simp only [digA] at hN1 hN2 hD;simp (maxSteps:=10^6)+contextual(disch:=try exact dqd)only[ev0,simprocAttr,Cb,Bg,Cc,results168,e0,e1,d1,d2,d3,digA,hN1,hN2,hC,hD];rw [hg]
   ·have d3:decide (((dig y).length:Int)<=4)=false:=aD
    simp (maxSteps:=10^6)+contextual(disch:=try exact dqd)only[ev0,simprocAttr,Cb,Bg,Cc,results168,e0,e1,d1,d2,d3,digA,hQ];exact Ya27
  ·have d2:decide (((dig x).length:Int)<=4)=false:=aD
   simp (maxSteps:=10^6)+contextual(disch:=try exact dqd)only[ev0,simprocAttr,Cb,Bg,Cc,results168,e0,e1,d1,d2,digA,hQ];exact Ya27
end
end Go.Proofs.YtcjffhadclngmaaGreat
namespace Go.Proofs.YtcjffhadclngmaaGreat
open Go Tryz
def smB (z:Int):Bool:=!decide (2<(dig z.natAbs).length)
def smN (z:Int):Int:=if smB z=true then z else 0
theorem N6 {z:Int} (h:smB z=true):z.natAbs<100000000:=by
 have h2:(dig z.natAbs).length<=2:=by simpa [smB] using h
 exact P6 h2
theorem zneg (z:Int):(!decide (z<0) && !decide (dig z.natAbs=[]))=decide (-z<0):=by
 have h1:dig z.natAbs=[]↔z.natAbs=0:=Gh;by_cases h:z<0
 ·have h2:¬ (-z<0):=aA
  simp [h]; omega
 ·by_cases h0:z=0
  ·subst h0; rfl
  ·have h2 : -z<0:=aA
   have h3:¬ dig z.natAbs=[]:=fun e=>by have:=h1.1 e; omega
   simp [h,h3]; omega
theorem Ke (n:Nat):decide (((dig n).length:Int) > 0)=!decide (dig n=[]):=by
 cases h:dig n with
 | nil=>rfl
 | cons x l=>simp
theorem Ajj (z:Int):sg (decide (z<0)) z.natAbs=z:=by
 by_cases h:z<0 <;> simp [sg,h] <;> omega
theorem Tn {x y:Int} (h:decide (x<0)=decide (y<0)):decide (x+y<0)=decide (x<0)/\(x+y).natAbs=x.natAbs+y.natAbs:=by
 have h':(x<0)↔(y<0):=aM
 constructor
 ·rw [decide_eq_decide]; omega
 ·omega
section
variable (S:List Ent) (tk:List Nat) (k:Nat)
theorem Wn (z:Int):cL prog 204 [zA z] S tk k=some (.tup [.int (smN z),.bool (smB z)],S,tk,k):=by
 refine opP func204 ntmps204 (hp3:=rfl) ?_;by_cases h:(dig z.natAbs).length<=2
 ·have hN:=fun S tk k=>R1 S tk k z.natAbs aA;have hb:smB z=true:=dI
  have hlt:=N6 hb;have d1:decide (((dig z.natAbs).length:Int) > 2)=false:=aD
  have e1:smN z=z:=by simp [smN,hb]
  rw [e1,hb];simp only [digA] at hN;by_cases hn:z<0
  ·have d2:decide (z<0)=true:=cW
   have hw:Ca.wrap (0 - (z.natAbs:Int))=z:=aS
   have hw2:Ca.wrap (-(z.natAbs:Int))=z:=aS
   simp (maxSteps:=10^6)+contextual(disch:=try exact dqd)only[ev0,simprocAttr,Cb,Bg,Cc,results204,zA,bigA,digA,d1,d2,hN,hw,hw2]
  ·have d2:decide (z<0)=false:=cW
   have hz:(z.natAbs:Int)=z:=aA
   rw [hz] at hN;simp (maxSteps:=10^6)+contextual(disch:=try exact dqd)only[ev0,simprocAttr,Cb,Bg,Cc,results204,zA,bigA,digA,d1,d2,hN]
 ·have hb:smB z=false:=dI
  have d1:decide (((dig z.natAbs).length:Int) > 2)=true:=aD
  have e1:smN z=0:=by simp [smN,hb]
  rw [e1,hb];simp (maxSteps:=10^6)+contextual(disch:=try exact dqd)only[ev0,simprocAttr,Cb,Bg,Cc,results204,zA,bigA,digA,d1]
theorem Hr (z:Int):cL prog 167 [zA z] S tk k=some (zA z,S,tk,k):=by
 refine opP func167 ntmps167 (hp3:=rfl) ?_;simp (maxSteps:=10^6)+contextual(disch:=try exact dqd)only[ev0,simprocAttr,Cb,Bg,Cc,results167,zA,bigA,digA]
theorem Xg (z:Int):cL prog 205 [zA z] S tk k=some (zA (-z),S,tk,k):=by
 refine opP func205 ntmps205 (hp3:=rfl) ?_;have hz:=zneg z;have hp:=Ke z.natAbs;have ha:(-z).natAbs=z.natAbs:=aA
 simp only [zA,ha];rw [<- hz];cases d1:decide (z<0) with
 | true=>simp (maxSteps:=10^6)+contextual(disch:=try exact dqd)only[ev0,simprocAttr,Cb,Bg,Cc,results205,bigA,digA,d1]
 | false=>simp (maxSteps:=10^6)+contextual(disch:=try exact dqd)only[ev0,simprocAttr,Cb,Bg,Cc,results205,bigA,digA,d1,hp]
end
end Go.Proofs.YtcjffhadclngmaaGreat
namespace Go.Proofs.YtcjffhadclngmaaGreat
open Go Tryz
theorem ext_mv1 (f:FuncId) (h:mvF0 f=false):Ext.mv prog f=false:=h
set_option linter.defProp false in
def ev1:=Bu ext_mv1 ev0
set_option linter.defProp false in
def evs1:=Bu ext_mv1 evs0
theorem iq1:((-1:Int) == 1)=false:=rfl
theorem iq2:((0:Int) == 1)=false:=rfl
theorem iq3:((0:Int) == -1)=false:=rfl
theorem iq4:((1:Int) == 1)=true:=rfl
theorem iq5:((-1:Int) == -1)=true:=rfl
theorem Aq5 {p:Bool} {n:Nat} (h:n=0->p=false):bigA p (dig n)=zA (sg p n):=by
 unfold zA;rw [Awb];cases p with
 | false =>
  have:¬ ((n:Int)<0):=aA
  simp [sg,this]
 | true =>
  have h0:n≠0:=fun e=>by simpa using h e
  have:(sg true n<0):=by simp [sg]; omega
  simp [this]
theorem Awk {p q:Bool} (h:p≠q) {X Y:Nat} (hl:Y<X):bigA p (dig (X - Y))=zA (sg p X+sg q Y):=by
 rw [<- Arn h aA];exact Aq5 (fun e=>aA)
theorem Awj {p q:Bool} (h:p≠q) {X Y:Nat} (hl:X<Y):bigA q (dig (Y - X))=zA (sg p X+sg q Y):=by
 rw [<- Au0 h aA];exact Aq5 (fun e=>aA)
theorem Anu (x y:Int):bigA (decide (x<0) != decide (y<0) && !decide (dig (x.natAbs*y.natAbs)=[])) (dig (x.natAbs*y.natAbs))=zA (x*y):=by
 rw [Aq5 (fun e=>by rw [e,B9]; simp)];congr 1;have h:=Avt (decide (x<0)) (decide (y<0)) x.natAbs y.natAbs;rw [Ajj,Ajj] at h;rw [<- h];by_cases h0:x.natAbs*y.natAbs=0
 ·rw [h0]; simp [sg]
 ·have:¬ dig (x.natAbs*y.natAbs)=[]:=fun e=>h0 (Gh.1 e);simp [this]
section
variable (S:List Ent) (tk:List Nat) (k:Nat)
theorem Ajs (x y:Int) (hx:(dig x.natAbs).length<=90000) (hy:(dig y.natAbs).length<=90000):cL prog 201 [zA x,zA y] S tk k=some (zA (x+y),S,tk,k):=by
 refine opP func201 ntmps201 (hp3:=rfl) ?_;by_cases hpq:decide (x<0)=decide (y<0)
 ·obtain ⟨h1,h2⟩:=Tn hpq;have hP:=fun S tk k=>told (E:=E1) (Atw S tk k x.natAbs y.natAbs aA aA);have d1:(decide (x<0) == decide (y<0))=true:=eE
  simp only [zA,h1,h2];simp only [digA] at hP;simp (maxSteps:=10^6)+contextual(disch:=try exact dqd)only[ev1,simprocAttr,Cb,Bg,Cc,results201,iq1,iq2,iq3,iq4,iq5,bigA,digA,d1,hP]
 ·have d1:(decide (x<0) == decide (y<0))=false:=eE
  have hC:=fun S tk k=>told (E:=E1) (Q4 S tk k x.natAbs y.natAbs aA aA);have hs:=Ajj x;have ht:=Ajj y;by_cases hgt:y.natAbs<x.natAbs
  ·have hM:=fun S tk k=>told (E:=E1) (Ahr S tk k x.natAbs y.natAbs aA aA);have hz:=Awk hpq hgt;rw [hs,ht] at hz;rw [<- hz];have hc:cmpN x.natAbs y.natAbs=1:=by unfold cmpN; rw [if_neg aA,if_pos hgt]
   exact Ya0k
  ·by_cases hlt:x.natAbs<y.natAbs
   ·have hM:=fun S tk k=>told (E:=E1) (Ahr S tk k y.natAbs x.natAbs aA aA);have hz:=Awj hpq hlt;rw [hs,ht] at hz;rw [<- hz];have hc:cmpN x.natAbs y.natAbs=-1:=by unfold cmpN; rw [if_pos hlt]
    exact Ya0k
   ·have hc:cmpN x.natAbs y.natAbs=0:=by unfold cmpN; rw [if_neg hlt,if_neg hgt]
    have h0:x+y=0:=by
     have h5:¬ ((x<0)↔(y<0)):=eE
     omega
    rw [hc] at hC;rw [h0];simp only [digA] at hC;simp (maxSteps:=10^6)+contextual(disch:=try exact dqd)only[ev1,simprocAttr,Cb,Bg,Cc,results201,iq1,iq2,iq3,iq4,iq5,zA,bigA,digA,d1,hC];first|rfl|(rw [show Int.natAbs 0=0 from rfl,B9]; rfl)|(rw [B9]; rfl)
theorem E2 (x y:Int) (hx:(dig x.natAbs).length<=90000) (hy:(dig y.natAbs).length<=90000):cL prog 198 [zA x,zA y] S tk k=some (zA (x*y),S,tk,k):=by
 refine opP func198 ntmps198 (hp3:=rfl) ?_;have hP:=fun S tk k=>told (E:=E1) (Wm S tk k x.natAbs y.natAbs aA aA);have hz:=Anu x y;have hp:=Ke (x.natAbs*y.natAbs);simp only [digA] at hP;rw [<- hz];have wd:(decide (x<0) != decide (y<0))=!(decide (x<0) == decide (y<0)):=rfl;rw [wd];cases d1:decide (x<0) == decide (y<0) with
 | true=>simp (maxSteps:=10^6)+contextual(disch:=try exact dqd)only[ev1,simprocAttr,Cb,Bg,Cc,results198,iq1,iq2,iq3,iq4,iq5,zA,bigA,digA,d1,wd,hp,hP,Oj,Oe,F0,Fq]
 | false=>simp (maxSteps:=10^6)+contextual(disch:=try exact dqd)only[ev1,simprocAttr,Cb,Bg,Cc,results198,iq1,iq2,iq3,iq4,iq5,zA,bigA,digA,d1,wd,hp,hP,Oj,Oe,F0,Fq]
theorem W2 (x y:Int) (hx:(dig x.natAbs).length<=90000) (hy:(dig y.natAbs).length<=90000):cL prog 200 [zA x,zA y] S tk k=some (zA (x - y),S,tk,k):=by
 refine opP func200 ntmps200 (hp3:=rfl) ?_;have hO:=fun S tk k=>Xg S tk k y;have hP:=fun S tk k=>Ajs S tk k x (-y) hx (by rw [show (-y).natAbs=y.natAbs by omega]; exact hy);rw [show x+-y=x - y by omega] at hP;simp only [zA,bigA,digA] at hO hP;simp (maxSteps:=10^6)+contextual(disch:=try exact dqd)only[ev1,simprocAttr,Cb,Bg,Cc,results200,iq1,iq2,iq3,iq4,iq5,zA,bigA,digA,hO,hP]
theorem Aai (l:List Int) (c:Cap) (hlen:l.length<=1048576):cL prog 170 [.frz (l.map digC) c] S tk k=some (digA l,S,tk,k):=by
 have hr:=fun cs=>Gq (f:=digC) (sz:=1) (fun _=>rfl) cs;cases l with
 | nil =>
  simp only [Ei];refine Abn func170 rfl rfl aV aV ntmps170 rfl rfl _ _ _ ?_ ?_ <;> rw [Auo]
  ·exact Ya19
  ·exact Ya19
 | cons x l =>
  simp only [Ct];refine Zc func170 rfl rfl aV aV ntmps170 rfl rfl _ _ _ rfl ?_; rw [Auo];have j3:=hr (x :: l);simp only [Ct] at j3;have hl:([]:List (List AV)).length+(digC x :: l.map digC).length<=1048576:=by simp at hlen ⊢; omega
  simp (maxSteps:=10^6)+contextual(disch:=try exact dqd)only[ev1,simprocAttr,Cb,Bg,Cc,results170,iq1,iq2,iq3,iq4,iq5,Qr,digA,j3]
end
end Go.Proofs.YtcjffhadclngmaaGreat
namespace Go.Proofs.YtcjffhadclngmaaGreat
open Go Tryz
set_option maxRecDepth 100000
theorem Aar {n:Int} (h0:0<=n) (h1:n<18446744073709551616):kF.wrap n=n:=by
 have e:(n.toNat:Int)=n:=aA
 rw [<- e];exact Go.IntWalk.u64_in _ aA
theorem Aq4 (u:Int):(u.tmod 10000).natAbs=u.natAbs % 10000:=by
 rw [Int.natAbs_tmod]; rfl
theorem Aq3 (u:Int):(u.tdiv 10000).natAbs=u.natAbs / 10000:=by
 rw [kK]; rfl
theorem uwrap (n:Int):kF.wrap n=n % 18446744073709551616:=by
 simp [IntKind.wrap,IntKind.bits,IntKind.signed]
theorem Ali {n:Nat} (h:n<10000000000000000000):(dig n).length<=5:=Bp.2 (F1 h aO)
theorem Ae8 {u N:Nat} {out:List Int} (he:out++dig u=dig N) (h:u≠0):(out++[((u % 10000:Nat):Int)])++dig (u / 10000)=dig N:=by
 rw [<- he,Kd h]; simp
theorem Am3 {u N:Nat} {out:List Int} (he:out++dig u=dig N) (hN:N<10000000000000000000):out.length<=5:=by
 have:=Ali hN;rw [<- he] at this; simp at this; omega
theorem Ae7 {N:Nat} {out:List Int} (he:out++dig 0=dig N):out=dig N:=by rw [<- he,B9,Fy]
section
variable (S:List Ent) (tk:List Nat) (k:Nat)
theorem U0 (n:Int) (hn:i64 n):cL prog 62 [.int n] S tk k=some (zA n,S,tk,k):=by
 refine opP func62 ntmps62 (hp3:=rfl) ?_;have hn':=hn;unfold i64 at hn';have hN:n.natAbs<10000000000000000000:=aA
 cases d0:decide (n<0) with
 | true =>
  simp only [decide_eq_true_eq] at d0;have d0':decide (n<0)=true:=by simpa using d0
  have q0:kF.wrap (0 - kF.wrap n)=((n.natAbs:Nat):Int):=by rw [uwrap,uwrap]; omega
  exact Ya3
 | false =>
  simp only [decide_eq_false_iff_not] at d0;have d0':decide (n<0)=false:=by simpa using d0
  have q0:kF.wrap n=((n.natAbs:Nat):Int):=by rw [Aar aA aA]; omega
  exact Ya3
theorem Ps (n:Int) (hn:i64 n):cL prog 25 [.int n] S tk k=some (zA n,S,tk,k):=by
 refine opP func25 ntmps25 (hp3:=rfl) ?_;have hn':=hn;unfold i64 at hn';have hN:n.natAbs<10000000000000000000:=aA
 simp (maxSteps:=10^6)+contextual(disch:=try exact dqd)only[ev0,simprocAttr,Cb,Bg,Cc,results25];refine loop1 (P:=prog) (fun x st=>st.T.length=25/\(i64 x.1)/\(x.2.1++dig x.1.natAbs=dig n.natAbs)/\(Bn st.tk x.2.2 1=true)/\getT st.T 0=.int x.1/\getT st.T 2=.ref 0 0 0/\getT st.T 3=.frz (x.2.1.map digC) x.2.2/\getT st.T 4=.bool (decide (n<0))/\st.S=[⟨0,[.bool false,.frz [] .nilc]⟩]) (fun x=>x.1.natAbs) (fun x=>zA n) (n,[],.nilc) ?_ ?_;case refine_2=>exact ⟨rfl,hn,rfl,rfl,rfl,rfl,rfl,rfl,rfl⟩
 rintro ⟨u,out,c⟩ ⟨T,S',tk',n'⟩ ⟨hl,hu,he,ah,e0,e2,e3,e4,eS⟩ IH;simp only at hu he ah e0 e2 e3 e4 eS;subst eS;obtain ⟨g,hg,hT⟩:=Au hl;rw [hg] at e0 e2 e3 e4;subst hT;clear hg hl;have hlen:=Am3 he hN;have hr:=D5 out;have ci:=B3 ah;unfold i64 at hu;by_cases h0:u=0
 ·have d1:(u != 0)=false:=aD
  subst h0;have hd:=Ae7 he;subst hd;simp (maxSteps:=10^6)+contextual(disch:=try exact dqd)only[ev0,simprocAttr,Cb,Bg,Cc,results25,e0,e2,e3,e4,d1];simp [zA,bigA,digA]
 ·have d1:(u != 0)=true:=aD
  have iv:¬ ((10000:Int)=0):=aA
  have bo:(out.map digC).length+1<=1048576:=aD
  have t1:=Aq4 u;have t2:=Aq3 u;have q1:Ca.wrap (u.tmod 10000)=u.tmod 10000:=Ac aC;have q3:Ca.wrap (u.tdiv 10000)=u.tdiv 10000:=Ac aC;have hs:=Ae8 he (u:=u.natAbs) aA;cases d2:decide (u.tmod 10000<0) with
  | true =>
   simp only [decide_eq_true_eq] at d2;have d2':decide (u.tmod 10000<0)=true:=by simpa using d2
   have q4:Ca.wrap (0 - u.tmod 10000)=((u.natAbs % 10000:Nat):Int):=aS
   simp (maxSteps:=10^6)+contextual(disch:=try exact dqd)only[ev0,simprocAttr,Cb,Bg,Cc,results25,e0,e2,e3,e4,d1,iv,q1,q3,d2',q4,hr];exact Ya1e
  | false =>
   simp only [decide_eq_false_iff_not] at d2;have d2':decide (u.tmod 10000<0)=false:=by simpa using d2
   have q4:u.tmod 10000=((u.natAbs % 10000:Nat):Int):=aA
   rw [q4] at d2' q1;simp (maxSteps:=10^6)+contextual(disch:=try exact dqd)only[ev0,simprocAttr,Cb,Bg,Cc,results25,e0,e2,e3,e4,d1,iv,q4,q1,q3,d2',hr];exact Ya1e
end
end Go.Proofs.YtcjffhadclngmaaGreat
namespace Go.Proofs.YtcjffhadclngmaaGreat
open Go Tryz
def ratA (p:Bool) (l:List Int) (q:Bool) (r:List Int):AV:=.agg [.prim (.bool p),digA l,.prim (.bool q),digA r]
def qA (n d:Int):AV:=ratA (decide (n<0)) (dig n.natAbs) (decide (d<0)) (dig d.natAbs)
def lowN (n d:Int):Int:=(if d<0 then -n else n).tdiv ((n.natAbs.gcd d.natAbs:Nat):Int)
def lowD (n d:Int):Int:=((d.natAbs / n.natAbs.gcd d.natAbs:Nat):Int)
section
variable (S:List Ent) (tk:List Nat) (k:Nat)
theorem Pk (n:Int) (hn:i64 n):cL prog 34 [.int n] S tk k=some (qA n 1,S,tk,k):=by
 refine opP func34 ntmps34 (hp3:=rfl) ?_;have h1:=fun S tk k=>U0 S tk k n hn;have h2:=fun S tk k=>U0 S tk k 1 aC;simp only [zA,bigA,digA] at h1 h2;simp (maxSteps:=10^6)+contextual(disch:=try exact dqd)only[ev1,simprocAttr,Cb,Bg,Cc,results34,qA,ratA,digA,h1,h2]
theorem Aqt:cL prog 203 [] S tk k=some (qA 0 1,S,tk,k):=by
 refine opP func203 ntmps203 (hp3:=rfl) ?_;have h1:=fun S tk k=>Pk S tk k 0 aC;simp only [qA,ratA,digA] at h1;simp (maxSteps:=10^6)+contextual(disch:=try exact dqd)only[ev1,simprocAttr,Cb,Bg,Cc,results203,qA,ratA,digA,h1]
theorem Q5 (a b c d:Int):cL prog 196 [qA a b,qA c d] S tk k=some (.tup [.agg [.int (smN a),.int (smN b),.int (smN c),.int (smN d)],.bool (smB a && smB b && smB c && smB d)],S,tk,k):=by
 refine opP func196 ntmps196 (hp3:=rfl) ?_;have h:=fun z S tk k=>Wn S tk k z;simp only [zA,bigA,digA] at h;cases d1:smB a with
 | false=>simp (maxSteps:=10^6)+contextual(disch:=try exact dqd)only[ev1,simprocAttr,Cb,Bg,Cc,results196,qA,ratA,digA,h,d1,Fq]
 | true =>
  cases d2:smB b with
  | false=>simp (maxSteps:=10^6)+contextual(disch:=try exact dqd)only[ev1,simprocAttr,Cb,Bg,Cc,results196,qA,ratA,digA,h,d1,d2,Fq,F0]
  | true =>
   cases d3:smB c with
   | false=>simp (maxSteps:=10^6)+contextual(disch:=try exact dqd)only[ev1,simprocAttr,Cb,Bg,Cc,results196,qA,ratA,digA,h,d1,d2,d3,Fq,F0]
   | true=>simp (maxSteps:=10^6)+contextual(disch:=try exact dqd)only[ev1,simprocAttr,Cb,Bg,Cc,results196,qA,ratA,digA,h,d1,d2,d3,Fq,F0]
theorem Mx (n d:Int) (hn:n.natAbs<=100000000000000000) (hd:d.natAbs<=100000000000000000) (di:d≠0):cL prog 197 [.int n,.int d] S tk k=some (qA (lowN n d) (lowD n d),S,tk,k):=by
 refine opP func197 ntmps197 (hp3:=rfl) ?_;have hC:=fun S tk k=>told (E:=E1) (R0 S tk k n.natAbs d.natAbs aA aA);have nj:0<n.natAbs.gcd d.natAbs:=Iy _ aA;have hgz:¬ (((n.natAbs.gcd d.natAbs:Nat):Int)=0):=aA
 have hm:∀ x:Int,x.natAbs=n.natAbs->(if -x > x then -x else x)=(n.natAbs:Int):=fun x hx=>by split <;> omega
 have hwn:∀ x:Int,x.natAbs=n.natAbs->Ca.wrap (0 - x)=-x:=fun x hx=>aS
 have gh:Ca.wrap (0 - d)=-d:=aS
 have hq:∀ x:Int,x.natAbs=n.natAbs->i64 (x.tdiv ((n.natAbs.gcd d.natAbs:Nat):Int)):=fun x hx=>by
  have h1:(x.tdiv ((n.natAbs.gcd d.natAbs:Nat):Int)).natAbs<=x.natAbs:=by
   rw [kK]; exact Sn _ _
  unfold i64; omega
 have we:i64 (lowD n d):=by
  have:=Sn d.natAbs (n.natAbs.gcd d.natAbs);unfold i64 lowD;generalize d.natAbs / n.natAbs.gcd d.natAbs=z at *;omega
 have hdq:∀ x:Int,x=(d.natAbs:Int)->x.tdiv ((n.natAbs.gcd d.natAbs:Nat):Int)=lowD n d:=fun x hx=>by
  subst hx;rw [Fe aA]; rfl
 have hB:=fun S tk k=>U0 S tk k (lowD n d) we;by_cases h:d<0
 ·have d1:decide (d<0)=true:=aM
  have hN:lowN n d=(-n).tdiv ((n.natAbs.gcd d.natAbs:Nat):Int):=by unfold lowN; rw [if_pos h]
  have hA:=fun S tk k=>U0 S tk k (lowN n d) (by rw [hN]; exact hq _ aA);have gf:=hm (-n) aA;have hw1:=hwn n rfl;have hw2:=hwn (-n) aA;have hw3:Ca.wrap ((-n).tdiv ((n.natAbs.gcd d.natAbs:Nat):Int))=lowN n d:=by
   rw [hN]; have:=hq (-n) aA; exact Ac this
  have hw4:Ca.wrap ((-d).tdiv ((n.natAbs.gcd d.natAbs:Nat):Int))=lowD n d:=by
   rw [hdq (-d) aA]; exact Ac we
  have hda:(-d)=(d.natAbs:Int):=aA
  have hC':∀ S tk k,cL prog 172 [.int (n.natAbs:Int),.int (-d)] S tk k=some (.int ((n.natAbs.gcd d.natAbs:Nat):Int),S,tk,k):=fun S tk k=>by
   have:=hC S tk k;rwa [<- hda] at this
  simp only [zA,bigA,digA] at hA hB;simp (maxSteps:=10^6)+contextual(disch:=try exact dqd)only[ev1,simprocAttr,Cb,Bg,Cc,results197,maxA_int,qA,ratA,digA,d1,hw1,hw2,gh,gf,hC',hgz,hw3,hw4,hA,hB]
 ·have d1:decide (d<0)=false:=aM
  have hN:lowN n d=n.tdiv ((n.natAbs.gcd d.natAbs:Nat):Int):=by unfold lowN; rw [if_neg h]
  have hA:=fun S tk k=>U0 S tk k (lowN n d) (by rw [hN]; exact hq _ aA);have gf:=hm n aA;have hw1:=hwn n rfl;have hw3:Ca.wrap (n.tdiv ((n.natAbs.gcd d.natAbs:Nat):Int))=lowN n d:=by
   rw [hN]; have:=hq n aA; exact Ac this
  have hw4:Ca.wrap (d.tdiv ((n.natAbs.gcd d.natAbs:Nat):Int))=lowD n d:=by
   rw [hdq d aA]; exact Ac we
  have hda:d=(d.natAbs:Int):=aA
  have hC2:∀ S tk k,cL prog 172 [.int (n.natAbs:Int),.int d] S tk k=some (.int ((n.natAbs.gcd d.natAbs:Nat):Int),S,tk,k):=fun S tk k=>by
   have:=hC S tk k;rwa [<- hda] at this
  simp only [zA,bigA,digA] at hA hB;simp (maxSteps:=10^6)+contextual(disch:=try exact dqd)only[ev1,simprocAttr,Cb,Bg,Cc,results197,maxA_int,qA,ratA,digA,d1,hw1,gf,hC2,hgz,hw3,hw4,hA,hB]
end
end Go.Proofs.YtcjffhadclngmaaGreat
namespace Go.Proofs.YtcjffhadclngmaaGreat
open Go Tryz
theorem Hb {p:Bool} {l:List Int} (h:D8 p l=true):p=decide (V p l<0)/\l=dig (V p l).natAbs:=by
 have ha:=Auz p l;rw [if_pos h] at ha;refine ⟨?_,ha.symm⟩;have hs:=V_sg p l;cases p with
 | false =>
  have:¬ V false l<0:=by rw [hs]; simp [sg]
  simp [this]
 | true =>
  have hl:l≠[]:=fun e=>by subst e; simp [D8] at h
  have h0:(V true l).natAbs≠0:=fun e=>by rw [e,B9] at ha; exact hl ha.symm
  have:V true l<0:=by rw [hs]; simp only [sg,if_true]; omega
  simp [this]
def Nw (n d:Int):Bool:=decide (0<d) && decide (n.natAbs.gcd d.natAbs=1)
def Kl (p:Bool) (l:List Int) (q:Bool) (r:List Int):Bool:=D8 p l && D8 q r && Nw (V p l) (V q r)
def nQ (p:Bool) (l:List Int) (q:Bool) (r:List Int):Int:=if Kl p l q r=true then V p l else 0
def dQ (p:Bool) (l:List Int) (q:Bool) (r:List Int):Int:=if Kl p l q r=true then V q r else 1
theorem As3 (g:Nat):decide (cmpN g 1=0)=decide (g=1):=by
 rw [decide_eq_decide];unfold cmpN;split
 ·omega
 ·split <;> omega
section
variable (S:List Ent) (tk:List Nat) (k:Nat)
theorem Z7 (a:Nat) (ha:(dig a).length<=1000000):cL prog 174 [digA (dig a),.frz [[.prim (.int .i64 1)]] .tight] S tk k=some (.int (cmpN a 1),S,tk,k):=by
 have ve:dig 1=[(1:Int)]:=N9 (d:=(1:Int)) aA aA;have h2:=told (E:=E1) (Q4 S tk k a 1 ha (by rw [ve]; simp));rw [ve] at h2;exact (Za (args:=[digA (dig a),.frz [[.prim (.int .i64 1)]] .tight]) (args':=[digA (dig a),digA [(1:Int)]]) rfl rfl rfl).trans h2
theorem Ani (p:Bool) (l:List Int) (q:Bool) (r:List Int) (hl:l.length<=1000000) (hr:r.length<=1000000):cL prog 202 [ratA p l q r] S tk k=some (.bool (Kl p l q r),S,tk,k):=by
 have np:=fun S tk k=>told (E:=E1) (P0 S tk k p l .unk hl);have nq:=fun S tk k=>told (E:=E1) (P0 S tk k q r .unk hr);refine opP func202 ntmps202 (hp3:=rfl) ?_;unfold Kl;cases h1:D8 p l with
 | false =>
  rw [h1] at np;simp (maxSteps:=10^6)+contextual(disch:=try exact dqd)only[ev1,simprocAttr,Cb,Bg,Cc,results202,ratA,digA,np,Fq]
 | true =>
 rw [h1] at np;cases h2:D8 q r with
 | false =>
  rw [h2] at nq;simp (maxSteps:=10^6)+contextual(disch:=try exact dqd)only[ev1,simprocAttr,Cb,Bg,Cc,results202,ratA,digA,np,nq,Fq,F0]
 | true =>
 rw [h2] at nq;obtain ⟨hp,dt⟩:=Hb h1;obtain ⟨hq,re⟩:=Hb h2;have lu:=(J5 h1).2.2;have iw:=(J5 h2).2.2;by_cases wg:q=true
 ·subst wg;have hg:Nw (V p l) (V true r)=false:=by
   have:V true r<0:=fJ
   have h3:¬ 0<V true r:=aA
   simp [Nw,h3]
  rw [hg];simp (maxSteps:=10^6)+contextual(disch:=try exact dqd)only[ev1,simprocAttr,Cb,Bg,Cc,results202,ratA,digA,np,nq,F0]
 ·have hqf:q=false:=by simpa using wg
  subst hqf;have di:0<=V false r:=by
   have:¬ V false r<0:=fJ
   omega
  by_cases cg:r=[]
  ·subst cg;have hg:Nw (V p l) (V false [])=false:=by
    have:V false []=0:=Za4p
    simp [Nw,this]
   rw [hg];simp only [Ei] at nq;have iz:(((0:Nat):Int) == 0)=true:=rfl;simp (maxSteps:=10^6)+contextual(disch:=try exact dqd)only[ev1,simprocAttr,Cb,Bg,Cc,results202,ratA,digA,np,nq,iz,F0]
  ·have yy:(((r.length:Nat):Int) == 0)=false:=by
    exact Ya3c
   have hd1:0<V false r:=by
    have:(V false r).natAbs≠0:=fun e=>cg (by rw [re,e,B9]);omega
   have hgd:Nw (V p l) (V false r)=decide ((V p l).natAbs.gcd (V false r).natAbs=1):=by simp [Nw,hd1]
   rw [hgd];have b8:=fun S tk k=>Wn S tk k (V p l);have bp:=fun S tk k=>Wn S tk k (V false r);simp only [zA,bigA,digA,<- hp,<- dt,<- hq,<- re] at b8 bp;by_cases hs:smB (V p l)=true/\smB (V false r)=true
   ·obtain ⟨s1,s2⟩:=hs;have e1:smN (V p l)=V p l:=by simp [smN,s1]
    have e2:smN (V false r)=V false r:=by simp [smN,s2]
    have b1:=N6 s1;have b2:=N6 s2;rw [e1,s1] at b8;rw [e2,s2] at bp;have hw:Ca.wrap (0 - V p l)=- V p l:=aS
    have hm:(if - V p l > V p l then - V p l else V p l)=((V p l).natAbs:Int):=by split <;> omega
    have hC:=fun S tk k=>told (E:=E1) (R0 S tk k (V p l).natAbs (V false r).natAbs aA aA);have hda:((V false r).natAbs:Int)=V false r:=aA
    rw [hda] at hC;have mf:((((V p l).natAbs.gcd (V false r).natAbs:Nat):Int) == 1)=decide ((V p l).natAbs.gcd (V false r).natAbs=1):=by
     rw [S9]; simp; omega
    simp (maxSteps:=10^6)+contextual(disch:=try exact dqd)only[ev1,simprocAttr,Cb,Bg,Cc,results202,maxA_int,ratA,digA,np,nq,yy,b8,bp,hw,hm,hC,mf,F0]
   ·have hD:=fun S tk k=>Wl S tk k (V p l).natAbs (V false r).natAbs (by rw [<- dt]; omega) (by rw [<- re]; omega);rw [<- dt,<- re] at hD;have hgl:(dig ((V p l).natAbs.gcd (V false r).natAbs)).length<=200:=by
     have h3:(V p l).natAbs.gcd (V false r).natAbs<=(V false r).natAbs:=jZ _ aA;have h4:(dig (V false r).natAbs).length<=200:=by rw [<- re]; exact iw
     exact Bp.2 (J9 h3 (Bp.1 h4))
    have hO:=fun S tk k=>Z7 S tk k ((V p l).natAbs.gcd (V false r).natAbs) aA;have dc:(cmpN ((V p l).natAbs.gcd (V false r).natAbs) 1 == 0)=decide ((V p l).natAbs.gcd (V false r).natAbs=1):=by
     rw [<- As3]; rfl
    simp only [digA] at hD hO;cases s1:smB (V p l) with
    | false =>
     rw [s1] at b8;exact Ya0s
    | true =>
     have s2:smB (V false r)=false:=by simpa [s1] using hs
     rw [s1] at b8;rw [s2] at bp;exact Ya0s
end
end Go.Proofs.YtcjffhadclngmaaGreat
namespace Go.Proofs.YtcjffhadclngmaaGreat
open Go Tryz
theorem W0 {p:Bool} {l:List Int} {q:Bool} {r:List Int} (h:Kl p l q r=true):D8 p l=true/\D8 q r=true/\Nw (V p l) (V q r)=true:=by
 unfold Kl at h;simp only [Ci] at h;exact ⟨h.1.1,h.1.2,h.2⟩
theorem Ye {p:Bool} {l:List Int} {q:Bool} {r:List Int} (h:Kl p l q r=true):ratA p l q r=qA (V p l) (V q r):=by
 obtain ⟨h1,h2,-⟩:=W0 h;obtain ⟨a1,a2⟩:=Hb h1;obtain ⟨b1,b2⟩:=Hb h2;unfold qA;rw [<- a1,<- a2,<- b1,<- b2]
structure H1 (n d:Int):Prop where
 pos:0<d
 cop:n.natAbs.gcd d.natAbs=1
 ln:(dig n.natAbs).length<=200
 ld:(dig d.natAbs).length<=200
theorem Gj (p:Bool) (l:List Int) (q:Bool) (r:List Int):H1 (nQ p l q r) (dQ p l q r):=by
 unfold nQ dQ;cases h:Kl p l q r with
 | false =>
  simp only [Ef,if_false];exact ⟨aA,rfl,aV,aV⟩
 | true =>
  obtain ⟨h1,h2,h3⟩:=W0 h;simp only [Nw,Ci,decide_eq_true_eq] at h3;exact ⟨h3.1,h3.2,Apm p l,Apm q r⟩
def E3 (n d:Int):Bool:=!decide (d=0) && okZ (lowN n d) && okZ (lowD n d)
def resN (n d:Int):Int:=if E3 n d=true then lowN n d else 0
def resD (n d:Int):Int:=if E3 n d=true then lowD n d else 0
def resQ (n d:Int):AV:=.tup [qA (resN n d) (resD n d),.bool (E3 n d)]
theorem Rx (n d:Int):(lowN n d).natAbs=n.natAbs / n.natAbs.gcd d.natAbs:=by
 unfold lowN;rw [kK];split <;> simp <;> rfl
theorem Ahc (n d:Int) (hd:d≠0):(decide (n<0) != decide (d<0) && !decide (dig (n.natAbs / n.natAbs.gcd d.natAbs)=[]))=decide (lowN n d<0):=by
 have ha:=Rx n d;have nj:0<n.natAbs.gcd d.natAbs:=Iy _ aA;have hz:dig (n.natAbs / n.natAbs.gcd d.natAbs)=[]↔lowN n d=0:=by rw [Gh,<- ha]; omega
 have hsg:∀ x:Int,0<=x->0<=x.tdiv ((n.natAbs.gcd d.natAbs:Nat):Int):=fun x hx=>Int.tdiv_nonneg hx aA;have hneg:∀ x:Int,x<=0->x.tdiv ((n.natAbs.gcd d.natAbs:Nat):Int)<=0:=fun x hx=>by
  have h1:=hsg (-x) aA;rw [Int.neg_tdiv] at h1;omega
 rw [S9];simp only [Ci,bne_iff_ne,ne_eq,decide_eq_decide,Ob,decide_eq_false_iff_not,decide_eq_true_eq,hz];by_cases h:d<0
 ·have e:lowN n d=(-n).tdiv ((n.natAbs.gcd d.natAbs:Nat):Int):=by unfold lowN; rw [if_pos h]
  have h1:=hsg (-n);have h2:=hneg (-n);rw [<- e] at h1 h2;constructor
  ·rintro ⟨h3,h4⟩; have:0<=n:=aA
   have:=h2 aA; omega
  ·intro h3;have:¬ 0<=-n:=fun h4=>by have:=h1 h4; omega
   omega
 ·have e:lowN n d=n.tdiv ((n.natAbs.gcd d.natAbs:Nat):Int):=by unfold lowN; rw [if_neg h]
  have h1:=hsg n;have h2:=hneg n;rw [<- e] at h1 h2;constructor
  ·rintro ⟨h3,h4⟩; have:n<0:=aA
   have:=h2 aA; omega
  ·intro h3;have:¬ 0<=n:=fun h4=>by have:=h1 h4; omega
   omega
section
variable (S:List Ent) (tk:List Nat) (k:Nat)
theorem H7 (p:Bool) (l:List Int) (q:Bool) (r:List Int) (hl:l.length<=1000000) (hr:r.length<=1000000):cL prog 195 [ratA p l q r] S tk k=some (qA (nQ p l q r) (dQ p l q r),S,tk,k):=by
 have hV:=fun S tk k=>Ani S tk k p l q r hl hr;have hZ:=fun S tk k=>Aqt S tk k;refine opP func195 ntmps195 (hp3:=rfl) ?_;unfold nQ dQ;cases h:Kl p l q r with
 | true =>
  rw [h] at hV;have e:=Ye h;simp only [if_true];rw [<- e];simp only [ratA,digA] at hV;simp (maxSteps:=10^6)+contextual(disch:=try exact dqd)only[ev1,simprocAttr,Cb,Bg,Cc,results195,ratA,digA,hV]
 | false =>
  rw [h] at hV;simp only [Ef,if_false];simp only [ratA,qA,digA] at hV hZ;simp (maxSteps:=10^6)+contextual(disch:=try exact dqd)only[ev1,simprocAttr,Cb,Bg,Cc,results195,ratA,qA,digA,hV,hZ]
theorem Nq (n d:Int) (hn:(dig n.natAbs).length<=90000) (hd:(dig d.natAbs).length<=90000) (di:d≠0):cL prog 166 [zA n,zA d] S tk k=some (resQ n d,S,tk,k):=by
 refine opP func166 ntmps166 (hp3:=rfl) ?_;have nj:0<n.natAbs.gcd d.natAbs:=Iy _ aA;have hD:=fun S tk k=>Wl S tk k n.natAbs d.natAbs hn hd;have hgl:(dig (n.natAbs.gcd d.natAbs)).length<=90000:=by
  exact Ya17
 have wh:=fun S tk k=>My S tk k n.natAbs (n.natAbs.gcd d.natAbs) .unk .unk nj hn hgl;have tx:=fun S tk k=>My S tk k d.natAbs (n.natAbs.gcd d.natAbs) .unk .unk nj hd hgl;have hla:=Rx n d;have hlb:(lowD n d).natAbs=d.natAbs / n.natAbs.gcd d.natAbs:=rfl;have hs:=Ahc n d di;have hp:=Ke (n.natAbs / n.natAbs.gcd d.natAbs);have hdn:decide (lowD n d<0)=false:=by
  have:¬ lowD n d<0:=by unfold lowD; omega
  simp [this]
 have hC:=fun (m:Nat) (h:(dig m).length<=200) S tk k=>Aai S tk k (dig m) .unk aA;unfold resQ resN resD;simp only [digA] at hD wh tx hC;by_cases h1:(dig (n.natAbs / n.natAbs.gcd d.natAbs)).length<=200
 ·have d1:decide (((dig (n.natAbs / n.natAbs.gcd d.natAbs)).length:Int) > 200)=false:=aD
  by_cases h2:(dig (d.natAbs / n.natAbs.gcd d.natAbs)).length<=200
  ·have d2:decide (((dig (d.natAbs / n.natAbs.gcd d.natAbs)).length:Int) > 200)=false:=aD
   have hf:E3 n d=true:=dC
   have hC1:=hC _ h1;have hC2:=hC _ h2;rw [hf];simp only [if_true,qA,hla,hlb,<- hs,hdn];have wd:(decide (n<0) != decide (d<0))=!(decide (n<0) == decide (d<0)):=rfl;rw [wd];cases d3:decide (n<0) == decide (d<0) with
   | true=>simp (maxSteps:=10^6)+contextual(disch:=try exact dqd)only[ev1,simprocAttr,Cb,Bg,Cc,results166,zA,bigA,ratA,digA,hD,wh,tx,d1,d2,d3,wd,hp,hC1,hC2,Oj,Oe,F0,Fq]
   | false=>simp (maxSteps:=10^6)+contextual(disch:=try exact dqd)only[ev1,simprocAttr,Cb,Bg,Cc,results166,zA,bigA,ratA,digA,hD,wh,tx,d1,d2,d3,wd,hp,hC1,hC2,Oj,Oe,F0,Fq]
  ·have d2:decide (((dig (d.natAbs / n.natAbs.gcd d.natAbs)).length:Int) > 200)=true:=aD
   have hf:E3 n d=false:=dC
   rw [hf];simp only [Ef,if_false];have hz:dig 0=[]:=B9;simp (maxSteps:=10^6)+contextual(disch:=try exact dqd)only[ev1,simprocAttr,Cb,Bg,Cc,results166,zA,bigA,qA,ratA,digA,hz,hD,wh,tx,d1,d2]
 ·have d1:decide (((dig (n.natAbs / n.natAbs.gcd d.natAbs)).length:Int) > 200)=true:=aD
  have hf:E3 n d=false:=dC
  rw [hf];simp only [Ef,if_false];have hz:dig 0=[]:=B9;simp (maxSteps:=10^6)+contextual(disch:=try exact dqd)only[ev1,simprocAttr,Cb,Bg,Cc,results166,zA,bigA,qA,ratA,digA,hz,hD,wh,tx,d1]
end
end Go.Proofs.YtcjffhadclngmaaGreat
namespace Go.Proofs.YtcjffhadclngmaaGreat
open Go Tryz
theorem Ea {x y:Int} {a b:Nat} (hx:(dig x.natAbs).length<=a) (hy:(dig y.natAbs).length<=b):(dig (x*y).natAbs).length<=a+b:=by
 rw [Bp] at hx hy ⊢;rw [Ii,Nat.pow_add];exact Nat.mul_lt_mul_of_lt_of_le hx aA (Nat.pow_pos aO)
theorem Ag7 {x y:Int} {a:Nat} (hx:(dig x.natAbs).length<=a) (hy:(dig y.natAbs).length<=a):(dig (x+y).natAbs).length<=a+1:=by
 rw [Bp] at hx hy ⊢;rw [Sp];omega
theorem Aqd {y:Int} {a:Nat} (hy:(dig y.natAbs).length<=a):(dig (-y).natAbs).length<=a:=by
 rw [show (-y).natAbs=y.natAbs by omega]; exact hy
theorem Xx {n d:Int} (hn:n.natAbs<=100000000000000000) (hd:d.natAbs<=100000000000000000) (di:d≠0):E3 n d=true:=by
 have h1:(dig (lowN n d).natAbs).length<=5:=Bp.2 (by
  have:=Sn n.natAbs (n.natAbs.gcd d.natAbs);rw [<- Rx] at this;omega)
 have h2:(dig (lowD n d).natAbs).length<=5:=Bp.2 (by
  have:=Sn d.natAbs (n.natAbs.gcd d.natAbs);have e:(lowD n d).natAbs=d.natAbs / n.natAbs.gcd d.natAbs:=rfl;rw [e];omega)
 simp only [E3,okZ];simp [di];omega
theorem Wo {n d:Int} (hn:n.natAbs<=100000000000000000) (hd:d.natAbs<=100000000000000000) (di:d≠0):resQ n d=.tup [qA (lowN n d) (lowD n d),.bool true]:=by
 have h:=Xx hn hd di;unfold resQ resN resD;rw [h]; rfl
theorem Q9 (n:Int):resQ n 0=.tup [qA 0 0,.bool false]:=rfl
theorem Hl {a b:Int} (ha:smB a=true) (hb:smB b=true):(a*b).natAbs<10000000000000000:=by
 have h1:=N6 ha;have h2:=N6 hb;rw [Ii];have:=Nat.mul_lt_mul_of_lt_of_le h1 (Nat.le_of_lt h2) (by omega:0<100000000);omega
theorem Nx {z:Int} (h:smB z=true):smN z=z:=by simp [smN,h]
def ofQ (p:Bool) (l:List Int) (q:Bool) (r:List Int):AV:=resQ (V p l) (if D8 p l=true then V q r else 0)
section
variable (S:List Ent) (tk:List Nat) (k:Nat)
theorem Av7 (p:Bool) (l:List Int) (q:Bool) (r:List Int) (hl:l.length<=1000000) (hr:r.length<=1000000):cL prog 165 [bigA p l,bigA q r] S tk k=some (ofQ p l q r,S,tk,k):=by
 have np:=fun S tk k=>told (E:=E1) (P0 S tk k p l .unk hl);have nq:=fun S tk k=>told (E:=E1) (P0 S tk k q r .unk hr);refine opP func165 ntmps165 (hp3:=rfl) ?_;have hz:dig 0=[]:=B9;have hnz:decide ((0:Int)<0)=false:=aO
 unfold ofQ;cases h1:D8 p l with
 | false =>
  rw [h1] at np;rw [if_neg (by simp),Q9];simp (maxSteps:=10^6)+contextual(disch:=try exact dqd)only[ev1,simprocAttr,Cb,Bg,Cc,results165,qA,ratA,bigA,digA,hz,hnz,np]
 | true =>
 rw [h1] at np;rw [if_pos rfl];cases h2:D8 q r with
 | false =>
  rw [h2] at nq;rw [V_bad h2,Q9];simp (maxSteps:=10^6)+contextual(disch:=try exact dqd)only[ev1,simprocAttr,Cb,Bg,Cc,results165,qA,ratA,bigA,digA,hz,hnz,np,nq]
 | true =>
 rw [h2] at nq;obtain ⟨hp,dt⟩:=Hb h1;obtain ⟨hq,re⟩:=Hb h2;by_cases cg:r=[]
 ·subst cg;have e0:V q []=0:=Za4p
  rw [e0,Q9];simp only [Ei] at nq;have iz:(((0:Nat):Int) == 0)=true:=rfl;simp (maxSteps:=10^6)+contextual(disch:=try exact dqd)only[ev1,simprocAttr,Cb,Bg,Cc,results165,qA,ratA,bigA,digA,hz,hnz,iz,np,nq]
 ·have iz:(((r.length:Nat):Int) == 0)=false:=by
   exact Ya3c
  have di:V q r≠0:=fun e=>cg (by rw [re,e]; rfl);have hR:=fun S tk k=>Nq S tk k (V p l) (V q r) (by have:=Apm p l; omega) (by have:=Apm q r; omega) di;have hO1:=fun S tk k=>Hr S tk k (V p l);have hO2:=fun S tk k=>Hr S tk k (V q r);simp only [zA,bigA,digA,<- hp,<- dt,<- hq,<- re] at hR hO1 hO2;simp only [resQ,qA,ratA,digA] at hR ⊢;simp (maxSteps:=10^6)+contextual(disch:=try exact dqd)only[ev1,simprocAttr,Cb,Bg,Cc,results165,qA,ratA,bigA,digA,iz,np,nq,hO1,hO2,hR]
theorem Atu (p1:Bool) (l1:List Int) (q1:Bool) (r1:List Int) (p2:Bool) (l2:List Int) (q2:Bool) (r2:List Int) (h1:l1.length<=1000000) (h2:r1.length<=1000000) (h3:l2.length<=1000000) (h4:r2.length<=1000000) :
  cL prog 193 [ratA p1 l1 q1 r1,ratA p2 l2 q2 r2] S tk k=some (resQ (nQ p1 l1 q1 r1*nQ p2 l2 q2 r2) (dQ p1 l1 q1 r1*dQ p2 l2 q2 r2),S,tk,k):=by
 have hA:=fun S tk k=>H7 S tk k p1 l1 q1 r1 h1 h2;have hB:=fun S tk k=>H7 S tk k p2 l2 q2 r2 h3 h4;have gA:=Gj p1 l1 q1 r1;have gB:=Gj p2 l2 q2 r2;generalize nQ p1 l1 q1 r1=a at *;generalize dQ p1 l1 q1 r1=b at *;generalize nQ p2 l2 q2 r2=c at *;generalize dQ p2 l2 q2 r2=d at *;have yi:b*d≠0:=Il Za5o (by have:=gB.pos; omega);refine opP func193 ntmps193 (hp3:=rfl) ?_;have hK:=fun S tk k=>Q5 S tk k a b c d;cases hs:smB a && smB b && smB c && smB d with
 | true =>
  rw [hs] at hK;simp only [Ci] at hs;obtain ⟨⟨⟨s1,s2⟩,s3⟩,s4⟩:=hs;rw [Nx s1,Nx s2,Nx s3,Nx s4] at hK;have b1:=Hl s1 s3;have b2:=Hl s2 s4;have hw1:Ca.wrap (a*c)=a*c:=Ac aC;have hw2:Ca.wrap (b*d)=b*d:=Ac aC;have hF:=fun S tk k=>Mx S tk k (a*c) (b*d) aA aA yi;rw [Wo aA aA yi];simp only [qA,ratA,digA] at hA hB hK hF ⊢;simp (maxSteps:=10^6)+contextual(disch:=try exact dqd)only[ev1,simprocAttr,Cb,Bg,Cc,results193,ratA,digA,hA,hB,hK,hF,hw1,hw2]
 | false =>
  rw [hs] at hK;have hO1:=fun S tk k=>Hr S tk k a;have hO2:=fun S tk k=>Hr S tk k b;have tz:=fun S tk k=>Hr S tk k c;have hO4:=fun S tk k=>Hr S tk k d;have l1:=gA.ln;have l2:=gA.ld;have l3:=gB.ln;have l4:=gB.ld;have a7:=fun S tk k=>E2 S tk k a c aA aA;have ai:=fun S tk k=>E2 S tk k b d aA aA;have m1:=Ea l1 l3;have m2:=Ea l2 l4;have hR:=fun S tk k=>Nq S tk k (a*c) (b*d) aA aA yi;simp only [zA,bigA,digA] at hO1 hO2 tz hO4 a7 ai hR;simp only [resQ,qA,ratA,digA] at hA hB hK hR ⊢;simp (maxSteps:=10^6)+contextual(disch:=try exact dqd)only[ev1,simprocAttr,Cb,Bg,Cc,results193,ratA,digA,hA,hB,hK,hO1,hO2,tz,hO4,a7,ai,hR]
end
end Go.Proofs.YtcjffhadclngmaaGreat
namespace Go.Proofs.YtcjffhadclngmaaGreat
open Go Tryz
theorem Abs {x y:Int} (hs:decide (x<0)=decide (y<0)):(cmpN x.natAbs y.natAbs == 0)=decide (x=y):=by
 have h1:(x<0)↔(y<0):=by simpa using hs
 rw [S9];simp only [beq_iff_eq,decide_eq_true_eq];unfold cmpN;split
 ·omega
 ·split <;> omega
theorem Aeg {x y:Int} (h:x<y):cmpZ x y=-1:=by simp [cmpZ,h]
theorem Aef {x y:Int} (h:y<x):cmpZ x y=1:=by unfold cmpZ; rw [if_neg aA,if_pos h]
theorem Zd {x y:Int} (h:x=y):cmpZ x y=0:=by unfold cmpZ; rw [if_neg aA,if_neg aA]
section
variable (S:List Ent) (tk:List Nat) (k:Nat)
theorem Att (p1:Bool) (l1:List Int) (q1:Bool) (r1:List Int) (p2:Bool) (l2:List Int) (q2:Bool) (r2:List Int) (h1:l1.length<=1000000) (h2:r1.length<=1000000) (h3:l2.length<=1000000) (h4:r2.length<=1000000) :
  cL prog 191 [ratA p1 l1 q1 r1,ratA p2 l2 q2 r2] S tk k=some (resQ (nQ p1 l1 q1 r1*dQ p2 l2 q2 r2) (dQ p1 l1 q1 r1*nQ p2 l2 q2 r2),S,tk,k):=by
 have hA:=fun S tk k=>H7 S tk k p1 l1 q1 r1 h1 h2;have hB:=fun S tk k=>H7 S tk k p2 l2 q2 r2 h3 h4;have gA:=Gj p1 l1 q1 r1;have gB:=Gj p2 l2 q2 r2;generalize nQ p1 l1 q1 r1=a at *;generalize dQ p1 l1 q1 r1=b at *;generalize nQ p2 l2 q2 r2=c at *;generalize dQ p2 l2 q2 r2=d at *;refine opP func191 ntmps191 (hp3:=rfl) ?_;have hz:dig 0=[]:=B9;have hnz:decide ((0:Int)<0)=false:=aO
 by_cases hc:c=0
 ·subst hc;have iz:((((dig (Int.natAbs 0)).length:Nat):Int) == 0)=true:=rfl;have iz2:(((0:Nat):Int) == 0)=true:=rfl;rw [Sq,Q9];simp only [qA,ratA,digA,hz,Ei] at hA hB ⊢;simp (maxSteps:=10^6)+contextual(disch:=try exact dqd)only[ev1,simprocAttr,Cb,Bg,Cc,results191,ratA,digA,hz,hnz,hA,hB,iz,iz2]
 have iz:((((dig c.natAbs).length:Nat):Int) == 0)=false:=by
  have:(dig c.natAbs)≠[]:=fun e=>hc Za5y;exact Ya1m
 have yi:b*c≠0:=Il Za5o hc;have hK:=fun S tk k=>Q5 S tk k a b c d;cases hs:smB a && smB b && smB c && smB d with
 | true =>
  rw [hs] at hK;simp only [Ci] at hs;obtain ⟨⟨⟨s1,s2⟩,s3⟩,s4⟩:=hs;rw [Nx s1,Nx s2,Nx s3,Nx s4] at hK;have b1:=Hl s1 s4;have b2:=Hl s2 s3;have hw1:Ca.wrap (a*d)=a*d:=Ac aC;have hw2:Ca.wrap (b*c)=b*c:=Ac aC;have hF:=fun S tk k=>Mx S tk k (a*d) (b*c) aA aA yi;rw [Wo aA aA yi];simp only [qA,ratA,digA] at hA hB hK hF ⊢;simp (maxSteps:=10^6)+contextual(disch:=try exact dqd)only[ev1,simprocAttr,Cb,Bg,Cc,results191,ratA,digA,hA,hB,hK,hF,hw1,hw2,iz]
 | false =>
  rw [hs] at hK;have hO1:=fun S tk k=>Hr S tk k a;have hO2:=fun S tk k=>Hr S tk k b;have tz:=fun S tk k=>Hr S tk k c;have hO4:=fun S tk k=>Hr S tk k d;have l1:=gA.ln;have l2:=gA.ld;have l3:=gB.ln;have l4:=gB.ld;have a7:=fun S tk k=>E2 S tk k a d aA aA;have ai:=fun S tk k=>E2 S tk k b c aA aA;have m1:=Ea l1 l4;have m2:=Ea l2 l3;have hR:=fun S tk k=>Nq S tk k (a*d) (b*c) aA aA yi;simp only [zA,bigA,digA] at hO1 hO2 tz hO4 a7 ai hR;simp only [resQ,qA,ratA,digA] at hA hB hK hR ⊢;simp (maxSteps:=10^6)+contextual(disch:=try exact dqd)only[ev1,simprocAttr,Cb,Bg,Cc,results191,ratA,digA,hA,hB,hK,hO1,hO2,tz,hO4,a7,ai,hR,iz]
theorem Aqs (x y:Int) (hx:(dig x.natAbs).length<=90000) (hy:(dig y.natAbs).length<=90000):cL prog 199 [zA x,zA y] S tk k=some (.bool (decide (x=y)),S,tk,k):=by
 refine opP func199 ntmps199 (hp3:=rfl) ?_;have hO:=fun S tk k=>told (E:=E1) (Q4 S tk k x.natAbs y.natAbs aA aA);simp only [digA] at hO;by_cases hs:decide (x<0)=decide (y<0)
 ·have d1:(decide (x<0) == decide (y<0))=true:=by simpa using hs
  by_cases hl:(dig x.natAbs).length=(dig y.natAbs).length
  ·have d2:(((dig x.natAbs).length:Int) == ((dig y.natAbs).length:Int))=true:=by rw [beq_iff_eq]; omega
   have hz:=Abs hs;simp (maxSteps:=10^6)+contextual(disch:=try exact dqd)only[ev1,simprocAttr,Cb,Bg,Cc,results199,zA,bigA,digA,d1,d2,hO,hz]
  ·have d2:(((dig x.natAbs).length:Int) == ((dig y.natAbs).length:Int))=false:=by
    rw [Bool.eq_false_iff]; intro h; exact hl (by have:=beq_iff_eq.1 h; omega)
   have hne:decide (x=y)=false:=by
    have:x≠y:=fun e=>hl (by rw [e]);simp [this]
   rw [hne];simp (maxSteps:=10^6)+contextual(disch:=try exact dqd)only[ev1,simprocAttr,Cb,Bg,Cc,results199,zA,bigA,digA,d1,d2]
 ·have d1:(decide (x<0) == decide (y<0))=false:=by simpa using hs
  have hne:decide (x=y)=false:=by
   have:x≠y:=fun e=>hs (by rw [e]);simp [this]
  rw [hne];simp (maxSteps:=10^6)+contextual(disch:=try exact dqd)only[ev1,simprocAttr,Cb,Bg,Cc,results199,zA,bigA,digA,d1]
theorem Ats (p1:Bool) (l1:List Int) (q1:Bool) (r1:List Int) (p2:Bool) (l2:List Int) (q2:Bool) (r2:List Int) (h1:l1.length<=1000000) (h2:r1.length<=1000000) (h3:l2.length<=1000000) (h4:r2.length<=1000000) :
  cL prog 192 [ratA p1 l1 q1 r1,ratA p2 l2 q2 r2] S tk k=some (.int (cmpZ (nQ p1 l1 q1 r1*dQ p2 l2 q2 r2) (nQ p2 l2 q2 r2*dQ p1 l1 q1 r1)),S,tk,k):=by
 have hA:=fun S tk k=>H7 S tk k p1 l1 q1 r1 h1 h2;have hB:=fun S tk k=>H7 S tk k p2 l2 q2 r2 h3 h4;have gA:=Gj p1 l1 q1 r1;have gB:=Gj p2 l2 q2 r2;generalize nQ p1 l1 q1 r1=a at *;generalize dQ p1 l1 q1 r1=b at *;generalize nQ p2 l2 q2 r2=c at *;generalize dQ p2 l2 q2 r2=d at *;refine opP func192 ntmps192 (hp3:=rfl) ?_;have hK:=fun S tk k=>Q5 S tk k a b c d;cases hs:smB a && smB b && smB c && smB d with
 | true =>
  rw [hs] at hK;simp only [Ci] at hs;obtain ⟨⟨⟨s1,s2⟩,s3⟩,s4⟩:=hs;rw [Nx s1,Nx s2,Nx s3,Nx s4] at hK;have b1:=Hl s1 s4;have b2:=Hl s3 s2;have hw1:Ca.wrap (a*d)=a*d:=Ac aC;have hw2:Ca.wrap (c*b)=c*b:=Ac aC;simp only [qA,ratA,digA] at hA hB hK;by_cases g1:a*d<c*b
  ·have d1:decide (a*d<c*b)=true:=gI
   rw [Aeg g1];simp (maxSteps:=10^6)+contextual(disch:=try exact dqd)only[ev1,simprocAttr,Cb,Bg,Cc,results192,ratA,digA,hA,hB,hK,hw1,hw2,d1]
  ·have d1:decide (a*d<c*b)=false:=gI
   by_cases g2:a*d > c*b
   ·have d2:decide (a*d > c*b)=true:=eI
    rw [Aef g2];exact Ya16
   ·have d2:decide (a*d > c*b)=false:=eI
    rw [Zd aA];exact Ya16
 | false =>
  rw [hs] at hK;have hO1:=fun S tk k=>Hr S tk k a;have hO2:=fun S tk k=>Hr S tk k b;have tz:=fun S tk k=>Hr S tk k c;have hO4:=fun S tk k=>Hr S tk k d;have l1:=gA.ln;have l2:=gA.ld;have l3:=gB.ln;have l4:=gB.ld;have a7:=fun S tk k=>E2 S tk k a d aA aA;have ai:=fun S tk k=>E2 S tk k c b aA aA;have m1:=Ea l1 l4;have m2:=Ea l3 l2;have hS:=fun S tk k=>Aqs S tk k (a*d) (c*b) aA aA;have hM:=fun S tk k=>W2 S tk k (a*d) (c*b) aA aA;simp only [zA,bigA,digA] at hO1 hO2 tz hO4 a7 ai hS hM;simp only [qA,ratA,digA] at hA hB hK;by_cases g1:a*d=c*b
  ·have d1:decide (a*d=c*b)=true:=gI
   rw [d1] at hS;rw [Zd g1];simp (maxSteps:=10^6)+contextual(disch:=try exact dqd)only[ev1,simprocAttr,Cb,Bg,Cc,results192,ratA,digA,hA,hB,hK,hO1,hO2,tz,hO4,a7,ai,hS]
  ·have d1:decide (a*d=c*b)=false:=gI
   rw [d1] at hS;by_cases g2:a*d<c*b
   ·have d2:decide (a*d - c*b<0)=true:=aD
    rw [d2] at hM;rw [Aeg g2];exact Ya10
   ·have d2:decide (a*d - c*b<0)=false:=aD
    rw [d2] at hM;rw [Aef aA];exact Ya10
end
end Go.Proofs.YtcjffhadclngmaaGreat
namespace Go.Proofs.YtcjffhadclngmaaGreat
open Go
theorem H1.valid {n d:Int} (h:H1 n d):Kl (decide (n<0)) (dig n.natAbs) (decide (d<0)) (dig d.natAbs)=true:=by
 unfold Kl Nw;rw [Uh _ h.ln,Uh _ h.ld,V_of _ h.ln,V_of _ h.ld];simp [h.pos,h.cop]
theorem H1.nQ {n d:Int} (h:H1 n d):nQ (decide (n<0)) (dig n.natAbs) (decide (d<0)) (dig d.natAbs)=n:=by
 unfold Proofs.YtcjffhadclngmaaGreat.nQ;rw [if_pos h.valid,V_of _ h.ln]
theorem H1.dQ {n d:Int} (h:H1 n d):dQ (decide (n<0)) (dig n.natAbs) (decide (d<0)) (dig d.natAbs)=d:=by
 unfold Proofs.YtcjffhadclngmaaGreat.dQ;rw [if_pos h.valid,V_of _ h.ld]
theorem H1.neg {n d:Int} (h:H1 n d):H1 (-n) d:=by
 have e:(-n).natAbs=n.natAbs:=aA
 exact ⟨h.pos,by rw [e]; exact h.cop,by rw [e]; exact h.ln,h.ld⟩
end Go.Proofs.YtcjffhadclngmaaGreat
namespace Go.Proofs.YtcjffhadclngmaaGreat
open Go Tryz
set_option maxRecDepth 100000
section
variable (S:List Ent) (tk:List Nat) (k:Nat)
theorem T2 (l:List Int) (c:Cap) (hlen:l.length<=1000000):cL prog 97 [.frz (l.map digC) c] S tk k=some (digA (D0 l),S,tk,k):=by
 refine opP func97 ntmps97 ?_;simp (maxSteps:=10^6)+contextual(disch:=try exact dqd)only[ev1,simprocAttr,Cb,Bg,Cc,results97];refine loop1 (P:=prog) (fun x st=>st.T.length=22/\(x<=l.length)/\(∀ j,x<=j->∀ x,nth l j=some x->x=0)/\getT st.T 0=digA l/\getT st.T 3=.int (x:Nat)/\st.S=[]) (fun x=>x) (fun x=>digA (D0 l)) (l.length) ?_ ?_;case refine_2=>exact ⟨rfl,Ce _,Qd l,rfl,rfl,rfl⟩
 rintro n ⟨T,S',tk',n'⟩ ⟨hl,hn,hz,e0,e3,eS⟩ IH;subst eS;obtain ⟨g,hg,hT⟩:=Au hl;rw [hg] at e0 e3;subst hT;clear hg hl;have hr:=D5 l;by_cases h0:n=0
 ·have d1:decide ((n:Int) > 0)=false:=aD
  have ht:=G1 hn hz (.inl h0);simp (maxSteps:=10^6)+contextual(disch:=try exact dqd)only[ev1,simprocAttr,Cb,Bg,Cc,results97,e0,e3,d1,digA,Jg,hr,bound,intN_cast,hn,Ce,Cl];rw [ht]; simp [h0]
 ·have d1:decide ((n:Int) > 0)=true:=aD
  have hp:=Ud h0 aA;obtain ⟨x,hx⟩:=Af (show n - 1<l.length by omega);have hx':=B2 hx;by_cases mc:x=0
  ·have d2:(x == 0)=true:=cM
   simp (maxSteps:=10^6)+contextual(disch:=try exact dqd)only[ev1,simprocAttr,Cb,Bg,Cc,results97,e0,e3,d1,d2,hp,hx',digA];exact IH (n - 1) _ aF ⟨rfl,aE,Vr hz hx mc,aB,aB,aB⟩
  ·have d2:(x == 0)=false:=cM
   have ht:=G1 hn hz (.inr ⟨x,hx,mc⟩);simp (maxSteps:=10^6)+contextual(disch:=try exact dqd)only[ev1,simprocAttr,Cb,Bg,Cc,results97,e0,e3,d1,d2,hp,hx',digA,Jg,hr,bound,intN_cast,hn,Ce,Cl];rw [ht]; simp
theorem Yq (a b:Nat) (ha:(dig a).length<=1000000) (hb:(dig b).length<=1000000):cL prog 72 [digA (dig a),digA (dig b)] S tk k=some (.bool (decide (a<b)),S,tk,k):=by
 refine opP func72 ntmps72 ?_;by_cases hl:(dig a).length=(dig b).length;case neg =>
  have d1:(((dig a).length:Int) != ((dig b).length:Int))=true:=aD
  have d2:decide (((dig a).length:Int)<((dig b).length:Int))=decide (a<b):=by
   rw [decide_eq_decide];constructor
   ·intro h; exact Lo aA
   ·intro h;rcases Im (dig a).length (dig b).length with h'|h'
    ·omega
    ·have:=Lo (a:=b) (b:=a) aA; omega
  simp (maxSteps:=10^6)+contextual(disch:=try exact dqd)only[ev1,simprocAttr,Cb,Bg,Cc,results72,digA,d1,d2]
 have d1:(((dig a).length:Int) != ((dig b).length:Int))=false:=aD
 have d3:=Jd ha;simp (maxSteps:=10^6)+contextual(disch:=try exact dqd)only[ev1,simprocAttr,Cb,Bg,Cc,results72,digA,d1,d3];refine loop1 (P:=prog) (fun x st=>st.T.length=41/\(x<=(dig a).length)/\(∀ j,x<=j->nth (dig a) j=nth (dig b) j)/\getT st.T 0=digA (dig a)/\getT st.T 1=digA (dig b)/\getT st.T 5=.int ((x:Int) - 1)/\st.S=[]) (fun x=>x) (fun x=>.bool (decide (a<b))) ((dig a).length) ?_ ?_;case refine_2=>exact ⟨rfl,Ce _,fun j hj=>by rw [Ag,Ag,Cu hj,Cu aA],rfl,rfl,rfl,rfl⟩
 rintro n ⟨T,S',tk',n'⟩ ⟨hl,hn,he,e0,e1,e5,eS⟩ IH;subst eS;obtain ⟨g,hg,hT⟩:=Au hl;rw [hg] at e0 e1 e5;subst hT;clear hg hl;by_cases h0:n=0
 ·have d2:decide ((n:Int) - 1 >= 0)=false:=aD
  have:=Agh fun j=>he j aA;subst this;simp (maxSteps:=10^6)+contextual(disch:=try exact dqd)only[ev1,simprocAttr,Cb,Bg,Cc,results72,e0,e1,e5,d2,digA];simp
 ·have d2:decide ((n:Int) - 1 >= 0)=true:=aD
  have hi:(n:Int) - 1=((n - 1:Nat):Int):=aA
  obtain ⟨x,hx⟩:=Af (show n - 1<(dig a).length by omega);obtain ⟨y,hy⟩:=Af (show n - 1<(dig b).length by omega);have hx':=B2 hx;have ng:=B2 hy;have sc:∀ j,n - 1<j->nth (dig a) j=nth (dig b) j:=fun j hj=>he j aA;have hp:=Jd (n:=n - 1) aA;rw [hi] at e5 d2;by_cases j8:x=y
  ·have d4:(x != y)=false:=gG
   simp (maxSteps:=10^6)+contextual(disch:=try exact dqd)only[ev1,simprocAttr,Cb,Bg,Cc,results72,e0,e1,e5,d2,d4,digA,hx',ng,hp];exact IH (n - 1) _ aF ⟨rfl,aE,fun j hj=>Za6x,aB,aB,aB,aB⟩
  ·have d4:(x != y)=true:=gG
   have d5:decide (x<y)=decide (a<b):=by
    rw [decide_eq_decide];constructor
    ·intro h1; exact Agg hl hx hy h1 sc
    ·intro h1;by_cases h2:x<y
     ·exact h2
     ·have:=Agg hl.symm hy hx aA fun j hj=>(sc j hj).symm;omega
   simp (maxSteps:=10^6)+contextual(disch:=try exact dqd)only[ev1,simprocAttr,Cb,Bg,Cc,results72,e0,e1,e5,d2,d4,d5,digA,hx',ng,hp]
theorem Afz (a b:Nat) (ha:(dig a).length<=100000) (hb:(dig b).length<=100000):cL prog 71 [digA (dig a),digA (dig b)] S tk k=some (digA (dig (a+b)),S,tk,k):=by
 refine opP func71 ntmps71 ?_;simp (maxSteps:=10^6)+contextual(disch:=try exact dqd)only[ev1,simprocAttr,Cb,Bg,Cc,results71,digA];refine loop1 (P:=prog) (fun x st=>st.T.length=53/\(Sum1 a b x.1 x.2.1 x.2.2.1)/\(x.1<=100001)/\(Bn st.tk x.2.2.2 1=true)/\(x.1=100001->x.2.1=0)/\getT st.T 0=digA (dig a)/\getT st.T 1=digA (dig b)/\getT st.T 5=.frz (x.2.2.1.map digC) x.2.2.2/\getT st.T 6=.int x.2.1/\getT st.T 7=.int (x.1:Nat)/\st.S=[]) (fun x=>2*(max (dig a).length (dig b).length - x.1)+x.2.1.toNat) (fun x=>digA (dig (a+b))) (0,0,[],.nilc) ?_ ?_;case refine_2=>exact ⟨rfl,⟨rfl,by intro d hd; simp at hd,by simp,by rw [Fg,Fg,B5,B5]; simp [val]⟩,aA,rfl,fun _=>rfl,rfl,rfl,rfl,rfl,rfl,rfl⟩
 rintro ⟨i,w,out,c⟩ ⟨T,S',tk',n'⟩ ⟨hl,hp,hi,ah,yz,e0,e1,e5,e6,e7,eS⟩ IH;simp only at hp hi ah yz e0 e1 e5 e6 e7 eS;subst eS;obtain ⟨g,hg,hT⟩:=Au hl;rw [hg] at e0 e1 e5 e6 e7;subst hT;clear hg hl;have hlen:=hp.len;have hr:=D5 out;have hn:(out.map digC).length+1<=1048576:=aD
 have ci:=B3 ah;have ez:=B1 (i:=i) aA;have kk:=hp.c0;obtain ⟨n,gn⟩:∃ n,n=(nth (dig a) i).getD 0+(nth (dig b) i).getD 0+w:=⟨_,rfl⟩;obtain ⟨aj,bo,bm,ee,ie⟩:=hp.step gn;have g1:=Ng a i;have g2:=Ng b i;have ra:Ca.wrap (n.tdiv 10000)=n.tdiv 10000:=by
  exact Ya3d
 have iv:¬ ((10000:Int)=0):=aA
 have a60:n.tdiv 10000=n / 10000:=Fe aA;by_cases ca:i<(dig a).length
 ·have d1:decide ((i:Int)<((dig a).length:Int))=true:=gJ
  obtain ⟨x,hx⟩:=Af ca;have hx':=B2 hx;rw [hx,Nl] at gn g1;have hw1:Ca.wrap (w+x)=w+x:=Ac aC;by_cases cb:i<(dig b).length
  ·have d2:decide ((i:Int)<((dig b).length:Int))=true:=gK
   obtain ⟨y,hy⟩:=Af cb;have ng:=B2 hy;rw [hy,Nl] at gn g2;have hw2:Ca.wrap (w+x+y)=n:=aS
   simp (maxSteps:=10^6)+contextual(disch:=try exact dqd)only[ev1,simprocAttr,Cb,Bg,Cc,results71,digA,e0,e1,e5,e6,e7,d1,d2,hx',ng,hw1,hw2,ra,hr,ez,iv];exact Yau
  ·have d2:decide ((i:Int)<((dig b).length:Int))=false:=gK
   have hb0:(nth (dig b) i).getD 0=0:=by rw [Ag,Cu aA]; rfl
   have a5u:Ca.wrap (w+x)=n:=by rw [hw1]; omega
   simp (maxSteps:=10^6)+contextual(disch:=try exact dqd)only[ev1,simprocAttr,Cb,Bg,Cc,results71,digA,e0,e1,e5,e6,e7,d1,d2,hx',a5u,ra,hr,ez,iv];exact Yau
 ·have d1:decide ((i:Int)<((dig a).length:Int))=false:=gJ
  have ui:(nth (dig a) i).getD 0=0:=by rw [Ag,Cu aA]; rfl
  by_cases cb:i<(dig b).length
  ·have d2:decide ((i:Int)<((dig b).length:Int))=true:=gK
   obtain ⟨y,hy⟩:=Af cb;have ng:=B2 hy;rw [hy,Nl] at gn g2;have hw2:Ca.wrap (w+y)=n:=aS
   simp (maxSteps:=10^6)+contextual(disch:=try exact dqd)only[ev1,simprocAttr,Cb,Bg,Cc,results71,digA,e0,e1,e5,e6,e7,d1,d2,ng,hw2,ra,hr,ez,iv];exact Yau
  ·have d2:decide ((i:Int)<((dig b).length:Int))=false:=gK
   have hb0:(nth (dig b) i).getD 0=0:=by rw [Ag,Cu aA]; rfl
   by_cases cw:w > 0
   ·have d3:decide (w > 0)=true:=gL
    have a2w:n=w:=aA
    subst a2w;simp (maxSteps:=10^6)+contextual(disch:=try exact dqd)only[ev1,simprocAttr,Cb,Bg,Cc,results71,digA,e0,e1,e5,e6,e7,d1,d2,d3,ra,hr,ez,iv];exact Yau
   ·have d3:decide (w > 0)=false:=gL
    have ry:=hp.done aA aA aA;have hT:=fun S tk k=>T2 S tk k out c aA;simp only [digA,ry] at hT;simp (maxSteps:=10^6)+contextual(disch:=try exact dqd)only[ev1,simprocAttr,Cb,Bg,Cc,results71,digA,e0,e1,e5,e6,e7,d1,d2,d3,hT]
end
end Go.Proofs.YtcjffhadclngmaaGreat
namespace Go.Proofs.YtcjffhadclngmaaGreat
open Go Tryz
set_option maxRecDepth 100000
section
variable (S:List Ent) (tk:List Nat) (k:Nat)
theorem Uq (a b:Nat) (hab:b<=a) (ha:(dig a).length<=100000):cL prog 73 [digA (dig a),digA (dig b)] S tk k=some (digA (dig (a - b)),S,tk,k):=by
 have hlb:(dig b).length<=(dig a).length:=Bp.2 (J9 hab (Bp.1 (Ce _)));refine opP func73 ntmps73 ?_;simp (maxSteps:=10^6)+contextual(disch:=try exact dqd)only[ev1,simprocAttr,Cb,Bg,Cc,results73,digA];refine loop1 (P:=prog) (fun x st=>st.T.length=41/\(x.1<=(dig a).length)/\(Pq (dig a) (dig b) x.1 x.2.1 x.2.2.1)/\(Bn st.tk x.2.2.2 1=true)/\getT st.T 0=digA (dig a)/\getT st.T 1=digA (dig b)/\getT st.T 5=.frz (x.2.1.map digC) x.2.2.2/\getT st.T 6=.int x.2.2.1/\getT st.T 7=.int (x.1:Nat)/\st.S=[]) (fun x=>(dig a).length - x.1) (fun x=>digA (dig (a - b))) (0,[],0,.nilc) ?_ ?_;case refine_2=>exact ⟨rfl,Cl _,Pq.start _ _,rfl,rfl,rfl,rfl,rfl,rfl,rfl⟩
 rintro ⟨i,zs,c,cp⟩ ⟨T,S',tk',n'⟩ ⟨hl,hi,hI,ah,e0,e1,e5,e6,e7,eS⟩ IH;simp only at hi hI ah e0 e1 e5 e6 e7 eS;subst eS;obtain ⟨g,hg,hT⟩:=Au hl;rw [hg] at e0 e1 e5 e6 e7;subst hT;clear hg hl;have ez:=B1 (i:=i) aA;have hzl:=hI.len;have hr:=D5 zs;have hc:=hI.c01;have ci:=B3 ah;have bo:(zs.map digC).length+1<=1048576:=aD
 by_cases hlt:i<(dig a).length
 ·have d2:decide ((i:Int)<((dig a).length:Int))=true:=aQ
  obtain ⟨x,hx⟩:=Af hlt;have hx':=B2 hx;have hxk:=Ed (Bo a) hx;have hw1:Ca.wrap (x - c)=x - c:=Ac aC;by_cases hm:i<(dig b).length
  ·have d3:decide ((i:Int)<((dig b).length:Int))=true:=bV
   obtain ⟨y,hy⟩:=Af hm;have ng:=B2 hy;have hyk:=Ed (Bo b) hy;have hyg:y=(nth (dig b) i).getD 0:=gU
   have hw2:Ca.wrap (x - c - y)=x - c - y:=Ac aC;by_cases hneg:x - c - y<0
   ·have d4:decide (x - c - y<0)=true:=aX
    have hw3:Ca.wrap (x - c - y+10000)=x - c - y+10000:=Ac aC;simp (maxSteps:=10^6)+contextual(disch:=try exact dqd)only[ev1,simprocAttr,Cb,Bg,Cc,results73,e0,e1,e5,e6,e7,digA,d2,d3,d4,hx',ng,ez,hw1,hw2,hw3,hr];exact IH (i+1,zs++[x - c - y+10000],1,A6 tk' cp 1) _ aF ⟨rfl,aE,hI.step hx hyg aE (.inr rfl) aE,ci,aB,aB,aB,aB,aB,aB⟩
   ·have d4:decide (x - c - y<0)=false:=aX
    simp (maxSteps:=10^6)+contextual(disch:=try exact dqd)only[ev1,simprocAttr,Cb,Bg,Cc,results73,e0,e1,e5,e6,e7,digA,d2,d3,d4,hx',ng,ez,hw1,hw2,hr];exact IH (i+1,zs++[x - c - y],0,A6 tk' cp 1) _ aF ⟨rfl,aE,hI.step hx hyg aE (.inl rfl) aE,ci,aB,aB,aB,aB,aB,aB⟩
  ·have d3:decide ((i:Int)<((dig b).length:Int))=false:=bV
   have hyg:(0:Int)=(nth (dig b) i).getD 0:=by rw [Ag,Cu aA]; rfl
   by_cases hneg:x - c<0
   ·have d4:decide (x - c<0)=true:=aX
    have hw3:Ca.wrap (x - c+10000)=x - c+10000:=Ac aC;simp (maxSteps:=10^6)+contextual(disch:=try exact dqd)only[ev1,simprocAttr,Cb,Bg,Cc,results73,e0,e1,e5,e6,e7,digA,d2,d3,d4,hx',ez,hw1,hw3,hr];exact IH (i+1,zs++[x - c+10000],1,A6 tk' cp 1) _ aF ⟨rfl,aE,hI.step hx hyg aE (.inr rfl) aE,ci,aB,aB,aB,aB,aB,aB⟩
   ·have d4:decide (x - c<0)=false:=aX
    simp (maxSteps:=10^6)+contextual(disch:=try exact dqd)only[ev1,simprocAttr,Cb,Bg,Cc,results73,e0,e1,e5,e6,e7,digA,d2,d3,d4,hx',ez,hw1,hr];exact IH (i+1,zs++[x - c],0,A6 tk' cp 1) _ aF ⟨rfl,aE,hI.step hx hyg aE (.inl rfl) aE,ci,aB,aB,aB,aB,aB,aB⟩
 ·have d2:decide ((i:Int)<((dig a).length:Int))=false:=aQ
  have m6:i=(dig a).length:=aA
  subst m6;have hT:=fun c' S tk k=>T2 S tk k zs c' aA;rw [hI.done hab] at hT;simp only [digC,digA] at hT;simp (maxSteps:=10^6)+contextual(disch:=try exact dqd)only[ev1,simprocAttr,Cb,Bg,Cc,results73,e0,e1,e5,e6,e7,digA,d2,hT]
end
end Go.Proofs.YtcjffhadclngmaaGreat
namespace Go.Proofs.YtcjffhadclngmaaGreat
open Go Tryz
theorem Aom {p q:Bool} (h:p≠q) {X Y:Nat} (hl:Y<=X):bigA (p && !decide (dig (X - Y)=[])) (dig (X - Y))=zA (sg p X+sg q Y):=by
 rw [<- Arn h hl,Aq5 (fun e=>by rw [e,B9]; simp)];congr 1;by_cases h0:X - Y=0
 ·rw [h0]; cases p <;> simp [sg]
 ·have:¬ dig (X - Y)=[]:=fun e=>h0 (Gh.1 e);simp [this]
section
variable (S:List Ent) (tk:List Nat) (k:Nat)
theorem Aa0 (x y:Int) (hx:(dig x.natAbs).length<=90000) (hy:(dig y.natAbs).length<=90000):cL prog 46 [zA x,zA y] S tk k=some (zA (x+y),S,tk,k):=by
 refine opP func46 ntmps46 (hp3:=rfl) ?_;have hL:=fun S tk k=>Yq S tk k x.natAbs y.natAbs aA aA;have hs:=Ajj x;have ht:=Ajj y;by_cases hpq:decide (x<0)=decide (y<0)
 ·obtain ⟨h1,h2⟩:=Tn hpq;have hP:=fun S tk k=>Afz S tk k x.natAbs y.natAbs aA aA;have d1:(decide (x<0) == decide (y<0))=true:=eE
  simp only [zA,h1,h2];simp only [digA] at hP;simp (maxSteps:=10^6)+contextual(disch:=try exact dqd)only[ev1,simprocAttr,Cb,Bg,Cc,results46,bigA,digA,d1,hP]
 ·have d1:(decide (x<0) == decide (y<0))=false:=eE
  by_cases hlt:x.natAbs<y.natAbs
  ·have d2:decide (x.natAbs<y.natAbs)=true:=aQ
   have hM:=fun S tk k=>Uq S tk k y.natAbs x.natAbs aA aA;have hz:=Aom (p:=decide (y<0)) (q:=decide (x<0)) (fun e=>hpq e.symm) (X:=y.natAbs) (Y:=x.natAbs) aA;have hp:=Ke (y.natAbs - x.natAbs);rw [hs,ht,Int.add_comm] at hz;rw [<- hz];rw [d2] at hL;simp only [digA] at hL hM;cases d3:decide (y<0) with
   | true =>
    exact Yak
   | false =>
    exact Yak
  ·have d2:decide (x.natAbs<y.natAbs)=false:=aQ
   have hM:=fun S tk k=>Uq S tk k x.natAbs y.natAbs aA aA;have hz:=Aom (p:=decide (x<0)) (q:=decide (y<0)) hpq (X:=x.natAbs) (Y:=y.natAbs) aA;have hp:=Ke (x.natAbs - y.natAbs);rw [hs,ht] at hz;rw [<- hz];rw [d2] at hL;simp only [digA] at hL hM;cases d3:decide (x<0) with
   | true =>
    exact Yak
   | false =>
    exact Yak
theorem Ao0:cL prog 70 [] S tk k=some (qA 0 1,S,tk,k):=by
 have ve:dig 1=[(1:Int)]:=N9 (d:=(1:Int)) aA aA;refine opP func70 ntmps70 (hp3:=rfl) ?_;simp (maxSteps:=10^6)+contextual(disch:=try exact dqd)only[ev1,simprocAttr,Cb,Bg,Cc,results70,qA,ratA,digA];simp [ve,B9,digC]
theorem Ash (n:Int) (hn:i64 n):cL prog 26 [.int n] S tk k=some (qA n 1,S,tk,k):=by
 have ve:dig 1=[(1:Int)]:=N9 (d:=(1:Int)) aA aA;refine opP func26 ntmps26 (hp3:=rfl) ?_;have h1:=fun S tk k=>Ps S tk k n hn;simp only [zA,bigA,digA] at h1;simp (maxSteps:=10^6)+contextual(disch:=try exact dqd)only[ev1,simprocAttr,Cb,Bg,Cc,results26,qA,ratA,digA,h1];simp [ve,digC]
end
end Go.Proofs.YtcjffhadclngmaaGreat
namespace Go.Proofs.YtcjffhadclngmaaGreat
open Go Tryz
set_option maxHeartbeats 1000000
theorem Amy {a:Int} (ha:smB a=true):smB (-a)=true:=by
 simp only [smB,Int.natAbs_neg] at ha ⊢; exact ha
section
variable (S:List Ent) (tk:List Nat) (k:Nat)
theorem Atv (p1:Bool) (l1:List Int) (q1:Bool) (r1:List Int) (p2:Bool) (l2:List Int) (q2:Bool) (r2:List Int) (h1:l1.length<=1000000) (h2:r1.length<=1000000) (h3:l2.length<=1000000) (h4:r2.length<=1000000) :
  cL prog 194 [ratA p1 l1 q1 r1,ratA p2 l2 q2 r2,.bool true] S tk k=some (resQ (nQ p1 l1 q1 r1*dQ p2 l2 q2 r2+-nQ p2 l2 q2 r2*dQ p1 l1 q1 r1) (dQ p1 l1 q1 r1*dQ p2 l2 q2 r2),S,tk,k):=by
 have hA:=fun S tk k=>H7 S tk k p1 l1 q1 r1 h1 h2;have hB:=fun S tk k=>H7 S tk k p2 l2 q2 r2 h3 h4;have gA:=Gj p1 l1 q1 r1;have gB:=Gj p2 l2 q2 r2;generalize nQ p1 l1 q1 r1=a at *;generalize dQ p1 l1 q1 r1=b at *;generalize nQ p2 l2 q2 r2=c at *;generalize dQ p2 l2 q2 r2=d at *;have yi:b*d≠0:=Il Za5o (by have:=gB.pos; omega);refine opP func194 ntmps194 (hp3:=rfl) ?_;have hK:=fun S tk k=>Q5 S tk k a b c d;cases hs:smB a && smB b && smB c && smB d with
 | true =>
  rw [hs] at hK;simp only [Ci] at hs;obtain ⟨⟨⟨s1,s2⟩,s3⟩,s4⟩:=hs;rw [Nx s1,Nx s2,Nx s3,Nx s4] at hK;have b0:=N6 s3;have b1:=Hl s1 s4;have b2:=Hl (Amy s3) s2;have b3:=Hl s2 s4;have kk:Ca.wrap (0 - c)=-c:=aS
  have hw1:Ca.wrap (a*d)=a*d:=Ac aC;have hw2:Ca.wrap (-c*b)=-c*b:=Ac aC;have hw3:Ca.wrap (b*d)=b*d:=Ac aC;have hw4:Ca.wrap (a*d+-c*b)=a*d+-c*b:=Ac aC;have hF:=fun S tk k=>Mx S tk k (a*d+-c*b) (b*d) aA aA yi;rw [Wo aA aA yi];simp only [qA,ratA,digA] at hA hB hK hF ⊢;simp (maxSteps:=10^6)+contextual(disch:=try exact dqd)only[ev1,simprocAttr,Cb,Bg,Cc,results194,ratA,digA,hA,hB,hK,hF,kk,hw1,hw2,hw3,hw4]
 | false =>
  rw [hs] at hK;have hO1:=fun S tk k=>Hr S tk k a;have hO2:=fun S tk k=>Hr S tk k b;have tz:=fun S tk k=>Hr S tk k c;have hO4:=fun S tk k=>Hr S tk k d;have l1:=gA.ln;have l2:=gA.ld;have l3:=gB.ln;have l4:=gB.ld;have a7:=fun S tk k=>E2 S tk k a d aA aA;have ai:=fun S tk k=>E2 S tk k b d aA aA;have ba:=fun S tk k=>E2 S tk k c b aA aA;have m1:=Ea l1 l4;have m2:=Ea l2 l4;have m3:=Ea l3 l2;have m5:=Aqd m3;have hP:=fun S tk k=>W2 S tk k (a*d) (c*b) aA aA;have e1:a*d - c*b=a*d+-c*b:=by rw [iD]; omega
  rw [e1] at hP;rw [<- iD] at m5;have m4:=Ag7 (x:=a*d) (y:=-c*b) (a:=45000) aA aA;have hR:=fun S tk k=>Nq S tk k (a*d+-c*b) (b*d) aA aA yi;simp only [zA,bigA,digA] at hO1 hO2 tz hO4 a7 ai ba hP hR;simp only [resQ,qA,ratA,digA] at hA hB hK hR ⊢;simp (maxSteps:=10^6)+contextual(disch:=try exact dqd)only[ev1,simprocAttr,Cb,Bg,Cc,results194,ratA,digA,hA,hB,hK,hO1,hO2,tz,hO4,a7,ai,ba,hP,hR]
theorem Aqr (p1:Bool) (l1:List Int) (q1:Bool) (r1:List Int) (p2:Bool) (l2:List Int) (q2:Bool) (r2:List Int) (h1:l1.length<=1000000) (h2:r1.length<=1000000) (h3:l2.length<=1000000) (h4:r2.length<=1000000) :
  cL prog 190 [ratA p1 l1 q1 r1,ratA p2 l2 q2 r2] S tk k=some (resQ (nQ p1 l1 q1 r1*dQ p2 l2 q2 r2+-nQ p2 l2 q2 r2*dQ p1 l1 q1 r1) (dQ p1 l1 q1 r1*dQ p2 l2 q2 r2),S,tk,k):=by
 have hJ:=fun S tk k=>Atv S tk k p1 l1 q1 r1 p2 l2 q2 r2 h1 h2 h3 h4;refine opP func190 ntmps190 (hp3:=rfl) ?_;simp only [resQ,qA,ratA,digA] at hJ ⊢;simp (maxSteps:=10^6)+contextual(disch:=try exact dqd)only[ev1,simprocAttr,Cb,Bg,Cc,results190,ratA,digA,hJ]
end
end Go.Proofs.YtcjffhadclngmaaGreat
namespace Go.Proofs.YtcjffhadclngmaaGreat
open Go Tryz
set_option maxRecDepth 100000
theorem W6 {l:List Int} {i:Nat} {x:Int} (h:i<l.length):(l.set i x).drop i=x :: l.drop (i+1):=by
 rw [A1 (Ac4 h)];congr 1;rw [List.drop_set]; simp
theorem X6 (n:Nat):okD (Cf n 0):=fun d hd=>by
 have:=(Ix.1 hd).2; omega
structure Pv (A:Nat) (b:Int) (m:Nat) (r:Int) (out:List Int):Prop where
 len:out.length=(dig A).length
 ok:okD out
 r0:0<=r/\r<b
 eqv:val ((dig A).drop m)=val (out.drop m)*b+r
theorem Pv.start {A:Nat} {b:Int} (h:0<b):Pv A b (dig A).length 0 (Cf (dig A).length 0):=by
 refine ⟨by simp,X6 _,aA,?_⟩;rw [Ik,Cy (by simp)]; simp [val]
theorem Pv.step {A:Nat} {b:Int} {m:Nat} {r x:Int} {out:List Int} (h:Pv A b m r out) (hm:m≠0) (vq:m<=(dig A).length) (hx:nth (dig A) (m - 1)=some x) :
  Pv A b (m - 1) ((r*10000+x).tmod b) (out.set (m - 1) ((r*10000+x).tdiv b))/\0<=(r*10000+x).tdiv b/\(r*10000+x).tdiv b<10000/\0<=(r*10000+x).tmod b/\(r*10000+x).tmod b<b:=by
 have hr:=h.r0;have hxk:=Ed (Bo A) hx;have hn:0<=r*10000+x:=aA
 have e1:(r*10000+x).tdiv b=(r*10000+x) / b:=Fe hn;have e2:(r*10000+x).tmod b=(r*10000+x) % b:=Ic hn;have m0:=Int.emod_nonneg (r*10000+x) (show b≠0 by omega);have m1:=Int.emod_lt_of_pos (r*10000+x) (show 0<b by omega);have q0:0<=(r*10000+x) / b:=Int.ediv_nonneg hn aA;have q1:(r*10000+x) / b<10000:=Int.ediv_lt_of_lt_mul aA aA;have ee:m - 1+1=m:=aA
 have hlen:m - 1<out.length:=by have:=h.len; omega
 rw [e1,e2];refine ⟨⟨dE,Zy h.ok q0 q1,⟨m0,m1⟩,?_⟩,q0,q1,m0,m1⟩;have hv:=h.eqv;rw [A1 hx,W6 hlen,val,val,ee,hv];have hd:=Int.emod_add_mul_ediv (r*10000+x) b;rw [Int.add_mul,O4,<- Ij,Hk ((r*10000+x) / b)];generalize b*((r*10000+x) / b)=t at *;generalize (r*10000+x) % b=u at *;rw [Ij];generalize val (out.drop m)*b=w at *;omega
theorem As7 {A B Q R:Int} (h:A=Q*B+R) (h0:0<=R) (h1:R<B):A / B=Q/\A % B=R:=by
 have hb:0<B:=aA
 subst h;constructor
 ·rw [Int.add_comm,Int.add_mul_ediv_right _ _ aA,Int.ediv_eq_zero_of_lt h0 h1]; omega
 ·rw [Int.add_comm,Int.add_mul_emod_self_right,Int.emod_eq_of_lt h0 h1]
theorem Apy {A B:Nat} {Q R:Int} (h:(A:Int)=Q*B+R) (h0:0<=R) (h1:R<B):Q=((A / B:Nat):Int)/\R=((A % B:Nat):Int):=by
 obtain ⟨e1,e2⟩:=As7 h h0 h1;rw [<- e1,<- e2]; exact ⟨rfl,rfl⟩
theorem Pv.done {A B:Nat} {r:Int} {out:List Int} (h:Pv A B 0 r out):D0 out=dig (A / B)/\r.toNat=A % B:=by
 have hv:=h.eqv;rw [Fg,Fg,B5] at hv;obtain ⟨e1,e2⟩:=Apy hv h.r0.1 h.r0.2;rw [Ey h.ok,e1];exact ⟨by congr 1,aA⟩
theorem Ada (n:Nat):((10000 ^ n:Nat):Int)=(10000:Int) ^ n:=Int.natCast_pow ..
structure Dg (a d z i:Nat) (c:Int) (out:List Int):Prop where
 len:out.length=z+i
 ok:okD out
 c0:0<=c/\c<=9999
 eqv:val out+10000 ^ (z+i)*(c+d*val ((dig a).drop i))=(a*d*10000 ^ z:Nat)
theorem Dg.start (a d z:Nat):Dg a d z 0 0 (Cf z 0):=by
 refine ⟨by simp,X6 _,aA,?_⟩;rw [Jp,Fg,B5,Int.natCast_mul,Int.natCast_mul,Ada,I5,Int.zero_add,Int.zero_add,Hk,Hk (a:Int)]
theorem Amv {x d:Int} (h0:0<=x) (h1:x<10000) (h2:0<=d) (h3:d<10000):0<=x*d/\x*d<=99980001:=by
 have a:=jI h0 h2;have b:=Int.mul_le_mul (a:=x) (b:=d) (c:=9999) (d:=9999) aA aA h2 aA;omega
theorem Dg.step {a d z i:Nat} {c x n:Int} {out:List Int} (h:Dg a d z i c out) (hd:d<10000) (hx:nth (dig a) i=some x) (hn:n=c+x*d) :
  Dg a d z (i+1) (n.tdiv 10000) (out++[n.tmod 10000])/\0<=n/\n<=99990000:=by
 have hxk:=Ed (Bo a) hx;have hm:=Amv hxk.1 hxk.2 (Sy d) aA;have h3:=h.c0;have e1:n.tdiv 10000=n / 10000:=Fe aA;have e2:n.tmod 10000=n % 10000:=Ic aA;refine ⟨⟨by simp [h.len]; omega,Qz h.ok aA aA,aA,?_⟩,aA,aA⟩;have hv:=h.eqv;rw [A1 hx,val] at hv;have e3:(d:Int)*(x+10000*val ((dig a).drop (i+1)))=x*d+10000*(d*val ((dig a).drop (i+1))):=by
  rw [O4,Hk (d:Int) x,<- Ij,Hk (d:Int) 10000,Ij]
 rw [e3] at hv;have:n.tmod 10000+10000*(n.tdiv 10000+d*val ((dig a).drop (i+1)))=c+(x*d+10000*(d*val ((dig a).drop (i+1)))):=aA
 rw [Nv,h.len,iP,<- Sr,Ki,this];exact hv
theorem Dg.last {a d z i:Nat} {c:Int} {out:List Int} (h:Dg a d z i c out) (hi:(dig a).length<=i) :
  Dg a d z (i+1) (c.tdiv 10000) (out++[c.tmod 10000])/\c.tdiv 10000=0:=by
 have h3:=h.c0;have e1:c.tdiv 10000=c / 10000:=Fe aA;have e2:c.tmod 10000=c % 10000:=Ic aA;refine ⟨⟨by simp [h.len]; omega,Qz h.ok aA aA,aA,?_⟩,aA⟩;have hv:=h.eqv;rw [Cy hi,val] at hv;rw [Cy aA,val,Nv,h.len,iP,<- Sr,Ki];rw [show c.tmod 10000+10000*(c.tdiv 10000+d*0)=c+d*0 by omega];exact hv
theorem Dg.done {a d z i:Nat} {c:Int} {out:List Int} (h:Dg a d z i c out) (hi:(dig a).length<=i) (hc:c=0):D0 out=dig (a*d*10000 ^ z):=by
 have hv:=h.eqv;rw [Cy hi,val,hc] at hv;rw [Ey h.ok];congr 1;have e:(10000:Int) ^ (z+i)*(0+d*0)=0:=by rw [Sq,iK,Sq]
 rw [e] at hv;omega
theorem Awl (id z:Nat):tokA id 1 (M2 (Jf 1 z (Ara z)))=.frz ((Cf z (0:Int)).map digC) (.tok id 0 1):=by
 unfold Ara;rw [R5 (by simp),C6 (by simp),R6];rfl
def lowV (b i:Nat):Nat:=(val ((dig b).take i)).toNat
theorem Wb (b i:Nat):((lowV b i:Nat):Int)=val ((dig b).take i):=by
 have:=E9 (l:=(dig b).take i) fun d hd=>Bo b d (kE hd);unfold lowV; omega
theorem Amq (b:Nat):lowV b 0=0:=rfl
theorem Amp {b i:Nat} {x:Int} (hx:nth (dig b) i=some x):lowV b (i+1)=lowV b i+x.toNat*10000 ^ i:=by
 have hxk:=Ed (Bo b) hx;have hl:i<(dig b).length:=Br hx;have h1:=Wb b (i+1);rw [V7,show (dig b)[i]?=some x by rw [<- Ag]; exact hx,Option.toList_some,Nv,Iu,Nat.min_eq_left aA,<- Wb b i] at h1;have h2:((x.toNat*10000 ^ i:Nat):Int)=10000 ^ i*x:=by
  rw [Int.natCast_mul,Ada,Hk,kN hxk.1]
 omega
theorem Aqg (b:Nat):lowV b (dig b).length=b:=by
 unfold lowV; rw [Fm,B5]; rfl
theorem Amo (b i:Nat):lowV b i<=b:=by
 have h1:val ((dig b).take i)+10000 ^ ((dig b).take i).length*val ((dig b).drop i)=b:=by
  rw [<- Ha,Oq,B5]
 have h3:=E9 (l:=(dig b).drop i) fun d hd=>Bo b d (kD hd);have h4:=jI (Int.le_of_lt (Z2 ((dig b).take i).length)) h3;have:=Wb b i;omega
section
variable (S:List Ent) (tk:List Nat) (k:Nat)
theorem Aay (a d z:Nat) (hd:d<10000) (ha:(dig a).length<=100000) (hz:z<=100000):cL prog 98 [digA (dig a),.int (d:Nat),.int (z:Nat)] S tk k=some (digA (dig (a*d*10000 ^ z)),S,tk,k):=by
 refine opP func98 ntmps98 ?_;have hbo:(Be prog 37).bind (Ja prog)=some 8:=aI
 have mh:=Amu (P:=prog) (t:=37) (n:=z) bA bA hbo aA;have hzf:=Awl 0 z;simp (maxSteps:=10^6)+contextual(disch:=try exact dqd)only[ev1,simprocAttr,Cb,Bg,Cc,results98,↓Y3,digA,mh,hzf];refine loop1 (P:=prog) (fun x st=>st.T.length=43/\(Dg a d z x.1 x.2.1 x.2.2.1)/\(x.1<=(dig a).length+1)/\(Bn st.tk x.2.2.2 1=true)/\(x.1=(dig a).length+1->x.2.1=0)/\getT st.T 0=digA (dig a)/\getT st.T 1=.int (d:Nat)/\getT st.T 7=.frz (x.2.2.1.map digC) x.2.2.2/\getT st.T 8=.int x.2.1/\getT st.T 9=.int (x.1:Nat)/\st.S=[]) (fun x=>(dig a).length+1 - x.1) (fun x=>digA (dig (a*d*10000 ^ z))) (0,0,Cf z 0,.tok 0 0 1) ?_ ?_;case refine_2=>exact ⟨rfl,Dg.start a d z,aA,rfl,fun _=>rfl,rfl,rfl,rfl,rfl,rfl,rfl⟩
 rintro ⟨i,w,out,c⟩ ⟨T,S',tk',n'⟩ ⟨hl,hp,hi,ah,yz,e0,e1,e7,e8,e9,eS⟩ IH;simp only at hp hi ah yz e0 e1 e7 e8 e9 eS;subst eS;obtain ⟨g,hg,hT⟩:=Au hl;rw [hg] at e0 e1 e7 e8 e9;subst hT;clear hg hl;have hlen:=hp.len;have hr:=D5 out;have hn:(out.map digC).length+1<=1048576:=aD
 have ci:=B3 ah;have ez:=B1 (i:=i) aA;have kk:=hp.c0;have iv:¬ ((10000:Int)=0):=aA
 by_cases ca:i<(dig a).length
 ·have d1:decide ((i:Int)<((dig a).length:Int))=true:=gJ
  obtain ⟨x,hx⟩:=Af ca;have hx':=B2 hx;have hxk:=Ed (Bo a) hx;have hm:=Amv hxk.1 hxk.2 (Sy d) aA;obtain ⟨n,gn⟩:∃ n,n=w+x*d:=⟨_,rfl⟩;obtain ⟨aj,bo,bm⟩:=hp.step hd hx gn;have hw1:Ca.wrap (x*d)=x*d:=Ac aC;have hw2:Ca.wrap (w+x*d)=n:=by rw [Ac aC]; exact gn.symm
  have ra:Ca.wrap (n.tdiv 10000)=n.tdiv 10000:=by
   exact Ya3d
  simp (maxSteps:=10^6)+contextual(disch:=try exact dqd)only[ev1,simprocAttr,Cb,Bg,Cc,results98,digA,e0,e1,e7,e8,e9,d1,hx',hw1,hw2,ra,hr,ez,iv];exact Yau
 ·have d1:decide ((i:Int)<((dig a).length:Int))=false:=gJ
  by_cases cw:w > 0
  ·have d3:decide (w > 0)=true:=gL
   obtain ⟨aj,wg⟩:=hp.last aA;have ra:Ca.wrap (w.tdiv 10000)=w.tdiv 10000:=by
    rw [wg,Ac aC]
   simp (maxSteps:=10^6)+contextual(disch:=try exact dqd)only[ev1,simprocAttr,Cb,Bg,Cc,results98,digA,e0,e1,e7,e8,e9,d1,d3,ra,hr,ez,iv];exact IH (i+1,w.tdiv 10000,out++[w.tmod 10000],A6 tk' c 1) _ aF ⟨rfl,aj,aE,ci,fun _=>wg,aB,aB,aB,aB,aB,aB⟩
  ·have d3:decide (w > 0)=false:=gL
   have ry:=hp.done aA aA;have hT:=fun S tk k=>T2 S tk k out c aA;simp only [digA,ry] at hT;simp (maxSteps:=10^6)+contextual(disch:=try exact dqd)only[ev1,simprocAttr,Cb,Bg,Cc,results98,digA,e0,e1,e7,e8,e9,d1,d3,hT]
theorem Xl (a d:Nat) (hd:d<10000) (ha:(dig a).length<=100000):cL prog 98 [digA (dig a),.int (d:Nat),.int 0] S tk k=some (digA (dig (a*d)),S,tk,k):=by
 have:=Aay S tk k a d 0 hd ha aA;rw [Nat.pow_zero,C9] at this;exact this
theorem Aie (a b:Nat) (ca:Cap) (ha:(dig a).length<=100000) (hb:(dig b).length<=100000):cL prog 71 [.frz ((dig a).map digC) ca,digA (dig b)] S tk k=some (digA (dig (a+b)),S,tk,k) :=
 (Za (args:=[.frz ((dig a).map digC) ca,digA (dig b)]) (args':=[digA (dig a),digA (dig b)]) rfl rfl rfl).trans (Afz S tk k a b ha hb)
theorem Aj6 (a b:Nat) (ha:(dig a).length<=45000) (hb:(dig b).length<=45000):cL prog 74 [digA (dig a),digA (dig b)] S tk k=some (digA (dig (a*b)),S,tk,k):=by
 refine opP func74 ntmps74 ?_;simp (maxSteps:=10^6)+contextual(disch:=try exact dqd)only[ev1,simprocAttr,Cb,Bg,Cc,results74,digA];refine loop1 (P:=prog) (fun x st=>st.T.length=23/\(x.1<=(dig b).length)/\(x.2.1=a*lowV b x.1)/\getT st.T 0=digA (dig a)/\getT st.T 1=digA (dig b)/\getT st.T 5=.frz ((dig x.2.1).map digC) x.2.2/\getT st.T 6=.int (x.1:Nat)/\st.S=[]) (fun x=>(dig b).length - x.1) (fun x=>digA (dig (a*b))) (0,0,.nilc) ?_ ?_;case refine_2=>exact ⟨rfl,Cl _,by rw [Amq,Nat.mul_zero],rfl,rfl,rfl,rfl,rfl⟩
 rintro ⟨i,v,c⟩ ⟨T,S',tk',n'⟩ ⟨hl,hi,hv,e0,e1,e5,e6,eS⟩ IH;simp only at hi hv e0 e1 e5 e6 eS;subst eS;obtain ⟨g,hg,hT⟩:=Au hl;rw [hg] at e0 e1 e5 e6;subst hT;clear hg hl;subst hv;by_cases hlt:i<(dig b).length
 ·have d1:decide ((i:Int)<((dig b).length:Int))=true:=aQ
  obtain ⟨x,hx⟩:=Af hlt;have hx':=B2 hx;have hxk:=Ed (Bo b) hx;have ez:=B1 (i:=i) aA;have hD:=fun S tk k=>Aay S tk k a x.toNat i aA aA aA;rw [kN hxk.1] at hD;have e:a*lowV b i+a*x.toNat*10000 ^ i=a*lowV b (i+1):=by rw [Amp hx,Nat.mul_add,Nat.mul_assoc]
  have m1:(dig (a*lowV b i)).length<=90000:=Fs (Qj (iM a (Amo b i))) (N8 ha hb);have m2:(dig (a*lowV b (i+1))).length<=90000:=Fs (Qj (iM a (Amo b (i+1)))) (N8 ha hb);have m3:(dig (a*x.toNat*10000 ^ i)).length<=90000:=Fs (Qj aA) m2;have hP:=fun S tk k=>Aie S tk k (a*lowV b i) (a*x.toNat*10000 ^ i) c aA aA;rw [e] at hP;simp only [digA] at hD hP;simp (maxSteps:=10^6)+contextual(disch:=try exact dqd)only[ev1,simprocAttr,Cb,Bg,Cc,results74,digA,e0,e1,e5,e6,d1,hx',hD,hP,ez];exact IH (i+1,a*lowV b (i+1),.unk) _ aF ⟨rfl,aE,rfl,aB,aB,aB,aB,aB⟩
 ·have d1:decide ((i:Int)<((dig b).length:Int))=false:=aQ
  have m6:i=(dig b).length:=aA
  subst m6;rw [Aqg] at e5;simp (maxSteps:=10^6)+contextual(disch:=try exact dqd)only[ev1,simprocAttr,Cb,Bg,Cc,results74,digA,e0,e1,e5,e6,d1]
end
end Go.Proofs.YtcjffhadclngmaaGreat
