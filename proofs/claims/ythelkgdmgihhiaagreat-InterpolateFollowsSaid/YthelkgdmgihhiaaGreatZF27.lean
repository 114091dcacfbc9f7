/- Part 27. -/
import Derived.Test.YthelkgdmgihhiaaGreatZF26
open And renaming intro->B6
open Bool renaming and_eq_true->Ch,or->Ck,or_eq_false_iff->Fv,or_false->Fy,or_assoc->F8,not_true->Gf,not_false->Hs,not_eq_true'->Ih,false_ne_true->Iy,false_or->N2
open Go.IntKind renaming i64->Cd
open Go.Proofs.YthelkgdmgihhiaaGreat.AV renaming bool->Bm,int->Ca,str->Cb
open Int renaming tdiv_eq_ediv_of_nonneg->Cz,tmod_eq_emod_of_nonneg->F7,mul_ne_zero->Ii,natAbs_mul->Im,neg_mul->Sy
open List renaming replicate->Cg,length_cons->Ci,length_append->Cm,map_cons->Cn,cons_append->Co,mem_cons_of_mem->Cq,nil_append->Cr,map_nil->Cs,mem_cons_self->Ct,length_nil->Cu,getElem?_append_left->Cv,length_eq_zero_iff->Cw,append_assoc->Cy,mem_append->C3,mem_cons->C4,getElem?_eq_none->C5,range->C8,all_eq_true->C9,getElem?_map->Et,take_length->Fb,take_of_length_le->Fc,drop_eq_nil_of_le->Fe,length_map->Fg,getElem?_append_right->Fh,map_append->Fk,append_nil->Fo,drop_zero->Fx,mem_singleton->F4,getElem?_eq_some_iff->F5,mem_map->F9,take_succ_cons->Ga,pairwise_cons->Ia,length_pos_iff->Ic,mem_replicate->Ip,take_append_drop->Ir,length_take->I1,getElem?_cons_zero->Mf,take->Oe,take_append_of_le_length->Oh,length_singleton->Ou,length_replicate->Ov,drop->O7,singleton_append->iB,mem_flatten->iM,map_map->kR,take_take->kV,lt_irrefl->kX
open Nat renaming le_refl->Ce,zero_le->Cl,mul_one->Fj,zero_add->Fm,le_trans->Fp,mul_le_mul_right->F6,add_zero->Ik,gcd_pos_of_pos_right->Iq,lt_of_le_of_lt->Iw,le_add_right->I6,succ_mul->I9,gcd_zero_right->Nd,sub_self->Ob,mod_lt->Oq,mul_le_mul->O5,div_le_self->Sq,lt_trichotomy->Sr,succ_pos->S8,eq_zero_or_pos->jA,add_sub_cancel->jB,gcd_comm->jL
open Ne renaming symm->Ix
open Option renaming map_some->C7,bind_some->Oj
open Option.some renaming injEq->Ba
open Prod.mk renaming injEq->Cf
open Rat renaming intCast_mul->Fa,intCast_neg->Oa,intCast_pos->Ot,le_refl->iJ,intCast_add->kH,intCast_inj->kI,intCast_sub->kK,intCast_one->kL
namespace Go.Proofs.YthelkgdmgihhiaaGreat
section
open Go Go.Proofs.Tryz
open Go.Proofs.Tryz renaming f121->ga28,results121->ga29
open Go.Proofs.YthelkgdmgihhiaaGreat renaming ceW->ga0,Al->ga1,Av->ga5,Bt->ga6
set_option maxRecDepth 100000
namespace WW
abbrev ua13:Nat:=168
end WW
set_option maxHeartbeats 20000000
set_option maxRecDepth 100000
section
variable (S:List Ent) (l:List RowT) (vars:List ByteArray) (fl:Bool) (k iq eq c W nz:Nat) (z:Q)
namespace WW
theorem Auc:Aw21:=Ma21
end WW
end
end
section
open Go Go.Proofs.Tryz
open Go.Proofs.Tryz renaming f121->ga28,results121->ga29
open Go.Proofs.YthelkgdmgihhiaaGreat renaming ceW->ga0,Al->ga1,Av->ga5,Bt->ga6
set_option maxRecDepth 100000
set_option maxHeartbeats 20000000
set_option maxRecDepth 100000
section
variable (S:List Ent) (l:List RowT) (vars:List ByteArray) (fl:Bool) (k iq eq c W nz:Nat) (z:Q)
namespace WW
theorem Aue:Aw22:=Ma22
end WW
end
end
section
open Go Go.Proofs.Tryz
open Go.Proofs.Tryz renaming f121->ga28,results121->ga29,func121->ga30,ntmps121->ga31
open Go.Proofs.YthelkgdmgihhiaaGreat renaming ceW->ga0,Al->ga1,Av->ga5,Bt->ga6
set_option maxRecDepth 100000
namespace WW
abbrev ua14:Nat:=121
end WW
set_option maxHeartbeats 20000000
set_option maxRecDepth 100000
namespace WW
def N1 (iq eq:Nat) (n real:Nat) (rows cost basis flip:AV):List AV:=[.ifc 123 (rcvQ iq eq),.int (n:Nat),.int (real:Nat),rows,cost,basis,flip]
theorem mk_Q {W:Nat} (h:W<=1048576):mkA prog 78 (.int (W:Nat)) (.int (W:Nat))=some (W,4,(Cg W zeroQ).flatten):=by
 have hz:(Bc prog 78).bind (A2 prog)=some zeroQ:=bF
 have hs:(Bc prog 78).bind (szOf prog)=some 4:=bF
 obtain ⟨bb,hb,hbl⟩:∃ bb,(Bc prog 78).bind (Hq prog)=some bb/\bb<=1048576:=⟨64,aM,aA⟩;exact Ya2i
def Anu (S:List Ent) (iq eq:Nat) (t':Tb) (r:Rs):Prop :=
 ∃ S' k' tk' I cc,r=(.ref I.it I.et 0,S',tk',k')/\S.length<=S'.length/\A9 S' iq eq I t' cc/\(∀ j,j<S.length->j≠iq->nth S' j=nth S j)/\(∀ j,j<S.length->j≠iq->OutQ I iq j)
end WW
section
variable (S:List Ent) (tk:List Nat) (k iq eq:Nat)
namespace WW
theorem Aug:Aw23:=Ma23
end WW
end
end
section
open Go
set_option maxRecDepth 100000
namespace WW
structure Aiq (S SS:List Ent) (iq eq:Nat) (I:TI) (t:Tb) (cc:Cap) (k n8:Nat) (z:Q) (cf:AV) (n:Int):Prop where
 T:A9 SS iq eq I t cc
 E4:entAt SS S.length k=some [cf,.prim (.int .i64 n)]
 E6:entAt SS (S.length+1) (k+1)=some ceW0Q
 E8:entAt SS (S.length+2) n8=some (ceW z)
 len:SS.length=S.length+3
 fr:∀ j,j<S.length->OutQ I iq j->nth SS j=nth S j
theorem Asu:Aw24:=fun {S iq eq I t cc}=>Ma24
theorem Aiq.step:Aw25:=fun {S SS S' iq eq I t t' cc k n8 z cf n}=>Ma25
end WW
namespace WW
theorem A9.junk:Aw26:=fun {S iq eq I t c}=>Ma26
def BegRQ (S:List Ent) (iq eq:Nat) (t':Tb) (r:Rs):Prop :=
 ∃ S' k' tk' I cc,r=(.ref I.it I.et 0,S',tk',k')/\S.length<=S'.length/\A9 S' iq eq I t' cc/\(∀ j,j<S.length->j≠iq->nth S' j=nth S j)/\(∀ j,j<S.length->j≠iq->OutQ I iq j)/\(I.ib<S'.length\/S'.length+15<I.ib)
theorem Anu.far:Aw27:=fun {S iq eq t' r}=>Ma27
end WW
end
section
open Go Go.Proofs.Tryz
open Go.Proofs.Tryz renaming func85->ga32,ntmps85->ga33,results85->ga34
set_option maxRecDepth 100000
namespace WW
abbrev ua15:Nat:=85
end WW
set_option maxHeartbeats 20000000
set_option maxRecDepth 100000
section
variable (S:List Ent) (tk:List Nat) (k iq eq:Nat)
namespace WW
theorem Ata:Aw28:=Ma28
end WW
end
end
section
open Go Go.Proofs.Tryz
set_option maxHeartbeats 4000000
set_option maxRecDepth 100000
def askN (K:Nat) (l:List RowT) (vars:List ByteArray):Option Ans :=
 match K8 QQ.qF K l vars false with
 | none=>none
 | some (a,true)=>some a
 | some (_,false)=>(K8 WW.qF K l vars false).map (·.1)
section
variable (S:List Ent) (tk:List Nat) (k:Nat)
theorem Aby (l:List RowT) (hl:l.length<=1000) (hn:(Ee l).length<=1000) (vars:List ByteArray) (li:vars.length<=1000) (hv:∀ r ∈ l,∀ c ∈ r.1,c.1 ∈ vars) (hc:∀ r ∈ l,i64 r.2.1/\∀ c ∈ r.1,i64 c.2) (fw:fewC l) (K:Nat) (a:Ans) (hS:askN K l vars=some a) (ha:a.least=none) :
  cL prog 45 [Au l,Ap vars,.prim (.pointer none)] S tk k=some (.agg (ansC a.f a.pt a.nu .unk .unk (some (0,0)) false),S,tk,k):=by
 unfold askN at hS;cases h1:K8 QQ.qF K l vars false with
 | none=>rw [h1] at hS; simp at hS
 | some p =>
  obtain ⟨a1,ok1⟩:=p;rw [h1] at hS;obtain ⟨r1,du,S1,tk1,k1,c1,c2,q1,b1,rfl,hl1,ci,je,gd⟩:=QQ.Ata [(⟨0,ans0⟩:Ent),(⟨1,[.prim (.bool false)]⟩:Ent)] [] 2 1 1 l false hl hn vars li hv hc fw (by simp) rfl K a1 ok1 h1;simp only [ans0,Au,Ap] at du;have hi1:Ahm prog 118=false:=aM
  have vn:Ahm prog 123=false:=aM
  have hN1:∀ e:Ent,nth (S1++[e]) S1.length=some e:=fun e=>by rw [Af,Fh (Ce _),Ob]; rfl
  have ii:over [AV.prim (.bool false),.frz [] .nilc,.frz [] .nilc,.prim (.bool false),.frz [] .nilc,.prim (.bool false),.frz [] .nilc,.prim (.bool false)] 0 (ansC a1.f a1.pt a1.nu c1 c2 q1 b1)=some (ansC a1.f a1.pt a1.nu c1 c2 q1 b1):=Vb (by rw [Kp]; rfl);have js:∀ f p n c1 c2 q b,takeN 8 (ansC f p n c1 c2 q b)=some (ansC f p n c1 c2 q b):=fun f p n c1 c2 q b=>by
   have:=Ab3 (r:=[]) (Kp (f:=f) (p:=p) (n:=n) (c1:=c1) (c2:=c2) (q:=q) (b:=b));exact Ya1y
  have h10:nth S1 0=some ⟨0,ans0⟩:=by rw [ci 0 (by simp) aA]; rfl
  have a3z:S1.length=2:=by rw [hl1]; rfl
  have hN0:∀ e:Ent,nth (S1++[e]) 0=some ⟨0,ans0⟩:=fun e=>by rw [Bh aA]; exact h10
  have hNP:∀ e x:Ent,nth (put (S1++[e]) 0 x) 0=some x:=fun e x=>De (by simp);simp only [ans0] at hN0;cases ok1 with
  | true =>
   simp only [Ba] at hS;subst hS;obtain ⟨rfl,rfl⟩:=gd ha;refine opP func45 ntmps45 (hp3:=rfl) ?_;simp (maxSteps:=10^6)+contextual(disch:=try exact dqd)only[ev1,simprocAttr,Ca,Bm,Cb,results45,Au,Ap,du,hi1,vn,ifcA,hN1,ii,Kp,Zw,js,hN0,hNP];rfl
  | false =>
   cases h2:K8 WW.qF K l vars false with
   | none=>rw [h2] at hS; simp at hS
   | some p =>
    obtain ⟨a2,ok2⟩:=p;rw [h2] at hS;simp only [C7,Ba] at hS;subst hS;obtain ⟨r2,hc2,S2,tk2,k2,c3,c4,q2,b2,rfl,hl2,bo,o3,wo⟩:=WW.Ata (S1++[(⟨k1,ansC a1.f a1.pt a1.nu c1 c2 q1 b1⟩:Ent)]) tk1 (k1+1) 1 0 l false hl hn vars li hv hc fw aC ⟨⟩ K a2 ok2 h2;obtain ⟨rfl,rfl⟩:=wo ha;simp only [Au,Ap] at hc2;have hl22:S2.length=3:=by rw [hl2]; simp [a3z]
    have h20:nth S2 0=some ⟨0,ans0⟩:=by rw [bo 0 (by simp) aA,Bh aA]; exact h10
    have h2N:nth S2 S1.length=some ⟨k1,ansC a1.f a1.pt a1.nu c1 c2 q1 b1⟩:=by rw [bo _ (by simp) aA]; exact hN1 _
    have hP2:∀ x:Ent,nth (put S2 S1.length x) S1.length=some x:=fun x=>De aA;have a2p:∀ x:Ent,nth (put S2 S1.length x) 0=some ⟨0,ans0⟩:=fun x=>by rw [Ae aA]; exact h20
    have a30:∀ x y:Ent,nth (put (put S2 S1.length x) 0 y) 0=some y:=fun x y=>De dP;have j5:over (ansC a1.f a1.pt a1.nu c1 c2 q1 b1) 0 (ansC a2.f a2.pt a2.nu c3 c4 none false)=some (ansC a2.f a2.pt a2.nu c3 c4 none false):=Vb (by rw [Kp,Kp]);have ho3:over [AV.prim (.bool false),.frz [] .nilc,.frz [] .nilc,.prim (.bool false),.frz [] .nilc,.prim (.bool false),.frz [] .nilc,.prim (.bool false)] 0 (ansC a2.f a2.pt a2.nu c3 c4 none false)=some (ansC a2.f a2.pt a2.nu c3 c4 none false):=Vb (by rw [Kp]; rfl);simp only [ans0] at a2p;have hbl:bldA (some []) (fieldsOf prog 123) []=some (.agg []):=aM
    refine opP func45 ntmps45 (hp3:=rfl) ?_;simp (maxSteps:=10^6)+contextual(disch:=try exact dqd)only[ev1,simprocAttr,Ca,Bm,Cb,results45,Au,Ap,du,hi1,vn,ifcA,hN1,ii,Kp,Zw,js,hc2,h2N,hP2,a2p,a30,j5,ho3,hbl];rfl
end
end
section
open Go Go.Proofs.Tryz
theorem Tp {l:List RowT} : ∀ r ∈ l,∀ c ∈ r.1,c.1 ∈ Ee l:=fun r hr c hc=>by
 refine ((Kj (Ec l)).2.1 c.1).2 ?_;unfold Ec;refine iM.2 ⟨r.1.map (·.1),F9.2 ⟨r,hr,rfl⟩,F9.2 ⟨c,hc,rfl⟩⟩
def Ati (l:List RowT) (a:Ans):Prop:=∀ S tk k,cL prog 45 [Au l,Ap (Ee l),.prim (.pointer none)] S tk k=some (.agg (ansC a.f a.pt a.nu .unk .unk (some (0,0)) false),S,tk,k)
section
variable (S:List Ent) (tk:List Nat) (k:Nat)
theorem Ri (l:List RowT) (b8:∀ r ∈ l,r.1.length<=1048576) (a:Ans) (hA:sysE l=0->Ati l a) :
  cL prog 23 [Au l] S tk k=some (.tup [.bool (if sysE l=0 then a.f else false),.int (sysE l)],S,tk,k):=by
 have hC S tk k:=H3 S tk k l b8;by_cases h0:sysE l=0
 ·obtain ⟨h1,h2,h3,-⟩:=L9 h0;have hV S tk k:=Gi S tk k l h1 h2;have hA:=hA h0;unfold Ati at hA;exact Yav
 ·exact Ya0b
end
section
variable (S:List Ent) (tk:List Nat) (k:Nat)
theorem R6 (l:List RowT) (b8:∀ r ∈ l,r.1.length<=1048576) (hi:∀ r ∈ l,i64 r.2.1/\∀ c ∈ r.1,i64 c.2) (K:Nat) (a:Ans) (hS:sysE l=0->askN K l (Ee l)=some a/\a.least=none) :
  cL prog 23 [Au l] S tk k=some (.tup [.bool (if sysE l=0 then a.f else false),.int (sysE l)],S,tk,k):=by
 have hC S tk k:=H3 S tk k l b8;by_cases h0:sysE l=0
 ·obtain ⟨h1,h2,h3,-⟩:=L9 h0;have hV S tk k:=Gi S tk k l h1 h2;obtain ⟨ck,bm⟩:=hS h0;have hA S tk k:=Aby S tk k l aA aA (Ee l) aA Tp hi h1 K a ck bm;exact Yav
 ·exact Ya0b
end
end
section
open Go
def qv (a:Q):Rat:=((a.1:Int):Rat) / ((a.2:Int):Rat)
theorem Ha {d:Int} (h:d≠0):((d:Int):Rat)≠0:=fun e=>h (kI.mp (e.trans rfl))
theorem Avm {a:Q} {n d:Int} (ha:a.2≠0) (hd:d≠0) (h:a.1*d=n*a.2):qv a=((n:Int):Rat) / ((d:Int):Rat):=by
 have h1:=congrArg (fun z:Int=>(z:Rat)) h;simp only [Fa] at h1;have h2:=Ha ha;have h3:=Ha hd;unfold qv;grind
theorem Avo {a:Q} (h:0<a.2):qv a<0↔a.1<0:=by
 unfold qv;rw [Rat.div_lt_iff (Ot.2 h),Rat.zero_mul,Rat.intCast_neg_iff]
theorem Avp {a:Q} (h:0<a.2):0<qv a↔0<a.1:=by
 unfold qv;rw [Rat.lt_div_iff (Ot.2 h),Rat.zero_mul,Ot]
theorem Ad1 {a:Q} (h:0<a.2):sgn a<0↔qv a<0:=by
 rw [Avo h]; unfold sgn; split
 ·omega
 ·split <;> omega
theorem Nz {a:Q} (h:0<a.2):0<sgn a↔0<qv a:=by
 rw [Avp h]; unfold sgn; split
 ·omega
 ·split <;> omega
theorem M0 {a:Q} (h:0<a.2):sgn a=0↔qv a=0:=by
 have h1:=Ad1 h;have h2:=Nz h;constructor
 ·intro h0;have a1:¬ qv a<0:=fun h'=>by have:=h1.2 h'; omega
  have a2:¬ 0<qv a:=fun h'=>by have:=h2.2 h'; omega
  grind
 ·intro h0;have a1:¬ sgn a<0:=fun h'=>by have:=h1.1 h'; grind
  have a2:¬ 0<sgn a:=fun h'=>by have:=h2.1 h'; grind
  omega
theorem Wa:qv q0=0:=by unfold qv q0; grind
structure Fld.Exact (F:Fld) (G:Q->Prop):Prop where
 pos:∀ a,G a->0<a.2
 zero:G q0
 whole:∀ n,i64 n->(F.whole n).2=false->G (F.whole n).1/\qv (F.whole n).1=((n:Int):Rat)
 minus:∀ a b,G a->G b->(F.minus a b).2=false->G (F.minus a b).1/\qv (F.minus a b).1=qv a - qv b
 times:∀ a b,G a->G b->(F.times a b).2=false->G (F.times a b).1/\qv (F.times a b).1=qv a*qv b
 over:∀ a b,G a->G b->qv b≠0->(F.over a b).2=false->G (F.over a b).1/\qv (F.over a b).1=qv a / qv b
structure Fld.Total (F:Fld) (G:Q->Prop) (fit:Rat->Prop):Prop where
 whole:∀ n,i64 n->(F.whole n).2=false
 minus:∀ a b,G a->G b->fit (qv a - qv b)->(F.minus a b).2=false
 times:∀ a b,G a->G b->fit (qv a*qv b)->(F.times a b).2=false
 over:∀ a b,G a->G b->qv b≠0->fit (qv a / qv b)->(F.over a b).2=false
theorem Avn {n d:Int} (hd:d≠0):qv (lowN n d,lowD n d)=((n:Int):Rat) / ((d:Int):Rat):=Avm (a:=(lowN n d,lowD n d)) (by have:=P2 (n:=n) hd; simp only; omega) hd (Lq hd)
theorem Yt {n d:Int} (hd:d≠0) (h:(qn n d).2=false):okS (qn n d).1/\qv (qn n d).1=((n:Int):Rat) / ((d:Int):Rat):=by
 refine ⟨Apu n d,?_⟩;unfold qn at h ⊢;split
 ·rename_i hb; rw [if_pos hb] at h; simp at h
 ·exact Avn hd
theorem Zc {n d:Int} (h:(wn n d).2=false):Jm (wn n d).1.1 (wn n d).1.2/\qv (wn n d).1=((n:Int):Rat) / ((d:Int):Rat):=by
 have hf:Er n d=true:=by simpa [wn] using h
 have g:=Agc hf;exact ⟨g,Avm (a:=(resN n d,resD n d)) (by have:=g.pos; simp only; omega) (Ac3 hf) (Amq hf)⟩
def Jp (x:Rat):Prop:=∃ n d:Int,d≠0/\x=((n:Int):Rat) / ((d:Int):Rat)/\n.natAbs<10000 ^ 200/\d.natAbs<10000 ^ 200
theorem Ama {z:Int} (h:z.natAbs<10000 ^ 200):okZ z=true:=by
 have:=Bg.2 h;simp only [okZ,Ih,decide_eq_false_iff_not];omega
theorem Ze {n d:Int} (hd:d≠0) (h:Jp (((n:Int):Rat) / ((d:Int):Rat))):(wn n d).2=false:=by
 obtain ⟨a,b,hb,he,ru,hb1⟩:=h;have e:n*b=a*d:=by
  have h2:=Ha hd;have h3:=Ha hb;have h4:((n*b:Int):Rat)=((a*d:Int):Rat):=by
   rw [Fa,Fa];grind
  exact kI.mp h4
 have hf:=(Asl hd hb e).1;have hg:Er a b=true:=by
  unfold Er;have l1:(lowN a b).natAbs<10000 ^ 200:=by rw [Q6]; exact Iw (Sq _ _) ru
  have l2:(lowD a b).natAbs<10000 ^ 200:=Iw (Sq _ _) hb1;rw [Ama l1,Ama l2];simp [hb]
 unfold wn;rw [hf,hg]; rfl
theorem Ry {a b c d:Rat} (hb:b≠0) (hd:d≠0):(a*d - c*b) / (b*d)=a / b - c / d:=aK
theorem Rx {a b c d:Rat} (hb:b≠0) (hd:d≠0):(a*d+-c*b) / (b*d)=a / b - c / d:=aK
theorem J2 {a b c d:Rat} (hb:b≠0) (hd:d≠0):(a*c) / (b*d)=a / b*(c / d):=aK
theorem L4 {a b c d:Rat} (hb:b≠0) (hd:d≠0) (hc:c≠0):(a*d) / (b*c)=a / b / (c / d):=aK
theorem Vh {b:Q} (h:qv b≠0):b.1≠0:=fun h0=>h (by unfold qv; rw [h0]; show (0:Rat) / _=0; grind)
theorem Af5:QQ.qF.Exact okS:=by
 refine ⟨fun a h=>h.2.2.1,⟨aP,aP,aP,aP⟩,fun n _ h=>?_,fun a b ha hb h=>?_,fun a b ha hb h=>?_,fun a b ha hb h0 h=>?_⟩
 ·simp only [QQ.qF] at h ⊢;split
  ·rename_i hb; rw [if_pos hb] at h; simp at h
  ·refine ⟨⟨?_,?_,?_,?_⟩,?_⟩
   ·simp only; omega
   ·simp only; omega
   ·simp only; omega
   ·simp only; omega
   ·unfold qv;exact Ya42
 ·have h1:=ha.2.2.1;have h2:=hb.2.2.1;have e:=Yt (Ii aA aA) h;refine ⟨e.1,e.2.trans ?_⟩;rw [kK,Fa,Fa,Fa];exact Ry (Ha aA) (Ha aA)
 ·have h1:=ha.2.2.1;have h2:=hb.2.2.1;have e:=Yt (Ii aA aA) h;exact Ya2l
 ·have h1:=ha.2.2.1;have h2:=hb.2.2.1;have h3:=Vh h0;simp only [QQ.qF] at h ⊢;rw [if_neg h3] at h ⊢;have e:=Yt (Ii aA h3) h;exact Ya21
def gW (a:Q):Prop:=Jm a.1 a.2
theorem Qa {a:Q} (h:gW a):qz a=a:=by
 have:=h.pos;unfold qz; rw [if_neg aA]
theorem Ya {n:Int} (h:i64 n):gW (n,1):=by
 have:=WW.Dp.whole n h;rcases this with h1|h1
 ·exact h1
 ·simp [WW.qF] at h1
theorem H8:WW.qF.Exact gW:=by
 refine ⟨fun a h=>h.pos,Aax,fun n hn h=>⟨Ya hn,?_⟩,fun a b ha hb h=>?_,fun a b ha hb h=>?_,fun a b ha hb h0 h=>?_⟩
 ·simp only [WW.qF]; unfold qv;exact Ya42
 ·have h1:=ha.pos;have h2:=hb.pos;simp only [WW.qF,Qa ha,Qa hb] at h ⊢;have e:=Zc h;refine ⟨e.1,e.2.trans ?_⟩;rw [kH,Fa,Fa,Fa,Oa];exact Rx (Ha aA) (Ha aA)
 ·have h1:=ha.pos;have h2:=hb.pos;simp only [WW.qF,Qa ha,Qa hb] at h ⊢;have e:=Zc h;exact Ya2l
 ·have h1:=ha.pos;have h2:=hb.pos;have h3:=Vh h0;simp only [WW.qF,Qa ha,Qa hb] at h ⊢;have e:=Zc h;exact Ya21
theorem Qo:WW.qF.Total gW Jp:=by
 refine ⟨fun n _=>rfl,fun a b ha hb h=>?_,fun a b ha hb h=>?_,fun a b ha hb h0 h=>?_⟩
 ·have h1:=ha.pos;have h2:=hb.pos;simp only [WW.qF,Qa ha,Qa hb];refine Ze (Ii aA aA) ?_;rw [kH,Fa,Fa,Fa,Oa,Rx (Ha aA) (Ha aA)];exact h
 ·have h1:=ha.pos;have h2:=hb.pos;simp only [WW.qF,Qa ha,Qa hb];refine Ze (Ii aA aA) ?_;rw [Fa,Fa,J2 (Ha aA) (Ha aA)];exact h
 ·have h1:=ha.pos;have h2:=hb.pos;have h3:=Vh h0;simp only [WW.qF,Qa ha,Qa hb];refine Ze (Ii aA h3) ?_;rw [Fa,Fa,L4 (Ha aA) (Ha aA) (Ha h3)];exact h
theorem Yb {l:List ByteArray} {s:ByteArray} (h:s ∈ l):nth l (idxV l s)=some s:=by
 obtain ⟨j,h1,h2,h3⟩:=Uh (i:=0) h;unfold idxV;rw [h2];have:((0+j:Nat):Int).toNat=j:=aA
 rw [this]; exact h3
def tabV (t:Tb):Simp.Tab:=⟨fun i j=>qv (at_ q0 (Bj t i) j),fun j=>qv (at_ q0 t.cost j),fun i=>at_ 0 t.basis i⟩
structure TOk (G:Q->Prop) (m N:Nat) (t:Tb):Prop where
 rows:t.rows.length=m
 basis:t.basis.length=m
 cost:t.cost.length=N+1
 rowW:∀ r ∈ t.rows,r.length=N+1
 okr:∀ r ∈ t.rows,∀ q ∈ r,G q
 okc:∀ q ∈ t.cost,G q
section
variable {α:Type} {d x:α} {l:List α} {k:Nat}
theorem Pb:at_ d [] k=d:=rfl
theorem Ajv:at_ d (x :: l) 0=x:=rfl
theorem Ar6:at_ d (x :: l) (k+1)=at_ d l k:=rfl
theorem Tz (h:k<l.length):nth l k=some (at_ d l k):=by
 obtain ⟨y,hy⟩:=Ac h;unfold at_; rw [hy]; rfl
theorem Ef (h:k<l.length):at_ d l k ∈ l:=Aj (Tz h)
theorem Zz (h:l.length<=k):at_ d l k=d:=by
 unfold at_; rw [Af,C5 h]; rfl
theorem Li (h:k<l.length) {j:Nat} : at_ d (put l k x) j=if j=k then x else at_ d l j:=by
 unfold at_;by_cases e:j=k
 ·subst e; rw [if_pos rfl,De h]; rfl
 ·rw [if_neg e,Ae (Ix e)]
end
section
variable {F:Fld} {G:Q->Prop} {fit:Rat->Prop} {m N:Nat}
theorem Acx (hE:F.Exact G) {b:Q} (hb:G b) (h0:qv b≠0):∀ {l:List Q},(∀ q ∈ l,G q)->(divL F b l).2=false->(∀ q ∈ (divL F b l).1,G q)/\∀ j,qv (at_ q0 (divL F b l).1 j)=qv (at_ q0 l j) / qv b
 | [],_,_=>⟨fun q h=>aR,fun j=>by simp only [divL,Pb,Wa]; grind⟩
 | x :: l,hl,hf=>by
  have hx:(dvS F b x).2=false/\(divL F b l).2=false:=by simpa [divL] using hf
  have ih:=Acx hE hb h0 (fun q h=>hl q (Cq _ h)) hx.2;have gx:=hl x (Ct ..);have hs:G (dvS F b x).1/\qv (dvS F b x).1=qv x / qv b:=by
   have h1:=hx.1;unfold dvS at h1 ⊢;split
   ·rename_i h;exact ⟨gx,by rw [(M0 (hE.pos x gx)).1 h]; grind⟩
   ·rename_i h;rw [if_neg h] at h1;exact hE.over x b gx hb h0 h1
  exact Yax
theorem Ae2 (hT:F.Total G fit) {b:Q} (hb:G b) (h0:qv b≠0):∀ {l:List Q},(∀ q ∈ l,G q)->(∀ j,j<l.length->fit (qv (at_ q0 l j) / qv b))->(divL F b l).2=false
 | [],_,_=>rfl
 | x :: l,hl,hf=>by
  have ih:=Ae2 hT hb h0 (l:=l) (fun q h=>hl q (Cq _ h)) fun j hj=>hf (j+1) bL;have gx:=hl x (Ct ..);have hs:(dvS F b x).2=false:=by
   unfold dvS;split
   ·rfl
   ·exact hT.over x b gx hb h0 (hf 0 (by simp))
  show ((dvS F b x).2 || (divL F b l).2)=false;rw [hs,ih]; rfl
theorem Acy {b:Q} : ∀ {l:List Q},(divL F b l).1.length=l.length
 | []=>rfl
 | x :: l=>by simp only [divL,Ci,Acy]
theorem Ap6 (hE:F.Exact G) {b a r:Q} (hb:G b) (ha:G a) (hr:G r) (hf:(Kh F b a r).2=false):G (Kh F b a r).1/\qv (Kh F b a r).1=qv a - qv b*qv r:=by
 unfold Kh at hf ⊢;split
 ·rename_i h;exact ⟨ha,by rw [(M0 (hE.pos r hr)).1 h]; grind⟩
 ·rename_i h;rw [if_neg h] at hf;simp only [Fv] at hf;have h1:=hE.times b r hb hr hf.1;have h2:=hE.minus a _ ha h1.1 hf.2;exact ⟨h2.1,by rw [h2.2,h1.2]⟩
theorem Aft (hE:F.Exact G) {b:Q} (hb:G b):∀ {l r:List Q},l.length=r.length->(∀ q ∈ l,G q)->(∀ q ∈ r,G q)->(lessL F b l r).2=false->(∀ q ∈ (lessL F b l r).1,G q)/\∀ j,qv (at_ q0 (lessL F b l r).1 j)=qv (at_ q0 l j) - qv b*qv (at_ q0 r j)
 | [],[],_,_,_,_=>⟨fun q h=>aR,fun j=>by simp only [lessL,Pb,Wa]; grind⟩
 | [],_ :: _,h,_,_,_=>aO
 | _ :: _,[],h,_,_,_=>aO
 | a :: l,r :: rs,h,hl,hr,hf=>by
  have hx:(Kh F b a r).2=false/\(lessL F b l rs).2=false:=by simpa [lessL] using hf
  have ih:=Aft hE hb aL (fun q h=>hl q (Cq _ h)) (fun q h=>hr q (Cq _ h)) hx.2;have hs:=Ap6 hE hb (hl a (Ct ..)) (hr r (Ct ..)) hx.1;exact Yax
theorem Aa5 (hE:F.Exact G) (hT:F.Total G fit) {b:Q} (hb:G b):∀ {l r:List Q},l.length=r.length->(∀ q ∈ l,G q)->(∀ q ∈ r,G q)->(∀ j,j<r.length->fit (qv b*qv (at_ q0 r j))/\fit (qv (at_ q0 l j) - qv b*qv (at_ q0 r j)))->(lessL F b l r).2=false
 | [],[],_,_,_,_=>rfl
 | [],_ :: _,h,_,_,_=>aO
 | _ :: _,[],h,_,_,_=>aO
 | a :: l,r :: rs,h,hl,hr,hf=>by
  have ih:=Aa5 hE hT hb (l:=l) (r:=rs) aL (fun q h=>hl q (Cq _ h)) (fun q h=>hr q (Cq _ h)) fun j hj=>hf (j+1) bL;have ga:=hl a (Ct ..);have gr:=hr r (Ct ..);have h0:=hf 0 (by simp);have hs:(Kh F b a r).2=false:=by
   unfold Kh;split
   ·rfl
   ·have t1:=hT.times b r hb gr h0.1;have t2:=hE.times b r hb gr t1;have t3:=hT.minus a _ ga t2.1 (by rw [t2.2]; exact h0.2);simp only [t1,t3]; rfl
  show ((Kh F b a r).2 || (lessL F b l rs).2)=false;rw [hs,ih]; rfl
theorem Afu (hE:F.Exact G) {a r:List Q} {c:Nat} (hc:c<a.length) (hl:a.length=r.length) (ha:∀ q ∈ a,G q) (hr:∀ q ∈ r,G q) (hf:(lessT F a r c).2=false):(∀ q ∈ (lessT F a r c).1,G q)/\∀ j,qv (at_ q0 (lessT F a r c).1 j)=qv (at_ q0 a j) - qv (at_ q0 a c)*qv (at_ q0 r j):=by
 have hb:=ha _ (Ef (d:=q0) hc);unfold lessT at hf ⊢;rw [Tz (d:=q0) hc] at hf ⊢;simp only at hf ⊢;split
 ·rename_i h;exact ⟨ha,fun j=>by rw [(M0 (hE.pos _ hb)).1 h]; grind⟩
 ·rename_i h;rw [if_neg h] at hf;exact Aft hE hb hl ha hr hf
theorem Aa6 (hE:F.Exact G) (hT:F.Total G fit) {a r:List Q} {c:Nat} (hc:c<a.length) (hl:a.length=r.length) (ha:∀ q ∈ a,G q) (hr:∀ q ∈ r,G q) (hf:∀ j,j<r.length->fit (qv (at_ q0 a c)*qv (at_ q0 r j))/\fit (qv (at_ q0 a j) - qv (at_ q0 a c)*qv (at_ q0 r j))):(lessT F a r c).2=false:=by
 have hb:=ha _ (Ef (d:=q0) hc);unfold lessT;rw [Tz (d:=q0) hc];simp only;split
 ·rfl
 ·exact Aa5 hE hT hb hl ha hr hf
theorem U0 (hE:F.Exact G) {row:List Q} {c i W:Nat} (hc:c<W) (hw:row.length=W) (hr:∀ q ∈ row,G q):∀ {l:List (List Q)} {k:Nat},(∀ r ∈ l,r.length=W)->(∀ r ∈ l,∀ q ∈ r,G q)->(lessRows F row c i k l).2=false ->
  (∀ r ∈ (lessRows F row c i k l).1,r.length=W)/\(∀ r ∈ (lessRows F row c i k l).1,∀ q ∈ r,G q)/\∀ n j,n<l.length->qv (at_ q0 (at_ [] (lessRows F row c i k l).1 n) j)=if k+n=i then qv (at_ q0 (at_ [] l n) j) else qv (at_ q0 (at_ [] l n) j) - qv (at_ q0 (at_ [] l n) c)*qv (at_ q0 row j)
 | [],k,_,_,_=>⟨fun r h=>aR,fun r h=>aR,fun n j hn=>by simp at hn⟩
 | r :: l,k,hl,hg,hf=>by
  have hx:(lessK F row c i k r).2=false/\(lessRows F row c i (k+1) l).2=false:=by simpa [lessRows] using hf
  have ih:=U0 hE hc hw hr (fun r h=>hl r (Cq _ h)) (fun r h=>hg r (Cq _ h)) hx.2;have ur:=hl r (Ct ..);have hgr:=hg r (Ct ..);have hs:(lessK F row c i k r).1.length=W/\(∀ q ∈ (lessK F row c i k r).1,G q)/\∀ j,qv (at_ q0 (lessK F row c i k r).1 j)=if k=i then qv (at_ q0 r j) else qv (at_ q0 r j) - qv (at_ q0 r c)*qv (at_ q0 row j):=by
   have h1:=hx.1;unfold lessK at h1 ⊢;by_cases e:k=i
   ·simp only [if_pos e]; exact ⟨ur,hgr,fun j=>trivial⟩
   ·simp only [if_neg e] at h1 ⊢;have h2:=Afu hE aA gY hgr hr h1;exact ⟨by rw [Ye]; exact ur,h2.1,h2.2⟩
  exact Yay
theorem Ru (hE:F.Exact G) (hT:F.Total G fit) {row:List Q} {c i W:Nat} (hc:c<W) (hw:row.length=W) (hr:∀ q ∈ row,G q):∀ {l:List (List Q)} {k:Nat},(∀ r ∈ l,r.length=W)->(∀ r ∈ l,∀ q ∈ r,G q) ->
  (∀ n j,n<l.length->k+n≠i->j<W->fit (qv (at_ q0 (at_ [] l n) c)*qv (at_ q0 row j))/\fit (qv (at_ q0 (at_ [] l n) j) - qv (at_ q0 (at_ [] l n) c)*qv (at_ q0 row j)))->(lessRows F row c i k l).2=false
 | [],k,_,_,_=>rfl
 | r :: l,k,hl,hg,hf=>by
  have ih:=Ru hE hT hc hw hr (l:=l) (k:=k+1) (i:=i) (fun r h=>hl r (Cq _ h)) (fun r h=>hg r (Cq _ h)) fun n j hn hk hj=>hf (n+1) j dB aA hj;have ur:=hl r (Ct ..);have hgr:=hg r (Ct ..);have hs:(lessK F row c i k r).2=false:=by
   unfold lessK;by_cases e:k=i
   ·rw [if_pos e]
   ·rw [if_neg e];exact Aa6 hE hT aA gY hgr hr fun j hj=>hf 0 j (by simp) aA aA
  show ((lessK F row c i k r).2 || (lessRows F row c i (k+1) l).2)=false;rw [hs,ih]; rfl
structure Wh (fit:Rat->Prop) (m N:Nat) (t:Simp.Tab) (r s:Nat):Prop where
 row:∀ j,j<N+1->fit (t.T r j / t.T r s)
 mul:∀ i j,i<m->j<N+1->fit (t.T i s*(t.T r j / t.T r s))
 sub:∀ i j,i<m->j<N+1->i≠r->fit (t.T i j - t.T i s*(t.T r j / t.T r s))
 cmul:∀ j,j<N+1->fit (t.c s*(t.T r j / t.T r s))
 csub:∀ j,j<N+1->fit (t.c j - t.c s*(t.T r j / t.T r s))
theorem Jh {t:Tb} (h:TOk G m N t) {i:Nat} (hi:i<m):Bj t i ∈ t.rows:=Ef eE
theorem Ah3 (hE:F.Exact G) (hT:F.Total G fit) {t:Tb} (h:TOk G m N t) {i c:Nat} (hi:i<m) (hc:c<N+1) (h0:(tabV t).T i c≠0) (hfl:t.fl=false) (hp:Wh fit m N (tabV t) i c):(Eh F t i c).fl=false:=by
 have b9:=Jh h hi;have hb:=h.okr _ b9 _ (Ef (d:=q0) (k:=c) (by rw [h.rowW _ b9]; exact hc));have d1:=Ae2 hT hb h0 (h.okr _ b9) fun j hj=>hp.row j (by rw [h.rowW _ b9] at hj; exact hj);have d2:=Acx hE hb h0 (h.okr _ b9) d1;have dl:=Acy (F:=F) (b:=at_ q0 (Bj t i) c) (l:=Bj t i);rw [h.rowW _ b9] at dl;have r1:(lessRows F (divL F (at_ q0 (Bj t i) c) (Bj t i)).1 c i 0 (put t.rows i (divL F (at_ q0 (Bj t i) c) (Bj t i)).1)).2=false:=by
  refine Ru hE hT (W:=N+1) hc dl d2.1 (fun r hr=>?_) (fun r hr=>?_) fun n j hn hk hj=>?_
  ·rcases Hu hr with rfl|hr
   ·exact dl
   ·exact h.rowW r hr
  ·rcases Hu hr with rfl|hr
   ·exact d2.1
   ·exact h.okr r hr
  ·rw [Ak,h.rows] at hn;rw [Li eE,if_neg aA,d2.2];exact ⟨hp.mul n j hn hj,hp.sub n j hn hj aA⟩
 have k1:(lessT F t.cost (divL F (at_ q0 (Bj t i) c) (Bj t i)).1 c).2=false:=by
  refine Aa6 hE hT Za56 fW h.okc d2.1 fun j hj=>?_;rw [dl] at hj;rw [d2.2];exact ⟨hp.cmul j hj,hp.csub j hj⟩
 show (((t.fl || _) || _) || _)=false;rw [hfl,d1,r1,k1]; rfl
theorem Ami (hE:F.Exact G) {t:Tb} (h:TOk G m N t) {i c:Nat} (hi:i<m) (hc:c<N+1) (h0:(tabV t).T i c≠0) (hfl:(Eh F t i c).fl=false):TOk G m N (Eh F t i c)/\tabV (Eh F t i c)=Simp.piv (tabV t) i c:=by
 have b9:=Jh h hi;have hb:=h.okr _ b9 _ (Ef (d:=q0) (k:=c) (by rw [h.rowW _ b9]; exact hc));have a2q:(((t.fl || (divL F (at_ q0 (Bj t i) c) (Bj t i)).2) || (lessRows F (divL F (at_ q0 (Bj t i) c) (Bj t i)).1 c i 0 (put t.rows i (divL F (at_ q0 (Bj t i) c) (Bj t i)).1)).2) || (lessT F t.cost (divL F (at_ q0 (Bj t i) c) (Bj t i)).1 c).2)=false:=hfl;simp only [Fv] at a2q;obtain ⟨⟨⟨-,d1⟩,r1⟩,k1⟩:=a2q;have d2:=Acx hE hb h0 (h.okr _ b9) d1;have dl:=Acy (F:=F) (b:=at_ q0 (Bj t i) c) (l:=Bj t i);rw [h.rowW _ b9] at dl;have r2:=U0 hE (W:=N+1) hc dl d2.1 (fun r hr=>by
  rcases Hu hr with rfl|hr
  ·exact dl
  ·exact h.rowW r hr) (fun r hr=>by
  rcases Hu hr with rfl|hr
  ·exact d2.1
  ·exact h.okr r hr) r1
 have k2:=Afu hE Za56 fW h.okc d2.1 k1;refine ⟨⟨?_,?_,?_,r2.1,r2.2.1,k2.1⟩,?_⟩
 ·show (lessRows _ _ _ _ _ _).1.length=m;rw [Ku,Ak]; exact h.rows
 ·show (put _ _ _).length=m;rw [Ak]; exact h.basis
 ·show (lessT _ _ _ _).1.length=N+1;rw [Ye]; exact h.cost
 ·have eT:(tabV (Eh F t i c)).T=(Simp.piv (tabV t) i c).T:=by
   funext i' j;show qv (at_ q0 (at_ [] (lessRows F (divL F (at_ q0 (Bj t i) c) (Bj t i)).1 c i 0 (put t.rows i (divL F (at_ q0 (Bj t i) c) (Bj t i)).1)).1 i') j)=Simp.pivT (tabV t) i c i' j;by_cases ar:i'<m
   ·exact Ya0k
   ·have hn:at_ [] t.rows i'=[]:=Zz (by rw [h.rows]; omega);have z:∀ j,(tabV t).T i' j=0:=fun j=>by
     show qv (at_ q0 (at_ [] t.rows i') j)=0;rw [hn,Pb,Wa]
    have e2:at_ [] (lessRows F (divL F (at_ q0 (Bj t i) c) (Bj t i)).1 c i 0 (put t.rows i (divL F (at_ q0 (Bj t i) c) (Bj t i)).1)).1 i'=[]:=Zz (by rw [Ku,Ak,h.rows]; omega);rw [e2,Pb,Wa];unfold Simp.pivT;rw [if_neg aA,z,z]; grind
  have eC:(tabV (Eh F t i c)).c=(Simp.piv (tabV t) i c).c:=by
   funext j;show qv (at_ q0 (lessT F t.cost (divL F (at_ q0 (Bj t i) c) (Bj t i)).1 c).1 j)=_;rw [k2.2,d2.2]; rfl
  have eB:(tabV (Eh F t i c)).B=(Simp.piv (tabV t) i c).B:=by
   exact Ya1r
  exact Ya2j
end
def Lc (G:Q->Prop) (N c:Nat) (T:Simp.Tab) (k:Nat):Option (Nat × Q)->Prop
 | none=>∀ i,i<k->T.T i c<=0
 | some (i,q)=>i<k/\0<T.T i c/\G q/\qv q=T.T i N / T.T i c/\∀ i',i'<k->0<T.T i' c->T.T i N / T.T i c<=T.T i' N / T.T i' c/\(T.T i N / T.T i c=T.T i' N / T.T i' c->T.B i<=T.B i')
structure Km (fit:Rat->Prop) (m N c:Nat) (T:Simp.Tab):Prop where
 quo:∀ i,i<m->0<T.T i c->fit (T.T i N / T.T i c)
 sub:∀ i k,i<m->k<m->0<T.T i c->0<T.T k c->fit (T.T i N / T.T i c - T.T k N / T.T k c)
def Pv (F:Fld) (basis:List Nat) (c W k:Nat) (r:List Q) (b:Option (Nat × Q)):Option (Nat × Q) × Bool :=
 if sgn (at_ q0 r c)<=0 then (b,false) else
  match b with
  | none=>(some (k,(F.over (at_ q0 r (W - 1)) (at_ q0 r c)).1),(F.over (at_ q0 r (W - 1)) (at_ q0 r c)).2)
  | some (bi,least)=>(if worse basis (sgn (F.minus (F.over (at_ q0 r (W - 1)) (at_ q0 r c)).1 least).1) k bi=true then some (bi,least) else some (k,(F.over (at_ q0 r (W - 1)) (at_ q0 r c)).1),(F.over (at_ q0 r (W - 1)) (at_ q0 r c)).2 || (F.minus (F.over (at_ q0 r (W - 1)) (at_ q0 r c)).1 least).2)
theorem Ux {F:Fld} {basis:List Nat} {c W k:Nat} {r:List Q} {l:List (List Q)} {b:Option (Nat × Q)} : B7 F basis c W k (r :: l) b=((B7 F basis c W (k+1) l (Pv F basis c W k r b).1).1,(Pv F basis c W k r b).2 || (B7 F basis c W (k+1) l (Pv F basis c W k r b).1).2):=by
 rw [B7];unfold Pv;split
 ·simp
 ·cases b with
  | none=>rfl
  | some p=>obtain ⟨bi,least⟩:=p; rfl
section
variable {F:Fld} {G:Q->Prop} {fit:Rat->Prop} {m N L:Nat}
theorem Aa4 (hE:F.Exact G) {t:Tb} (h:TOk G m N t) {c k:Nat} (hc:c<N+1) (hk:k<m) {b:Option (Nat × Q)} (hb:Lc G N c (tabV t) k b) (hf:(Pv F t.basis c (N+1) k (Bj t k) b).2=false):Lc G N c (tabV t) (k+1) (Pv F t.basis c (N+1) k (Bj t k) b).1:=by
 have b9:=Jh h hk;have hw:=h.rowW _ b9;have g1:=h.okr _ b9 _ (Ef (d:=q0) (k:=c) fM);have g2:=h.okr _ b9 _ (Ef (d:=q0) (k:=N) (by rw [hw]; omega));have p1:=hE.pos _ g1;have e1:qv (at_ q0 (Bj t k) c)=(tabV t).T k c:=rfl;have e2:qv (at_ q0 (Bj t k) N)=(tabV t).T k N:=rfl;unfold Pv at hf ⊢;rw [jB] at hf ⊢;split
 ·rename_i hs;have hn:(tabV t).T k c<=0:=by
   have:¬ 0<qv (at_ q0 (Bj t k) c):=fun h'=>by have:=(Nz p1).2 h'; omega
   rw [e1] at this; grind
  cases b with
  | none =>
   intro i hi;by_cases e:i=k
   ·subst e; exact hn
   ·exact hb i aA
  | some p =>
   obtain ⟨bi,least⟩:=p;obtain ⟨b1,b2,b3,b4,b5⟩:=hb;refine ⟨aA,b2,b3,b4,fun i' ar hp=>?_⟩;by_cases e:i'=k
   ·subst e; grind
   ·exact b5 i' aA hp
 ·rename_i hs;rw [if_neg hs] at hf;have hp:0<(tabV t).T k c:=by
   rw [<- e1]; exact (Nz p1).1 aA
  have h0:qv (at_ q0 (Bj t k) c)≠0:=by rw [e1]; grind
  cases b with
  | none =>
   simp only at hf ⊢;have hq:=hE.over _ _ g2 g1 h0 hf;refine ⟨aA,hp,hq.1,by rw [hq.2,e1,e2],fun i' ar ef=>?_⟩;by_cases e:i'=k
   ·exact Ya09
   ·have:=hb i' aA; grind
  | some p =>
   obtain ⟨bi,least⟩:=p;obtain ⟨b1,b2,b3,b4,b5⟩:=hb;simp only [Fv] at hf ⊢;have hq:=hE.over _ _ g2 g1 h0 hf.1;have hd:=hE.minus _ _ hq.1 b3 hf.2;have pd:=hE.pos _ hd.1;have hdv:qv (F.minus (F.over (at_ q0 (Bj t k) N) (at_ q0 (Bj t k) c)).1 least).1=(tabV t).T k N / (tabV t).T k c - (tabV t).T bi N / (tabV t).T bi c:=by rw [hd.2,hq.2,b4,e1,e2]
   have s1:=Nz pd;have s2:=M0 pd;have s3:=Ad1 pd;rw [hdv] at s1 s2 s3;generalize sgn (F.minus (F.over (at_ q0 (Bj t k) N) (at_ q0 (Bj t k) c)).1 least).1=s at s1 s2 s3 ⊢;have eB:∀ i,at_ 0 t.basis i=(tabV t).B i:=fun _=>rfl;unfold worse;rw [eB,eB];by_cases c1:0<s
   ·have hw1:(decide (0<s) || (s == 0 && decide ((tabV t).B bi<(tabV t).B k)))=true:=by simp [c1]
    rw [if_pos hw1];have:=s1.1 c1;refine ⟨aA,b2,b3,b4,fun i' ar ef=>?_⟩;exact Ya3n
   ·by_cases c2:s=0
    ·have hz:=s2.1 c2;have ft:(tabV t).T k N / (tabV t).T k c=(tabV t).T bi N / (tabV t).T bi c:=aK
     by_cases c3:(tabV t).B bi<(tabV t).B k
     ·have hw1:(decide (0<s) || (s == 0 && decide ((tabV t).B bi<(tabV t).B k)))=true:=by simp [c2,c3]
      rw [if_pos hw1];refine ⟨aA,b2,b3,b4,fun i' ar ef=>?_⟩;exact Ya3q
     ·have hw1:¬ (decide (0<s) || (s == 0 && decide ((tabV t).B bi<(tabV t).B k)))=true:=by simp [c2,c3]
      rw [if_neg hw1];refine ⟨aA,hp,hq.1,by rw [hq.2,e1,e2],fun i' ar ef=>?_⟩;by_cases e:i'=k
      ·exact Ya09
      ·have h5:=b5 i' aA ef;refine ⟨by rw [ft]; exact h5.1,fun h'=>?_⟩;have:=h5.2 (by rw [<- ft]; exact h');omega
    ·have hw1:¬ (decide (0<s) || (s == 0 && decide ((tabV t).B bi<(tabV t).B k)))=true:=by simp [c1,c2]
     rw [if_neg hw1];have:=s3.1 aA;refine ⟨aA,hp,hq.1,by rw [hq.2,e1,e2],fun i' ar ef=>?_⟩;by_cases e:i'=k
     ·exact Ya09
     ·exact Ya47
theorem Aho (hE:F.Exact G) (hT:F.Total G fit) {t:Tb} (h:TOk G m N t) {c k:Nat} (hc:c<N+1) (hk:k<m) (hF:Km fit m N c (tabV t)) {b:Option (Nat × Q)} (hb:Lc G N c (tabV t) k b):(Pv F t.basis c (N+1) k (Bj t k) b).2=false:=by
 have b9:=Jh h hk;have hw:=h.rowW _ b9;have g1:=h.okr _ b9 _ (Ef (d:=q0) (k:=c) fM);have g2:=h.okr _ b9 _ (Ef (d:=q0) (k:=N) (by rw [hw]; omega));have p1:=hE.pos _ g1;have e1:qv (at_ q0 (Bj t k) c)=(tabV t).T k c:=rfl;have e2:qv (at_ q0 (Bj t k) N)=(tabV t).T k N:=rfl;unfold Pv;rw [jB];split
 ·rfl
 ·rename_i hs;have hp:0<(tabV t).T k c:=by
   rw [<- e1]; exact (Nz p1).1 aA
  have h0:qv (at_ q0 (Bj t k) c)≠0:=by rw [e1]; grind
  have f1:=hT.over _ _ g2 g1 h0 (hF.quo k hk hp);cases b with
  | none=>exact f1
  | some p =>
   obtain ⟨bi,least⟩:=p;obtain ⟨b1,b2,b3,b4,b5⟩:=hb;have hq:=hE.over _ _ g2 g1 h0 f1;have f2:=hT.minus _ _ hq.1 b3 (by rw [hq.2,b4,e1,e2]; exact hF.sub k bi hk aA hp b2);simp only [f1,f2]; rfl
theorem Aa3 (hE:F.Exact G) {t:Tb} (h:TOk G m N t) {c:Nat} (hc:c<N+1):∀ {l:List (List Q)} {k:Nat} {b:Option (Nat × Q)},t.rows.drop k=l->k<=m->Lc G N c (tabV t) k b->(B7 F t.basis c (N+1) k l b).2=false->Lc G N c (tabV t) m (B7 F t.basis c (N+1) k l b).1
 | [],k,b,hl,hk,hb,_=>by
  exact Ya22
 | r :: l,k,b,hl,hk,hb,hf=>by
  have l6:k<m:=by
   exact Ya0l
  have hd:=Aw (Tz (d:=[]) (l:=t.rows) (k:=k) Za57);rw [hl] at hd;obtain ⟨hr,hl2⟩:=List.cons.inj hd;have er:r=Bj t k:=hr;rw [Ux] at hf ⊢;simp only [Fv] at hf ⊢;rw [er] at hf ⊢;exact Aa3 hE h hc hl2.symm l6 (Aa4 hE h hc l6 hb hf.1) hf.2
theorem Wy (hE:F.Exact G) (hT:F.Total G fit) {t:Tb} (h:TOk G m N t) {c:Nat} (hc:c<N+1) (hF:Km fit m N c (tabV t)):∀ {l:List (List Q)} {k:Nat} {b:Option (Nat × Q)},t.rows.drop k=l->k<=m->Lc G N c (tabV t) k b->(B7 F t.basis c (N+1) k l b).2=false
 | [],k,b,hl,hk,hb=>rfl
 | r :: l,k,b,hl,hk,hb=>by
  have l6:k<m:=by
   exact Ya0l
  have hd:=Aw (Tz (d:=[]) (l:=t.rows) (k:=k) Za57);rw [hl] at hd;obtain ⟨hr,hl2⟩:=List.cons.inj hd;have er:r=Bj t k:=hr;have s1:=Aho hE hT h hc l6 hF hb;rw [Ux,er];simp only [Fv];exact ⟨s1,Wy hE hT h hc hF hl2.symm l6 (Aa4 hE h hc l6 hb s1)⟩
theorem Acv (hE:F.Exact G) {cost:List Q} (hg:∀ q ∈ cost,G q):∀ {n k:Nat},k+n<=cost.length->match colF cost n k with
  | none=>∀ j,k<=j->j<k+n->0<=qv (at_ q0 cost j)
  | some c=>k<=c/\c<k+n/\qv (at_ q0 cost c)<0/\∀ j,k<=j->j<c->0<=qv (at_ q0 cost j)
 | 0,k,_=>fun j h1 h2=>aA
 | n+1,k,hn=>by
  have gk:=hg _ (Ef (d:=q0) (k:=k) (l:=cost) aA);have hs:=Ad1 (hE.pos _ gk);unfold colF;by_cases c1:sgn (at_ q0 cost k)<0
  ·rw [if_pos c1];exact ⟨Ce _,aA,hs.1 c1,fun j h1 h2=>aA⟩
  ·rw [if_neg c1];have hk:0<=qv (at_ q0 cost k):=by
    have:¬ qv (at_ q0 cost k)<0:=fun h'=>c1 (hs.2 h');grind
   have ih:=Acv hE hg (n:=n) (k:=k+1) aA;cases d8:colF cost n (k+1) with
   | none =>
    rw [d8] at ih;intro j h1 h2;by_cases e:j=k
    ·subst e; exact hk
    ·exact ih j aA aA
   | some c =>
    rw [d8] at ih;obtain ⟨i1,i2,i3,i4⟩:=ih;refine ⟨aA,aA,i3,fun j h1 h2=>?_⟩;by_cases e:j=k
    ·subst e; exact hk
    ·exact i4 j aA h2
def Safe (F:Fld) (G:Q->Prop) (m N L:Nat) (t0:Simp.Tab):Prop :=
 F.stop=true\/∃ fit,F.Total G fit/\∀ K (R:Simp.Run m N L K),R.t 0=t0->(∀ c,c<L->Km fit m N c (R.t K))/\∀ r s,r<m->s<N->(R.t K).T r s≠0->Wh fit m N (R.t K) r s
def Ain (F:Fld) (G:Q->Prop) (m N L:Nat) (t0:Simp.Tab) (b:Bool) (t':Tb):Prop :=
 (F.stop=true/\t'.fl=true)\/(t'.fl=false/\TOk G m N t'/\∃ K,∃ R:Simp.Run m N L K,R.t 0=t0/\R.t K=tabV t'/\(b=true->∀ j,j<L->0<=(tabV t').c j)/\(b=false->∃ s,s<L/\(tabV t').c s<0/\∀ i,i<m->(tabV t').T i s<=0))
theorem TOk.flag {t:Tb} (h:TOk G m N t) (f:Bool):TOk G m N { t with fl:=f }:=⟨h.rows,h.basis,h.cost,h.rowW,h.okr,h.okc⟩
theorem Wr {n:Nat} {t:Tb} (h1:F.stop=true) (h2:t.fl=true):Jo F (n+1) t=some (true,t):=by
 rw [Jo,h1,h2]; rfl
theorem Ae1 (hE:F.Exact G) {t0:Simp.Tab} (hs:Safe F G m N L t0):∀ (n:Nat) {K:Nat} (R:Simp.Run m N L K) {t:Tb},R.t 0=t0->R.t K=tabV t->TOk G m N t->t.real=L->t.fl=false->N ^ m+1<=n+K->∃ b t',Jo F n t=some (b,t')/\Ain F G m N L t0 b t'
 | 0,K,R,t,h0,hK,ht,hL,hfl,hn=>by have:=R.short; omega
 | n+1,K,R,t,h0,hK,ht,hL,hfl,hn=>by
  have a1v:=R.short;have hLN:=R.LN;have d8:=Acv hE ht.okc (n:=t.real) (k:=0) (by rw [ht.cost]; omega);have e0:¬ (F.stop && t.fl)=true:=by rw [hfl]; simp
  rw [Jo,if_neg e0];cases hc:colF t.cost t.real 0 with
  | none =>
   rw [hc] at d8;refine ⟨true,t,rfl,.inr ⟨hfl,ht,K,R,h0,hK,fun _ j hj=>d8 j (Cl _) aA,fun h=>aR⟩⟩
  | some c =>
   rw [hc] at d8;obtain ⟨-,hcL,hneg,uu⟩:=d8;simp only;have hcN:c<N+1:=aA
   have i8:Bv F t c=B7 F t.basis c (N+1) 0 t.rows none:=by unfold Bv; rw [ht.cost]
   have b8:Lc G N c (tabV t) 0 none:=fun i hi=>aA
   cases hle:Bv F t c with
   | mk o f =>
   have hlx:f=false->Lc G N c (tabV t) m o:=fun hf=>by
    have:=Aa3 hE ht hcN (l:=t.rows) (k:=0) (b:=none) rfl (Cl _) b8 (by rw [<- i8,hle]; exact hf);rw [<- i8,hle] at this;exact this
   have hlf:F.stop=false->f=false:=fun aj=>by
    rcases hs with hs|⟨fit,hT,hs⟩
    ·rw [hs] at aj; cases aj
    ·have:=Wy hE hT ht hcN (by rw [<- hK]; exact (hs K R h0).1 c aA) (l:=t.rows) (k:=0) (b:=none) rfl (Cl _) b8;rw [<- i8,hle] at this;exact this
   cases o with
   | none =>
    simp only;refine ⟨false,_,rfl,?_⟩;cases f with
    | true =>
     cases aj:F.stop with
     | true=>exact .inl ⟨aj,by simp⟩
     | false=>have:=hlf aj; cases this
    | false =>
     refine .inr ⟨by simp [hfl],ht.flag _,K,R,h0,hK,fun h=>aR,fun _=>⟨c,aA,hneg,hlx rfl⟩⟩
   | some p =>
    obtain ⟨i,q⟩:=p;simp only;have a0s:F.stop=true->(Eh F { t with fl:=t.fl || f } i c).fl=true->∃ b t',Jo F n (Eh F { t with fl:=t.fl || f } i c)=some (b,t')/\Ain F G m N L t0 b t':=fun h1 h2=>by
     obtain ⟨n',rfl⟩:∃ n',n=n'+1:=⟨n - 1,aA⟩;exact ⟨true,_,Wr h1 h2,.inl ⟨h1,h2⟩⟩
    cases f with
    | true =>
     cases aj:F.stop with
     | true=>exact a0s aj (by simp [Eh])
     | false=>have:=hlf aj; cases this
    | false =>
     obtain ⟨l1,l2,l3,l4,l5⟩:=hlx rfl;have zt:=ht.flag (t.fl || false);have h0':(tabV { t with fl:=t.fl || false }).T i c≠0:=by
      show (tabV t).T i c≠0;grind
     have jw:Simp.Step m N L (R.t K) i c:=by
      exact Ya1f
     cases hpf:(Eh F { t with fl:=t.fl || false } i c).fl with
     | true =>
      cases aj:F.stop with
      | true=>exact a0s aj hpf
      | false =>
       rcases hs with hs|⟨fit,hT,hs⟩
       ·rw [hs] at aj; cases aj
       ·have:=Ah3 hE hT zt l1 hcN h0' (by simp [hfl]) (by
         show Wh fit m N (tabV t) i c;rw [<- hK];exact (hs K R h0).2 i c l1 aA (by rw [hK]; exact h0'))
        rw [hpf] at this; cases this
     | false =>
      obtain ⟨x1,x2⟩:=Ami hE zt l1 hcN h0' hpf;refine Ae1 hE hs n (R.more jw) (t:=Eh F { t with fl:=t.fl || false } i c) ?_ ?_ x1 hL hpf aA
      ·rw [R.more_old jw (Cl _)]; exact h0
      ·rw [R.more_last jw,x2,hK]; rfl
end
def Ints (m N M Mc:Nat) (t0:Simp.Tab):Prop:=(∀ i j,i<m->j<N+1->∃ z:Int,t0.T i j=((z:Int):Rat)/\z.natAbs<=M)/\∀ j,j<N+1->∃ z:Int,t0.c j=((z:Int):Rat)/\z.natAbs<=Mc
structure Reach (m N:Nat) (t0 t:Simp.Tab):Prop where
 fit:Simp.Fit m N t
 ker:∀ x,Simp.Ker m N t0 x->Simp.Ker m N t x
 cost:∀ x,Simp.Ker m N t0 x->Simp.dot N t.c x=Simp.dot N t0.c x
def bndX (m M Mc:Nat):Nat:=(2*((m+1)*M)) ^ m+(m+1)*(Mc*(2*((m+1)*M)) ^ m)
section
variable {m N L M Mc X:Nat} {t0 t:Simp.Tab}
theorem Reach.piv (h:Reach m N t0 t) {r s:Nat} (hr:r<m) (hs:s<N) (hp:t.T r s≠0):Reach m N t0 (Simp.piv t r s) :=
 ⟨Simp.piv_fit h.fit hr hs hp,fun x hx=>(Simp.piv_ker hr hp x).2 (h.ker x hx),fun x hx=>by rw [Simp.piv_cost hr (h.ker x hx)]; exact h.cost x hx⟩
theorem Reach.run {K:Nat} (R:Simp.Run m N L K):Reach m N (R.t 0) (R.t K) :=
 ⟨R.fits K (Ce _),fun x hx=>(R.ker (Cl _) (Ce _) x).2 hx,fun x hx=>R.cost (Cl _) (Ce _) hx⟩
theorem Nx (hM:1<=M) (hI:Ints m N M Mc t0) (h:Reach m N t0 t) {j:Nat} (hj:j<N+1) :
  ∃ y0:Int,y0≠0/\y0.natAbs<=bndX m M Mc/\(∀ i,i<m->∃ y:Int,t.T i j=((y:Int):Rat) / ((y0:Int):Rat)/\y.natAbs<=bndX m M Mc)/\∃ w:Int,t.c j=((w:Int):Rat) / ((y0:Int):Rat)/\w.natAbs<=bndX m M Mc:=by
 obtain ⟨hI1,hI2⟩:=hI;obtain ⟨a,ha⟩:∃ a:Nat->Nat->Int,∀ i j,i<m->j<N+1->t0.T i j=((a i j:Int):Rat)/\(a i j).natAbs<=M :=
  ⟨fun i j=>if h:i<m/\j<N+1 then Classical.choose (hI1 i j h.1 h.2) else 0,fun i j hi hj=>by
   dsimp only; rw [dif_pos ⟨hi,hj⟩]; exact Classical.choose_spec (hI1 i j hi hj)⟩
 obtain ⟨a0,pm⟩:∃ a0:Nat->Int,∀ j,j<N+1->t0.c j=((a0 j:Int):Rat)/\(a0 j).natAbs<=Mc :=
  ⟨fun j=>if h:j<N+1 then Classical.choose (hI2 j h) else 0,fun j hj=>by
   dsimp only; rw [dif_pos hj]; exact Classical.choose_spec (hI2 j hj)⟩
 obtain ⟨y0,h1,h2,h3,w,h4,h5⟩:=Simp.small hM ha pm h.fit h.ker h.cost hj;refine ⟨y0,h1,Fp h2 (I6 _ _),fun i hi=>?_,w,h4,Fp h5 (Nat.le_add_left _ _)⟩;obtain ⟨y,e1,e2⟩:=h3 i hi;exact ⟨y,e1,Fp e2 (I6 _ _)⟩
theorem Alp {a b:Nat} (h:a<=X) (hb:b<=X):a*b<=X*X:=O5 h hb
theorem X6 {n d:Int} (hd:d≠0) (h1:n.natAbs<=X) (h2:d.natAbs<=X) (hX:2*(X*X)<10000 ^ 200):Jp (((n:Int):Rat) / ((d:Int):Rat)):=by
 have h3:X<=X*X:=Nat.le_mul_self X;exact ⟨n,d,hd,rfl,aA,aA⟩
theorem Ak5 {n d n' d':Int} (hd:d≠0) (fm:d'≠0) (h1:n.natAbs<=X) (h2:d.natAbs<=X) (h3:n'.natAbs<=X) (h4:d'.natAbs<=X) (hX:2*(X*X)<10000 ^ 200):Jp (((n:Int):Rat) / ((d:Int):Rat)*(((n':Int):Rat) / ((d':Int):Rat))):=by
 have k1:=Alp h1 h3;have k2:=Alp h2 h4;refine ⟨n*n',d*d',Ii hd fm,?_,?_,?_⟩
 ·rw [Fa,Fa]; exact (J2 (Ha hd) (Ha fm)).symm
 ·rw [Im]; omega
 ·rw [Im]; omega
theorem Ask {n d n' d':Int} (hd:d≠0) (fm:d'≠0) (h1:n.natAbs<=X) (h2:d.natAbs<=X) (h3:n'.natAbs<=X) (h4:d'.natAbs<=X) (hX:2*(X*X)<10000 ^ 200):Jp (((n:Int):Rat) / ((d:Int):Rat) - ((n':Int):Rat) / ((d':Int):Rat)):=by
 have k1:=Alp h1 h4;have k2:=Alp h3 h2;have k3:=Alp h2 h4;refine ⟨n*d' - n'*d,d*d',Ii hd fm,?_,?_,?_⟩
 ·rw [kK,Fa,Fa,Fa]; exact (Ry (Ha hd) (Ha fm)).symm
 ·have:=Int.natAbs_sub_le (n*d') (n'*d);rw [Im,Im] at this;omega
 ·rw [Im]; omega
theorem Qd (hM:1<=M) (hI:Ints m N M Mc t0) (hX:2*(bndX m M Mc*bndX m M Mc)<10000 ^ 200) (h:Reach m N t0 t) {r s:Nat} (hr:r<m) (hs:s<N) (hp:t.T r s≠0):Wh Jp m N t r s:=by
 have hq:=h.piv hr hs hp;have e1:∀ j,(Simp.piv t r s).T r j=t.T r j / t.T r s:=fun j=>if_pos rfl;have e2:∀ i j,i≠r->(Simp.piv t r s).T i j=t.T i j - t.T i s*(t.T r j / t.T r s):=fun i j hi=>if_neg hi;have e3:∀ j,(Simp.piv t r s).c j=t.c j - t.c s*(t.T r j / t.T r s):=fun j=>rfl;obtain ⟨z0,c1,c2,c3,w,c4,c5⟩:=Nx hM hI h (j:=s) aA;refine ⟨fun j hj=>?_,fun i j hi hj=>?_,fun i j hi hj wa=>?_,fun j hj=>?_,fun j hj=>?_⟩;all_goals obtain ⟨y0,b1,b2,b3,u,b4,b5⟩:=Nx hM hI hq hj
 ·obtain ⟨y,y1,y2⟩:=b3 r hr;rw [e1] at y1;rw [y1]; exact X6 b1 y2 b2 hX
 ·obtain ⟨y,y1,y2⟩:=b3 r hr;obtain ⟨z,z1,z2⟩:=c3 i hi;rw [e1] at y1;rw [y1,z1]; exact Ak5 c1 b1 z2 c2 y2 b2 hX
 ·obtain ⟨y,y1,y2⟩:=b3 i hi;rw [e2 i j wa] at y1;rw [y1]; exact X6 b1 y2 b2 hX
 ·obtain ⟨y,y1,y2⟩:=b3 r hr;rw [e1] at y1;rw [y1,c4]; exact Ak5 c1 b1 c5 c2 y2 b2 hX
 ·rw [e3] at b4;rw [b4]; exact X6 b1 b5 b2 hX
theorem L7 (hM:1<=M) (hI:Ints m N M Mc t0) (hX:2*(bndX m M Mc*bndX m M Mc)<10000 ^ 200) (h:Reach m N t0 t) {c:Nat} (hc:c<N):Km Jp m N c t:=by
 have key:∀ i,i<m->0<t.T i c->∃ y y0:Int,y0≠0/\y.natAbs<=bndX m M Mc/\y0.natAbs<=bndX m M Mc/\t.T i N / t.T i c=((y:Int):Rat) / ((y0:Int):Rat):=fun i hi hp=>by
  have hq:=h.piv hi hc aK;obtain ⟨y0,b1,b2,b3,-⟩:=Nx hM hI hq (j:=N) aA;obtain ⟨y,y1,y2⟩:=b3 i hi;have e1:(Simp.piv t i c).T i N=t.T i N / t.T i c:=if_pos rfl;exact ⟨y,y0,b1,y2,b2,by rw [<- e1,y1]⟩
 refine ⟨fun i hi hp=>?_,fun i k hi hk hp hq=>?_⟩
 ·obtain ⟨y,y0,a1,a2,a3,a4⟩:=key i hi hp;rw [a4]; exact X6 a1 a2 a3 hX
 ·obtain ⟨y,y0,a1,a2,a3,a4⟩:=key i hi hp;obtain ⟨z,z0,b1,b2,b3,b4⟩:=key k hk hq;rw [a4,b4]; exact Ask a1 b1 a2 a3 b2 b3 hX
theorem As5 (hM:1<=M) (hI:Ints m N M Mc t0) (hX:2*(bndX m M Mc*bndX m M Mc)<10000 ^ 200):Safe WW.qF gW m N L t0:=by
 refine .inr ⟨Jp,Qo,fun K R h0=>?_⟩;exact Ya19
theorem As4:Safe QQ.qF okS m N L t0:=.inl rfl
end
def Nj (u:Rat) (vars:List ByteArray):List (ByteArray × Int)->(Nat->Rat)->Nat->Rat
 | [],f=>f
 | c :: cs,f=>Nj u vars cs fun j=>if j=2*idxV vars c.1+1 then -(u*((c.2:Int):Rat)) else if j=2*idxV vars c.1 then u*((c.2:Int):Rat) else f j
theorem Ml {u:Rat} {vars:List ByteArray} {k:Nat} : ∀ {cs:List (ByteArray × Int)} {f:Nat->Rat},(∀ c ∈ cs,idxV vars c.1≠k)->Nj u vars cs f (2*k)=f (2*k)/\Nj u vars cs f (2*k+1)=f (2*k+1)
 | [],_,_=>⟨rfl,rfl⟩
 | c :: cs,f,h=>by
  have h1:=h c (Ct ..);have ih:=Ml (u:=u) (cs:=cs) (f:=fun j=>if j=2*idxV vars c.1+1 then -(u*((c.2:Int):Rat)) else if j=2*idxV vars c.1 then u*((c.2:Int):Rat) else f j) fun c' hc=>h c' (Cq _ hc);rw [Nj,ih.1,ih.2];exact ⟨by rw [if_neg aA,if_neg aA],by rw [if_neg aA,if_neg aA]⟩
theorem Wq {u:Rat} {vars:List ByteArray} {c:ByteArray × Int} : ∀ {cs:List (ByteArray × Int)} {f:Nat->Rat},(cs.map fun c=>idxV vars c.1).Pairwise (·≠·)->c ∈ cs->Nj u vars cs f (2*idxV vars c.1)=u*((c.2:Int):Rat)/\Nj u vars cs f (2*idxV vars c.1+1)=-(u*((c.2:Int):Rat))
 | [],_,_,h=>aR
 | c' :: cs,f,hp,h=>by
  rw [Cn,Ia] at hp;rw [Nj];rcases C4.1 h with rfl|h
  ·have:=Ml (u:=u) (vars:=vars) (k:=idxV vars c.1) (cs:=cs) (f:=fun j=>if j=2*idxV vars c.1+1 then -(u*((c.2:Int):Rat)) else if j=2*idxV vars c.1 then u*((c.2:Int):Rat) else f j) fun c' hc=>(hp.1 _ (F9.2 ⟨c',hc,rfl⟩)).symm;rw [this.1,this.2];exact ⟨by rw [if_neg aA,if_pos rfl],by rw [if_pos rfl]⟩
  ·exact Wq hp.2 h
theorem T9 {u:Rat} {vars:List ByteArray} {j:Nat} : ∀ {cs:List (ByteArray × Int)} {f:Nat->Rat},(∀ c ∈ cs,c.1 ∈ vars)->2*vars.length<=j->Nj u vars cs f j=f j
 | [],_,_,_=>rfl
 | c :: cs,f,h,hj=>by
  have h1:=(Pq (h c (Ct ..))).2;rw [Nj,T9 (fun c' hc=>h c' (Cq _ hc)) hj,if_neg aA,if_neg aA]
def cofI (vars:List ByteArray):List (ByteArray × Int)->Nat->Int
 | [],_=>0
 | c :: cs,k=>if idxV vars c.1=k then c.2 else cofI vars cs k
theorem T8 {vars:List ByteArray} {k:Nat} : ∀ {cs:List (ByteArray × Int)},(∀ c ∈ cs,idxV vars c.1≠k)->cofI vars cs k=0
 | [],_=>rfl
 | c :: cs,h=>by rw [cofI,if_neg (h c (Ct ..))]; exact T8 fun c' hc=>h c' (Cq _ hc)
theorem Aab {vars:List ByteArray} {c:ByteArray × Int} : ∀ {cs:List (ByteArray × Int)},(cs.map fun c=>idxV vars c.1).Pairwise (·≠·)->c ∈ cs->cofI vars cs (idxV vars c.1)=c.2
 | [],_,h=>aR
 | c' :: cs,hp,h=>by
  rw [Cn,Ia] at hp;rcases C4.1 h with rfl|h
  ·rw [cofI,if_pos rfl]
  ·rw [cofI,if_neg (hp.1 _ (F9.2 ⟨c,h,rfl⟩))];exact Aab hp.2 h
theorem Aex {vars:List ByteArray} {k:Nat} : ∀ {cs:List (ByteArray × Int)},cofI vars cs k=0\/∃ c ∈ cs,c.2=cofI vars cs k/\idxV vars c.1=k
 | []=>.inl rfl
 | c :: cs=>by
  rw [cofI];split
  ·rename_i h; exact .inr ⟨c,Ct ..,rfl,h⟩
  ·rcases Aex (vars:=vars) (k:=k) (cs:=cs) with h|⟨c',h1,h2,h3⟩
   ·exact .inl h
   ·exact .inr ⟨c',Cq _ h1,h2,h3⟩
theorem Hk {u:Rat} {vars:List ByteArray} {cs:List (ByteArray × Int)} (hp:(cs.map fun c=>idxV vars c.1).Pairwise (·≠·)) (k:Nat):Nj u vars cs (fun _=>0) (2*k)=u*((cofI vars cs k:Int):Rat)/\Nj u vars cs (fun _=>0) (2*k+1)=-(u*((cofI vars cs k:Int):Rat)):=by
 by_cases h:∃ c ∈ cs,idxV vars c.1=k
 ·obtain ⟨c,hc,rfl⟩:=h;rw [Aab hp hc];exact Wq hp hc
 ·have h':∀ c ∈ cs,idxV vars c.1≠k:=fun c hc e=>h ⟨c,hc,e⟩;rw [T8 h',(Ml h').1,(Ml h').2,Rat.intCast_zero];exact ⟨aK,aK⟩
section
variable {F:Fld} {G:Q->Prop} {fit:Rat->Prop}
theorem Af3 {l:List Q} {i j:Nat} {x y q:Q} (hl:∀ q ∈ l,G q) (hx:G x) (hy:G y) (h:q ∈ put (put l i x) j y):G q:=by
 rcases Hu h with rfl|h
 ·exact hy
 ·rcases Hu h with rfl|h
  ·exact hx
  ·exact hl q h
theorem Aaa (hE:F.Exact G) {u z:Q} {vars:List ByteArray} (hu:G u) (hz:G z) (hz0:qv z=0):∀ {cs:List (ByteArray × Int)} {row:List Q} {f:Nat->Rat},(∀ c ∈ cs,i64 c.2/\c.1 ∈ vars)->2*vars.length<=row.length->(∀ q ∈ row,G q)->(∀ j,qv (at_ q0 row j)=f j)->(coefsC F u z vars cs row).2=false ->
  (coefsC F u z vars cs row).1.length=row.length/\(∀ q ∈ (coefsC F u z vars cs row).1,G q)/\∀ j,qv (at_ q0 (coefsC F u z vars cs row).1 j)=Nj (qv u) vars cs f j
 | [],row,f,_,_,hg,hf,_=>⟨rfl,hg,hf⟩
 | c :: cs,row,f,hc,hl,hg,hf,hfl=>by
  obtain ⟨hi,hm⟩:=hc c (Ct ..);have nj:=(Pq hm).2;simp only [coefsC,setC,Fv] at hfl;obtain ⟨⟨⟨f1,f2⟩,f3⟩,f4⟩:=hfl;have w:=hE.whole c.2 hi f1;have t:=hE.times u _ hu w.1 f2;have d:=hE.minus z _ hz t.1 f3;have ih:=Aaa hE hu hz hz0 (cs:=cs) (row:=put (put row (2*idxV vars c.1) (F.times u (F.whole c.2).1).1) (2*idxV vars c.1+1) (F.minus z (F.times u (F.whole c.2).1).1).1)
   (f:=fun j=>if j=2*idxV vars c.1+1 then -(qv u*((c.2:Int):Rat)) else if j=2*idxV vars c.1 then qv u*((c.2:Int):Rat) else f j)
   (fun c' h=>hc c' (Cq _ h)) (by rw [Ak,Ak]; exact hl) (fun q h=>Af3 hg t.1 d.1 h) (fun j=>by
    rw [Li (by rw [Ak]; omega),Li aA];split
    ·rw [d.2,t.2,w.2,hz0]; grind
    ·split
     ·rw [t.2,w.2]
     ·exact hf j) f4
  rw [Ak,Ak] at ih;exact ih
theorem Wp (hE:F.Exact G) (hT:F.Total G fit) {u z:Q} {vars:List ByteArray} (hu:G u) (hz:G z) (hz0:qv z=0):∀ {cs:List (ByteArray × Int)} {row:List Q},(∀ c ∈ cs,i64 c.2/\fit (qv u*((c.2:Int):Rat))/\fit (0 - qv u*((c.2:Int):Rat)))->(coefsC F u z vars cs row).2=false
 | [],_,_=>rfl
 | c :: cs,row,hc=>by
  obtain ⟨hi,h1,h2⟩:=hc c (Ct ..);have f1:=hT.whole c.2 hi;have w:=hE.whole c.2 hi f1;have f2:=hT.times u _ hu w.1 (by rw [w.2]; exact h1);have t:=hE.times u _ hu w.1 f2;have f3:=hT.minus z _ hz t.1 (by rw [t.2,w.2,hz0]; exact h2);simp only [coefsC,setC,Fv];exact ⟨⟨⟨f1,f2⟩,f3⟩,Wp hE hT hu hz hz0 fun c' h=>hc c' (Cq _ h)⟩
def sgR (r:RowT):Rat:=if 0<r.2.1 then -1 else 1
def rowR (vars:List ByteArray) (real W i slack:Nat) (r:RowT) (j:Nat):Rat :=
 if j=W - 1 then -(sgR r*((r.2.1:Int):Rat)) else if j=real+i then 1 else if r.2.2=false/\j=slack then sgR r else Nj (sgR r) vars r.1 (fun _=>0) j
theorem Ajt {z:Q} (hz:qv z=0) {n j:Nat} : qv (at_ q0 (Cg n z) j)=0:=by
 by_cases h:j<n
 ·have:at_ q0 (Cg n z) j=z:=by
   unfold at_;rw [Af,List.getElem?_replicate,if_pos h]; rfl
  rw [this,hz]
 ·rw [Zz Za55,Wa]
theorem Agv (hE:F.Exact G) {r:RowT} (hf:(Kk F (D7 r)).2=false):G (Kk F (D7 r)).1/\qv (Kk F (D7 r)).1=sgR r:=by
 unfold Kk D7 sgR at *;by_cases h:0<r.2.1
 ·simp only [decide_eq_true_eq,h,if_true,Fv] at hf ⊢;have:=hE.whole (-1) aD hf.2;exact ⟨this.1,this.2.trans rfl⟩
 ·simp only [decide_eq_true_eq,h,if_false] at hf ⊢;have:=hE.whole 1 aD hf;exact ⟨this.1,this.2.trans rfl⟩
theorem Ank (hT:F.Total G fit) {b:Bool} : (Kk F b).2=false:=by
 unfold Kk;split
 ·simp only [hT.whole 1 aD,hT.whole (-1) aD]; rfl
 ·exact hT.whole 1 aD
theorem Amt (hE:F.Exact G) {z:Q} {vars:List ByteArray} (hz:G z) (hz0:qv z=0) {real W i slack:Nat} {r:RowT} (hi:i64 r.2.1) (hc:∀ c ∈ r.1,i64 c.2/\c.1 ∈ vars) (hv:2*vars.length<=real) (b9:real+i<W - 1) (hs:r.2.2=false->slack<W) (hf:(rowF F z vars real W i slack r).2=false) :
  (rowF F z vars real W i slack r).1.length=W/\(∀ q ∈ (rowF F z vars real W i slack r).1,G q)/\∀ j,qv (at_ q0 (rowF F z vars real W i slack r).1 j)=rowR vars real W i slack r j:=by
 simp only [rowF,Uv,Fv] at hf;obtain ⟨⟨⟨f1,f2⟩,f3⟩,⟨f4,f5⟩,f6⟩:=hf;obtain ⟨gu,eu⟩:=Agv hE f1;obtain ⟨a1,a2,a3⟩:=Aaa hE gu hz hz0 (f:=fun _=>0) hc Za55 (fun q h=>by rw [(Ip.1 h).2]; exact hz) (fun j=>Ajt hz0) f2;rw [Ov] at a1;have o:=hE.whole 1 aD f3;have w:=hE.whole _ hi f4;have t:=hE.times _ _ gu w.1 f5;have d:=hE.minus z _ hz t.1 f6;have hsl:(Qj r.2.2 (coefsC F (Kk F (D7 r)).1 z vars r.1 (Cg W z)).1 slack (Kk F (D7 r)).1).length=W/\(∀ q ∈ Qj r.2.2 (coefsC F (Kk F (D7 r)).1 z vars r.1 (Cg W z)).1 slack (Kk F (D7 r)).1,G q)/\∀ j,qv (at_ q0 (Qj r.2.2 (coefsC F (Kk F (D7 r)).1 z vars r.1 (Cg W z)).1 slack (Kk F (D7 r)).1) j)=if r.2.2=false/\j=slack then sgR r else Nj (sgR r) vars r.1 (fun _=>0) j:=by
  unfold Qj;cases he:r.2.2 with
  | true =>
   rw [if_pos rfl];exact ⟨a1,a2,fun j=>by rw [if_neg (by simp),a3,eu]⟩
  | false =>
   rw [if_neg (by simp)];refine ⟨by rw [Ak]; exact a1,fun q h=>?_,fun j=>?_⟩
   ·rcases Hu h with rfl|h
    ·exact gu
    ·exact a2 q h
   ·rw [Li (by rw [a1]; exact hs he)];by_cases e:j=slack
    ·rw [if_pos e,if_pos ⟨rfl,e⟩,eu]
    ·rw [if_neg e,if_neg (fun h=>e h.2),a3,eu]
 obtain ⟨b1,b2,b3⟩:=hsl;refine ⟨?_,fun q h=>Af3 b2 o.1 d.1 h,fun j=>?_⟩
 ·show (put (put _ _ _) _ _).length=W;rw [Ak,Ak]; exact b1
 ·show qv (at_ q0 (put (put _ _ _) _ _) j)=_;rw [Li (by rw [Ak,b1]; omega),Li (by rw [b1]; omega)];unfold rowR;by_cases e1:j=W - 1
  ·rw [if_pos e1,if_pos e1];show qv (F.minus z (F.times (Kk F (D7 r)).1 (F.whole r.2.1).1).1).1=_;rw [d.2,t.2,w.2,eu,hz0]; grind
  ·rw [if_neg e1,if_neg e1];by_cases e2:j=real+i
   ·rw [if_pos e2,if_pos e2,o.2]; rfl
   ·rw [if_neg e2,if_neg e2,b3]
theorem Ap1 (hE:F.Exact G) (hT:F.Total G fit) {z:Q} {vars:List ByteArray} (hz:G z) (hz0:qv z=0) {real W i slack:Nat} {r:RowT} (hi:i64 r.2.1) (hc:∀ c ∈ r.1,i64 c.2/\fit (sgR r*((c.2:Int):Rat))/\fit (0 - sgR r*((c.2:Int):Rat))) (hn:fit (sgR r*((r.2.1:Int):Rat))/\fit (0 - sgR r*((r.2.1:Int):Rat))):(rowF F z vars real W i slack r).2=false:=by
 have f1:=Ank hT (b:=D7 r);obtain ⟨gu,eu⟩:=Agv hE f1;have f2:=Wp hE hT gu hz hz0 (vars:=vars) (cs:=r.1) (row:=Cg W z) (by rw [eu]; exact hc);have f3:=hT.whole 1 aD;have f4:=hT.whole _ hi;have w:=hE.whole _ hi f4;have f5:=hT.times _ _ gu w.1 (by rw [w.2,eu]; exact hn.1);have t:=hE.times _ _ gu w.1 f5;have f6:=hT.minus z _ hz t.1 (by rw [t.2,w.2,eu,hz0]; exact hn.2);simp only [rowF,Uv,Fv];exact ⟨⟨⟨f1,f2⟩,f3⟩,⟨f4,f5⟩,f6⟩
theorem Aez (hE:F.Exact G) {real W:Nat} : ∀ {c r:List Q} {k:Nat},c.length=r.length->(∀ q ∈ c,G q)->(∀ q ∈ r,G q)->(costL F real W k c r).2=false->(∀ q ∈ (costL F real W k c r).1,G q)/\∀ j,qv (at_ q0 (costL F real W k c r).1 j)=if k+j<real\/k+j=W - 1 then qv (at_ q0 c j) - qv (at_ q0 r j) else qv (at_ q0 c j)
 | [],[],_,_,_,_,_=>⟨fun q h=>aR,fun j=>by simp only [costL,Pb,Wa]; split <;> grind⟩
 | [],_ :: _,_,h,_,_,_=>aO
 | _ :: _,[],_,h,_,_,_=>aO
 | a :: c,b :: r,k,h,hc,hr,hf=>by
  have hx:(J6 F real W k a b).2=false/\(costL F real W (k+1) c r).2=false:=by simpa [costL] using hf
  have ih:=Aez hE aL (fun q h=>hc q (Cq _ h)) (fun q h=>hr q (Cq _ h)) hx.2;have hs:G (J6 F real W k a b).1/\qv (J6 F real W k a b).1=if k<real\/k=W - 1 then qv a - qv b else qv a:=by
   have h1:=hx.1;unfold J6 at h1 ⊢;split
   ·rename_i hk;rw [if_pos hk] at h1;exact hE.minus a b (hc a (Ct ..)) (hr b (Ct ..)) h1
   ·exact ⟨hc a (Ct ..),rfl⟩
  refine ⟨fun q h=>?_,fun j=>?_⟩
  ·rcases C4.1 h with rfl|h
   ·exact hs.1
   ·exact ih.1 q h
  ·cases j with
   | zero=>exact hs.2
   | succ j =>
    have:=ih.2 j;rw [show k+1+j=k+(j+1) by omega] at this;exact this
theorem Aaf (hT:F.Total G fit) {real W:Nat} : ∀ {c r:List Q} {k:Nat},(∀ q ∈ c,G q)->(∀ q ∈ r,G q)->(∀ j,fit (qv (at_ q0 c j) - qv (at_ q0 r j)))->(costL F real W k c r).2=false
 | [],_,_,_,_,_=>by simp [costL]
 | _ :: _,[],_,_,_,_=>rfl
 | a :: c,b :: r,k,hc,hr,hf=>by
  have ih:=Aaf hT (c:=c) (r:=r) (k:=k+1) (real:=real) (W:=W) (fun q h=>hc q (Cq _ h)) (fun q h=>hr q (Cq _ h)) fun j=>hf (j+1);have hs:(J6 F real W k a b).2=false:=by
   unfold J6;split
   ·exact hT.minus a b (hc a (Ct ..)) (hr b (Ct ..)) (hf 0)
   ·rfl
  show ((J6 F real W k a b).2 || (costL F real W (k+1) c r).2)=false;rw [hs,ih]; rfl
end
def rowX (vars:List ByteArray) (real W:Nat) (l:List RowT) (i j:Nat):Rat :=
 match nth l i with
 | some r=>rowR vars real W i (2*vars.length+neqs (l.take i)) r j
 | none=>0
theorem Agf {vars:List ByteArray} {real W:Nat} {l:List RowT} {r:RowT} {i j:Nat} (h:i<l.length):rowX vars real W (l++[r]) i j=rowX vars real W l i j:=by
 unfold rowX;rw [Af,Af,Cv h,Oh aA]
theorem Age {vars:List ByteArray} {real W:Nat} {l:List RowT} {r:RowT} {j:Nat} : rowX vars real W (l++[r]) l.length j=rowR vars real W l.length (2*vars.length+neqs l) r j:=by
 unfold rowX;rw [Af,Fh (Ce _),Ob,Oh (Ce _),Fb]; rfl
theorem H2:∀ {l l':List RowT},neqs (l++l')=neqs l+neqs l'
 | [],l'=>by simp [neqs]
 | r :: l,l'=>by rw [Co,neqs,neqs,H2]; omega
theorem Aju {α:Type} {d x:α} {l:List α} {i:Nat} : at_ d (l++[x]) i=if i=l.length then x else at_ d l i:=by
 unfold at_;by_cases e:i=l.length
 ·subst e; rw [if_pos rfl,Af,Fh (Ce _),Ob]; rfl
 ·rw [if_neg e];by_cases h:i<l.length
  ·rw [Af,Af,Cv h]
  ·rw [Af,Af,C5 aC,C5 aA]
structure BInv (G:Q->Prop) (vars:List ByteArray) (real W:Nat) (done:List RowT) (t:Tb):Prop where
 nr:t.rows.length=done.length
 nb:t.basis.length=done.length
 nc:t.cost.length=W
 rowW:∀ r ∈ t.rows,r.length=W
 okr:∀ r ∈ t.rows,∀ q ∈ r,G q
 okc:∀ q ∈ t.cost,G q
 vals:∀ i,i<done.length->∀ j,qv (at_ q0 (Bj t i) j)=rowX vars real W done i j
 costs:∀ j,qv (at_ q0 t.cost j)=if j<real\/j=W - 1 then - Simp.sum done.length (fun i=>rowX vars real W done i j) else 0
 bas:∀ i,i<done.length->at_ 0 t.basis i=real+i
 flips:t.flip=done.map D7
structure Gl (vars:List ByteArray) (r:RowT):Prop where
 c64:i64 r.2.1
 n64:∀ c ∈ r.1,i64 c.2
 mem:∀ c ∈ r.1,c.1 ∈ vars
 dis:(r.1.map fun c=>idxV vars c.1).Pairwise (·≠·)
section
variable {F:Fld} {G:Q->Prop} {fit:Rat->Prop} {vars:List ByteArray} {real W:Nat} {z:Q}
theorem BInv.step (hE:F.Exact G) (hz:G z) (hz0:qv z=0) {done:List RowT} {t:Tb} (h:BInv G vars real W done t) {r:RowT} (hr:Gl vars r) (hv:2*vars.length<=real) (b9:real+done.length<W - 1) (hs:r.2.2=false->2*vars.length+neqs done<real)
  (ha:(rowF F z vars real W done.length (2*vars.length+neqs done) r).2=false) (hcf:(costL F real W 0 t.cost (rowF F z vars real W done.length (2*vars.length+neqs done) r).1).2=false) (fl:Bool) :
  BInv G vars real W (done++[r]) { t with rows:=t.rows++[(rowF F z vars real W done.length (2*vars.length+neqs done) r).1],cost:=(costL F real W 0 t.cost (rowF F z vars real W done.length (2*vars.length+neqs done) r).1).1,basis:=t.basis++[real+done.length],flip:=t.flip++[D7 r],fl:=fl }:=by
 obtain ⟨a1,a2,a3⟩:=Amt hE hz hz0 hr.c64 (fun c hc=>⟨hr.n64 c hc,hr.mem c hc⟩) hv b9 (fun e=>by have:=hs e; omega) ha;obtain ⟨c1,c2⟩:=Aez hE (by rw [h.nc,a1]) h.okc a2 hcf;refine ⟨by simp [h.nr],by simp [h.nb],by rw [Xz]; exact h.nc,fun q hq=>?_,fun q hq=>?_,c1,fun i hi j=>?_,fun j=>?_,fun i hi=>?_,by simp [h.flips]⟩
 ·rcases C3.1 hq with hq|hq
  ·exact h.rowW q hq
  ·rw [F4.1 hq]; exact a1
 ·rcases C3.1 hq with hq|hq
  ·exact h.okr q hq
  ·rw [F4.1 hq]; exact a2
 ·show qv (at_ q0 (at_ [] (t.rows++[_]) i) j)=_;rw [Aju,h.nr];by_cases e:i=done.length
  ·subst e; rw [if_pos rfl,a3,Age]
  ·rw [if_neg e,Agf cN];exact h.vals i cN j
 ·rw [c2,a3,h.costs,Fm];by_cases e:j<real\/j=W - 1
  ·rw [if_pos e,if_pos e,if_pos e,Cm,Ou,Simp.sum,Age];rw [Simp.sum_congr (g:=fun i=>rowX vars real W done i j) fun i hi=>Agf hi];grind
  ·rw [if_neg e,if_neg e,if_neg e]
 ·rw [Aju,h.nb];by_cases e:i=done.length
  ·subst e; rw [if_pos rfl]
  ·rw [if_neg e];exact h.bas i cN
theorem Acl:∀ {l:List RowT} {i sl:Nat} {t:Tb},(begS F z vars real W l i sl t).fl=false->t.fl=false
 | [],_,_,_,h=>h
 | r :: l,i,sl,t,h=>by
  rw [begS] at h;have h1:=Acl h;simp only [Fv] at h1;exact h1.1.1
theorem Ajx (hE:F.Exact G) (hz:G z) (hz0:qv z=0) (hv:2*vars.length<=real):∀ {rest done:List RowT} {t:Tb},(∀ r ∈ rest,Gl vars r)->2*vars.length+neqs (done++rest)<=real->real+(done++rest).length<W->BInv G vars real W done t->(begS F z vars real W rest done.length (2*vars.length+neqs done) t).fl=false ->
  BInv G vars real W (done++rest) (begS F z vars real W rest done.length (2*vars.length+neqs done) t)
 | [],done,t,_,_,_,h,_=>by rw [Fo]; exact h
 | r :: rest,done,t,hr,hq,hw,h,hf=>by
  rw [begS] at hf ⊢;have h1:=Acl hf;simp only [Fv] at h1;have l7:2*vars.length+neqs done+((if r.2.2=true then 0 else 1)+neqs rest)<=real:=by rw [H2,neqs] at hq; omega
  have hw':real+done.length+(rest.length+1)<W:=by simp at hw; omega
  have st:=h.step hE hz hz0 (hr r (Ct ..)) hv aA (fun e=>Za37) h1.1.2 h1.2 ((t.fl || (rowF F z vars real W done.length (2*vars.length+neqs done) r).2) || (costL F real W 0 t.cost (rowF F z vars real W done.length (2*vars.length+neqs done) r).1).2);have e1:(if r.2.2=true then 2*vars.length+neqs done else 2*vars.length+neqs done+1)=2*vars.length+neqs (done++[r]):=by
   rw [H2,neqs,neqs]; split <;> omega
  have e2:done.length+1=(done++[r]).length:=by simp
  have e3:done++r :: rest=(done++[r])++rest:=by simp
  rw [e1,e2] at hf ⊢;rw [e3] at hq hw ⊢;exact Ajx hE hz hz0 hv (fun r' h'=>hr r' (Cq _ h')) hq hw st hf
structure Gb (M:Nat) (r:RowT):Prop where
 one:1<=M
 con:r.2.1.natAbs<=M
 cof:∀ c ∈ r.1,c.2.natAbs<=M
theorem Kf {M:Nat} (r:RowT) {n:Int} (h:n.natAbs<=M):(∃ w:Int,sgR r*((n:Int):Rat)=((w:Int):Rat)/\w.natAbs<=M)/\∃ w:Int,-(sgR r*((n:Int):Rat))=((w:Int):Rat)/\w.natAbs<=M:=by
 unfold sgR;split
 ·exact ⟨⟨-n,by rw [Oa]; grind,aA⟩,⟨n,aK,h⟩⟩
 ·exact ⟨⟨n,aK,h⟩,⟨-n,by rw [Oa]; grind,aA⟩⟩
theorem Agd {M i slack:Nat} {r:RowT} (hr:Gl vars r) (hs:Gb M r) (j:Nat):∃ w:Int,rowR vars real W i slack r j=((w:Int):Rat)/\w.natAbs<=M:=by
 have h1:=hs.one;unfold rowR;split
 ·exact (Kf r hs.con).2
 ·split
  ·exact ⟨1,rfl,aW⟩
  ·split
   ·obtain ⟨w,e,h⟩:=(Kf (M:=M) r (n:=1) aW).1;exact ⟨w,by rw [<- e,kL]; grind,h⟩
   ·have hc:∀ k,(cofI vars r.1 k).natAbs<=M:=fun k=>by
     rcases Aex (vars:=vars) (k:=k) (cs:=r.1) with h|⟨c,h2,h3,-⟩
     ·rw [h]; simp
     ·rw [<- h3]; exact hs.cof c h2
    rcases Nat.mod_two_eq_zero_or_one j with h|h
    ·have e:j=2*(j / 2):=aA
     rw [e,(Hk hr.dis _).1];exact (Kf r (hc _)).1
    ·have e:j=2*(j / 2)+1:=aA
     rw [e,(Hk hr.dis _).2];exact (Kf r (hc _)).2
theorem Y6 {M:Nat} {f:Nat->Rat} : ∀ {n:Nat},(∀ i,i<n->∃ w:Int,f i=((w:Int):Rat)/\w.natAbs<=M)->∃ w:Int,Simp.sum n f=((w:Int):Rat)/\w.natAbs<=n*M
 | 0,_=>⟨0,rfl,by simp⟩
 | n+1,h=>by
  obtain ⟨w,e,hw⟩:=Y6 (n:=n) fun i hi=>h i aA;obtain ⟨u,e2,hu⟩:=h n aA;exact ⟨w+u,by rw [Simp.sum,e,e2,kH],by rw [I9]; omega⟩
theorem Yx {M:Nat} {l:List RowT} (hl:∀ r ∈ l,Gl vars r/\Gb M r) (i j:Nat):∃ w:Int,rowX vars real W l i j=((w:Int):Rat)/\w.natAbs<=M:=by
 unfold rowX;cases h:nth l i with
 | none=>exact ⟨0,rfl,by simp⟩
 | some r =>
  have:=hl r (Aj h);exact Agd this.1 this.2 j
theorem Aes (hE:F.Exact G) (hT:F.Total G fit) (hz:G z) (hz0:qv z=0) (hv:2*vars.length<=real) {M B:Nat} (ey:∀ w:Int,w.natAbs<=B->fit ((w:Int):Rat)):∀ {rest done:List RowT} {t:Tb},(∀ r ∈ done++rest,Gl vars r/\Gb M r)->((done++rest).length+1)*M<=B->2*vars.length+neqs (done++rest)<=real->real+(done++rest).length<W->BInv G vars real W done t->t.fl=false ->
  (begS F z vars real W rest done.length (2*vars.length+neqs done) t).fl=false
 | [],done,t,_,_,_,_,_,hf=>hf
 | r :: rest,done,t,hr,hB,hq,hw,h,hf=>by
  obtain ⟨r1,r2⟩:=hr r (by simp);have hM:M<=B:=Fp (Nat.le_mul_of_pos_left M (S8 _)) hB;have hw':real+done.length+(rest.length+1)<W:=by simp at hw; omega
  have l7:2*vars.length+neqs done+((if r.2.2=true then 0 else 1)+neqs rest)<=real:=by rw [H2,neqs] at hq; omega
  have fz:∀ n:Int,n.natAbs<=M->fit (sgR r*((n:Int):Rat))/\fit (0 - sgR r*((n:Int):Rat)):=fun n hn=>by
   obtain ⟨⟨w,e,hw⟩,u,e2,hu⟩:=Kf r hn;refine ⟨by rw [e]; exact ey w aA,?_⟩;rw [show (0:Rat) - sgR r*((n:Int):Rat)=-(sgR r*((n:Int):Rat)) by grind,e2];exact ey u aA
  have f1:=Ap1 hE hT hz hz0 (vars:=vars) (real:=real) (W:=W) (i:=done.length) (slack:=2*vars.length+neqs done) r1.c64 (fun c hc=>⟨r1.n64 c hc,fz c.2 (r2.cof c hc)⟩) (fz _ r2.con);obtain ⟨a1,a2,a3⟩:=Amt hE hz hz0 r1.c64 (fun c hc=>⟨r1.n64 c hc,r1.mem c hc⟩) hv aA (fun e=>Za37) f1;have u7:(done.length+1)*M<=B:=Fp (F6 M (by simp)) hB;have f2:(costL F real W 0 t.cost (rowF F z vars real W done.length (2*vars.length+neqs done) r).1).2=false:=by
   refine Aaf hT h.okc a2 fun j=>?_;rw [a3,h.costs];obtain ⟨u,e2,hu⟩:=Agd (real:=real) (W:=W) (i:=done.length) (slack:=2*vars.length+neqs done) r1 r2 j;split
   ·obtain ⟨w,e,hw⟩:=Y6 (M:=M) (n:=done.length) (f:=fun i=>rowX vars real W done i j) fun i _=>Yx (fun r dz=>hr r (by simp [dz])) i j;rw [e,e2];rw [show -((w:Int):Rat) - ((u:Int):Rat)=((-w - u:Int):Rat) by rw [kK,Oa]];refine ey _ ?_;rw [I9] at u7;omega
   ·rw [e2,show (0:Rat) - ((u:Int):Rat)=((-u:Int):Rat) by rw [Oa]; grind];exact ey _ aA
  have st:=h.step hE hz hz0 r1 hv aA (fun e=>Za37) f1 f2 ((t.fl || (rowF F z vars real W done.length (2*vars.length+neqs done) r).2) || (costL F real W 0 t.cost (rowF F z vars real W done.length (2*vars.length+neqs done) r).1).2);have e1:(if r.2.2=true then 2*vars.length+neqs done else 2*vars.length+neqs done+1)=2*vars.length+neqs (done++[r]):=by
   rw [H2,neqs,neqs]; split <;> omega
  have e2:done.length+1=(done++[r]).length:=by simp
  have e3:done++r :: rest=(done++[r])++rest:=by simp
  rw [begS,e1,e2];rw [e3] at hq hw hr hB;exact Aes hE hT hz hz0 hv ey hr hB hq hw st (by simp only [hf,f1,f2]; rfl)
theorem Z1 (hE:F.Exact G) {l:List RowT} (hr:∀ r ∈ l,Gl vars r) (hf:(B1 F l vars false).fl=false):BInv G vars (2*vars.length+neqs l) (2*vars.length+neqs l+l.length+1) l (B1 F l vars false):=by
 unfold B1 at hf ⊢;have h0:=Acl hf;simp only [N2] at h0;have w:=hE.whole 0 aD h0;refine Ajx hE w.1 w.2 (I6 _ _) (rest:=l) (done:=[]) hr (by simp) (by simp) ?_ hf;exact Ya0g
theorem Ag9 (hE:F.Exact G) (hT:F.Total G fit) {l:List RowT} {M B:Nat} (ey:∀ w:Int,w.natAbs<=B->fit ((w:Int):Rat)) (hr:∀ r ∈ l,Gl vars r/\Gb M r) (hB:(l.length+1)*M<=B):(B1 F l vars false).fl=false:=by
 have h0:=hT.whole 0 aD;have w:=hE.whole 0 aD h0;unfold B1;refine Aes hE hT w.1 w.2 (I6 _ _) ey (rest:=l) (done:=[]) hr hB (by simp) (by simp) ?_ (by simp only [h0]; rfl);exact Ya0g
end
def linV (v:ByteArray->Rat):List (ByteArray × Int)->Rat
 | []=>0
 | c :: cs=>((c.2:Int):Rat)*v c.1+linV v cs
def valR (v:ByteArray->Rat) (r:RowT):Rat:=linV v r.1+((r.2.1:Int):Rat)
def Sat (v:ByteArray->Rat) (l:List RowT):Prop:=∀ r ∈ l,valR v r<=0/\(r.2.2=true->valR v r=0)
def rwA (l:List RowT) (i:Nat):RowT:=at_ ([],0,true) l i
def sysY (vars:List ByteArray) (l:List RowT):Simp.Sys:=⟨l.length,vars.length,fun i k=>((cofI vars (rwA l i).1 k:Int):Rat),fun i=>(((rwA l i).2.1:Int):Rat),fun i=>(rwA l i).2.2⟩
theorem Am8 {vars:List ByteArray} (v:Nat->Rat):∀ {cs:List (ByteArray × Int)},(∀ c ∈ cs,c.1 ∈ vars)->(cs.map fun c=>idxV vars c.1).Pairwise (·≠·)->(Simp.sum vars.length fun k=>((cofI vars cs k:Int):Rat)*v k)=linV (fun s=>v (idxV vars s)) cs
 | [],_,_=>by
  rw [Simp.sum_zero fun k _=>by show ((0:Int):Rat)*_=0; rw [Rat.intCast_zero]; grind]; rfl
 | c :: cs,hm,hp=>by
  have nj:=(Pq (hm c (Ct ..))).2;rw [Cn,Ia] at hp;have ih:=Am8 v (fun c' h=>hm c' (Cq _ h)) hp.2;have hz:cofI vars cs (idxV vars c.1)=0:=T8 fun c' h=>(hp.1 _ (F9.2 ⟨c',h,rfl⟩)).symm;have e:∀ k,((cofI vars (c :: cs) k:Int):Rat)*v k=(if k=idxV vars c.1 then ((c.2:Int):Rat)*v k else 0)+((cofI vars cs k:Int):Rat)*v k:=fun k=>by
   rw [cofI];by_cases h:idxV vars c.1=k
   ·rw [if_pos h,if_pos h.symm,<- h,hz,Rat.intCast_zero]; grind
   ·rw [if_neg h,if_neg fun h'=>h h'.symm]; grind
  rw [Simp.sum_congr fun k _=>e k,Simp.sum_add,ih,Simp.sum_one nj]; rfl
theorem W0 {v v':ByteArray->Rat} : ∀ {cs:List (ByteArray × Int)},(∀ c ∈ cs,v c.1=v' c.1)->linV v cs=linV v' cs
 | [],_=>rfl
 | c :: cs,h=>by rw [linV,linV,h c (Ct ..),W0 fun c' h'=>h c' (Cq _ h')]
theorem Aik {v v':ByteArray->Rat} {r:RowT} (h:∀ c ∈ r.1,v c.1=v' c.1):valR v r=valR v' r:=by unfold valR; rw [W0 h]
theorem Am9 {vars:List ByteArray} {l:List RowT} (hr:∀ r ∈ l,Gl vars r) {i:Nat} (hi:i<l.length) (v:Nat->Rat):(sysY vars l).val v i=valR (fun s=>v (idxV vars s)) (rwA l i):=by
 have h:Gl vars (rwA l i):=hr _ (Ef (d:=([],0,true)) hi);unfold Simp.Sys.val valR;show Simp.sum vars.length _+_=_;rw [<- Am8 v h.mem h.dis]; rfl
theorem Amv {vars:List ByteArray} {l:List RowT} (hr:∀ r ∈ l,Gl vars r):(∃ v,(sysY vars l).holds v)↔∃ v,Sat v l:=by
 constructor
 ·rintro ⟨v,hv⟩;refine ⟨fun s=>v (idxV vars s),fun r h=>?_⟩;obtain ⟨i,hi⟩:=List.getElem?_of_mem h;have b6:=(F5.1 hi).1;have hx:=hv i b6;have e:rwA l i=r:=by unfold rwA at_; rw [Af,hi]; rfl
  rw [Am9 hr b6,e] at hx;refine ⟨hx.1,fun he=>hx.2 ?_⟩;show (rwA l i).2.2=true;rw [e]; exact he
 ·rintro ⟨v,hv⟩;refine ⟨fun k=>v (at_ ⟨#[]⟩ vars k),fun i hi=>?_⟩;have hm:rwA l i ∈ l:=Ef hi;have hx:=hv _ hm;rw [Am9 hr hi];have e:valR (fun s=>v (at_ ⟨#[]⟩ vars (idxV vars s))) (rwA l i)=valR v (rwA l i):=Aik fun c hc=>by
   have:=Yb ((hr _ hm).mem c hc);unfold at_; rw [this]; rfl
  rw [e]; exact hx
structure Agree (m N:Nat) (t u:Simp.Tab):Prop where
 T:∀ i j,i<m->j<N+1->t.T i j=u.T i j
 c:∀ j,j<N+1->t.c j=u.c j
 B:∀ i,i<m->t.B i=u.B i
section
variable {m N L:Nat} {t u:Simp.Tab}
theorem Agree.dotT (h:Agree m N t u) {i:Nat} (hi:i<m) (x:Nat->Rat):Simp.dot N (t.T i) x=Simp.dot N (u.T i) x:=Simp.sum_congr fun j hj=>by rw [h.T i j hi hj]
theorem Agree.dotC (h:Agree m N t u) (x:Nat->Rat):Simp.dot N t.c x=Simp.dot N u.c x:=Simp.sum_congr fun j hj=>by rw [h.c j hj]
theorem Agree.ker (h:Agree m N t u) (x:Nat->Rat):Simp.Ker m N t x↔Simp.Ker m N u x:=by
 constructor <;> intro hk i hi
 ·rw [<- h.dotT hi]; exact hk i hi
 ·rw [h.dotT hi]; exact hk i hi
theorem Agree.fit (h:Agree m N t u) (hu:Simp.Fit m N u):Simp.Fit m N t:=by
 refine ⟨fun i hi=>by rw [h.B i hi]; exact hu.lt i hi,fun i k hi hk=>?_,fun k hk=>?_⟩
 ·rw [h.B k hk,h.T i _ hi (by have:=hu.lt k hk; omega)]; exact hu.unit i k hi hk
 ·rw [h.B k hk,h.c _ (by have:=hu.lt k hk; omega)]; exact hu.free k hk
theorem Agi {L' K:Nat} {R:Nat->Nat->Rat} {b:Nat->Rat} (Rn:Simp.Run m (L+m) L' K) (ha:Agree m (L+m) (Rn.t 0) (Simp.first m L R b)) (hL:L<=L')
  (a0g:(∀ j,j<L'->0<=(Rn.t K).c j)\/∃ s,s<L'/\(Rn.t K).c s<0/\∀ i,i<m->(Rn.t K).T i s<=0) :
  (Rn.t K).c (L+m)=0↔∃ x:Nat->Rat,(∀ j,j<L->0<=x j)/\∀ i,i<m->Simp.sum L (fun j=>R i j*x j)=b i:=by
 have hf:=Rn.fits K (Ce _);have hr:=Rn.rights K (Ce _);have hk:∀ x,Simp.Ker m (L+m) (Rn.t K) x↔Simp.Ker m (L+m) (Simp.first m L R b) x:=fun x=>(Rn.ker (Cl _) (Ce _) x).trans (ha.ker x);have hc:∀ x,Simp.Ker m (L+m) (Simp.first m L R b) x->Simp.dot (L+m) (Rn.t K).c x=Simp.dot (L+m) (Simp.first m L R b).c x:=fun x hx=>by
  rw [Rn.cost (Cl _) (Ce _) ((ha.ker x).2 hx),ha.dotC]
 refine Simp.phase hf hr hk hc ?_;rcases a0g with h|⟨s,hs,hn,hp⟩
 ·exact fun j hj=>h j aA
 ·exfalso;have hLN:=Rn.LN;obtain ⟨x,hx,hlt⟩:=Simp.least_none (L:=L+m) (f:=(Rn.t K).c) hf (Ce _) hr (fun i hi hB=>by have:=hf.lt i hi; omega) aA hn hp (fun i hi hB=>by have:=hf.lt i hi; omega) (fun _ _=>rfl) 0;have hkx:=(hk x).1 hx.sol.ker;rw [hc x hkx,Simp.first_cost hkx] at hlt;have:=Simp.sum_nonneg (f:=fun i=>x (L+i)) (n:=m) fun i hi=>hx.sol.pos _ aA;grind
end
theorem Abk {l:List RowT} {i:Nat} (hi:i<l.length) (he:(rwA l i).2.2=false):neqs (l.take i)<neqs l:=by
 have h1:=D4 (Tz (d:=([],0,true)) hi);have h2:l=l.take (i+1)++l.drop (i+1):=(Ir _ _).symm;have h3:neqs l=neqs (l.take (i+1))+neqs (l.drop (i+1)):=by rw [<- H2,<- h2]
 have pg:(at_ ([],0,true) l i:RowT).2.2=false:=he;rw [h1,H2,neqs,neqs,pg] at h3;simp at h3;omega
theorem Al6 {l:List RowT} {i k:Nat} (h:i<=k):neqs (l.take i)<=neqs (l.take k):=by
 have h2:l.take k=(l.take k).take i++(l.take k).drop i:=(Ir _ _).symm;rw [h2,H2,kV,Nat.min_eq_left h];omega
theorem Apm {l:List RowT} {i k:Nat} (hi:i<l.length) (hk:k<l.length) (h1:(rwA l i).2.2=false) (h2:(rwA l k).2.2=false) (h:neqs (l.take i)=neqs (l.take k)):i=k:=by
 have key:∀ i k,i<l.length->(rwA l i).2.2=false->i<k->neqs (l.take i)<neqs (l.take k):=fun i k hi he hik=>by
  have s1:=D4 (Tz (d:=([],0,true)) hi);have h3:neqs (l.take (i+1))=neqs (l.take i)+1:=by
   have pg:(at_ ([],0,true) l i:RowT).2.2=false:=he;rw [s1,H2,neqs,neqs,pg]; simp
  have:=Al6 (l:=l) (show i+1<=k by omega);omega
 rcases Sr i k with h'|h'|h'
 ·have:=key i k hi h1 h'; omega
 ·exact h'
 ·have:=key k i hk h2 h'; omega
section
variable {vars:List ByteArray} {l:List RowT}
theorem Ny {real W i j:Nat} (hi:i<l.length):rowX vars real W l i j=rowR vars real W i (2*vars.length+neqs (l.take i)) (rwA l i) j:=by
 unfold rowX;rw [Tz (d:=([],0,true)) hi]; rfl
theorem Ui {G:Q->Prop} {t:Tb} (hr:∀ r ∈ l,Gl vars r) (h:BInv G vars (2*vars.length+neqs l) (2*vars.length+neqs l+l.length+1) l t) :
  Agree l.length (2*vars.length+neqs l+l.length) (tabV t) (Simp.first l.length (2*vars.length+neqs l) (rowX vars (2*vars.length+neqs l) (2*vars.length+neqs l+l.length+1) l) fun i=>rowX vars (2*vars.length+neqs l) (2*vars.length+neqs l+l.length+1) l i (2*vars.length+neqs l+l.length)):=by
 refine ⟨fun i j hi hj=>?_,fun j hj=>?_,fun i hi=>?_⟩
 ·show qv (at_ q0 (Bj t i) j)=if j<2*vars.length+neqs l then _ else if j<2*vars.length+neqs l+l.length then (if j=2*vars.length+neqs l+i then 1 else 0) else _
  rw [h.vals i hi];split
  ·rfl
  ·rename_i h1;have ho:=hr _ (Ef (d:=([],0,true)) hi);split
   ·rename_i h2;rw [Ny hi];unfold rowR;rw [if_neg aA];split
    ·rfl
    ·rw [if_neg (fun h'=>by have:=Abk hi h'.1; omega)];exact T9 ho.mem aA
   ·have:j=2*vars.length+neqs l+l.length:=aA
    rw [this]
 ·show qv (at_ q0 t.cost j)=if j<2*vars.length+neqs l then _ else if j<2*vars.length+neqs l+l.length then 0 else _
  rw [h.costs];split
  ·split
   ·rfl
   ·rw [if_neg aA];have:j=2*vars.length+neqs l+l.length:=aA
    rw [this]
  ·rw [if_neg aA,if_pos aA]
 ·exact h.bas i hi
theorem Ar9 (hr:∀ r ∈ l,Gl vars r):Simp.Cols (sysY vars l) (2*vars.length+neqs l) (fun i=>sgR (rwA l i)) (fun i=>2*vars.length+neqs (l.take i)) (rowX vars (2*vars.length+neqs l) (2*vars.length+neqs l+l.length+1) l) fun i=>rowX vars (2*vars.length+neqs l) (2*vars.length+neqs l+l.length+1) l i (2*vars.length+neqs l+l.length):=by
 have ho:∀ i,i<l.length->Gl vars (rwA l i):=fun i hi=>hr _ (Ef (d:=([],0,true)) hi);refine ⟨fun i hi=>?_,I6 _ _,fun i k hi hk=>?_,fun i k hi hk=>?_,fun i j hi h1 h2=>?_,fun i hi he=>?_,fun i k hi hk h1 h2 h3=>?_,fun i hi=>?_⟩
 ·unfold sgR; split <;> grind
 ·have xj:k<vars.length:=hk;rw [Ny hi];unfold rowR;rw [if_neg aA,if_neg aA,if_neg (fun h'=>aA)];exact (Hk (ho i hi).dis k).1
 ·have xj:k<vars.length:=hk;rw [Ny hi];unfold rowR;rw [if_neg aA,if_neg aA,if_neg (fun h'=>aA)];exact (Hk (ho i hi).dis k).2
 ·have qe:2*vars.length<=j:=h1;rw [Ny hi];unfold rowR;rw [if_neg aA,if_neg aA];show _=if (rwA l i).2.2=false/\j=2*vars.length+neqs (l.take i) then _ else 0
  split
  ·rfl
  ·exact T9 (ho i hi).mem qe
 ·have:=Abk hi he;exact ⟨I6 _ _,aA⟩
 ·exact Apm hi hk h1 h2 aA
 ·rw [Ny hi];unfold rowR;rw [if_pos aA]; rfl
theorem Rz {i:Nat} (hi:i<l.length):0<=rowX vars (2*vars.length+neqs l) (2*vars.length+neqs l+l.length+1) l i (2*vars.length+neqs l+l.length):=by
 rw [Ny hi];unfold rowR;rw [if_pos aA];unfold sgR;split
 ·rename_i h;have:(0:Rat)<(((rwA l i).2.1:Int):Rat):=Ot.2 h;grind
 ·rename_i h;have:¬ (0:Rat)<(((rwA l i).2.1:Int):Rat):=fun h'=>h (Ot.1 h');grind
variable {F:Fld} {G:Q->Prop}
theorem BInv.tok {real W N:Nat} {t:Tb} (h:BInv G vars real W l t) (hW:W=N+1):TOk G l.length N t:=⟨h.nr,h.nb,by rw [h.nc,hW],fun r hr=>by rw [h.rowW r hr,hW],h.okr,h.okc⟩
theorem Acm:(B1 F l vars false).real=2*vars.length+neqs l:=T2.1
theorem Aj1 {t:Tb} (hr:∀ r ∈ l,Gl vars r) (h:BInv G vars (2*vars.length+neqs l) (2*vars.length+neqs l+l.length+1) l t):∃ R:Simp.Run l.length (2*vars.length+neqs l+l.length) (2*vars.length+neqs l) 0,R.t 0=tabV t:=by
 have ha:=Ui hr h;exact ⟨Simp.Run.none (ha.fit (Simp.first_fit _ _ _ _)) (I6 _ _) (fun i hi=>by
  rw [ha.T i _ hi aA];show 0<=if 2*vars.length+neqs l+l.length<2*vars.length+neqs l then _ else if 2*vars.length+neqs l+l.length<2*vars.length+neqs l+l.length then _ else _
  rw [if_neg aA,if_neg aA];exact Rz hi),rfl⟩
theorem Aj0 (hE:F.Exact G) (hr:∀ r ∈ l,Gl vars r) (hb0:F.stop=true\/(B1 F l vars false).fl=false) (hs:Safe F G l.length (2*vars.length+neqs l+l.length) (2*vars.length+neqs l) (tabV (B1 F l vars false))) {n:Nat} (hn:(2*vars.length+neqs l+l.length) ^ l.length+1<=n) :
  ∃ b t',Jo F n (B1 F l vars false)=some (b,t')/\((F.stop=true/\t'.fl=true)\/(t'.fl=false/\TOk G l.length (2*vars.length+neqs l+l.length) t'/\∃ K,∃ R:Simp.Run l.length (2*vars.length+neqs l+l.length) (2*vars.length+neqs l) K,R.t 0=tabV (B1 F l vars false)/\R.t K=tabV t' /\
   Agree l.length (2*vars.length+neqs l+l.length) (R.t 0) (Simp.first l.length (2*vars.length+neqs l) (rowX vars (2*vars.length+neqs l) (2*vars.length+neqs l+l.length+1) l) fun i=>rowX vars (2*vars.length+neqs l) (2*vars.length+neqs l+l.length+1) l i (2*vars.length+neqs l+l.length)) /\
   ((∀ j,j<2*vars.length+neqs l->0<=(tabV t').c j)\/∃ s,s<2*vars.length+neqs l/\(tabV t').c s<0/\∀ i,i<l.length->(tabV t').T i s<=0))):=by
 cases hf:(B1 F l vars false).fl with
 | true =>
  rcases hb0 with aj|h
  ·obtain ⟨n',rfl⟩:∃ n',n=n'+1:=⟨n - 1,aA⟩;exact ⟨_,_,Wr aj hf,.inl ⟨aj,hf⟩⟩
  ·rw [hf] at h; cases h
 | false =>
  have hb:=Z1 hE hr hf;obtain ⟨R,h0⟩:=Aj1 hr hb;obtain ⟨b,t',h1,h2⟩:=Ae1 hE hs n R h0 h0 (hb.tok rfl) Acm hf aA;refine ⟨b,t',h1,?_⟩;rcases h2 with h2|⟨h3,h4,K,R',h5,h6,h7,h8⟩
  ·exact .inl h2
  ·refine .inr ⟨h3,h4,K,R',h5,h6,by rw [h5]; exact Ui hr hb,?_⟩;cases b with
   | true=>exact .inl (h7 rfl)
   | false=>exact .inr (h8 rfl)
theorem Aap (hE:F.Exact G) {m N:Nat} {t:Tb} (h:TOk G m N t):Hz t=true↔(tabV t).c N=0:=by
 have g:=h.okc _ (Ef (d:=q0) (k:=N) (l:=t.cost) (by rw [h.cost]; omega));unfold Hz;rw [h.cost,jB,beq_iff_eq,M0 (hE.pos _ g)]; rfl
theorem Ah2 (hE:F.Exact G) (hr:∀ r ∈ l,Gl vars r) {t':Tb} {K:Nat} (ht:TOk G l.length (2*vars.length+neqs l+l.length) t') (R:Simp.Run l.length (2*vars.length+neqs l+l.length) (2*vars.length+neqs l) K) (hK:R.t K=tabV t')
  (ha:Agree l.length (2*vars.length+neqs l+l.length) (R.t 0) (Simp.first l.length (2*vars.length+neqs l) (rowX vars (2*vars.length+neqs l) (2*vars.length+neqs l+l.length+1) l) fun i=>rowX vars (2*vars.length+neqs l) (2*vars.length+neqs l+l.length+1) l i (2*vars.length+neqs l+l.length)))
  (a0g:(∀ j,j<2*vars.length+neqs l->0<=(tabV t').c j)\/∃ s,s<2*vars.length+neqs l/\(tabV t').c s<0/\∀ i,i<l.length->(tabV t').T i s<=0):Hz t'=true↔∃ v,Sat v l:=by
 rw [Aap hE ht,<- Amv hr,<- (Ar9 hr).solve,<- hK];rw [<- hK] at a0g;exact Agi R ha (Ce _) a0g
end
theorem Amr {vars:List ByteArray} {r:RowT} (h:A1 r.1 r.2.1=0) (hm:∀ c ∈ r.1,c.1 ∈ vars):Gl vars r/\Gb 1000000000000 r:=by
 obtain ⟨h1,h2⟩:=Aj6 h;have h3:=Aj5 h;refine ⟨⟨aD,fun c hc=>by have:=(h2 c hc).1; unfold i64; omega,hm,?_⟩,⟨aA,h1,fun c hc=>(h2 c hc).1⟩⟩;have key:∀ (cs:List (ByteArray × Int)),IncC cs->(∀ c ∈ cs,c.1 ∈ vars)->(cs.map fun c=>idxV vars c.1).Pairwise (·≠·):=by
  intro cs;induction cs with
  | nil=>intro _ _; exact List.Pairwise.nil
  | cons c cs ih =>
   intro hi hm;have hp:=Ia.1 (show (c.1 :: cs.map (·.1)).Pairwise (fun a b=>nm a<nm b) from hi);rw [Cn];refine Ia.2 ⟨fun x hx e=>?_,ih hp.2 fun c' h=>hm c' (Cq _ h)⟩;obtain ⟨c',ew,rfl⟩:=F9.1 hx;have e1:=Yb (hm c (Ct ..));have e2:=Yb (hm c' (Cq _ ew));rw [e,e2] at e1;simp only [Ba] at e1;have:=hp.1 c'.1 (F9.2 ⟨c',ew,rfl⟩);rw [e1] at this;exact Ya4a
 exact key _ h3 hm
theorem Rc {l:List RowT} {vars:List ByteArray} (h:G1 l=0) (hm:∀ r ∈ l,∀ c ∈ r.1,c.1 ∈ vars):∀ r ∈ l,Gl vars r/\Gb 1000000000000 r:=fun r hr=>Amr (Lm h r hr) (hm r hr)
theorem Ahg {G:Q->Prop} {vars:List ByteArray} {M:Nat} {l:List RowT} {t:Tb} (hr:∀ r ∈ l,Gl vars r/\Gb M r) (h:BInv G vars (2*vars.length+neqs l) (2*vars.length+neqs l+l.length+1) l t):Ints l.length (2*vars.length+neqs l+l.length) M (l.length*M) (tabV t):=by
 refine ⟨fun i j hi hj=>?_,fun j hj=>?_⟩
 ·obtain ⟨w,e,hw⟩:=Yx (real:=2*vars.length+neqs l) (W:=2*vars.length+neqs l+l.length+1) hr i j;exact ⟨w,by rw [<- e]; exact h.vals i hi j,hw⟩
 ·show ∃ z:Int,qv (at_ q0 t.cost j)=_/\_;rw [h.costs];split
  ·obtain ⟨w,e,hw⟩:=Y6 (M:=M) (n:=l.length) (f:=fun i=>rowX vars (2*vars.length+neqs l) (2*vars.length+neqs l+l.length+1) l i j) fun i _=>Yx hr i j;exact ⟨-w,by rw [e,Oa],aA⟩
  ·exact ⟨0,rfl,by simp⟩
theorem Z4 {m M:Nat} (hm:m<=13) (hM:M=1000000000000):2*(bndX m M (m*M)*bndX m M (m*M))<10000 ^ 200:=by
 subst hM;have:∀ m,m<14->2*(bndX m 1000000000000 (m*1000000000000)*bndX m 1000000000000 (m*1000000000000))<10000 ^ 200:=aX
 exact this m aA
theorem Ak4 {w:Int} (h:w.natAbs<=14000000000000):Jp ((w:Int):Rat):=by
 refine ⟨w,1,aA,by rw [kL]; grind,?_,?_⟩
 ·have:14000000000000<10000 ^ 200:=aX
  omega
 ·decide +kernel
theorem Am1 {l:List RowT} {vars:List ByteArray} (hl:l.length<=13) (hr:∀ r ∈ l,Gl vars r/\Gb 1000000000000 r):(B1 WW.qF l vars false).fl=false/\Safe WW.qF gW l.length (2*vars.length+neqs l+l.length) (2*vars.length+neqs l) (tabV (B1 WW.qF l vars false)):=by
 have hf:=Ag9 H8 Qo (fun w hw=>Ak4 hw) hr (F6 1000000000000 (show l.length+1<=14 by omega));exact ⟨hf,As5 (M:=1000000000000) (Mc:=l.length*1000000000000) aA (Ahg hr (Z1 H8 (fun r h=>(hr r h).1) hf)) (Z4 hl rfl)⟩
structure An0 (G:Q->Prop) (vars:List ByteArray) (l:List RowT) (t':Tb):Prop where
 fl:t'.fl=false
 ok:TOk G l.length (2*vars.length+neqs l+l.length) t'
 run:∃ K,∃ R:Simp.Run l.length (2*vars.length+neqs l+l.length) (2*vars.length+neqs l) K,R.t K=tabV t' /\
   Agree l.length (2*vars.length+neqs l+l.length) (R.t 0) (Simp.first l.length (2*vars.length+neqs l) (rowX vars (2*vars.length+neqs l) (2*vars.length+neqs l+l.length+1) l) fun i=>rowX vars (2*vars.length+neqs l) (2*vars.length+neqs l+l.length+1) l i (2*vars.length+neqs l+l.length))
 stop:(∀ j,j<2*vars.length+neqs l->0<=(tabV t').c j)\/∃ s,s<2*vars.length+neqs l/\(tabV t').c s<0/\∀ i,i<l.length->(tabV t').T i s<=0
def kMax (vars:List ByteArray) (l:List RowT):Nat:=(2*vars.length+neqs l+l.length) ^ l.length+1
theorem Ame {F:Fld} {G:Q->Prop} (hE:F.Exact G) {l:List RowT} {vars:List ByteArray} (hr:∀ r ∈ l,Gl vars r) (hb0:F.stop=true\/(B1 F l vars false).fl=false) (hs:Safe F G l.length (2*vars.length+neqs l+l.length) (2*vars.length+neqs l) (tabV (B1 F l vars false))) {K:Nat} (hK:kMax vars l<=K) :
  ∃ b t',Jo F K (B1 F l vars false)=some (b,t')/\((F.stop=true/\t'.fl=true)\/An0 G vars l t'):=by
 obtain ⟨b,t',h1,h2⟩:=Aj0 hE hr hb0 hs hK;refine ⟨b,t',h1,?_⟩;rcases h2 with h2|⟨h3,h4,K',R,-,h5,h6,h7⟩
 ·exact .inl h2
 ·exact .inr ⟨h3,h4,⟨K',R,h5,h6⟩,h7⟩
theorem An0.feas {F:Fld} {G:Q->Prop} (hE:F.Exact G) {l:List RowT} {vars:List ByteArray} (hr:∀ r ∈ l,Gl vars r) {t':Tb} (h:An0 G vars l t'):Hz t'=true↔∃ v,Sat v l:=by
 obtain ⟨K,R,h1,h2⟩:=h.run;exact Ah2 hE hr h.ok R h1 h2 h.stop
def Aim (F:Fld) (G:Q->Prop) (vars:List ByteArray) (l:List RowT) (a:Ans):Prop :=
 ∃ t',An0 G vars l t'/\a.f=Hz t'/\a.pt=(if Hz t'=true then (Gk F t').1.map F.rat else [])/\a.nu=(if Hz t'=true then [] else (Jq F t').1.map F.rat)/\(F.stop=true->Hz t'=true->(Gk F t').2=false)/\(F.stop=true->Hz t'=false->(Jq F t').2=false)
theorem Xa {F:Fld} {G:Q->Prop} (hE:F.Exact G) {l:List RowT} {vars:List ByteArray} (hr:∀ r ∈ l,Gl vars r) (hb0:F.stop=true\/(B1 F l vars false).fl=false) (hs:Safe F G l.length (2*vars.length+neqs l+l.length) (2*vars.length+neqs l) (tabV (B1 F l vars false))) {K:Nat} (hK:kMax vars l<=K) :
  ∃ a ok,K8 F K l vars false=some (a,ok)/\a.least=none/\(F.stop=false->ok=true)/\(ok=true->Aim F G vars l a):=by
 obtain ⟨b,t',h1,h2⟩:=Ame hE hr hb0 hs hK;unfold K8;rw [h1];simp only;rcases h2 with ⟨s1,s2⟩|h2
 ·rw [if_pos (by rw [s1,s2]; rfl)];exact ⟨_,_,rfl,rfl,fun h=>(by rw [s1] at h; cases h),fun h=>aR⟩
 ·rw [if_neg (by rw [h2.fl]; simp)];cases hf:Hz t' with
  | true =>
   rw [if_pos rfl];refine ⟨_,_,rfl,rfl,fun h=>by rw [h]; rfl,fun h=>⟨t',h2,hf.symm,by rw [if_pos hf],by rw [if_pos hf],fun h' _=>?_,fun _ h'=>(by rw [hf] at h'; cases h')⟩⟩;rw [h'] at h;simpa [h2.fl] using h
  | false =>
   rw [if_neg (by simp)];refine ⟨_,_,rfl,rfl,fun h=>by rw [h]; rfl,fun h=>⟨t',h2,hf.symm,by rw [hf]; rfl,by rw [hf]; rfl,fun _ h'=>(by rw [hf] at h'; cases h'),fun h' _=>?_⟩⟩;rw [h'] at h;simpa [h2.fl] using h
theorem Aot {l:List RowT} {vars:List ByteArray} (hl:l.length<=13) (hr:∀ r ∈ l,Gl vars r/\Gb 1000000000000 r) {K:Nat} (hK:kMax vars l<=K) :
  ∃ a,askN K l vars=some a/\a.least=none/\(Aim QQ.qF okS vars l a\/Aim WW.qF gW vars l a):=by
 have bz:∀ r ∈ l,Gl vars r:=fun r h=>(hr r h).1;obtain ⟨a,ok,h1,h2,h3,h4⟩:=Xa Af5 bz (.inl rfl) As4 hK;unfold askN;rw [h1];cases ok with
 | true=>exact ⟨a,rfl,h2,.inl (h4 rfl)⟩
 | false =>
  obtain ⟨s1,s2⟩:=Am1 hl hr;obtain ⟨a',ok',k1,k2,k3,k4⟩:=Xa H8 bz (.inr s1) s2 hK;simp only [k1,C7];exact ⟨a',rfl,k2,.inr (k4 (k3 rfl))⟩
theorem Aop {l:List RowT} {vars:List ByteArray} (hr:∀ r ∈ l,Gl vars r) {a:Ans} (h:Aim QQ.qF okS vars l a\/Aim WW.qF gW vars l a):a.f=true↔∃ v,Sat v l:=by
 rcases h with ⟨t',h1,h2,-⟩|⟨t',h1,h2,-⟩
 ·rw [h2]; exact h1.feas Af5 hr
 ·rw [h2]; exact h1.feas H8 hr
end
section
open Go Go.Proofs.Tryz
theorem Asg {l:List RowT} (hl:l.length<=13) (h0:sysE l=0):∃ b:Bool,(b=true↔∃ v,Sat v l)/\∀ S tk k,cL prog 23 [Au l] S tk k=some (.tup [.bool b,.int 0],S,tk,k):=by
 obtain ⟨f1,f2,f3,f4⟩:=L9 h0;have hr:=Rc (vars:=Ee l) f4 Tp;obtain ⟨a,h1,h2,h3⟩:=Aot hl hr (Ce _);refine ⟨a.f,Aop (fun r h=>(hr r h).1) h3,fun S tk k=>?_⟩;have:=R6 S tk k l (fun r h=>Za40) (Aff f4) _ a (fun _=>⟨h1,h2⟩);rw [h0,if_pos rfl] at this;exact this
end
section
open Go Go.Proofs.Tryz
set_option maxHeartbeats 2000000
set_option maxRecDepth 100000
def tS (a:Q):Bool:=smB a.1 && smB a.2
def tN (a:Q):Int:=if tS a=true then a.1 else 0
def tD (a:Q):Int:=if tS a=true then a.2 else 0
def tO (a:Q):Bool:=tS a && decide (0<a.2)
section
variable (S:List Ent) (tk:List Nat) (k:Nat)
theorem Jr (a:Q) (ha:okW a):cL prog 166 [.agg (ceW a)] S tk k=some (.tup [.int (tN a),.int (tD a),.bool (tO a)],S,tk,k):=by
 obtain ⟨l1,l2⟩:=Gm ha;have h0:0<=a.2:=by
  rcases ha with h|h
  ·have:=h.pos; omega
  ·rw [h]; exact Int.le_refl 0
 obtain ⟨an,ad⟩:=a;simp only at l1 l2 h0;simp only [ceW,digA];refine opP func166 ntmps166 (hp3:=rfl) ?_;by_cases je:(dig an.natAbs).length<=2
 ·have b1:smB an=true:=dN
  have d1:decide (((dig an.natAbs).length:Int) > 2)=false:=aC
  by_cases gd:(dig ad.natAbs).length<=2
  ·have b2:smB ad=true:=dN
   have d2:decide (((dig ad.natAbs).length:Int) > 2)=false:=aC
   have e1:tN (an,ad)=an:=by simp [tN,tS,b1,b2]
   have e2:tD (an,ad)=ad:=by simp [tD,tS,b1,b2]
   have e3:tO (an,ad)=decide (0<ad):=by simp [tO,tS,b1,b2]
   rw [e1,e2,e3];have x1:=Ng b1;have x2:=Ng b2;have d3:=Hv (n:=(dig an.natAbs).length) aA;have d4:=Hv (n:=(dig ad.natAbs).length) aA;simp (maxSteps:=10^6)+contextual(disch:=try exact dqd)only[ev1,simprocAttr,Ca,Bm,Cb,results166,d1,d2,d3];refine loop1 (P:=prog) (fun x st=>st.T.length=66/\(x.1<=(dig an.natAbs).length)/\(x.2=((topV (dig an.natAbs) x.1:Nat):Int))/\getT st.T 1=.ref 0 0 0/\getT st.T 5=.int x.2/\getT st.T 6=.int 0/\getT st.T 7=.int ((x.1:Int) - 1)/\st.S=[⟨0,[.prim (.bool (decide (an<0))),.frz ((dig an.natAbs).map digC) .unk,.prim (.bool (decide (ad<0))),.frz ((dig ad.natAbs).map digC) .unk]⟩]) (fun x=>x.1) (fun x=>.tup [.int an,.int ad,.bool (decide (0<ad))]) ((dig an.natAbs).length,(0:Int)) ?_ ?_;case refine_2=>exact ⟨rfl,Ce _,by rw [Y8]; rfl,rfl,rfl,rfl,rfl,rfl⟩
   rintro ⟨n,v⟩ ⟨T,S',tk',n'⟩ ⟨hl,hn,hv,e1,e5,e6,e7,eS⟩ IH;simp only at hn hv e1 e5 e6 e7 eS;subst eS;obtain ⟨g,hg,hT⟩:=Ar hl;rw [hg] at e1 e5 e6 e7;subst hT;clear hg hl;subst hv;by_cases eh:n=0
   ·subst eh;have g2:decide (((0:Nat):Int) - 1 >= 0)=false:=rfl;have ht:topV (dig an.natAbs) 0=an.natAbs:=eZ
    rw [ht] at e5;simp (maxSteps:=10^6)+contextual(disch:=try exact dqd)only[ev1,simprocAttr,Ca,Bm,Cb,results166,e1,e5,e6,e7,g2,d4];refine loop1 (P:=prog) (fun x st=>st.T.length=66/\(x.1<=(dig ad.natAbs).length)/\(x.2=((topV (dig ad.natAbs) x.1:Nat):Int))/\getT st.T 1=.ref 0 0 0/\getT st.T 5=.int (an.natAbs:Nat)/\getT st.T 6=.int x.2/\getT st.T 8=.int ((x.1:Int) - 1)/\st.S=[⟨0,[.prim (.bool (decide (an<0))),.frz ((dig an.natAbs).map digC) .unk,.prim (.bool (decide (ad<0))),.frz ((dig ad.natAbs).map digC) .unk]⟩]) (fun x=>x.1) (fun x=>.tup [.int an,.int ad,.bool (decide (0<ad))]) ((dig ad.natAbs).length,(0:Int)) ?_ ?_;case refine_2=>exact ⟨rfl,Ce _,by rw [Y8]; rfl,rfl,rfl,rfl,rfl,rfl⟩
    rintro ⟨n,v⟩ ⟨T,S',tk',n'⟩ ⟨hl,hn,hv,e1,e5,e6,e8,eS⟩ IH;simp only at hn hv e1 e5 e6 e8 eS;subst eS;obtain ⟨g,hg,hT⟩:=Ar hl;rw [hg] at e1 e5 e6 e8;subst hT;clear hg hl;subst hv;by_cases eh:n=0
    ·subst eh;have g2:decide (((0:Nat):Int) - 1 >= 0)=false:=rfl;have ht:topV (dig ad.natAbs) 0=ad.natAbs:=eZ
     have hz:((ad.natAbs:Nat):Int)=ad:=aA
     rw [ht,hz] at e6;have g3:decide (ad > 0)=decide (0<ad):=rfl;by_cases hneg:an<0
     ·have g4:decide (an<0)=true:=aZ
      have v3:Cd.wrap (0 - ((an.natAbs:Nat):Int))=an:=aS
      have v4:Cd.wrap (-((an.natAbs:Nat):Int))=an:=aS
      simp (maxSteps:=10^6)+contextual(disch:=try exact dqd)only[ev1,simprocAttr,Ca,Bm,Cb,results166,e1,e5,e6,e8,g2,g3,g4,v3,v4]
     ·have g4:decide (an<0)=false:=aZ
      have hz2:((an.natAbs:Nat):Int)=an:=aA
      rw [hz2] at e5;simp (maxSteps:=10^6)+contextual(disch:=try exact dqd)only[ev1,simprocAttr,Ca,Bm,Cb,results166,e1,e5,e6,e8,g2,g3,g4]
    ·have g2:decide ((n:Int) - 1 >= 0)=true:=aC
     have hi:(n:Int) - 1=((n - 1:Nat):Int):=aA
     obtain ⟨x,hx⟩:=Ac (show n - 1<(dig ad.natAbs).length by omega);have hx':=B0 hx;have hxk:=Df (Bf ad.natAbs) hx;have aj:=Ql (Bf ad.natAbs) hx;rw [show n - 1+1=n by omega] at aj;have hb1:=Rk (a:=ad.natAbs) (k:=n);have hb2:=Rk (a:=ad.natAbs) (k:=n - 1);have hp:=Hv (n:=n - 1) aA;have hw1:Cd.wrap (10000*(topV (dig ad.natAbs) n:Int))=10000*(topV (dig ad.natAbs) n:Int):=Aa aD;have hw2:Cd.wrap (10000*(topV (dig ad.natAbs) n:Int)+x)=((topV (dig ad.natAbs) (n - 1):Nat):Int):=by
      rw [Aa aD]; omega
     rw [hi] at e8 g2;simp (maxSteps:=10^6)+contextual(disch:=try exact dqd)only[ev1,simprocAttr,Ca,Bm,Cb,results166,e1,e5,e6,e8,g2,hx',hp,hw1,hw2];exact IH (n - 1,((topV (dig ad.natAbs) (n - 1):Nat):Int)) _ aF ⟨rfl,aE,rfl,aJ,aJ,aJ,aJ,aJ⟩
   ·have g2:decide ((n:Int) - 1 >= 0)=true:=aC
    have hi:(n:Int) - 1=((n - 1:Nat):Int):=aA
    obtain ⟨x,hx⟩:=Ac (show n - 1<(dig an.natAbs).length by omega);have hx':=B0 hx;have hxk:=Df (Bf an.natAbs) hx;have aj:=Ql (Bf an.natAbs) hx;rw [show n - 1+1=n by omega] at aj;have hb1:=Rk (a:=an.natAbs) (k:=n);have hb2:=Rk (a:=an.natAbs) (k:=n - 1);have hp:=Hv (n:=n - 1) aA;have hw1:Cd.wrap (10000*(topV (dig an.natAbs) n:Int))=10000*(topV (dig an.natAbs) n:Int):=Aa aD;have hw2:Cd.wrap (10000*(topV (dig an.natAbs) n:Int)+x)=((topV (dig an.natAbs) (n - 1):Nat):Int):=by
     rw [Aa aD]; omega
    rw [hi] at e7 g2;simp (maxSteps:=10^6)+contextual(disch:=try exact dqd)only[ev1,simprocAttr,Ca,Bm,Cb,results166,e1,e5,e6,e7,g2,hx',hp,hw1,hw2];exact IH (n - 1,((topV (dig an.natAbs) (n - 1):Nat):Int)) _ aF ⟨rfl,aE,rfl,aJ,aJ,aJ,aJ,aJ⟩
  ·have b2:smB ad=false:=dN
   have d2:decide (((dig ad.natAbs).length:Int) > 2)=true:=aC
   have e1:tN (an,ad)=0:=by simp [tN,tS,b1,b2]
   have e2:tD (an,ad)=0:=by simp [tD,tS,b1,b2]
   have e3:tO (an,ad)=false:=by simp [tO,tS,b1,b2]
   rw [e1,e2,e3];simp (maxSteps:=10^6)+contextual(disch:=try exact dqd)only[ev1,simprocAttr,Ca,Bm,Cb,results166,d1,d2]
 ·have b1:smB an=false:=dN
  have d1:decide (((dig an.natAbs).length:Int) > 2)=true:=aC
  have e1:tN (an,ad)=0:=by simp [tN,tS,b1]
  have e2:tD (an,ad)=0:=by simp [tD,tS,b1]
  have e3:tO (an,ad)=false:=by simp [tO,tS,b1]
  rw [e1,e2,e3];simp (maxSteps:=10^6)+contextual(disch:=try exact dqd)only[ev1,simprocAttr,Ca,Bm,Cb,results166,d1]
theorem N9 (a:Q):cL prog 141 [.agg (ceW a)] S tk k=some (.int (sgn a),S,tk,k):=by
 obtain ⟨an,ad⟩:=a;simp only [ceW,digA];refine opP func141 ntmps141 (hp3:=rfl) ?_;unfold sgn;simp only;by_cases h:an<0
 ·have d1:decide (an<0)=true:=aL
  rw [if_pos h];simp (maxSteps:=10^6)+contextual(disch:=try exact dqd)only[ev1,simprocAttr,Ca,Bm,Cb,results141,d1]
 ·have d1:decide (an<0)=false:=aL
  rw [if_neg h];have hl:dig an.natAbs=[]↔an.natAbs=0:=Ej;by_cases h0:an=0
  ·subst h0;rw [if_neg aA];have d2:(((dig 0).length:Int) == 0)=true:=by rw [B3]; rfl
   exact Ya1l
  ·rw [if_pos aA];have d2:(((dig an.natAbs).length:Int) == 0)=false:=by
    have:dig an.natAbs≠[]:=fun e=>by have:=hl.1 e; omega
    exact Ya1j
   exact Ya1l
theorem Qr (n d:Int) (hn:n.natAbs<=100000000000000000) (hd:d.natAbs<=100000000000000000) (dd:d≠0):cL prog 167 [.int n,.int d] S tk k=some (.agg (ceW (lowN n d,lowD n d)),S,tk,k):=by
 refine opP func167 ntmps167 (hp3:=rfl) ?_;obtain ⟨N,hN⟩:∃ N,N=if d<0 then -n else n:=⟨_,rfl⟩
 obtain ⟨D,hD⟩:∃ D:Nat,D=d.natAbs:=⟨_,rfl⟩;obtain ⟨g,hg⟩:∃ g:Nat,g=n.natAbs.gcd d.natAbs:=⟨_,rfl⟩;have z6:N.natAbs=n.natAbs:=by subst hN; split <;> omega
 have lg:g≠0:=by have:=Iq n.natAbs (show 0<d.natAbs by omega); omega
 have f1:lowN n d=N.tdiv ((g:Nat):Int):=by unfold lowN; rw [<- hN,<- hg]
 have f2:lowD n d=((D:Nat):Int).tdiv ((g:Nat):Int):=by
  unfold lowD;rw [<- hg,<- hD,Cz aA]; rfl
 obtain ⟨res,hr⟩:∃ r:Q,r=(lowN n d,lowD n d):=⟨_,rfl⟩;rw [<- hr];rw [f1,f2] at hr;by_cases hneg:d<0
 ·have d1:decide (d<0)=true:=aZ
  have w1':Cd.wrap (0 - n)=N:=by rw [hN,if_pos hneg,Aa aD]; omega
  have w2':Cd.wrap (0 - d)=((D:Nat):Int):=by rw [hD,Aa aD]; omega
  by_cases eh:N<0
  ·have d2:decide (N<0)=true:=cH
   have w3':Cd.wrap (0 - N)=((N.natAbs:Nat):Int):=aS
   simp (maxSteps:=10^6)+contextual(disch:=try exact dqd)only[ev1,simprocAttr,Ca,Bm,Cb,results167,d1,w1',w2',d2,w3'];refine loop1 (P:=prog) (fun x st=>st.T.length=34/\(x.1.gcd x.2=g)/\(x.1<=100000000000000000)/\(x.2<=100000000000000000)/\getT st.T 0=.int N/\getT st.T 1=.int (D:Nat)/\getT st.T 4=.ref 0 0 0/\getT st.T 5=.int (x.1:Nat)/\getT st.T 6=.int (x.2:Nat)/\st.S=[⟨0,[.prim (.bool false),.frz [] .nilc,.prim (.bool false),.frz [] .nilc]⟩]) (fun x=>x.2) (fun x=>.agg (ceW res)) (N.natAbs,D) ?_ ?_;case refine_2=>exact ⟨rfl,cW,aA,aA,rfl,rfl,rfl,rfl,rfl,rfl⟩
   rintro ⟨x,y⟩ ⟨T,S',tk',n'⟩ ⟨hl,fu,hx,hy,e0,e1,e4,e5,e6,eS⟩ IH;simp only at fu hx hy e0 e1 e4 e5 e6 eS;subst eS;obtain ⟨g,hg,hT⟩:=Ar hl;rw [hg] at e0 e1 e4 e5 e6;subst hT;clear hg hl;by_cases h0:y=0
   ·subst h0;have c1:(((0:Nat):Int) != 0)=false:=rfl;rw [Nd] at fu;subst fu;have hz:¬ ((x:Int)=0):=aA
    have v1:=A8 N x;have v2:=A8 (D:Int) x;have w5:Cd.wrap (N.tdiv (x:Int))=N.tdiv (x:Int):=Aa aD;have w6:Cd.wrap ((D:Int).tdiv (x:Int))=(D:Int).tdiv (x:Int):=Aa aD;have hA S tk k:=N5 S tk k (N.tdiv (x:Int)) aD;exact Yaa
   ·exact Ya6
  ·have d2:decide (N<0)=false:=cH
   simp (maxSteps:=10^6)+contextual(disch:=try exact dqd)only[ev1,simprocAttr,Ca,Bm,Cb,results167,d1,w1',w2',d2];obtain ⟨M,hM⟩:∃ M:Nat,N=M:=⟨N.natAbs,aA⟩;exact Ya4
 ·have d1:decide (d<0)=false:=aZ
  have a09:n=N:=by rw [hN,if_neg hneg]
  have hDd:d=(D:Int):=aA
  subst a09;subst hDd;by_cases eh:n<0
  ·have d2:decide (n<0)=true:=cH
   have w3':Cd.wrap (0 - n)=((n.natAbs:Nat):Int):=aS
   simp (maxSteps:=10^6)+contextual(disch:=try exact dqd)only[ev1,simprocAttr,Ca,Bm,Cb,results167,d1,d2,w3'];refine loop1 (P:=prog) (fun x st=>st.T.length=34/\(x.1.gcd x.2=g)/\(x.1<=100000000000000000)/\(x.2<=100000000000000000)/\getT st.T 0=.int n/\getT st.T 1=.int (D:Nat)/\getT st.T 4=.ref 0 0 0/\getT st.T 5=.int (x.1:Nat)/\getT st.T 6=.int (x.2:Nat)/\st.S=[⟨0,[.prim (.bool false),.frz [] .nilc,.prim (.bool false),.frz [] .nilc]⟩]) (fun x=>x.2) (fun x=>.agg (ceW res)) (n.natAbs,D) ?_ ?_;case refine_2=>exact ⟨rfl,cW,aA,aA,rfl,rfl,rfl,rfl,rfl,rfl⟩
   rintro ⟨x,y⟩ ⟨T,S',tk',n'⟩ ⟨hl,fu,hx,hy,e0,e1,e4,e5,e6,eS⟩ IH;simp only at fu hx hy e0 e1 e4 e5 e6 eS;subst eS;obtain ⟨g,hg,hT⟩:=Ar hl;rw [hg] at e0 e1 e4 e5 e6;subst hT;clear hg hl;by_cases h0:y=0
   ·subst h0;have c1:(((0:Nat):Int) != 0)=false:=rfl;rw [Nd] at fu;subst fu;have hz:¬ ((x:Int)=0):=aA
    have v1:=A8 n x;have v2:=A8 (D:Int) x;have w5:Cd.wrap (n.tdiv (x:Int))=n.tdiv (x:Int):=Aa aD;have w6:Cd.wrap ((D:Int).tdiv (x:Int))=(D:Int).tdiv (x:Int):=Aa aD;have hA S tk k:=N5 S tk k (n.tdiv (x:Int)) aD;exact Yaa
   ·exact Ya6
  ·have d2:decide (n<0)=false:=cH
   simp (maxSteps:=10^6)+contextual(disch:=try exact dqd)only[ev1,simprocAttr,Ca,Bm,Cb,results167,d1,d2];obtain ⟨M,hM⟩:∃ M:Nat,n=M:=⟨n.natAbs,aA⟩;exact Ya4
end
end
section
open Go Go.Proofs.Tryz
set_option maxHeartbeats 2000000
set_option maxRecDepth 100000
structure Tiny (a:Q):Prop where
 n:tN a=a.1
 d:tD a=a.2
 l1:a.1.natAbs<100000000
 l2:a.2.natAbs<100000000
 pos:0<a.2
theorem Ma {a:Q} (h:tO a=true):Tiny a:=by
 simp only [tO,tS,Ch,decide_eq_true_eq] at h;have h1:tS a=true:=by simp [tS,h.1.1,h.1.2]
 exact ⟨by simp [tN,h1],by simp [tD,h1],Ng h.1.1,Ng h.1.2,h.2⟩
theorem H5 {x y:Int} (hx:x.natAbs<100000000) (hy:y.natAbs<100000000):(x*y).natAbs<=9999999800000001:=by
 rw [Im];exact Fp (O5 (show x.natAbs<=99999999 by omega) (show y.natAbs<=99999999 by omega)) aA
theorem Zd {n d:Int} (hn:n.natAbs<=100000000000000000) (hd:d.natAbs<=100000000000000000) (h0:d≠0):(wn n d).1=(lowN n d,lowD n d):=by
 have hf:=Wt hn hd h0;unfold wn resN resD;simp only [hf,if_true]
theorem Lz {a:Q} (h:Tiny a):qz a=a:=by
 have:=h.pos;unfold qz; rw [if_neg aA]
section
variable (S:List Ent) (tk:List Nat) (k:Nat)
theorem Ai9 (a b:Q) (ha:okW a) (hb:okW b):cL prog 139 [.agg (ceW a),.agg (ceW b)] S tk k=some (.agg (ceW (WW.qF.minus a b).1),S,tk,k):=by
 obtain ⟨r,hr⟩:∃ r,r=(WW.qF.minus a b).1:=⟨_,rfl⟩;rw [<- hr];simp only [WW.qF] at hr;obtain ⟨l1,l2⟩:=Gm ha;obtain ⟨l3,l4⟩:=Gm hb;obtain ⟨g1,g2⟩:=qz_n ha;obtain ⟨g3,g4⟩:=qz_n hb;have bc S tk k:=Jr S tk k a ha;have ah S tk k:=Jr S tk k b hb;obtain ⟨an,ad⟩:=a;obtain ⟨bn,bd⟩:=b;simp only at l1 l2 l3 l4 g1 g2 g3 g4;refine opP func139 ntmps139 (hp3:=rfl) ?_;cases h1:tO (an,ad) with
 | true =>
  have t1:=Ma h1;have q1:=Lz t1;have p1:=t1.pos;have m1:=t1.l1;have m2:=t1.l2;rw [h1,t1.n,t1.d] at bc;simp only at p1 m1 m2;cases h2:tO (bn,bd) with
  | true =>
   have t2:=Ma h2;have q2:=Lz t2;have p2:=t2.pos;have m3:=t2.l1;have m4:=t2.l2;rw [h2,t2.n,t2.d] at ah;simp only at p2 m3 m4;have b1:=H5 m1 m4;have b2:=H5 m3 m2;have b3:=H5 m2 m4;have hd:ad*bd≠0:=Ii aA aA;rw [q1,q2] at hr;simp only at hr;rw [Sy] at hr;have e:an*bd+-(bn*ad)=an*bd - bn*ad:=aA
   rw [e,Zd aA aA hd] at hr;have hL S tk k:=Qr S tk k (an*bd - bn*ad) (ad*bd) aA aA hd;rw [<- hr] at hL;have v1:Cd.wrap (an*bd)=an*bd:=Aa aD;have v2:Cd.wrap (bn*ad)=bn*ad:=Aa aD;have v3:Cd.wrap (an*bd - bn*ad)=an*bd - bn*ad:=Aa aD;have v4:Cd.wrap (ad*bd)=ad*bd:=Aa aD;simp only [ceW,digA] at bc ah hL ⊢;simp (maxSteps:=10^6)+contextual(disch:=try exact dqd)only[ev1,simprocAttr,Ca,Bm,Cb,results139,bc,ah,v1,v2,v3,v4,hL]
  | false =>
   rw [h2] at ah;exact Yan
 | false =>
  rw [h1] at bc;exact Yan
theorem Arp (a b:Q) (ha:okW a) (hb:okW b):cL prog 188 [.agg (ceW a),.agg (ceW b)] S tk k=some (.agg (ceW (WW.qF.times a b).1),S,tk,k):=by
 obtain ⟨r,hr⟩:∃ r,r=(WW.qF.times a b).1:=⟨_,rfl⟩;rw [<- hr];simp only [WW.qF] at hr;obtain ⟨l1,l2⟩:=Gm ha;obtain ⟨l3,l4⟩:=Gm hb;obtain ⟨g1,g2⟩:=qz_n ha;obtain ⟨g3,g4⟩:=qz_n hb;have bc S tk k:=Jr S tk k a ha;have ah S tk k:=Jr S tk k b hb;obtain ⟨an,ad⟩:=a;obtain ⟨bn,bd⟩:=b;simp only at l1 l2 l3 l4 g1 g2 g3 g4;refine opP func188 ntmps188 (hp3:=rfl) ?_;cases h1:tO (an,ad) with
 | true =>
  have t1:=Ma h1;have q1:=Lz t1;have p1:=t1.pos;have m1:=t1.l1;have m2:=t1.l2;rw [h1,t1.n,t1.d] at bc;simp only at p1 m1 m2;cases h2:tO (bn,bd) with
  | true =>
   have t2:=Ma h2;have q2:=Lz t2;have p2:=t2.pos;have m3:=t2.l1;have m4:=t2.l2;rw [h2,t2.n,t2.d] at ah;simp only at p2 m3 m4;have b1:=H5 m1 m3;have b3:=H5 m2 m4;have hd:ad*bd≠0:=Ii aA aA;rw [q1,q2] at hr;simp only at hr;rw [Zd aA aA hd] at hr;have hL S tk k:=Qr S tk k (an*bn) (ad*bd) aA aA hd;rw [<- hr] at hL;have v1:Cd.wrap (an*bn)=an*bn:=Aa aD;have v4:Cd.wrap (ad*bd)=ad*bd:=Aa aD;simp only [ceW,digA] at bc ah hL ⊢;simp (maxSteps:=10^6)+contextual(disch:=try exact dqd)only[ev1,simprocAttr,Ca,Bm,Cb,results188,bc,ah,v1,v4,hL]
  | false =>
   rw [h2] at ah;exact Yao
 | false =>
  rw [h1] at bc;exact Yao
theorem Ace (a b:Q) (ha:okW a) (hb:okW b):cL prog 179 [.agg (ceW a),.agg (ceW b)] S tk k=some (.agg (ceW (WW.qF.over a b).1),S,tk,k):=by
 obtain ⟨r,hr⟩:∃ r,r=(WW.qF.over a b).1:=⟨_,rfl⟩;rw [<- hr];simp only [WW.qF] at hr;obtain ⟨l1,l2⟩:=Gm ha;obtain ⟨l3,l4⟩:=Gm hb;obtain ⟨g1,g2⟩:=qz_n ha;obtain ⟨g3,g4⟩:=qz_n hb;have bc S tk k:=Jr S tk k a ha;have ah S tk k:=Jr S tk k b hb;obtain ⟨an,ad⟩:=a;obtain ⟨bn,bd⟩:=b;simp only at l1 l2 l3 l4 g1 g2 g3 g4;refine opP func179 ntmps179 (hp3:=rfl) ?_;cases h1:tO (an,ad) with
 | true =>
  have t1:=Ma h1;have q1:=Lz t1;have p1:=t1.pos;have m1:=t1.l1;have m2:=t1.l2;rw [h1,t1.n,t1.d] at bc;simp only at p1 m1 m2;cases h2:tO (bn,bd) with
  | true =>
   have t2:=Ma h2;have q2:=Lz t2;have p2:=t2.pos;have m3:=t2.l1;have m4:=t2.l2;rw [h2,t2.n,t2.d] at ah;simp only at p2 m3 m4;by_cases hb0:bn=0
   ·have c0:(bn != 0)=false:=by simp [hb0]
    have hJ S tk k:=Acd S tk k (decide (an<0)) (dig an.natAbs) (decide (ad<0)) (dig ad.natAbs) (decide (bn<0)) (dig bn.natAbs) (decide (bd<0)) (dig bd.natAbs) aA aA aA aA;rw [g1,g2,g3,g4] at hJ;simp only [resQ,qA,ratA,ceW,digA] at bc ah hJ ⊢;simp (maxSteps:=10^6)+contextual(disch:=try exact dqd)only[ev1,simprocAttr,Ca,Bm,Cb,results179,bc,ah,c0,hJ];rw [hr]; exact ⟨rfl,rfl,rfl,rfl⟩
   have c0:(bn != 0)=true:=by simp [hb0]
   have b1:=H5 m1 m4;have b3:=H5 m2 m3;have hd:ad*bn≠0:=Ii aA hb0;rw [q1,q2] at hr;simp only at hr;rw [Zd aA aA hd] at hr;have hL S tk k:=Qr S tk k (an*bd) (ad*bn) aA aA hd;rw [<- hr] at hL;have v1:Cd.wrap (an*bd)=an*bd:=Aa aD;have v4:Cd.wrap (ad*bn)=ad*bn:=Aa aD;simp only [ceW,digA] at bc ah hL ⊢;simp (maxSteps:=10^6)+contextual(disch:=try exact dqd)only[ev1,simprocAttr,Ca,Bm,Cb,results179,bc,ah,c0,v1,v4,hL]
  | false =>
   rw [h2] at ah;exact Yap
 | false =>
  rw [h1] at bc;exact Yap
def cmpW (a b:Q):Int:=cmpZ ((qz a).1*(qz b).2) ((qz b).1*(qz a).2)
theorem Aro (a b:Q) (ha:okW a) (hb:okW b):cL prog 178 [.agg (ceW a),.agg (ceW b)] S tk k=some (.int (cmpW a b),S,tk,k):=by
 obtain ⟨r,hr⟩:∃ r,r=cmpW a b:=⟨_,rfl⟩;rw [<- hr];unfold cmpW at hr;obtain ⟨l1,l2⟩:=Gm ha;obtain ⟨l3,l4⟩:=Gm hb;obtain ⟨g1,g2⟩:=qz_n ha;obtain ⟨g3,g4⟩:=qz_n hb;have bc S tk k:=Jr S tk k a ha;have ah S tk k:=Jr S tk k b hb;obtain ⟨an,ad⟩:=a;obtain ⟨bn,bd⟩:=b;simp only at l1 l2 l3 l4 g1 g2 g3 g4;refine opP func178 ntmps178 (hp3:=rfl) ?_;cases h1:tO (an,ad) with
 | true =>
  have t1:=Ma h1;have q1:=Lz t1;have p1:=t1.pos;have m1:=t1.l1;have m2:=t1.l2;rw [h1,t1.n,t1.d] at bc;simp only at p1 m1 m2;cases h2:tO (bn,bd) with
  | true =>
   have t2:=Ma h2;have q2:=Lz t2;have p2:=t2.pos;have m3:=t2.l1;have m4:=t2.l2;rw [h2,t2.n,t2.d] at ah;simp only at p2 m3 m4;have b1:=H5 m1 m4;have b2:=H5 m3 m2;rw [q1,q2] at hr;simp only at hr;have v1:Cd.wrap (an*bd)=an*bd:=Aa aD;have v2:Cd.wrap (bn*ad)=bn*ad:=Aa aD;unfold cmpZ at hr;simp only [ceW,digA] at bc ah ⊢;by_cases c1:an*bd<bn*ad
   ·have k1:decide (an*bd<bn*ad)=true:=by simpa using c1
    rw [if_pos c1] at hr;subst hr;simp (maxSteps:=10^6)+contextual(disch:=try exact dqd)only[ev1,simprocAttr,Ca,Bm,Cb,results178,bc,ah,v1,v2,k1]
   ·have k1:decide (an*bd<bn*ad)=false:=by simpa using c1
    rw [if_neg c1] at hr;by_cases c2:an*bd > bn*ad
    ·have k2:decide (an*bd > bn*ad)=true:=by simpa using c2
     rw [if_pos aA] at hr;exact Ya1a
    ·have k2:decide (an*bd > bn*ad)=false:=by simpa using c2
     rw [if_neg aA] at hr;exact Ya1a
  | false =>
   rw [h2] at ah;exact Yas
 | false =>
  rw [h1] at bc;exact Yas
end
end
section
open Go
def ovR (p:Q) (row:List Q):List Q:=row.map fun x=>(WW.qF.over x p).1
def zipR (f:Q):List Q->List Q->List Q
 | a :: l,b :: r=>(WW.qF.minus a (WW.qF.times f b).1).1 :: zipR f l r
 | _,_=>[]
def lsR (f:Q) (a b:List Q):List Q:=if sgn f=0 then a else zipR f a b
def rowsR (row:List Q) (c i:Nat):Nat->List (List Q)->List (List Q)
 | _,[]=>[]
 | k,r :: l=>(if k=i then r else lsR (at_ q0 r c) r row) :: rowsR row c i (k+1) l
def pivR (t:Tb) (i c:Nat):Tb :=
 { t with rows:=rowsR (ovR (at_ q0 (Bj t i) c) (Bj t i)) c i 0 (put t.rows i (ovR (at_ q0 (Bj t i) c) (Bj t i))),cost:=lsR (at_ q0 t.cost c) t.cost (ovR (at_ q0 (Bj t i) c) (Bj t i)),basis:=put t.basis i c }
def quoR (r:List Q) (c W:Nat):Q:=(WW.qF.over (at_ q0 r (W - 1)) (at_ q0 r c)).1
def V6 (basis:List Nat) (s:Int) (k bi:Nat):Bool:=decide (s<0) || (s == 0 && decide (at_ 0 basis k<at_ 0 basis bi))
def Gq (t:Tb) (c:Nat):Nat->List (List Q)->Option Nat->Option Nat
 | _,[],b=>b
 | k,r :: l,b =>
  if sgn (at_ q0 r c)<=0 then Gq t c (k+1) l b else
   match b with
   | none=>Gq t c (k+1) l (some k)
   | some bi=>Gq t c (k+1) l (if V6 t.basis (cmpW (quoR r c t.cost.length) (quoR (Bj t bi) c t.cost.length)) k bi=true then some k else some bi)
def Nb (lim:Nat):Nat->Tb->Option (Bool × Tb)
 | 0,_=>none
 | n+1,t=>match colF t.cost lim 0 with
  | none=>some (true,t)
  | some c=>match Gq t c 0 t.rows none with
   | none=>some (false,t)
   | some i=>Nb lim n (pivR t i c)
def sgI (r:RowT):Int:=if -r.2.1<0 then -1 else 1
def iQ (n:Int):Q:=(n,1)
def Gy:List (ByteArray × Int)->ByteArray->Int
 | [],_=>0
 | c :: cs,s=>if sEq c.1 s=true then c.2 else Gy cs s
def Ht (s:Int) (cs:List (ByteArray × Int)):List ByteArray->List Q
 | []=>[]
 | v :: vs=>iQ (s*Gy cs v) :: iQ (-s*Gy cs v) :: Ht s cs vs
def Yg (m i:Nat) (r:RowT) (k:Nat):Int:=if k=m+i then 1 else if k=i/\r.2.2=false then sgI r else 0
def H1 (vars:List ByteArray) (m i:Nat) (r:RowT):List Q:=Ht (sgI r) r.1 vars++(C8 (2*m)).map (fun k=>iQ (Yg m i r k))++[iQ (sgI r*-r.2.1)]
def linesR (vars:List ByteArray) (m:Nat):Nat->List RowT->List (List Q)
 | _,[]=>[]
 | i,r :: l=>H1 vars m i r :: linesR vars m (i+1) l
def colR (k:Nat):List (List Q)->Q->Q
 | [],c=>c
 | r :: l,c=>colR k l (WW.qF.minus c (at_ q0 r k)).1
def Ahd (rows:List (List Q)) (real m k:Nat):Q:=colR k rows (iQ (if real<=k/\k<real+m then 1 else 0))
def Ev (l:List RowT) (vars:List ByteArray):Tb :=
 let real:=2*vars.length+l.length
 let rows:=linesR vars l.length 0 l
 { vars:=vars.length,real:=real,rows:=rows,cost:=(C8 (real+l.length+1)).map (Ahd rows real l.length),basis:=(C8 l.length).map (real+·),flip:=l.map fun r=>decide (sgI r<0),fl:=false }
theorem Zf {f:Q} : ∀ {l r:List Q},l.length=r.length->(zipR f l r).length=l.length
 | [],[],_=>rfl
 | [],_ :: _,h=>aO
 | _ :: _,[],h=>aO
 | _ :: l,_ :: r,h=>by simp only [zipR,Ci,Zf (show l.length=r.length by simpa using h)]
theorem Abf {f:Q} {l r:List Q} (h:l.length=r.length):(lsR f l r).length=l.length:=by
 unfold lsR; split
 ·rfl
 ·exact Zf h
theorem Arb {p:Q} {l:List Q} : (ovR p l).length=l.length:=Fg _
end
section
open Go Go.Proofs.Tryz
set_option maxHeartbeats 8000000
set_option maxRecDepth 100000
section
variable {P:Program} {t:TypeId} {e:List AV} {S:List Ent} {n:Nat} {c:Cap}
theorem Ajl (h:apT P t=some 4) (hx:e.length=4) (hl:e.all leafOk=true):apO P t (.frz [] .nilc) (.frz [e] c) S n=some (.sref S.length n 0 1 4,S++[⟨n,e⟩],n+1):=by
 have hl:litC 4 (.frz [e] c)=some (1,e):=by simp [litC,hl,Db,hx]
 exact Ya1n
theorem Aoq {id ep len:Nat} {cs:List AV} (h:apT P t=some 4) (hx:e.length=4) (hl:e.all leafOk=true) (hE:entAt S id ep=some cs) (hc:cs.length=len*4) (h0:0<len) (h1:len+1<=1048576):apO P t (.sref id ep 0 len 4) (.frz [e] c) S n=some (.sref id n 0 (len+1) 4,put S id ⟨n,cs++e⟩,n+1):=by
 have hl:litC 4 (.frz [e] c)=some (1,e):=by simp [litC,hl,Db,hx]
 unfold apO;rw [h]; simp only [hl];rw [if_pos ⟨aA,dD⟩];simp only [apO2,hE];rw [if_pos ⟨trivial,h0⟩];rw [if_pos ⟨hc,by simp [roomy]; omega⟩]
end
def ohd (id ep:Nat):Nat->AV
 | 0=>.frz [] .nilc
 | k+1=>.sref id ep 0 (k+1) 4
theorem J9 {id ep k:Nat} (h:k≠0):ohd id ep k=.sref id ep 0 k 4:=by cases k with|zero=>exact absurd rfl h|succ k=>rfl
def oent (ep:Nat) (l:List Q):List Ent:=if l=[] then [] else [⟨ep,flat ceW l⟩]
theorem Ak6 {l:List Q} {q:Q} : flat ceW (l++[q])=flat ceW l++ceW q:=by unfold flat; simp
def Atp (S:List Ent) (tk:List Nat) (ida epa:Nat) (f:Q) (a b:List Q) (r:Rs):Prop :=
 ∃ S' k' id ep,r=(.sref id ep 0 a.length 4,S',tk,k')/\S.length<=S'.length/\(∀ j,j<S.length->nth S' j=nth S j)/\entAt S' id ep=some (flat ceW (lsR f a b))/\((id=ida/\ep=epa)\/S.length<=id)
theorem Ant {f:Q} {a b:List Q} {k:Nat} {x y:Q} (hx:nth a k=some x) (hy:nth b k=some y):zipR f (a.take (k+1)) (b.take (k+1))=zipR f (a.take k) (b.take k)++[(WW.qF.minus x (WW.qF.times f y).1).1]:=by
 induction k generalizing a b with
 | zero =>
  cases a with
  | nil=>simp [nth] at hx
  | cons u a =>
   cases b with
   | nil=>simp [nth] at hy
   | cons v b =>
    simp only [nth,Ba] at hx hy;subst hx; subst hy; rfl
 | succ k ih =>
  cases a with
  | nil=>simp [nth] at hx
  | cons u a =>
   cases b with
   | nil=>simp [nth] at hy
   | cons v b =>
    simp only [Ga,zipR,Co];rw [ih (a:=a) (b:=b) hx hy]
section
variable (S:List Ent) (tk:List Nat) (k:Nat)
theorem Aeh (ida epa idb epb:Nat) (f:Q) (a b:List Q) (hf:okW f) (hA:entAt S ida epa=some (flat ceW a)) (hB:entAt S idb epb=some (flat ceW b)) (hab:a.length=b.length) (h0:0<a.length) (hW:a.length<=1000000) (ha:okL WW.qF a) (hb:okL WW.qF b) :
  ∃ r,cL prog 180 [.sref ida epa 0 a.length 4,.sref idb epb 0 a.length 4,.agg (ceW f)] S tk k=some r/\Atp S tk ida epa f a b r:=by
 obtain ⟨Φ,hΦ⟩:∃ Φ,Φ=Atp S tk ida epa f a b:=⟨_,rfl⟩;rw [<- hΦ];have hs S tk k:=N9 S tk k f;refine opM func180 ntmps180 ?_;by_cases h1:sgn f=0
 ·have c1:(sgn f == 0)=true:=aW
  simp (maxSteps:=10^6)+contextual(disch:=try exact dqd)only[evg1,simprocAttr,Ca,Bm,Cb,results180,hs,c1,Al,Av,D2,D1,WW.tkQ,WW.puQ,xfs];rw [hΦ];refine ⟨_,_,ida,epa,rfl,by simp,fun j hj=>Bh hj,?_,.inl ⟨rfl,rfl⟩⟩;unfold lsR; rw [if_pos h1];exact Ad hA
 have c1:(sgn f == 0)=false:=aW
 simp (maxSteps:=10^6)+contextual(disch:=try exact dqd)only[evg1,simprocAttr,Ca,Bm,Cb,results180,hs,c1,Al,Av,D2,D1,WW.tkQ,WW.puQ,xfs];have hoe:∀ e,oent e (zipR f (a.take 0) (b.take 0))=[]:=fun e=>by simp [oent,zipR]
 refine D8 (P:=prog) (fun x st=>st.T.length=34/\(x.2.2.1<=a.length)/\(x.1=S++[(⟨k,ceW f⟩:Ent)]++oent x.2.2.2 (zipR f (a.take x.2.2.1) (b.take x.2.2.1)))/\getT st.T 0=.sref ida epa 0 a.length 4/\getT st.T 1=.sref idb epb 0 a.length 4/\getT st.T 5=.ref S.length k 0/\getT st.T 7=ohd (S.length+1) x.2.2.2 x.2.2.1/\getT st.T 14=.int (a.length:Nat)/\getT st.T 15=.int (x.2.2.1:Nat)/\st.S=x.1/\st.tk=tk/\st.n=x.2.1) (fun x=>a.length - x.2.2.1) ((S++[(⟨k,ceW f⟩:Ent)]),(k+1),0,0) ?_ ?_;case refine_2=>exact ⟨rfl,Cl _,by rw [hoe,Fo],rfl,rfl,rfl,rfl,rfl,rfl,rfl,rfl,rfl⟩
 rintro ⟨SS,n1,j,e⟩ ⟨T,S',tk',n'⟩ ⟨hl,hj,zn,e0,e1,e5,e7,e14,e15,eS,eT,eN⟩ IH;simp only at hj zn e0 e1 e5 e7 e14 e15 eS eT eN;subst eS eT eN;obtain ⟨g,hg,hT⟩:=Ar hl;rw [hg] at e0 e1 e5 e7 e14 e15;subst hT;clear hg hl;have ck:∀ x:Ent,(S++[x]).length=S.length+1:=fun x=>by simp
 have hzl:(zipR f (a.take j) (b.take j)).length=j:=by rw [Zf (by simp [hab])]; simp; omega
 by_cases hja:j<a.length
 ·have c2:decide ((j:Int)<(a.length:Int))=true:=by simpa using hja
  have s5:Cd.wrap ((j:Int)+1)=((j+1:Nat):Int):=aQ
  obtain ⟨x,hx⟩:=Ac hja;obtain ⟨y,hy⟩:=Ac (show j<b.length by omega);have ox:=ha x (Aj hx);have oy:=hb y (Aj hy);have fc:=Aq (ce:=ceW) Al hx;have hyt:=Aq (ce:=ceW) Al hy;have i9:=Ant (f:=f) hx hy;obtain ⟨p,hp⟩:∃ p,p=(WW.qF.times f y).1:=⟨_,rfl⟩;have op:okW p:=by rw [hp]; exact WW.Dp.times _ _ hf oy
  obtain ⟨d,hd⟩:∃ d,d=(WW.qF.minus x p).1:=⟨_,rfl⟩;have od:okW d:=by rw [hd]; exact WW.Dp.minus _ _ ox op
  rw [<- hp,<- hd] at i9;have hM S tk k:=Arp S tk k f y hf oy;have hD S tk k:=Ai9 S tk k x p ox op;rw [<- hp] at hM;rw [<- hd] at hD;have eA:entAt S' ida epa=some (flat ceW a):=by rw [zn,Cy]; exact Ad hA
  have eB:entAt S' idb epb=some (flat ceW b):=by rw [zn,Cy]; exact Ad hB
  have eF:entAt S' S.length k=some (ceW f):=by rw [zn]; exact Ad Bk
  have bp:apT prog 78=some 4:=aM
  by_cases ve:j=0
  ·have a2r:S'=S++[(⟨k,ceW f⟩:Ent)]:=by rw [zn,ve,hoe,Fo]
   have ev:∀ c S n,apO prog 78 (.frz [] .nilc) (.frz [ceW d] c) S n=some (.sref S.length n 0 (j+1) 4,S++[⟨n,ceW d⟩],n+1):=fun c S n=>by rw [ve]; exact Ajl bp (Al d) (Av d)
   rw [show ohd (S.length+1) e j=.frz [] .nilc by rw [ve]; rfl] at e7;have hSl:S'.length=S.length+1:=by rw [a2r,ck]
   simp (maxSteps:=10^6)+contextual(disch:=try exact dqd)only[evg1,simprocAttr,Ca,Bm,Cb,results180,e0,e1,e5,e7,e14,e15,c2,s5,hja,eA,eB,eF,fc,hyt,hM,hD,ev,hSl,Al,Av,D2,D1,WW.tkQ,WW.puQ,xfs];have gf:zipR f (a.take (j+1)) (b.take (j+1))=[d]:=by rw [i9,ve]; rfl
   exact IH (S'++[(⟨n',ceW d⟩:Ent)],n'+1,j+1,n') _ aF ⟨rfl,aE,by rw [gf,a2r]; simp [oent,flat],bW⟩
  ·have a1w:zipR f (a.take j) (b.take j)≠[]:=fun h=>by rw [h] at hzl; simp at hzl; omega
   have a1x:oent e (zipR f (a.take j) (b.take j))=[⟨e,flat ceW (zipR f (a.take j) (b.take j))⟩]:=if_neg a1w;rw [a1x] at zn;rw [J9 ve] at e7;have eO:entAt S' (S.length+1) e=some (flat ceW (zipR f (a.take j) (b.take j))):=by rw [zn]; exact An (ck _)
   have ev c n:=Aoq (S:=S') (n:=n) (c:=c) (id:=S.length+1) (ep:=e) (len:=j) bp (Al d) (Av d) eO (by rw [Uk Al,hzl]) aA aA;simp (maxSteps:=10^6)+contextual(disch:=try exact dqd)only[evg1,simprocAttr,Ca,Bm,Cb,results180,e0,e1,e5,e7,e14,e15,c2,s5,hja,eA,eB,eF,fc,hyt,hM,hD,ev,Al,Av,D2,D1,WW.tkQ,WW.puQ,xfs];have gf:oent n' (zipR f (a.take (j+1)) (b.take (j+1)))=[⟨n',flat ceW (zipR f (a.take j) (b.take j))++ceW d⟩]:=by rw [i9]; unfold oent; rw [if_neg (by simp),Ak6]
   exact IH (put S' (S.length+1) ⟨n',flat ceW (zipR f (a.take j) (b.take j))++ceW d⟩,n'+1,j+1,n') _ aF ⟨rfl,aE,by rw [gf,zn,Da (ck _)],bW⟩
 ·have c2:decide ((j:Int)<(a.length:Int))=false:=by simpa using hja
  have qo:j=a.length:=aA
  subst qo;rw [Fb,hab,Fb] at zn;rw [J9 aA] at e7;simp (maxSteps:=10^6)+contextual(disch:=try exact dqd)only[evg1,simprocAttr,Ca,Bm,Cb,results180,e0,e1,e5,e7,e14,e15,c2];have a1w:zipR f a b≠[]:=fun h=>by
   have:=Zf (f:=f) hab;rw [h] at this; simp at this; omega
  have a1x:oent e (zipR f a b)=[⟨e,flat ceW (zipR f a b)⟩]:=if_neg a1w;rw [a1x] at zn;rw [hΦ,zn];refine ⟨_,_,S.length+1,e,rfl,by simp,fun j hj=>?_,?_,.inr aA⟩
  ·rw [Bh (by rw [ck]; omega),Bh hj]
  ·unfold lsR; rw [if_neg h1];exact An (ck _)
end
end
section
open Go
structure AptR (I:TI):Prop where
 tr:I.it≠I.ir
 tc:I.it≠I.ic
 tb:I.it≠I.ib
 rc:I.ir≠I.ic
 rb:I.ir≠I.ib
 cb:I.ic≠I.ib
 row:∀ p ∈ I.ids,p.1≠I.it/\p.1≠I.ir/\p.1≠I.ic/\p.1≠I.ib
 rows:∀ i j p q,nth I.ids i=some p->nth I.ids j=some q->i≠j->p.1≠q.1
structure RTab (S:List Ent) (I:TI) (t:Tb) (vars:List ByteArray) (m:Nat) (c:Cap):Prop where
 top:entAt S I.it I.et=some [.sref I.ir I.er 0 t.rows.length 1,.sref I.ib I.eb 0 t.rows.length 1,.sref I.ic I.ec 0 t.cost.length 4,.frz (vars.map strC) .unk,.frz (t.flip.map Dc) c,intA m]
 nids:I.ids.length=t.rows.length
 rowsE:entAt S I.ir I.er=some (I.ids.map (dm t.cost.length 4))
 rowE:∀ i p r,nth I.ids i=some p->nth t.rows i=some r->entAt S p.1 p.2=some (flat ceW r)
 rowW:∀ r ∈ t.rows,r.length=t.cost.length
 costE:entAt S I.ic I.ec=some (flat ceW t.cost)
 basisE:entAt S I.ib I.eb=some (t.basis.map intA)
 nb:t.basis.length=t.rows.length
 ap:AptR I
 okr:∀ r ∈ t.rows,okL WW.qF r
 okc:okL WW.qF t.cost
 bigW:t.cost.length<=1000000
 bigM:t.rows.length<=1000000
 posM:0<t.rows.length
 posW:0<t.cost.length
def OutR (I:TI) (j:Nat):Prop:=j≠I.it/\j≠I.ir/\j≠I.ic/\j≠I.ib/\∀ p ∈ I.ids,j≠p.1
section
variable {S S':List Ent} {I:TI} {t:Tb} {vars:List ByteArray} {m:Nat} {c:Cap}
theorem RTab.lt (h:RTab S I t vars m c):I.it<S.length/\I.ir<S.length/\I.ic<S.length/\I.ib<S.length/\∀ p ∈ I.ids,p.1<S.length:=by
 refine ⟨A5 h.top,A5 h.rowsE,A5 h.costE,A5 h.basisE,fun p hp=>?_⟩;exact Yat
theorem RTab.out (h:RTab S I t vars m c) {j:Nat} (hj:S.length<=j):OutR I j:=by
 obtain ⟨h1,h2,h3,h4,h5⟩:=h.lt;exact ⟨aA,aA,aA,aA,fun p hp=>by have:=h5 p hp; omega⟩
theorem RTab.frame (h:RTab S I t vars m c) (hS:∀ j,j<S.length->¬ OutR I j->nth S' j=nth S j):RTab S' I t vars m c:=by
 obtain ⟨h1,h2,h3,h4,h5⟩:=h.lt;have k1:=hS I.it h1 fun h=>h.1 rfl;have k2:=hS I.ir h2 fun h=>h.2.1 rfl;have k3:=hS I.ic h3 fun h=>h.2.2.1 rfl;have k4:=hS I.ib h4 fun h=>h.2.2.2.1 rfl;have k5:∀ p ∈ I.ids,nth S' p.1=nth S p.1:=fun p hp=>hS p.1 (h5 p hp) fun h=>h.2.2.2.2 p hp rfl;exact ⟨by rw [Ab k1]; exact h.top,h.nids,by rw [Ab k2]; exact h.rowsE,fun i p r hp hr=>by rw [Ab (k5 p (Aj hp))]; exact h.rowE i p r hp hr,h.rowW,by rw [Ab k3]; exact h.costE,by rw [Ab k4]; exact h.basisE,h.nb,h.ap,h.okr,h.okc,h.bigW,h.bigM,h.posM,h.posW⟩
theorem RTab.app (h:RTab S I t vars m c) (L:List Ent):RTab (S++L) I t vars m c:=h.frame fun j hj _=>Bh hj
theorem RTab.row (h:RTab S I t vars m c) {i:Nat} {p:Nat × Nat} {r':List Q} (hp:nth I.ids i=some p) (hi:i<t.rows.length) (hl:r'.length=t.cost.length) (ho:okL WW.qF r') (hS:∀ j,j≠p.1->j<S.length->nth S' j=nth S j) (he:entAt S' p.1 p.2=some (flat ceW r')) :
  RTab S' I { t with rows:=put t.rows i r' } vars m c:=by
 obtain ⟨h1,h2,h3,h4,h5⟩:=h.lt;have ke:=h.ap.row p (Aj hp);have key:∀ j e,j≠p.1->j<S.length->entAt S' j e=entAt S j e:=fun j e a b=>Ab (hS j a b);refine ⟨?_,by rw [Ak]; exact h.nids,?_,fun j q r hq ae=>?_,fun r ae=>?_,?_,?_,Za61,h.ap,fun r ae=>?_,h.okc,h.bigW,by rw [Ak]; exact h.bigM,by rw [Ak]; exact h.posM,h.posW⟩
 ·rw [key _ _ ke.1.symm h1,Ak]; exact h.top
 ·rw [key _ _ ke.2.1.symm h2]; exact h.rowsE
 ·rw [J8 hi] at ae;by_cases e:j=i
  ·exact Ya1q
  ·rw [if_neg e] at ae;rw [key _ _ (h.ap.rows j i q p hq hp e) (h5 q (Aj hq))];exact Ya2m
 ·exact Ya20
 ·rw [key _ _ ke.2.2.1.symm h3]; exact h.costE
 ·rw [key _ _ ke.2.2.2.symm h4]; exact h.basisE
 ·rcases Bw ae with rfl|ae
  ·exact ho
  ·exact h.okr r ae
theorem RTab.setRow (h:RTab S I t vars m c) {i:Nat} {q:Nat × Nat} {r':List Q} (hi:i<t.rows.length) (hl:r'.length=t.cost.length) (ho:okL WW.qF r') (hq:nth I.ids i=some q\/OutR I q.1) (he:entAt S q.1 q.2=some (flat ceW r')) :
  RTab (put S I.ir ⟨I.er,put (I.ids.map (dm t.cost.length 4)) i (dm t.cost.length 4 q)⟩) { I with ids:=put I.ids i q } { t with rows:=put t.rows i r' } vars m c:=by
 obtain ⟨h1,h2,h3,h4,h5⟩:=h.lt;have hii:i<I.ids.length:=by rw [h.nids]; exact hi
 have uv:q.1≠I.it/\q.1≠I.ir/\q.1≠I.ic/\q.1≠I.ib:=by
  rcases hq with hq|hq
  ·exact h.ap.row q (Aj hq)
  ·exact ⟨hq.1,hq.2.1,hq.2.2.1,hq.2.2.2.1⟩
 have hqd:∀ j p,j≠i->nth I.ids j=some p->p.1≠q.1:=fun j p hj hp=>by
  rcases hq with hq|hq
  ·exact h.ap.rows j i p q hp hq hj
  ·exact (hq.2.2.2.2 p (Aj hp)).symm
 refine ⟨?_,by simp only [Ak]; exact h.nids,?_,fun j p r hp ae=>?_,fun r ae=>?_,?_,?_,by simp only [Ak]; exact h.nb,⟨h.ap.tr,h.ap.tc,h.ap.tb,h.ap.rc,h.ap.rb,h.ap.cb,fun p hp=>?_,fun a b p p' ha hb hab=>?_⟩,fun r ae=>?_,h.okc,h.bigW,by simp only [Ak]; exact h.bigM,by simp only [Ak]; exact h.posM,h.posW⟩
 ·rw [Ai h.ap.tr.symm]; simp only [Ak]; exact h.top
 ·rw [Ah h2,<- Nw]
 ·have ef:nth (put I.ids i q) j=some p:=hp;rw [J8 hii] at ef;rw [J8 hi] at ae;by_cases e:j=i
  ·rw [if_pos e] at ef ae;simp only [Ba] at ef ae;subst ef; subst ae;rw [Ai uv.2.1.symm]; exact he
  ·rw [if_neg e] at ef ae;rw [Ai (h.ap.row p (Aj ef)).2.1.symm]; exact h.rowE j p r ef ae
 ·exact Ya20
 ·rw [Ai h.ap.rc]; exact h.costE
 ·rw [Ai h.ap.rb]; exact h.basisE
 ·rcases Bw hp with rfl|hp
  ·exact uv
  ·exact h.ap.row p hp
 ·have ha':nth (put I.ids i q) a=some p:=ha;have zu:nth (put I.ids i q) b=some p':=hb;rw [J8 hii] at ha' zu;by_cases e:a=i
  ·rw [if_pos e] at ha';rw [if_neg (fun e2=>hab (e.trans e2.symm))] at zu;simp only [Ba] at ha';subst ha';exact (hqd b p' (fun e2=>hab (e.trans e2.symm)) zu).symm
  ·rw [if_neg e] at ha';by_cases e2:b=i
   ·rw [if_pos e2] at zu;simp only [Ba] at zu;subst zu;exact hqd a p e ha'
   ·rw [if_neg e2] at zu;exact h.ap.rows a b p p' ha' zu hab
 ·rcases Bw ae with rfl|ae
  ·exact ho
  ·exact h.okr r ae
theorem RTab.setCost (h:RTab S I t vars m c) {q:Nat × Nat} {k':List Q} (hl:k'.length=t.cost.length) (ho:okL WW.qF k') (hq:q=(I.ic,I.ec)\/OutR I q.1) (he:entAt S q.1 q.2=some (flat ceW k')) :
  RTab (put S I.it ⟨I.et,[.sref I.ir I.er 0 t.rows.length 1,.sref I.ib I.eb 0 t.rows.length 1,.sref q.1 q.2 0 t.cost.length 4,.frz (vars.map strC) .unk,.frz (t.flip.map Dc) c,intA m]⟩) { I with ic:=q.1,ec:=q.2 } { t with cost:=k' } vars m c:=by
 obtain ⟨h1,h2,h3,h4,h5⟩:=h.lt;have uv:q.1≠I.it/\I.ir≠q.1/\q.1≠I.ib/\∀ p ∈ I.ids,p.1≠q.1:=by
  rcases hq with rfl|hq
  ·exact ⟨h.ap.tc.symm,h.ap.rc,h.ap.cb,fun p hp=>(h.ap.row p hp).2.2.1⟩
  ·exact ⟨hq.1,hq.2.1.symm,hq.2.2.2.1,fun p hp=>(hq.2.2.2.2 p hp).symm⟩
 refine ⟨?_,h.nids,?_,fun j p r hp hr=>?_,fun r hr=>by rw [hl]; exact h.rowW r hr,?_,?_,h.nb,⟨h.ap.tr,uv.1.symm,h.ap.tb,uv.2.1,h.ap.rb,uv.2.2.1,fun p hp=>?_,h.ap.rows⟩,h.okr,ho,by rw [hl]; exact h.bigW,h.bigM,h.posM,by rw [hl]; exact h.posW⟩
 ·rw [Ah h1,hl]
 ·rw [Ai h.ap.tr,hl]; exact h.rowsE
 ·rw [Ai (h.ap.row p (Aj hp)).1.symm]; exact h.rowE j p r hp hr
 ·rw [Ai uv.1.symm]; exact he
 ·rw [Ai h.ap.tb]; exact h.basisE
 ·have:=h.ap.row p hp;exact ⟨this.1,this.2.1,uv.2.2.2 p hp,this.2.2.2⟩
theorem RTab.setBasis (h:RTab S I t vars m c) {i b:Nat} : RTab (put S I.ib ⟨I.eb,(put t.basis i b).map intA⟩) I { t with basis:=put t.basis i b } vars m c:=by
 obtain ⟨h1,h2,h3,h4,h5⟩:=h.lt;refine ⟨?_,h.nids,?_,fun j p r hp hr=>?_,h.rowW,?_,Ah h4,by simp only [Ak]; exact h.nb,h.ap,h.okr,h.okc,h.bigW,h.bigM,h.posM,h.posW⟩
 ·rw [Ai h.ap.tb.symm]; exact h.top
 ·rw [Ai h.ap.rb.symm]; exact h.rowsE
 ·rw [Ai (h.ap.row p (Aj hp)).2.2.2.symm]; exact h.rowE j p r hp hr
 ·rw [Ai h.ap.cb.symm]; exact h.costE
def RetR (S:List Ent) (tk:List Nat) (I:TI) (t':Tb) (vars:List ByteArray) (m:Nat) (c:Cap) (v:AV) (r:Rs):Prop :=
 ∃ S' k' I',r=(v,S',tk,k')/\S.length<=S'.length/\RTab S' I' t' vars m c/\I'.it=I.it/\I'.et=I.et/\∀ j,j<S.length->OutR I j->nth S' j=nth S j/\OutR I' j
end
end
section
open Go Go.Proofs.Tryz
set_option maxHeartbeats 8000000
set_option maxRecDepth 100000
theorem ext_mvK (f:FuncId) (h:CkF (mvF0 f)):Ext.mv prog f=false:=h.h
theorem ext_mvT (f:FuncId) (h:CkT (mvF0 f)):Ext.mv prog f=true:=h.h
set_option linter.defProp false in
def evgm:=B6 @Aqg <| B6 @Aqf <| B6 @Aea <| B6 @Ad9 <| B6 ext_mvK <| B6 ext_mvT evs0
set_option linter.defProp false in
def evm:=B6 ext_mvK <| B6 ext_mvT ev0
theorem Avs {P:Program} {all:List Oper} {d:Option Tmp} {T:List AV} {S S':List Ent} {t:TypeId} {a e:Tmp} {x v:AV} (hL:loadsB all d=[(t,.tmp a,some e,true)]) (h2:S.length<=S'.length) (he:decide (e<T.length)=true) (ha:getT T a=x) (hv:getT T e=v) (h:ldA P t x S'=some v):reA P all d T S S'=some () :=
 Aga hL h2 fun q hq=>by
  simp only [F4] at hq; subst hq;exact ⟨rfl,e,rfl,of_decide_eq_true he,by show ldA P t (opv T (.tmp a)) S'=_; rw [show opv T (.tmp a)=getT T a from rfl,ha,hv]; exact h⟩
theorem Avc {b:Q} (hb:okW b) {l:List Q} (h:okL WW.qF l):okL WW.qF (ovR b l):=by
 intro q hq;obtain ⟨x,hx,rfl⟩:=F9.1 hq;exact WW.Dp.over _ _ (h x hx) hb
theorem Anr {f:Q} (hf:okW f):∀ {l r:List Q},okL WW.qF l->okL WW.qF r->okL WW.qF (zipR f l r)
 | [],_,_,_=>fun q hq=>by simp [zipR] at hq
 | _ :: _,[],_,_=>fun q hq=>by simp [zipR] at hq
 | x :: l,y :: r,h,h'=>by
  intro q hq;simp only [zipR,C4] at hq;rcases hq with rfl|hq
  ·exact WW.Dp.minus _ _ (h _ (by simp)) (WW.Dp.times _ _ hf (h' _ (by simp)))
  ·exact Anr hf (fun q hq=>h q bS) (fun q hq=>h' q bS) q hq
theorem Aq7 {f:Q} (hf:okW f) {l r:List Q} (h:okL WW.qF l) (h':okL WW.qF r):okL WW.qF (lsR f l r):=by
 unfold lsR; split
 ·exact h
 ·exact Anr hf h h'
section
variable (S:List Ent) (tk:List Nat) (k:Nat)
theorem Ai8 (I:TI) (t:Tb) (vars:List ByteArray) (m:Nat) (cc:Cap) (i c:Nat) (ai:RTab S I t vars m cc) (hi:i<t.rows.length) (hc:c<t.cost.length) :
  ∃ r,cL prog 170 [.ref I.it I.et 0,.int i,.int c] S tk k=some r/\RetR S tk I (pivR t i c) vars m cc (.tup []) r:=by
 obtain ⟨Φ,hΦ⟩:∃ Φ,Φ=RetR S tk I (pivR t i c) vars m cc (.tup []):=⟨_,rfl⟩;rw [<- hΦ];obtain ⟨row,bl⟩:=Ac hi;obtain ⟨pi,ik⟩:=Ac (show i<I.ids.length by rw [ai.nids]; exact hi);have i5:=ai.rowW row (Aj bl);have kx:=ai.okr row (Aj bl);obtain ⟨b,hb⟩:=Ac (show c<row.length by omega);have ob:okW b:=kx b (Aj hb);have ag:=ai.top;have jg:=ai.rowsE;have nj:nth (O7 i (I.ids.map (dm t.cost.length 4))) 0=some (.sref pi.1 pi.2 0 t.cost.length 4):=B9 (by rw [Af] at ik ⊢; rw [Et,ik]; rfl);have pf:=Aq (ce:=ceW) Al hb;have cr:=ai.rowE i pi row ik bl;refine opM func170 ntmps170 ?_;simp (maxSteps:=10^6)+contextual(disch:=try exact dqd)only[evgm,simprocAttr,Ca,Bm,Cb,results170,ag,jg,nj,pf,cr,hi,hc,Fj,intA,Al,Av,WW.ovQ];have hW:=ai.bigW;have hM:=ai.bigM;have wc:=ai.lt;have ke:=ai.ap.row pi (Aj ik);have qa:=Ve bl;have eT:({ t with rows:=t.rows } : Tb)=t:=rfl;refine D8 (P:=prog) (fun x st=>st.T.length=124/\(ovR b row=x.2.2.1++ovR b x.2.2.2)/\(x.2.2.1.length+x.2.2.2.length=t.cost.length)/\(RTab x.1 I { t with rows:=put t.rows i (x.2.2.1++x.2.2.2) } vars m cc)/\(entAt x.1 S.length k=some (ceW b))/\(x.1.length=S.length+1)/\(∀ j,j<S.length->OutR I j->nth x.1 j=nth S j)/\(okL WW.qF x.2.2.2)/\getT st.T 0=.ref I.it I.et 0/\getT st.T 1=.int (i:Nat)/\getT st.T 2=.int (c:Nat)/\getT st.T 6=.ref S.length k 0/\getT st.T 26=.int (t.cost.length:Nat)/\getT st.T 27=.int (x.2.2.1.length:Nat)/\st.S=x.1/\st.tk=tk/\st.n=x.2.1) (fun x=>x.2.2.2.length) ((S++[⟨k,ceW b⟩]),(k+1),([]:List Q),row) ?_ ?_;case refine_2=>exact ⟨rfl,by simp,by simpa using i5,by simp only [Cr,qa]; exact ai.app _,An rfl,by simp,fun j hj _=>Bh hj,kx,rfl,rfl,rfl,rfl,rfl,rfl,rfl,rfl,rfl⟩
 rintro ⟨SS,n1,p,u⟩ ⟨T,S',tk',n'⟩ ⟨hl,hR,jm,hT,wd,ed,au,ou,e0,e1,e2,e6,e26,e27,eS,eT,eN⟩ IH;simp only at hR jm hT wd ed au ou e0 e1 e2 e6 e26 e27 eS eT eN;subst eS eT eN;obtain ⟨g,hg,hT⟩:=Ar hl;rw [hg] at e0 e1 e2 e6 e26 e27;subst hT;clear hg hl;by_cases cd:p.length<t.cost.length
 ·have c1:decide ((p.length:Int)<(t.cost.length:Int))=true:=bY
  obtain ⟨a0,u,rfl⟩:∃ a0 u',u=a0 :: u':=by
   exact Ya3v
  have oa0:=ou a0 (by simp);have pm:=Aq (ce:=ceW) Al (D9 (p:=p) (u:=u) (x:=a0));have vg:nth (put t.rows i (p++a0 :: u)) i=some (p++a0 :: u):=De hi;have he:=hT.rowE i pi _ ik vg;have io:=hT.rowsE;have dq:=hT.top;have vj:u.length<(a0 :: u).length:=by simp
  obtain ⟨y,hy⟩:∃ y,y=(WW.qF.over a0 b).1:=⟨_,rfl⟩;have oy:okW y:=by rw [hy]; exact WW.Dp.over _ _ oa0 ob
  have hD S tk k:=Ace S tk k a0 b oa0 ob;rw [<- hy] at hD;have hw:Cd.wrap ((p.length:Int)+1)=(((p++[y]).length:Nat):Int):=bP
  have ho:=Bl (ce:=ceW) Al (l:=p++a0 :: u) (k:=p.length) (q':=y) (by simp);rw [E5] at ho;have js:∀ x,Oe S'.length (put S' pi.1 x)=put S' pi.1 x:=fun x=>Fc (by simp [Am]);simp (maxSteps:=10^6)+contextual(disch:=try exact dqd)only[evgm,simprocAttr,Ca,Bm,Cb,results170,e0,e1,e2,e6,e26,e27,c1,js,hw,dq,io,nj,he,pm,wd,cd,hi,hD,ho,Fj,Al,Av,D2,D1,WW.tkQ,WW.puQ,Ak];have c9:=hT.row (S':=put S' pi.1 ⟨pi.2,flat ceW (p++y :: u)⟩) (r':=p++y :: u) ik (by simp only [Ak]; exact hi) Za1x (fun q hq=>by
   rcases C3.1 hq with h|h
   ·exact hT.okr _ (Aj vg) q cB
   ·rcases C4.1 h with rfl|h
    ·exact oy
    ·exact ou q cB) (fun j h1 h2=>Ae (Ix h1)) (Ah (A5 he))
  simp only [Lw] at c9;have hpS:pi.1<S.length:=wc.2.2.2.2 pi (Aj ik);exact IH (put S' pi.1 ⟨pi.2,flat ceW (p++y :: u)⟩,n',p++[y],u) _ aF ⟨rfl,by rw [hR]; simp only [ovR,Cn,<- hy,Cy,Co,Cr],by show (p++[y]).length+u.length=t.cost.length; simp only [Cm,Ci,Cu] at jm ⊢; omega,by simp only [Cy,Co,Cr]; exact c9,by rw [Ai aE]; exact wd,by rw [Am]; exact ed,fun j h1 h2=>by rw [Ae (Ix (h2.2.2.2.2 pi (Aj ik)))]; exact au j h1 h2,fun q hq=>ou q bS,aT⟩
 ·have c1:decide ((p.length:Int)<(t.cost.length:Int))=false:=bY
  have wz:u=[]:=Cw.1 aA;subst wz;simp only [ovR,Cs] at hR;simp only [Fo,Cu,Ik] at hR jm hT;have yf:pivR t i c={ t with rows:=rowsR p c i 0 (put t.rows i p),cost:=lsR (at_ q0 t.cost c) t.cost p,basis:=put t.basis i c }:=by
   have:ovR b row=p:=hR;unfold pivR Bj;rw [Ay bl,Ay hb,this]
  have op:okL WW.qF p:=by have:=Avc ob kx; rw [show ovR b row=p from hR] at this; exact this
  have i7:=hT.top;simp only [Ak] at i7;simp (maxSteps:=10^6)+contextual(disch:=try exact dqd)only[evgm,simprocAttr,Ca,Bm,Cb,results170,e0,e1,e2,e6,e26,e27,c1,i7];refine D8 (P:=prog) (fun x st=>st.T.length=124/\(rowsR p c i 0 (put t.rows i p)=x.2.2.1++rowsR p c i x.2.2.1.length x.2.2.2.1)/\(x.2.2.1.length+x.2.2.2.1.length=t.rows.length)/\(RTab x.1 x.2.2.2.2 { t with rows:=x.2.2.1++x.2.2.2.1 } vars m cc)/\(nth (x.2.2.1++x.2.2.2.1) i=some p)/\(nth x.2.2.2.2.ids i=some pi)/\(x.2.2.2.2.it=I.it/\x.2.2.2.2.et=I.et)/\(S.length<=x.1.length)/\(∀ j,j<S.length->OutR I j->nth x.1 j=nth S j/\OutR x.2.2.2.2 j)/\getT st.T 0=.ref I.it I.et 0/\getT st.T 1=.int (i:Nat)/\getT st.T 2=.int (c:Nat)/\getT st.T 56=.int (t.rows.length:Nat)/\getT st.T 57=.int (x.2.2.1.length:Nat)/\st.S=x.1/\st.tk=tk'/\st.n=x.2.1) (fun x=>x.2.2.2.1.length) (S',n',([]:List (List Q)),(put t.rows i p),I) ?_ ?_;case refine_2=>exact ⟨rfl,by simp,by simp [Ak],by simp only [Cr]; exact hT,Za46,ik,⟨rfl,rfl⟩,by show S.length<=S'.length; omega,fun j h1 h2=>⟨au j h1 h2,h2⟩,rfl,rfl,rfl,rfl,rfl,rfl,rfl,rfl⟩
  rintro ⟨SS,n1,P,U,J⟩ ⟨T,S',tk',n'⟩ ⟨hl,ez,dn,ah,b9,hJi,hJ,n9,il,e0,e1,e2,e56,e57,eS,eT,eN⟩ IH;simp only at ez dn ah b9 hJi hJ n9 il e0 e1 e2 e56 e57 eS eT eN;subst eS eT eN;obtain ⟨g,hg,hT⟩:=Ar hl;rw [hg] at e0 e1 e2 e56 e57;subst hT;clear hg hl;obtain ⟨uw,vq⟩:=hJ;have hJn:=ah.nids;simp only [Cm,dn] at hJn;have ee:=ah.top;simp only [Cm,dn,uw,vq] at ee;have oc:=ah.rowsE;have l8:=ah.rowE i pi p hJi b9;have hlt3:=ah.lt;by_cases bu:P.length<t.rows.length
  ·have c2:decide ((P.length:Int)<(t.rows.length:Int))=true:=bZ
   obtain ⟨r0,U,rfl⟩:∃ r0 U',U=r0 :: U':=by
    exact Ya3w
   have vj:U.length<(r0 :: U).length:=by simp
   have hw2:∀ z:List Q,Cd.wrap ((P.length:Int)+1)=(((P++[z]).length:Nat):Int):=fun z=>bP
   by_cases ni:P.length=i
   ·have c3:((P.length:Int) != (i:Int))=false:=by rw [ni]; simp
    have hw3:=hw2 r0;simp (maxSteps:=10^6)+contextual(disch:=try exact dqd)only[evgm,simprocAttr,Ca,Bm,Cb,results170,e0,e1,e2,e56,e57,c2,c3,hw3,Fj];exact IH (S',n',P++[r0],U,J) _ aF ⟨rfl,by rw [ez]; simp only [rowsR,if_pos ni,Cy,Co,Cr,Cm,Ci,Cu,Fm],Za0e,by simpa using ah,by simpa using b9,hJi,⟨uw,vq⟩,n9,il,aT⟩
   ·have c3:((P.length:Int) != (i:Int))=true:=aC
    obtain ⟨pk,fv⟩:=Ac (show P.length<J.ids.length by omega);have cg:nth (O7 P.length (J.ids.map (dm t.cost.length 4))) 0=some (.sref pk.1 pk.2 0 t.cost.length 4):=B9 (by rw [Af] at fv ⊢; rw [Et,fv]; rfl);have a1y:nth (O7 i (J.ids.map (dm t.cost.length 4))) 0=some (.sref pi.1 pi.2 0 t.cost.length 4):=B9 (by rw [Af] at hJi ⊢; rw [Et,hJi]; rfl);have ie:nth (P++r0 :: U) P.length=some r0:=D9;have cn:=ah.rowE P.length pk r0 fv ie;have dj:=ah.rowW r0 (Aj ie);have or0:=ah.okr r0 (Aj ie);obtain ⟨f,hf⟩:=Ac (show c<r0.length by simp only at dj; omega);have of:=or0 f (Aj hf);have hft:=Aq (ce:=ceW) Al hf;have hff:at_ q0 r0 c=f:=Ay hf;obtain ⟨r,az,S3,k3,id,ep,rfl,ei,cj,ny,hor⟩:=Aeh S' tk' n' pk.1 pk.2 pi.1 pi.2 f r0 p of cn l8 Za50 Za50 Za50 or0 op;simp only at dj;rw [dj] at az;have xa:RTab S3 J { t with rows:=P++r0 :: U } vars m cc:=ah.frame fun j hj _=>cj j hj;have hz:(lsR f r0 p).length=t.cost.length:=by rw [Abf aA,dj]
    have hq:nth J.ids P.length=some (id,ep)\/OutR J (id,ep).1:=by
     rcases hor with ⟨rfl,rfl⟩|h
     ·exact .inl fv
     ·exact .inr (ah.out h)
    have c9:=xa.setRow (i:=P.length) (q:=(id,ep)) (r':=lsR f r0 p) (by simp only [Cm,Ci]; omega) hz (Aq7 of or0 op) hq ny;simp only [E5] at c9;have hw3:=hw2 (lsR f r0 p);have htf:=xa.top;simp only [Cm,dn,uw,vq] at htf;have hrf:=xa.rowsE;simp only at hrf;have yc:ldA prog 168 (.ref I.it I.et 0) S3=some (.sref J.ir J.er 0 t.rows.length 1):=by
     simp (disch:=try exact dqd) only [evs1,htf]
    have jo:over (J.ids.map (dm t.cost.length 4)) P.length [.sref id ep 0 t.cost.length 4]=some (put (J.ids.map (dm t.cost.length 4)) P.length (dm t.cost.length 4 (id,ep))):=P6 (w:=dm t.cost.length 4 pk) (by rw [Af] at fv ⊢; rw [Et,fv]; rfl);have hra:=fun {all T S} (h1:loadsB all (some 92)=[(168,.tmp 65,some 66,true)]) (h2:S.length<=S3.length) (h3:decide (66<T.length)=true) (h4:getT T 65=.ref I.it I.et 0) (h5:getT T 66=.sref J.ir J.er 0 t.rows.length 1)=>Avs (P:=prog) (S:=S) h1 h2 h3 h4 h5 yc;simp (maxSteps:=10^6)+contextual(disch:=try exact dqd)only[evgm,simprocAttr,Ca,Bm,Cb,results170,e0,e1,e2,e56,e57,c2,c3,ee,oc,cg,a1y,cn,hft,hc,hi,bu,hw3,az,ei,hra,htf,hrf,jo,xfs,Fj,Al,Av,D2,D1,WW.tkQ,WW.puQ];have a1z:∀ j,j<S.length->OutR I j->nth (put S3 J.ir ⟨J.er,put (J.ids.map (dm t.cost.length 4)) P.length (dm t.cost.length 4 (id,ep))⟩) j=nth S j/\OutR { J with ids:=put J.ids P.length (id,ep) } j:=fun j h1 h2=>by
     obtain ⟨a1,a2⟩:=il j h1 h2;refine ⟨by rw [Ae (Ix a2.2.1),cj j aA]; exact a1,a2.1,a2.2.1,a2.2.2.1,a2.2.2.2.1,fun q hq=>?_⟩;rcases Bw hq with rfl|hq
     ·rcases hor with ⟨h3,h4⟩|h3
      ·show j≠id;rw [h3]; exact a2.2.2.2.2 pk (Aj fv)
      ·show j≠id;omega
     ·exact a2.2.2.2.2 q hq
    exact IH (put S3 J.ir ⟨J.er,put (J.ids.map (dm t.cost.length 4)) P.length (dm t.cost.length 4 (id,ep))⟩,k3,P++[lsR f r0 p],U,{ J with ids:=put J.ids P.length (id,ep) }) _ aF ⟨rfl,by rw [ez]; simp only [rowsR,if_neg ni,hff,Cy,Co,Cr,Cm,Ci,Cu,Fm],by show (P++[lsR f r0 p]).length+U.length=t.rows.length; simp only [Cm,Ci,Cu] at dn ⊢; omega,by simpa using c9,Za0q,by rw [J8 aE,if_neg (fun h=>ni h.symm)]; exact hJi,⟨uw,vq⟩,dP,a1z,aT⟩
  ·have c2:decide ((P.length:Int)<(t.rows.length:Int))=false:=bZ
   have s8:U=[]:=Cw.1 aA;subst s8;simp only [rowsR] at ez;simp only [Fo,Cu,Ik] at ez dn ah b9;have a1y:nth (O7 i (J.ids.map (dm t.cost.length 4))) 0=some (.sref pi.1 pi.2 0 t.cost.length 4):=B9 (by rw [Af] at hJi ⊢; rw [Et,hJi]; rfl);obtain ⟨f,hf⟩:=Ac hc;have of:=ai.okc f (Aj hf);have hft:=Aq (ce:=ceW) Al hf;have hff:at_ q0 t.cost c=f:=Ay hf;have f7:=ah.costE;obtain ⟨r,az,S3,k3,id,ep,rfl,ei,cj,ny,hor⟩:=Aeh S' tk' n' J.ic J.ec pi.1 pi.2 f t.cost p of f7 l8 aA aA aA ai.okc op;have xa:RTab S3 J { t with rows:=P } vars m cc:=ah.frame fun j hj _=>cj j hj;have hz:(lsR f t.cost p).length=t.cost.length:=Abf aA;have hq:(id,ep)=(J.ic,J.ec)\/OutR J (id,ep).1:=by
    rcases hor with ⟨rfl,rfl⟩|h
    ·exact .inl rfl
    ·exact .inr (ah.out h)
   have c9:=xa.setCost (q:=(id,ep)) (k':=lsR f t.cost p) hz (Aq7 of ai.okc op) hq ny;have vk:=c9.setBasis (i:=i) (b:=c);have htf:=xa.top;simp only [dn,uw,vq] at htf;have htp:=c9.top;have po:=c9.basisE;simp only [dn,uw,vq,hz] at htp po;obtain ⟨b0,hb0⟩:=Ac (show i<t.basis.length by rw [ai.nb]; exact hi);have jo:over (t.basis.map intA) i [.prim (.int .i64 (c:Int))]=some ((put t.basis i c).map intA):=by
    exact Ya2n
   have qk:=ai.nb;simp (maxSteps:=10^6)+contextual(disch:=try exact dqd)only[evgm,simprocAttr,Ca,Bm,Cb,results170,e0,e1,e2,e56,e57,c2,ee,oc,a1y,f7,hft,l8,hc,hi,az,ei,htf,htp,po,jo,Adw,xfs,Fj,Al,Av,D2,D1,WW.tkQ,WW.puQ];rw [hΦ,yf,hff,ez];simp only [dn,uw,vq] at vk;exact ⟨_,_,_,rfl,by rw [Am,Am]; omega,vk,rfl,rfl,fun j h1 h2=>by
    obtain ⟨a1,a2⟩:=il j h1 h2;refine ⟨by rw [Ae (Ix a2.2.2.2.1),Ae (by rw [<- uw]; exact Ix a2.1),cj j aA]; exact a1,h2.1,a2.2.1,?_,a2.2.2.2.1,a2.2.2.2.2⟩;rcases hor with ⟨h3,h4⟩|h3
    ·show j≠id;rw [h3]; exact a2.2.2.1
    ·show j≠id;omega⟩
end
end
section
open Go Go.Proofs.Tryz
set_option maxHeartbeats 8000000
set_option maxRecDepth 100000
def Qs:Option Nat->AV
 | none=>.int (-1)
 | some i=>.int (i:Nat)
theorem Pu {t:Tb} {c m:Nat} : ∀ {l:List (List Q)} {k:Nat} {b:Option Nat} {i:Nat},k+l.length<=m->(∀ i,b=some i->i<m)->Gq t c k l b=some i->i<m
 | [],k,b,i,_,hb,h=>hb i h
 | r :: l,k,b,i,hl,hb,h=>by
  simp only [Ci] at hl;unfold Gq at h;split at h
  ·exact Pu aA hb h
  ·split at h
   ·exact Pu (k:=k+1) (l:=l) aA (fun i e=>by simp only [Ba] at e; omega) h
   ·refine Pu (k:=k+1) (l:=l) aA (fun i' e=>?_) h;split at e
    ·simp only [Ba] at e; omega
    ·exact hb i' e
section
variable (S:List Ent) (tk:List Nat) (k:Nat)
theorem Ag0 (I:TI) (t:Tb) (vars:List ByteArray) (m:Nat) (cc:Cap) (c:Nat) (hT:RTab S I t vars m cc) (hc:c<t.cost.length) :
  ∃ r,cL prog 169 [.ref I.it I.et 0,.int c] S tk k=some r/\r=(Qs (Gq t c 0 t.rows none),S,tk,k):=by
 obtain ⟨Φ,hΦ⟩:∃ Φ:Rs->Prop,Φ=fun r=>r=(Qs (Gq t c 0 t.rows none),S,tk,k):=⟨_,rfl⟩;rw [show (∃ r,cL prog 169 [.ref I.it I.et 0,.int c] S tk k=some r/\r=(Qs (Gq t c 0 t.rows none),S,tk,k))=(∃ r,cL prog 169 [.ref I.it I.et 0,.int c] S tk k=some r/\Φ r) by rw [hΦ]];have ag:=hT.top;have io:=hT.rowsE;have hW:=hT.bigW;have hM:=hT.bigM;refine opG func169 ntmps169 ?_;simp (maxSteps:=10^6)+contextual(disch:=try exact dqd)only[evg1,simprocAttr,Ca,Bm,Cb,results169,ag];refine D8 (P:=prog) (fun x st=>st.T.length=110/\(Gq t c 0 t.rows none=Gq t c x.1.length x.2.1 x.2.2)/\(t.rows=x.1++x.2.1)/\(∀ bi,x.2.2=some bi->bi<x.1.length)/\getT st.T 0=.ref I.it I.et 0/\getT st.T 1=.int (c:Nat)/\getT st.T 5=Qs x.2.2/\getT st.T 13=.int (t.rows.length:Nat)/\getT st.T 14=.int (x.1.length:Nat)/\st.S=S/\st.tk=tk/\st.n=k) (fun x=>x.2.1.length) (([]:List (List Q)),t.rows,(none:Option Nat)) ?_ ?_;case refine_2=>exact ⟨rfl,rfl,rfl,(fun _ h=>aR),rfl,rfl,rfl,rfl,rfl,rfl,rfl,rfl⟩
 rintro ⟨P,U,bst⟩ ⟨T,S',tk',n'⟩ ⟨hl,hR,dn,hb,e0,e1,e5,e13,e14,eS,eT,eN⟩ IH;simp only at hR dn hb e0 e1 e5 e13 e14 eS eT eN;subst eS eT eN;obtain ⟨g,hg,hT⟩:=Ar hl;rw [hg] at e0 e1 e5 e13 e14;subst hT;clear hg hl;have rt:t.rows.length=P.length+U.length:=dV
 by_cases bu:P.length<t.rows.length
 ·have c1:decide ((P.length:Int)<(t.rows.length:Int))=true:=bZ
  obtain ⟨r0,U,rfl⟩:∃ r0 U',U=r0 :: U':=by
   exact Ya1e
  have vj:U.length<(r0 :: U).length:=by simp
  have qd:=fun {i:Nat} (hi:i<t.rows.length)=>show ∃ (p:Nat × Nat) (r:List Q),nth (O7 i (I.ids.map (dm t.cost.length 4))) 0=some (.sref p.1 p.2 0 t.cost.length 4)/\entAt S' p.1 p.2=some (flat ceW r)/\nth t.rows i=some r/\r.length=t.cost.length by
   obtain ⟨r,hr⟩:=Ac hi;obtain ⟨p,hp⟩:=Ac (show i<I.ids.length by rw [hT.nids]; exact hi);exact ⟨p,r,B9 (by rw [Af] at hp ⊢; rw [Et,hp]; rfl),hT.rowE i p r hp hr,hr,hT.rowW r (Aj hr)⟩
  have ie:nth t.rows P.length=some r0:=by rw [dn]; exact D9
  obtain ⟨pk,r0',cg,cn,a2s,dj⟩:=qd bu;obtain rfl:r0'=r0:=by rw [ie] at a2s; simpa using a2s.symm
  have or0:=hT.okr r0' (Aj ie);obtain ⟨x,hx⟩:=Ac (show c<r0'.length by omega);have ox:=or0 x (Aj hx);have fc:=Aq (ce:=ceW) Al hx;have hs S tk k:=N9 S tk k x;have hw2:Cd.wrap ((P.length:Int)+1)=(((P++[r0']).length:Nat):Int):=bP
  have fe:t.rows=(P++[r0'])++U:=dV
  have j3:(P++[r0']).length=P.length+1:=by simp
  by_cases j6:sgn x<=0
  ·have c2:decide (sgn x<=0)=true:=gR
   simp (maxSteps:=10^6)+contextual(disch:=try exact dqd)only[evg1,simprocAttr,Ca,Bm,Cb,results169,e0,e1,e5,e13,e14,c1,c2,hw2,ag,io,cg,cn,fc,bu,hc,hs,Fj,Al,Av,D2,D1,WW.tkQ,WW.puQ];exact IH (P++[r0'],U,bst) _ aF ⟨rfl,by rw [hR,j3]; simp only [Gq,Ay hx]; rw [if_pos j6],fe,fun bi h=>by have:=hb bi h; show bi<(P++[r0']).length; omega,aT⟩
  have c2:decide (sgn x<=0)=false:=gR
  cases bst with
  | none =>
   have c3:decide ((-1:Int)<0)=true:=rfl;simp only [Qs] at e5;simp (maxSteps:=10^6)+contextual(disch:=try exact dqd)only[evg1,simprocAttr,Ca,Bm,Cb,results169,e0,e1,e5,e13,e14,c1,c2,c3,hw2,ag,io,cg,cn,fc,bu,hc,hs,Fj,Al,Av,D2,D1,WW.tkQ,WW.puQ];exact IH (P++[r0'],U,some P.length) _ aF ⟨rfl,by rw [hR,j3]; simp only [Gq,Ay hx]; rw [if_neg j6],fe,fun bi h=>by simp only [Ba] at h; show bi<(P++[r0']).length; omega,aT⟩
  | some bi =>
   have hbi:=hb bi rfl;have c3:decide ((bi:Int)<0)=false:=by simp
   simp only [Qs] at e5;have fy:Cd.wrap ((t.cost.length:Int) - 1)=((t.cost.length - 1:Nat):Int):=aS
   have j4:t.cost.length - 1<t.cost.length:=aA
   obtain ⟨z,hz⟩:=Ac (show t.cost.length - 1<r0'.length by omega);have oz:=or0 z (Aj hz);have i9:=Aq (ce:=ceW) Al hz;have pf:bi<t.rows.length:=aA
   obtain ⟨pb,rb,a0h,a0i,hrb,hrbw⟩:=qd pf;have orb:=hT.okr rb (Aj hrb);obtain ⟨xb,r8⟩:=Ac (show c<rb.length by omega);obtain ⟨zb,hzb⟩:=Ac (show t.cost.length - 1<rb.length by omega);have oxb:=orb xb (Aj r8);have ozb:=orb zb (Aj hzb);have a0j:=Aq (ce:=ceW) Al r8;have a0k:=Aq (ce:=ceW) Al hzb;have hD1 S tk k:=Ace S tk k z x oz ox;have x7 S tk k:=Ace S tk k zb xb ozb oxb;have cl:quoR r0' c t.cost.length=(WW.qF.over z x).1:=by unfold quoR; rw [Ay hz,Ay hx]
   have hq2:quoR (Bj t bi) c t.cost.length=(WW.qF.over zb xb).1:=by unfold quoR Bj; rw [Ay hrb,Ay hzb,Ay r8]
   rw [<- cl] at hD1;rw [<- hq2] at x7;have oq1:okW (quoR r0' c t.cost.length):=by rw [cl]; exact WW.Dp.over _ _ oz ox
   have oq2:okW (quoR (Bj t bi) c t.cost.length):=by rw [hq2]; exact WW.Dp.over _ _ ozb oxb
   have hC S tk k:=Aro S tk k _ _ oq1 oq2;obtain ⟨s,hsd⟩:∃ s,s=cmpW (quoR r0' c t.cost.length) (quoR (Bj t bi) c t.cost.length):=⟨_,rfl⟩;rw [<- hsd] at hC;obtain ⟨bk,oe⟩:=Ac (show P.length<t.basis.length by rw [hT.nb]; exact bu);obtain ⟨bb,td⟩:=Ac (show bi<t.basis.length by rw [hT.nb]; exact pf);have po:=hT.basisE;have ip:nth (O7 P.length (t.basis.map intA)) 0=some (.prim (.int .i64 (bk:Int))):=B9 (by rw [Af] at oe ⊢; rw [Et,oe]; rfl);have og:nth (O7 bi (t.basis.map intA)) 0=some (.prim (.int .i64 (bb:Int))):=B9 (by rw [Af] at td ⊢; rw [Et,td]; rfl);have ur:V6 t.basis s P.length bi=(decide (s<0) || (s == 0 && decide (bk<bb))):=by unfold V6; rw [Ay oe,Ay td]
   have nk:Gq t c 0 t.rows none=Gq t c (P++[r0']).length U (if V6 t.basis s P.length bi=true then some P.length else some bi):=by
    rw [hR,j3]; simp only [Gq,Ay hx]; rw [if_neg j6,<- hsd]
   have hb2:∀ b,(if V6 t.basis s P.length bi=true then some P.length else some bi)=some b->b<(P++[r0']).length:=fun b h=>by
    rw [j3];split at h <;> (simp only [Ba] at h; omega)
   by_cases h1:s<0
   ·have k1:decide (s<0)=true:=aW
    rw [show V6 t.basis s P.length bi=true by rw [ur,k1]; rfl,if_pos rfl] at nk hb2;simp (maxSteps:=10^6)+contextual(disch:=try exact dqd)only[evg1,simprocAttr,Ca,Bm,Cb,results169,e0,e1,e5,e13,e14,c1,c2,c3,k1,hw2,ag,io,cg,cn,fc,i9,a0h,a0i,a0j,a0k,fy,j4,bu,pf,hc,hs,hD1,x7,hC,Fj,Al,Av,D2,D1,WW.tkQ,WW.puQ];exact Ya4b
   have k1:decide (s<0)=false:=aW
   by_cases h2:s=0
   ·have k2:(s == 0)=true:=cF
    by_cases h3:bk<bb
    ·have k3:decide ((bk:Int)<(bb:Int))=true:=cG
     rw [show V6 t.basis s P.length bi=true by rw [ur,k1,k2]; simpa using h3,if_pos rfl] at nk hb2;simp (maxSteps:=10^6)+contextual(disch:=try exact dqd)only[evg1,simprocAttr,Ca,Bm,Cb,results169,e0,e1,e5,e13,e14,c1,c2,c3,k1,k2,k3,hw2,ag,io,cg,cn,fc,i9,a0h,a0i,a0j,a0k,fy,j4,bu,pf,hc,hs,hD1,x7,hC,po,ip,og,Fj,Al,Av,D2,D1,WW.tkQ,WW.puQ];exact Ya4b
    ·have k3:decide ((bk:Int)<(bb:Int))=false:=cG
     rw [show V6 t.basis s P.length bi=false by rw [ur,k1,k2]; simpa using h3,if_neg Iy] at nk hb2;simp (maxSteps:=10^6)+contextual(disch:=try exact dqd)only[evg1,simprocAttr,Ca,Bm,Cb,results169,e0,e1,e5,e13,e14,c1,c2,c3,k1,k2,k3,hw2,ag,io,cg,cn,fc,i9,a0h,a0i,a0j,a0k,fy,j4,bu,pf,hc,hs,hD1,x7,hC,po,ip,og,Fj,Al,Av,D2,D1,WW.tkQ,WW.puQ];exact IH (P++[r0'],U,some bi) _ aF ⟨rfl,nk,fe,hb2,aT⟩
   ·have k2:(s == 0)=false:=cF
    rw [show V6 t.basis s P.length bi=false by rw [ur,k1,k2]; rfl,if_neg Iy] at nk hb2;simp (maxSteps:=10^6)+contextual(disch:=try exact dqd)only[evg1,simprocAttr,Ca,Bm,Cb,results169,e0,e1,e5,e13,e14,c1,c2,c3,k1,k2,hw2,ag,io,cg,cn,fc,i9,a0h,a0i,a0j,a0k,fy,j4,bu,pf,hc,hs,hD1,x7,hC,Fj,Al,Av,D2,D1,WW.tkQ,WW.puQ];exact IH (P++[r0'],U,some bi) _ aF ⟨rfl,nk,fe,hb2,aT⟩
 ·have c1:decide ((P.length:Int)<(t.rows.length:Int))=false:=bZ
  have s8:U=[]:=Cw.1 aA;subst s8;simp (maxSteps:=10^6)+contextual(disch:=try exact dqd)only[evg1,simprocAttr,Ca,Bm,Cb,results169,e0,e1,e5,e13,e14,c1];simp only [Gq] at hR;have wy:fz3 S'.length S' (Qs bst)=Qs bst:=by cases bst <;> rfl
  rw [hΦ,hR,wy];try simp only [Fb]
end
end
section
open Go Go.Proofs.Tryz
set_option maxHeartbeats 8000000
set_option maxRecDepth 100000
theorem Aka {cost:List Q} : ∀ {n j c:Nat},colF cost n j=some c->j<=c/\c<j+n
 | 0,_,_,h=>by simp [colF] at h
 | n+1,j,c,h=>by
  unfold colF at h;split at h
  ·simp only [Ba] at h; omega
  ·have:=Aka h; omega
theorem Amh {S:List Ent} {I:TI} {t:Tb} {vars:List ByteArray} {m:Nat} {cc:Cap} {i c:Nat} (h:RTab S I t vars m cc) (hi:i<t.rows.length):(pivR t i c).cost.length=t.cost.length:=by
 obtain ⟨row,bl⟩:=Ac hi;have:=h.rowW row (Aj bl);unfold pivR Bj;rw [Ay bl];exact Abf (by rw [Arb]; omega)
section
variable (S:List Ent) (tk:List Nat) (k:Nat)
theorem Ai7 (I:TI) (t t':Tb) (vars:List ByteArray) (m:Nat) (cc:Cap) (lim K:Nat) (b:Bool) (ai:RTab S I t vars m cc) (ry:lim<=t.cost.length) (hK:Nb lim K t=some (b,t')) :
  ∃ r,cL prog 140 [.ref I.it I.et 0,.int lim] S tk k=some r/\RetR S tk I t' vars m cc (.bool b) r:=by
 obtain ⟨Φ,hΦ⟩:∃ Φ,Φ=RetR S tk I t' vars m cc (.bool b):=⟨_,rfl⟩;rw [<- hΦ];refine opM func140 ntmps140 ?_;simp (maxSteps:=10^6)+contextual(disch:=try exact dqd)only[evgm,simprocAttr,Ca,Bm,Cb,results140];refine D8 (P:=prog) (fun x st=>st.T.length=38/\(Nb lim x.2.2.1 x.2.2.2.1=some (b,t'))/\(RTab x.1 x.2.2.2.2 x.2.2.2.1 vars m cc)/\(x.2.2.2.1.cost.length=t.cost.length)/\(x.2.2.2.2.it=I.it/\x.2.2.2.2.et=I.et)/\(S.length<=x.1.length)/\(∀ j,j<S.length->OutR I j->nth x.1 j=nth S j/\OutR x.2.2.2.2 j)/\getT st.T 0=.ref I.it I.et 0/\getT st.T 1=.int (lim:Nat)/\st.S=x.1/\st.tk=tk/\st.n=x.2.1) (fun x=>x.2.2.1) (S,k,K,t,I) ?_ ?_;case refine_2=>exact ⟨rfl,hK,ai,rfl,⟨rfl,rfl⟩,Ce _,fun j _ h=>⟨rfl,h⟩,rfl,rfl,rfl,rfl,rfl⟩
 rintro ⟨SS,n1,K1,t1,J⟩ ⟨T,S',tk',n'⟩ ⟨hl,dp,hT,hcl,hJ,ed,au,e0,e1,eS,eT,eN⟩ IH;simp only at dp hT hcl hJ ed au e0 e1 eS eT eN;subst eS eT eN;obtain ⟨g,hg,hT⟩:=Ar hl;rw [hg] at e0 e1;subst hT;clear hg hl;have IHA:=IH;clear IH;obtain ⟨uw,vq⟩:=hJ;cases K1 with
 | zero=>simp [Nb] at dp
 | succ K1 =>
 have ag:=hT.top;simp only [uw,vq] at ag;have f7:=hT.costE;have hW:=hT.bigW;unfold Nb at dp;simp (maxSteps:=10^6)+contextual(disch:=try exact dqd)only[evgm,simprocAttr,Ca,Bm,Cb,results140,e0,e1];refine D8 (P:=prog) (fun x st=>st.T.length=38/\(x.1<=lim)/\((x.2=none/\colF t1.cost lim 0=colF t1.cost (lim - x.1) x.1)\/∃ c,x.2=some c/\colF t1.cost lim 0=some c)/\getT st.T 0=.ref I.it I.et 0/\getT st.T 1=.int (lim:Nat)/\getT st.T 5=Qs x.2/\getT st.T 6=.int (x.1:Nat)/\st.S=S'/\st.tk=tk'/\st.n=n') (fun x=>lim - x.1) (0,(none:Option Nat)) ?_ ?_;case refine_2=>exact ⟨rfl,Cl _,.inl ⟨rfl,rfl⟩,rfl,rfl,rfl,rfl,rfl,rfl,rfl⟩
 rintro ⟨j,co⟩ ⟨T,S',tk',n'⟩ ⟨hl,hj,hco,e0,e1,e5,e6,eS,eT,eN⟩ IH;simp only at hj hco e0 e1 e5 e6 eS eT eN;subst eS eT eN;obtain ⟨g,hg,hT⟩:=Ar hl;rw [hg] at e0 e1 e5 e6;subst hT;clear hg hl;rcases hco with ⟨rfl,hc⟩|⟨c,rfl,hc⟩
 ·have c3:decide ((-1:Int)<0)=true:=rfl;simp only [Qs] at e5;by_cases qj:j<lim
  ·have c1:decide ((j:Int)<(lim:Int))=true:=dU
   have hw:Cd.wrap ((j:Int)+1)=((j+1:Nat):Int):=aQ
   have mc:j<t1.cost.length:=aA
   obtain ⟨x,hx⟩:=Ac mc;have fc:=Aq (ce:=ceW) Al hx;have hs S tk k:=N9 S tk k x;have sj:colF t1.cost (lim - j) j=if sgn x<0 then some j else colF t1.cost (lim - (j+1)) (j+1):=by
    rw [show lim - j=(lim - (j+1))+1 by omega];simp only [colF,Ay hx]
   by_cases hneg:sgn x<0
   ·have c2:decide (sgn x<0)=true:=aZ
    rw [sj,if_pos hneg] at hc;simp (maxSteps:=10^6)+contextual(disch:=try exact dqd)only[evgm,simprocAttr,Ca,Bm,Cb,results140,e0,e1,e5,e6,c1,c2,c3,hw,ag,f7,fc,mc,hs,Fj,Al,Av,D2,D1,WW.tkQ,WW.puQ];exact IH (j+1,some j) _ aF ⟨rfl,aE,.inr ⟨j,rfl,hc⟩,aT⟩
   ·have c2:decide (sgn x<0)=false:=aZ
    rw [sj,if_neg hneg] at hc;simp (maxSteps:=10^6)+contextual(disch:=try exact dqd)only[evgm,simprocAttr,Ca,Bm,Cb,results140,e0,e1,e5,e6,c1,c2,c3,hw,ag,f7,fc,mc,hs,Fj,Al,Av,D2,D1,WW.tkQ,WW.puQ];exact IH (j+1,none) _ aF ⟨rfl,aE,.inl ⟨rfl,hc⟩,aT⟩
  ·have c1:decide ((j:Int)<(lim:Int))=false:=dU
   rw [hc,show lim - j=0 by omega] at dp;simp only [colF,Ba,Cf] at dp;obtain ⟨rfl,rfl⟩:=dp;simp (maxSteps:=10^6)+contextual(disch:=try exact dqd)only[evgm,simprocAttr,Ca,Bm,Cb,results140,e0,e1,e5,e6,c1,c3];rw [hΦ];exact ⟨_,_,J,rfl,ed,hT,uw,vq,au⟩
 ·have vt:=Aka hc;have hcc:c<t1.cost.length:=aA
  rw [hc] at dp;simp only at dp;simp only [Qs] at e5;have c3:decide ((c:Int)<0)=false:=by simp
  obtain ⟨r,i8,rfl⟩:=Ag0 S' tk' n' J t1 vars m cc c hT hcc;rw [uw,vq] at i8;cases hl:Gq t1 c 0 t1.rows none with
  | none =>
   rw [hl] at dp i8;simp only [Ba,Cf] at dp;obtain ⟨rfl,rfl⟩:=dp;have c4:decide ((-1:Int)<0)=true:=rfl;simp only [Qs] at i8;cases c1:decide ((j:Int)<(lim:Int));all_goals
    simp (maxSteps:=10^6)+contextual(disch:=try exact dqd)only[evgm,simprocAttr,Ca,Bm,Cb,results140,e0,e1,e5,e6,c1,c3,c4,i8,Fb]
    rw [hΦ]
    exact ⟨_,_,J,rfl,ed,hT,uw,vq,au⟩
  | some i =>
   rw [hl] at dp i8;have wa:i<t1.rows.length:=Pu (t:=t1) (c:=c) (l:=t1.rows) (k:=0) aA (fun _ h=>aO) hl;obtain ⟨r,o4,S3,k3,J3,rfl,ei,c9,a32,a33,d6⟩:=Ai8 S' tk' n' J t1 vars m cc i c hT wa hcc;rw [uw,vq] at o4;have c4:decide ((i:Int)<0)=false:=by simp
   simp only [Qs] at i8;have a34:(pivR t1 i c).cost.length=t.cost.length:=by rw [Amh hT wa]; exact hcl
   have a1z:∀ j,j<S.length->OutR I j->nth S3 j=nth S j/\OutR J3 j:=fun j h1 h2=>by
    obtain ⟨a1,a2⟩:=au j h1 h2;obtain ⟨b1,b2⟩:=d6 j aA a2;exact ⟨by rw [b1]; exact a1,b2⟩
   cases c1:decide ((j:Int)<(lim:Int));all_goals
    simp (maxSteps:=10^6)+contextual(disch:=try exact dqd)only[evgm,simprocAttr,Ca,Bm,Cb,results140,e0,e1,e5,e6,c1,c3,c4,i8,o4,Fb]
    exact IHA (S3,k3,K1,pivR t1 i c,J3) _ aF ⟨rfl,dp,c9,a34,⟨a32.trans uw,a33.trans vq⟩,by show S.length<=S3.length; omega,a1z,aT⟩
end
end
end Go.Proofs.YthelkgdmgihhiaaGreat
