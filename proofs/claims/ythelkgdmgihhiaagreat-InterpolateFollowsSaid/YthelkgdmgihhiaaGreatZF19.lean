/- Part 19. -/
import Derived.Test.YthelkgdmgihhiaaGreatZF18
open And renaming intro->Cc
open Bool renaming and_eq_true->Ch,or->Cl,not_true->Fs,not_false->Fu,or_eq_false_iff->F0,or_false->F5,or_assoc->Gr,not_eq_true'->Ig,false_ne_true->Iw,false_or->Oe
open Go.IntKind renaming i64->B8
open Go.Proofs.YthelkgdmgihhiaaGreat.AV renaming bool->Bo,int->Ca,str->Cb
open Int renaming tdiv_eq_ediv_of_nonneg->Cz,tmod_eq_emod_of_nonneg->Gm,mul_ne_zero->Ik,natAbs_mul->Iq,neg_mul->Rp
open List renaming replicate->Cg,length_cons->Cj,map_cons->Cm,length_append->Cn,cons_append->Co,map_nil->Cp,mem_cons_self->Cq,mem_cons_of_mem->Cr,nil_append->Ct,mem_append->Cu,length_nil->Cv,getElem?_append_left->Cy,getElem?_eq_none->C3,mem_cons->C4,length_eq_zero_iff->C5,append_assoc->C6,take_length->C8,map_append->C9,range->E7,all_eq_true->Fc,getElem?_map->Fe,take_of_length_le->Ff,length_map->Fg,getElem?_append_right->Fi,append_nil->Fj,drop_eq_nil_of_le->Fm,mem_singleton->Ft,drop_zero->Fz,mem_map->F6,getElem?_eq_some_iff->F9,take_succ_cons->He,pairwise_cons->Ib,length_pos_iff->Ic,length_take->Im,mem_replicate->It,take_append_drop->Ix,getElem?_cons_zero->Oa,take->Ob,take_append_of_le_length->Oq,length_singleton->O0,length_replicate->O2,drop->Se,singleton_append->Sq,mem_flatten->S7,map_map->kY,take_take->lF,lt_irrefl->lH,Pairwise->lM
open Nat renaming le_refl->Ce,zero_le->Ci,mul_one->Cw,le_trans->Fh,zero_add->Fk,mul_le_mul_right->F8,add_zero->Ie,lt_of_le_of_lt->Iu,gcd_pos_of_pos_right->Iv,gcd_zero_right->I6,mod_lt->I7,le_add_right->Mn,succ_mul->Nb,sub_self->Oj,div_le_self->Ou,mul_le_mul->Pz,lt_trichotomy->Sc,succ_pos->iE,eq_zero_or_pos->iF,gcd_comm->iG,add_sub_cancel->jN
open Ne renaming symm->I8
open Option renaming map_some->Fa,bind_some->Ov
open Option.some renaming injEq->Bg
open Prod.mk renaming injEq->Cf
open Rat renaming intCast_mul->Fb,intCast_neg->Og,intCast_pos->Oz,le_refl->iU,intCast_add->jK,intCast_inj->kP,intCast_sub->kR,intCast_one->kS
namespace Go.Proofs.YthelkgdmgihhiaaGreat
section
open Go Tryz
open Go.Proofs.Tryz renaming f121->ga28,results121->ga29
open Go.Proofs.YthelkgdmgihhiaaGreat renaming ceW->ga0,Al->ga1,Av->ga5,Bv->ga6
set_option maxRecDepth 100000
namespace WW
abbrev ua13:Nat:=168
end WW
set_option maxHeartbeats 20000000
set_option maxRecDepth 100000
section
variable (S:List Ent) (l:List RowT) (vars:List ByteArray) (fl:Bool) (k iq eq c W nz:Nat) (z:Q)
namespace WW
theorem Av1:Ax21:=Ma21
end WW
end
end
section
open Go Tryz
open Go.Proofs.Tryz renaming f121->ga28,results121->ga29
open Go.Proofs.YthelkgdmgihhiaaGreat renaming ceW->ga0,Al->ga1,Av->ga5,Bv->ga6
set_option maxRecDepth 100000
set_option maxHeartbeats 20000000
set_option maxRecDepth 100000
section
variable (S:List Ent) (l:List RowT) (vars:List ByteArray) (fl:Bool) (k iq eq c W nz:Nat) (z:Q)
namespace WW
theorem Av3:Ax22:=Ma22
end WW
end
end
section
open Go Tryz
open Go.Proofs.Tryz renaming f121->ga28,results121->ga29,func121->ga30,ntmps121->ga31
open Go.Proofs.YthelkgdmgihhiaaGreat renaming ceW->ga0,Al->ga1,Av->ga5,Bv->ga6
set_option maxRecDepth 100000
namespace WW
abbrev ua14:Nat:=121
end WW
set_option maxHeartbeats 20000000
set_option maxRecDepth 100000
namespace WW
def Pm (iq eq:Nat) (n real:Nat) (rows cost basis flip:AV):List AV:=[.ifc 123 (rcvQ iq eq),.int (n:Nat),.int (real:Nat),rows,cost,basis,flip]
theorem mk_Q {W:Nat} (h:W<=1048576):mkA prog 78 (.int (W:Nat)) (.int (W:Nat))=some (W,4,(Cg W zeroQ).flatten):=by
 have hz:(A6 prog 78).bind (A2 prog)=some zeroQ:=aT
 have hs:(A6 prog 78).bind (szOf prog)=some 4:=aT
 obtain ⟨bb,hb,xt⟩:∃ bb,(A6 prog 78).bind (Ey prog)=some bb/\bb<=1048576:=⟨64,aK,aA⟩;exact Ya2o
def Aou (S:List Ent) (iq eq:Nat) (t':Tb) (r:Rs):Prop :=
 ∃ S' k' tk' I cc,r=(.ref I.it I.et 0,S',tk',k')/\S.length<=S'.length/\Bf S' iq eq I t' cc/\(∀ j,j<S.length->j≠iq->nth S' j=nth S j)/\(∀ j,j<S.length->j≠iq->OutQ I iq j)
end WW
section
variable (S:List Ent) (tk:List Nat) (k iq eq:Nat)
namespace WW
theorem Av5:Ax23:=Ma23
end WW
end
end
section
open Go
set_option maxRecDepth 100000
namespace WW
structure Ajj (S SS:List Ent) (iq eq:Nat) (I:TI) (t:Tb) (cc:Cap) (k n8:Nat) (z:Q) (cf:AV) (n:Int):Prop where
 T:Bf SS iq eq I t cc
 E4:entAt SS S.length k=some [cf,.prim (.int .i64 n)]
 E6:entAt SS (S.length+1) (k+1)=some ceW0Q
 E8:entAt SS (S.length+2) n8=some (ceW z)
 len:SS.length=S.length+3
 fr:∀ j,j<S.length->OutQ I iq j->nth SS j=nth S j
theorem Auf:Ax24:=fun {S iq eq I t cc}=>Ma24
theorem Ajj.step:Ax25:=fun {S SS S' iq eq I t t' cc k n8 z cf n}=>Ma25
end WW
namespace WW
theorem Bf.junk:Ax26:=fun {S iq eq I t c}=>Ma26
def BegRQ (S:List Ent) (iq eq:Nat) (t':Tb) (r:Rs):Prop :=
 ∃ S' k' tk' I cc,r=(.ref I.it I.et 0,S',tk',k')/\S.length<=S'.length/\Bf S' iq eq I t' cc/\(∀ j,j<S.length->j≠iq->nth S' j=nth S j)/\(∀ j,j<S.length->j≠iq->OutQ I iq j)/\(I.ib<S'.length\/S'.length+15<I.ib)
theorem Aou.far:Ax27:=fun {S iq eq t' r}=>Ma27
end WW
end
section
open Go Tryz
open Go.Proofs.Tryz renaming func85->ga32,ntmps85->ga33,results85->ga34
set_option maxRecDepth 100000
namespace WW
abbrev ua15:Nat:=85
end WW
set_option maxHeartbeats 20000000
set_option maxRecDepth 100000
section
variable (S:List Ent) (tk:List Nat) (k iq eq:Nat)
namespace WW
theorem Aux:Ax28:=Ma28
end WW
end
end
section
open Go Tryz
set_option maxHeartbeats 4000000
set_option maxRecDepth 100000
def askN (K:Nat) (l:List RowT) (vars:List ByteArray):Option Ans :=
 match Kk QQ.qF K l vars false with
 | none=>none
 | some (a,true)=>some a
 | some (_,false)=>(Kk WW.qF K l vars false).map (·.1)
section
variable (S:List Ent) (tk:List Nat) (k:Nat)
theorem Tm (l:List RowT) (hl:l.length<=1000) (hn:(Dx l).length<=1000) (vars:List ByteArray) (ly:vars.length<=1000) (hv:∀ r ∈ l,∀ c ∈ r.1,c.1 ∈ vars) (hc:∀ r ∈ l,i64 r.2.1/\∀ c ∈ r.1,i64 c.2) (gi:fewC l) (K:Nat) (a:Ans) (hS:askN K l vars=some a) (ha:a.least=none) :
  cL prog 45 [Ao l,Aq vars,.prim (.pointer none)] S tk k=some (.agg (ansC a.f a.pt a.nu .unk .unk (some (0,0)) false),S,tk,k):=by
 unfold askN at hS;cases h1:Kk QQ.qF K l vars false with
 | none=>rw [h1] at hS; simp at hS
 | some p =>
  obtain ⟨a1,ok1⟩:=p;rw [h1] at hS;obtain ⟨r1,dz,S1,tk1,k1,c1,c2,q1,b1,rfl,hl1,b7,dy,du⟩:=QQ.Aux [(⟨0,ans0⟩:Ent),(⟨1,[.prim (.bool false)]⟩:Ent)] [] 2 1 1 l false hl hn vars ly hv hc gi (by simp) rfl K a1 ok1 h1;simp only [ans0,Ao,Aq] at dz;have hi1:Aie prog 118=false:=aK
  have wi:Aie prog 123=false:=aK
  have hN1:∀ e:Ent,nth (S1++[e]) S1.length=some e:=fun e=>by rw [Af,Fi (Ce _),Oj]; rfl
  have i5:over [AV.prim (.bool false),.frz [] .nilc,.frz [] .nilc,.prim (.bool false),.frz [] .nilc,.prim (.bool false),.frz [] .nilc,.prim (.bool false)] 0 (ansC a1.f a1.pt a1.nu c1 c2 q1 b1)=some (ansC a1.f a1.pt a1.nu c1 c2 q1 b1):=Vv (by rw [K5]; rfl);have jz:∀ f p n c1 c2 q b,takeN 8 (ansC f p n c1 c2 q b)=some (ansC f p n c1 c2 q b):=fun f p n c1 c2 q b=>by
   have:=Acv (r:=[]) (K5 (f:=f) (p:=p) (n:=n) (c1:=c1) (c2:=c2) (q:=q) (b:=b));exact Ya22
  have h10:nth S1 0=some ⟨0,ans0⟩:=by rw [b7 0 (by simp) aA]; rfl
  have a4b:S1.length=2:=by rw [hl1]; rfl
  have hN0:∀ e:Ent,nth (S1++[e]) 0=some ⟨0,ans0⟩:=fun e=>by rw [Bj aA]; exact h10
  have hNP:∀ e x:Ent,nth (put (S1++[e]) 0 x) 0=some x:=fun e x=>Dm (by simp);simp only [ans0] at hN0;cases ok1 with
  | true =>
   simp only [Bg] at hS;subst hS;obtain ⟨rfl,rfl⟩:=du ha;refine opP func45 ntmps45 (hp3:=rfl) ?_;simp (maxSteps:=10^6)+contextual(disch:=try exact dqd)only[ev1,simprocAttr,Ca,Bo,Cb,results45,Ao,Aq,dz,hi1,wi,ifcA,hN1,i5,K5,Aan,jz,hN0,hNP];rfl
  | false =>
   cases h2:Kk WW.qF K l vars false with
   | none=>rw [h2] at hS; simp at hS
   | some p =>
    obtain ⟨a2,ok2⟩:=p;rw [h2] at hS;simp only [Fa,Bg] at hS;subst hS;obtain ⟨r2,hc2,S2,tk2,k2,c3,c4,q2,b2,rfl,hl2,bm,pw,xj⟩:=WW.Aux (S1++[(⟨k1,ansC a1.f a1.pt a1.nu c1 c2 q1 b1⟩:Ent)]) tk1 (k1+1) 1 0 l false hl hn vars ly hv hc gi aC ⟨⟩ K a2 ok2 h2;obtain ⟨rfl,rfl⟩:=xj ha;simp only [Ao,Aq] at hc2;have hl22:S2.length=3:=by rw [hl2]; simp [a4b]
    have h20:nth S2 0=some ⟨0,ans0⟩:=by rw [bm 0 (by simp) aA,Bj aA]; exact h10
    have h2N:nth S2 S1.length=some ⟨k1,ansC a1.f a1.pt a1.nu c1 c2 q1 b1⟩:=by rw [bm _ (by simp) aA]; exact hN1 _
    have hP2:∀ x:Ent,nth (put S2 S1.length x) S1.length=some x:=fun x=>Dm aA;have a2w:∀ x:Ent,nth (put S2 S1.length x) 0=some ⟨0,ans0⟩:=fun x=>by rw [Ae aA]; exact h20
    have a4c:∀ x y:Ent,nth (put (put S2 S1.length x) 0 y) 0=some y:=fun x y=>Dm dV;have kn:over (ansC a1.f a1.pt a1.nu c1 c2 q1 b1) 0 (ansC a2.f a2.pt a2.nu c3 c4 none false)=some (ansC a2.f a2.pt a2.nu c3 c4 none false):=Vv (by rw [K5,K5]);have ho3:over [AV.prim (.bool false),.frz [] .nilc,.frz [] .nilc,.prim (.bool false),.frz [] .nilc,.prim (.bool false),.frz [] .nilc,.prim (.bool false)] 0 (ansC a2.f a2.pt a2.nu c3 c4 none false)=some (ansC a2.f a2.pt a2.nu c3 c4 none false):=Vv (by rw [K5]; rfl);simp only [ans0] at a2w;have xt:bldA (some []) (fieldsOf prog 123) []=some (.agg []):=aK
    refine opP func45 ntmps45 (hp3:=rfl) ?_;simp (maxSteps:=10^6)+contextual(disch:=try exact dqd)only[ev1,simprocAttr,Ca,Bo,Cb,results45,Ao,Aq,dz,hi1,wi,ifcA,hN1,i5,K5,Aan,jz,hc2,h2N,hP2,a2w,a4c,kn,ho3,xt];rfl
end
end
section
open Go Tryz
theorem Q8 {l:List RowT} : ∀ r ∈ l,∀ c ∈ r.1,c.1 ∈ Dx l:=fun r hr c hc=>by
 refine ((Jz (D5 l)).2.1 c.1).2 ?_;unfold D5;refine S7.2 ⟨r.1.map (·.1),F6.2 ⟨r,hr,rfl⟩,F6.2 ⟨c,hc,rfl⟩⟩
def Au8 (l:List RowT) (a:Ans):Prop:=∀ S tk k,cL prog 45 [Ao l,Aq (Dx l),.prim (.pointer none)] S tk k=some (.agg (ansC a.f a.pt a.nu .unk .unk (some (0,0)) false),S,tk,k)
section
variable (S:List Ent) (tk:List Nat) (k:Nat)
theorem R3 (l:List RowT) (bw:∀ r ∈ l,r.1.length<=1048576) (a:Ans) (hA:sysE l=0->Au8 l a) :
  cL prog 23 [Ao l] S tk k=some (.tup [.bool (if sysE l=0 then a.f else false),.int (sysE l)],S,tk,k):=by
 have hC:=fun S tk k=>Hp S tk k l bw;by_cases h0:sysE l=0
 ·obtain ⟨h1,h2,h3,-⟩:=Hc h0;have hV:=fun S tk k=>Ek S tk k l h1 h2;have hA:=hA h0;unfold Au8 at hA;exact Yax
 ·exact Ya0e
end
section
variable (S:List Ent) (tk:List Nat) (k:Nat)
theorem Tt (l:List RowT) (bw:∀ r ∈ l,r.1.length<=1048576) (hi:∀ r ∈ l,i64 r.2.1/\∀ c ∈ r.1,i64 c.2) (K:Nat) (a:Ans) (hS:sysE l=0->askN K l (Dx l)=some a/\a.least=none) :
  cL prog 23 [Ao l] S tk k=some (.tup [.bool (if sysE l=0 then a.f else false),.int (sysE l)],S,tk,k):=by
 have hC:=fun S tk k=>Hp S tk k l bw;by_cases h0:sysE l=0
 ·obtain ⟨h1,h2,h3,-⟩:=Hc h0;have hV:=fun S tk k=>Ek S tk k l h1 h2;obtain ⟨ci,bl⟩:=hS h0;have hA:=fun S tk k=>Tm S tk k l aA aA (Dx l) aA Q8 hi h1 K a ci bl;exact Yax
 ·exact Ya0e
end
end
section
open Go
def qv (a:Q):Rat:=((a.1:Int):Rat) / ((a.2:Int):Rat)
theorem Ho {d:Int} (h:d≠0):((d:Int):Rat)≠0:=fun e=>h (kP.mp (e.trans rfl))
theorem Aw7 {a:Q} {n d:Int} (ha:a.2≠0) (hd:d≠0) (h:a.1*d=n*a.2):qv a=((n:Int):Rat) / ((d:Int):Rat):=by
 have h1:=congrArg (fun z:Int=>(z:Rat)) h;simp only [Fb] at h1;have h2:=Ho ha;have h3:=Ho hd;unfold qv;grind
theorem Aw9 {a:Q} (h:0<a.2):qv a<0↔a.1<0:=by
 unfold qv;rw [Rat.div_lt_iff (Oz.2 h),Rat.zero_mul,Rat.intCast_neg_iff]
theorem Axa {a:Q} (h:0<a.2):0<qv a↔0<a.1:=by
 unfold qv;rw [Rat.lt_div_iff (Oz.2 h),Rat.zero_mul,Oz]
theorem Aeq {a:Q} (h:0<a.2):sgn a<0↔qv a<0:=by
 rw [Aw9 h]; unfold sgn; split
 ·omega
 ·exact Ya3v
theorem Pk {a:Q} (h:0<a.2):0<sgn a↔0<qv a:=by
 rw [Axa h]; unfold sgn; split
 ·omega
 ·exact Ya3v
theorem Nl {a:Q} (h:0<a.2):sgn a=0↔qv a=0:=by
 have h1:=Aeq h;have h2:=Pk h;constructor
 ·intro h0;have a1:¬ qv a<0:=fun h'=>by have:=h1.2 h'; omega
  have a2:¬ 0<qv a:=fun h'=>by have:=h2.2 h'; omega
  grind
 ·intro h0;have a1:¬ sgn a<0:=fun h'=>by have:=h1.1 h'; grind
  have a2:¬ 0<sgn a:=fun h'=>by have:=h2.1 h'; grind
  omega
theorem Wz:qv q0=0:=by unfold qv q0; grind
structure Fld.Exact (F:Fld) (G:Q->Prop):Prop where
 pos:∀ a,G a->0<a.2
 zero:G q0
 whole:∀ n,i64 n->(F.whole n).2=false->G (F.whole n).1/\qv (F.whole n).1=((n:Int):Rat)
 minus:∀ a b,G a->G b->(F.minus a b).2=false->G (F.minus a b).1/\qv (F.minus a b).1=qv a - qv b
 times:∀ a b,G a->G b->(F.times a b).2=false->G (F.times a b).1/\qv (F.times a b).1=qv a*qv b
 over:∀ a b,G a->G b->qv b≠0->(F.over a b).2=false->G (F.over a b).1/\qv (F.over a b).1=qv a / qv b
structure Fld.Total (F:Fld) (G:Q->Prop) (fit:Rat->Prop):Prop where
 whole:∀ n,i64 n->(F.whole n).2=false
 minus:∀ a b,G a->G b->fit (qv a - qv b)->(F.minus a b).2=false
 times:∀ a b,G a->G b->fit (qv a*qv b)->(F.times a b).2=false
 over:∀ a b,G a->G b->qv b≠0->fit (qv a / qv b)->(F.over a b).2=false
theorem Aw8 {n d:Int} (hd:d≠0):qv (lowN n d,lowD n d)=((n:Int):Rat) / ((d:Int):Rat):=Aw7 (a:=(lowN n d,lowD n d)) (by have:=Ql (n:=n) hd; simp only; omega) hd (Mb hd)
theorem Zj {n d:Int} (hd:d≠0) (h:(qn n d).2=false):okS (qn n d).1/\qv (qn n d).1=((n:Int):Rat) / ((d:Int):Rat):=by
 refine ⟨Aq2 n d,?_⟩;unfold qn at h ⊢;split
 ·rename_i hb; rw [if_pos hb] at h; simp at h
 ·exact Aw8 hd
theorem Z2 {n d:Int} (h:(wn n d).2=false):J2 (wn n d).1.1 (wn n d).1.2/\qv (wn n d).1=((n:Int):Rat) / ((d:Int):Rat):=by
 have hf:Ez n d=true:=by simpa [wn] using h
 have g:=Ag2 hf;exact ⟨g,Aw7 (a:=(resN n d,resD n d)) (by have:=g.pos; simp only; omega) (Adx hf) (Anm hf)⟩
def J5 (x:Rat):Prop:=∃ n d:Int,d≠0/\x=((n:Int):Rat) / ((d:Int):Rat)/\n.natAbs<10000 ^ 200/\d.natAbs<10000 ^ 200
theorem Am6 {z:Int} (h:z.natAbs<10000 ^ 200):okZ z=true:=by
 have:=A9.2 h;simp only [okZ,Ig,decide_eq_false_iff_not];omega
theorem Z4 {n d:Int} (hd:d≠0) (h:J5 (((n:Int):Rat) / ((d:Int):Rat))):(wn n d).2=false:=by
 obtain ⟨a,b,hb,he,su,hb1⟩:=h;have e:n*b=a*d:=by
  have h2:=Ho hd;have h3:=Ho hb;have h4:((n*b:Int):Rat)=((a*d:Int):Rat):=by
   rw [Fb,Fb];grind
  exact kP.mp h4
 have hf:=(At1 hd hb e).1;have hg:Ez a b=true:=by
  unfold Ez;have l1:(lowN a b).natAbs<10000 ^ 200:=by rw [Rr]; exact Iu (Ou _ _) su
  have l2:(lowD a b).natAbs<10000 ^ 200:=Iu (Ou _ _) hb1;rw [Am6 l1,Am6 l2];simp [hb]
 unfold wn;rw [hf,hg]; rfl
theorem Tj {a b c d:Rat} (hb:b≠0) (hd:d≠0):(a*d - c*b) / (b*d)=a / b - c / d:=aL
theorem Ti {a b c d:Rat} (hb:b≠0) (hd:d≠0):(a*d+-c*b) / (b*d)=a / b - c / d:=aL
theorem Kj {a b c d:Rat} (hb:b≠0) (hd:d≠0):(a*c) / (b*d)=a / b*(c / d):=aL
theorem Mo {a b c d:Rat} (hb:b≠0) (hd:d≠0) (hc:c≠0):(a*d) / (b*c)=a / b / (c / d):=aL
theorem V3 {b:Q} (h:qv b≠0):b.1≠0:=fun h0=>h (by unfold qv; rw [h0]; show (0:Rat) / _=0; grind)
theorem Agv:QQ.qF.Exact okS:=by
 refine ⟨fun a h=>h.2.2.1,⟨aJ,aJ,aJ,aJ⟩,fun n _ h=>?_,fun a b ha hb h=>?_,fun a b ha hb h=>?_,fun a b ha hb h0 h=>?_⟩
 ·simp only [QQ.qF] at h ⊢;split
  ·rename_i hb; rw [if_pos hb] at h; simp at h
  ·refine ⟨⟨?_,?_,?_,?_⟩,?_⟩
   ·simp only; omega
   ·simp only; omega
   ·simp only; omega
   ·simp only; omega
   ·unfold qv;exact Ya49
 ·have h1:=ha.2.2.1;have h2:=hb.2.2.1;have e:=Zj (Ik aA aA) h;refine ⟨e.1,e.2.trans ?_⟩;rw [kR,Fb,Fb,Fb];exact Tj (Ho aA) (Ho aA)
 ·have h1:=ha.2.2.1;have h2:=hb.2.2.1;have e:=Zj (Ik aA aA) h;exact Ya2p
 ·have h1:=ha.2.2.1;have h2:=hb.2.2.1;have h3:=V3 h0;simp only [QQ.qF] at h ⊢;rw [if_neg h3] at h ⊢;have e:=Zj (Ik aA h3) h;exact Ya25
def gW (a:Q):Prop:=J2 a.1 a.2
theorem Qs {a:Q} (h:gW a):qz a=a:=by
 have:=h.pos;unfold qz; rw [if_neg aA]
theorem Y1 {n:Int} (h:i64 n):gW (n,1):=by
 have:=WW.Du.whole n h;rcases this with h1|h1
 ·exact h1
 ·simp [WW.qF] at h1
theorem Jm:WW.qF.Exact gW:=by
 refine ⟨fun a h=>h.pos,Abo,fun n hn h=>⟨Y1 hn,?_⟩,fun a b ha hb h=>?_,fun a b ha hb h=>?_,fun a b ha hb h0 h=>?_⟩
 ·simp only [WW.qF]; unfold qv;exact Ya49
 ·have h1:=ha.pos;have h2:=hb.pos;simp only [WW.qF,Qs ha,Qs hb] at h ⊢;have e:=Z2 h;refine ⟨e.1,e.2.trans ?_⟩;rw [jK,Fb,Fb,Fb,Og];exact Ti (Ho aA) (Ho aA)
 ·have h1:=ha.pos;have h2:=hb.pos;simp only [WW.qF,Qs ha,Qs hb] at h ⊢;have e:=Z2 h;exact Ya2p
 ·have h1:=ha.pos;have h2:=hb.pos;have h3:=V3 h0;simp only [WW.qF,Qs ha,Qs hb] at h ⊢;have e:=Z2 h;exact Ya25
theorem Q9:WW.qF.Total gW J5:=by
 refine ⟨fun n _=>rfl,fun a b ha hb h=>?_,fun a b ha hb h=>?_,fun a b ha hb h0 h=>?_⟩
 ·have h1:=ha.pos;have h2:=hb.pos;simp only [WW.qF,Qs ha,Qs hb];refine Z4 (Ik aA aA) ?_;rw [jK,Fb,Fb,Fb,Og,Ti (Ho aA) (Ho aA)];exact h
 ·have h1:=ha.pos;have h2:=hb.pos;simp only [WW.qF,Qs ha,Qs hb];refine Z4 (Ik aA aA) ?_;rw [Fb,Fb,Kj (Ho aA) (Ho aA)];exact h
 ·have h1:=ha.pos;have h2:=hb.pos;have h3:=V3 h0;simp only [WW.qF,Qs ha,Qs hb];refine Z4 (Ik aA h3) ?_;rw [Fb,Fb,Mo (Ho aA) (Ho aA) (Ho h3)];exact h
theorem Y2 {l:List ByteArray} {s:ByteArray} (h:s ∈ l):nth l (idxV l s)=some s:=by
 obtain ⟨j,h1,h2,h3⟩:=U7 (i:=0) h;unfold idxV;rw [h2];have:((0+j:Nat):Int).toNat=j:=aA
 rw [this]; exact h3
def tabV (t:Tb):Simp.Tab:=⟨fun i j=>qv (at_ q0 (Bk t i) j),fun j=>qv (at_ q0 t.cost j),fun i=>at_ 0 t.basis i⟩
structure TOk (G:Q->Prop) (m N:Nat) (t:Tb):Prop where
 rows:t.rows.length=m
 basis:t.basis.length=m
 cost:t.cost.length=N+1
 rowW:∀ r ∈ t.rows,r.length=N+1
 okr:∀ r ∈ t.rows,∀ q ∈ r,G q
 okc:∀ q ∈ t.cost,G q
section
variable {α:Type} {d x:α} {l:List α} {k:Nat}
theorem Px:at_ d [] k=d:=rfl
theorem Akq:at_ d (x :: l) 0=x:=rfl
theorem Atb:at_ d (x :: l) (k+1)=at_ d l k:=rfl
theorem Uo (h:k<l.length):nth l k=some (at_ d l k):=by
 obtain ⟨y,hy⟩:=Ab h;unfold at_; rw [hy]; rfl
theorem Em (h:k<l.length):at_ d l k ∈ l:=Aj (Uo h)
theorem Aaq (h:l.length<=k):at_ d l k=d:=by
 unfold at_; rw [Af,C3 h]; rfl
theorem Lz (h:k<l.length) {j:Nat} : at_ d (put l k x) j=if j=k then x else at_ d l j:=by
 unfold at_;by_cases e:j=k
 ·subst e; rw [if_pos rfl,Dm h]; rfl
 ·rw [if_neg e,Ae (I8 e)]
end
section
variable {F:Fld} {G:Q->Prop} {fit:Rat->Prop} {m N:Nat}
theorem Adr (hE:F.Exact G) {b:Q} (hb:G b) (h0:qv b≠0):∀ {l:List Q},(∀ q ∈ l,G q)->(divL F b l).2=false->(∀ q ∈ (divL F b l).1,G q)/\∀ j,qv (at_ q0 (divL F b l).1 j)=qv (at_ q0 l j) / qv b
 | [],_,_=>⟨fun q h=>aV,fun j=>by simp only [divL,Px,Wz]; grind⟩
 | x :: l,hl,hf=>by
  have hx:(dvS F b x).2=false/\(divL F b l).2=false:=by simpa [divL] using hf
  have ih:=Adr hE hb h0 (fun q h=>hl q (Cr _ h)) hx.2;have gx:=hl x (Cq ..);have hs:G (dvS F b x).1/\qv (dvS F b x).1=qv x / qv b:=by
   have h1:=hx.1;unfold dvS at h1 ⊢;split
   ·rename_i h;exact ⟨gx,by rw [(Nl (hE.pos x gx)).1 h]; grind⟩
   ·rename_i h;rw [if_neg h] at h1;exact hE.over x b gx hb h0 h1
  exact Ya00
theorem Aft (hT:F.Total G fit) {b:Q} (hb:G b) (h0:qv b≠0):∀ {l:List Q},(∀ q ∈ l,G q)->(∀ j,j<l.length->fit (qv (at_ q0 l j) / qv b))->(divL F b l).2=false
 | [],_,_=>rfl
 | x :: l,hl,hf=>by
  have ih:=Aft hT hb h0 (l:=l) (fun q h=>hl q (Cr _ h)) fun j hj=>hf (j+1) bN;have gx:=hl x (Cq ..);have hs:(dvS F b x).2=false:=by
   unfold dvS;split
   ·rfl
   ·exact hT.over x b gx hb h0 (hf 0 (by simp))
  show ((dvS F b x).2 || (divL F b l).2)=false;rw [hs,ih]; rfl
theorem Ads {b:Q} : ∀ {l:List Q},(divL F b l).1.length=l.length
 | []=>rfl
 | x :: l=>by simp only [divL,Cj,Ads]
theorem Are (hE:F.Exact G) {b a r:Q} (hb:G b) (ha:G a) (hr:G r) (hf:(Kx F b a r).2=false):G (Kx F b a r).1/\qv (Kx F b a r).1=qv a - qv b*qv r:=by
 unfold Kx at hf ⊢;split
 ·rename_i h;exact ⟨ha,by rw [(Nl (hE.pos r hr)).1 h]; grind⟩
 ·rename_i h;rw [if_neg h] at hf;simp only [F0] at hf;have h1:=hE.times b r hb hr hf.1;have h2:=hE.minus a _ ha h1.1 hf.2;exact ⟨h2.1,by rw [h2.2,h1.2]⟩
theorem Agh (hE:F.Exact G) {b:Q} (hb:G b):∀ {l r:List Q},l.length=r.length->(∀ q ∈ l,G q)->(∀ q ∈ r,G q)->(lessL F b l r).2=false->(∀ q ∈ (lessL F b l r).1,G q)/\∀ j,qv (at_ q0 (lessL F b l r).1 j)=qv (at_ q0 l j) - qv b*qv (at_ q0 r j)
 | [],[],_,_,_,_=>⟨fun q h=>aV,fun j=>by simp only [lessL,Px,Wz]; grind⟩
 | [],_ :: _,h,_,_,_=>aR
 | _ :: _,[],h,_,_,_=>aR
 | a :: l,r :: rs,h,hl,hr,hf=>by
  have hx:(Kx F b a r).2=false/\(lessL F b l rs).2=false:=by simpa [lessL] using hf
  have ih:=Agh hE hb aO (fun q h=>hl q (Cr _ h)) (fun q h=>hr q (Cr _ h)) hx.2;have hs:=Are hE hb (hl a (Cq ..)) (hr r (Cq ..)) hx.1;exact Ya00
theorem Aby (hE:F.Exact G) (hT:F.Total G fit) {b:Q} (hb:G b):∀ {l r:List Q},l.length=r.length->(∀ q ∈ l,G q)->(∀ q ∈ r,G q)->(∀ j,j<r.length->fit (qv b*qv (at_ q0 r j))/\fit (qv (at_ q0 l j) - qv b*qv (at_ q0 r j)))->(lessL F b l r).2=false
 | [],[],_,_,_,_=>rfl
 | [],_ :: _,h,_,_,_=>aR
 | _ :: _,[],h,_,_,_=>aR
 | a :: l,r :: rs,h,hl,hr,hf=>by
  have ih:=Aby hE hT hb (l:=l) (r:=rs) aO (fun q h=>hl q (Cr _ h)) (fun q h=>hr q (Cr _ h)) fun j hj=>hf (j+1) bN;have ga:=hl a (Cq ..);have gr:=hr r (Cq ..);have h0:=hf 0 (by simp);have hs:(Kx F b a r).2=false:=by
   unfold Kx;split
   ·rfl
   ·have t1:=hT.times b r hb gr h0.1;have t2:=hE.times b r hb gr t1;have t3:=hT.minus a _ ga t2.1 (by rw [t2.2]; exact h0.2);simp only [t1,t3]; rfl
  show ((Kx F b a r).2 || (lessL F b l rs).2)=false;rw [hs,ih]; rfl
theorem Agi (hE:F.Exact G) {a r:List Q} {c:Nat} (hc:c<a.length) (hl:a.length=r.length) (ha:∀ q ∈ a,G q) (hr:∀ q ∈ r,G q) (hf:(lessT F a r c).2=false):(∀ q ∈ (lessT F a r c).1,G q)/\∀ j,qv (at_ q0 (lessT F a r c).1 j)=qv (at_ q0 a j) - qv (at_ q0 a c)*qv (at_ q0 r j):=by
 have hb:=ha _ (Em (d:=q0) hc);unfold lessT at hf ⊢;rw [Uo (d:=q0) hc] at hf ⊢;simp only at hf ⊢;split
 ·rename_i h;exact ⟨ha,fun j=>by rw [(Nl (hE.pos _ hb)).1 h]; grind⟩
 ·rename_i h;rw [if_neg h] at hf;exact Agh hE hb hl ha hr hf
theorem Abz (hE:F.Exact G) (hT:F.Total G fit) {a r:List Q} {c:Nat} (hc:c<a.length) (hl:a.length=r.length) (ha:∀ q ∈ a,G q) (hr:∀ q ∈ r,G q) (hf:∀ j,j<r.length->fit (qv (at_ q0 a c)*qv (at_ q0 r j))/\fit (qv (at_ q0 a j) - qv (at_ q0 a c)*qv (at_ q0 r j))):(lessT F a r c).2=false:=by
 have hb:=ha _ (Em (d:=q0) hc);unfold lessT;rw [Uo (d:=q0) hc];simp only;split
 ·rfl
 ·exact Aby hE hT hb hl ha hr hf
theorem Vm (hE:F.Exact G) {row:List Q} {c i W:Nat} (hc:c<W) (hw:row.length=W) (hr:∀ q ∈ row,G q):∀ {l:List (List Q)} {k:Nat},(∀ r ∈ l,r.length=W)->(∀ r ∈ l,∀ q ∈ r,G q)->(lessRows F row c i k l).2=false ->
  (∀ r ∈ (lessRows F row c i k l).1,r.length=W)/\(∀ r ∈ (lessRows F row c i k l).1,∀ q ∈ r,G q)/\∀ n j,n<l.length->qv (at_ q0 (at_ [] (lessRows F row c i k l).1 n) j)=if k+n=i then qv (at_ q0 (at_ [] l n) j) else qv (at_ q0 (at_ [] l n) j) - qv (at_ q0 (at_ [] l n) c)*qv (at_ q0 row j)
 | [],k,_,_,_=>⟨fun r h=>aV,fun r h=>aV,fun n j hn=>by simp at hn⟩
 | r :: l,k,hl,hg,hf=>by
  have hx:(lessK F row c i k r).2=false/\(lessRows F row c i (k+1) l).2=false:=by simpa [lessRows] using hf
  have ih:=Vm hE hc hw hr (fun r h=>hl r (Cr _ h)) (fun r h=>hg r (Cr _ h)) hx.2;have vg:=hl r (Cq ..);have hgr:=hg r (Cq ..);have hs:(lessK F row c i k r).1.length=W/\(∀ q ∈ (lessK F row c i k r).1,G q)/\∀ j,qv (at_ q0 (lessK F row c i k r).1 j)=if k=i then qv (at_ q0 r j) else qv (at_ q0 r j) - qv (at_ q0 r c)*qv (at_ q0 row j):=by
   have h1:=hx.1;unfold lessK at h1 ⊢;by_cases e:k=i
   ·simp only [if_pos e]; exact ⟨vg,hgr,fun j=>trivial⟩
   ·simp only [if_neg e] at h1 ⊢;have h2:=Agi hE aA iA hgr hr h1;exact ⟨by rw [Y5]; exact vg,h2.1,h2.2⟩
  exact Ya01
theorem Tf (hE:F.Exact G) (hT:F.Total G fit) {row:List Q} {c i W:Nat} (hc:c<W) (hw:row.length=W) (hr:∀ q ∈ row,G q):∀ {l:List (List Q)} {k:Nat},(∀ r ∈ l,r.length=W)->(∀ r ∈ l,∀ q ∈ r,G q) ->
  (∀ n j,n<l.length->k+n≠i->j<W->fit (qv (at_ q0 (at_ [] l n) c)*qv (at_ q0 row j))/\fit (qv (at_ q0 (at_ [] l n) j) - qv (at_ q0 (at_ [] l n) c)*qv (at_ q0 row j)))->(lessRows F row c i k l).2=false
 | [],k,_,_,_=>rfl
 | r :: l,k,hl,hg,hf=>by
  have ih:=Tf hE hT hc hw hr (l:=l) (k:=k+1) (i:=i) (fun r h=>hl r (Cr _ h)) (fun r h=>hg r (Cr _ h)) fun n j hn hk hj=>hf (n+1) j bX aA hj;have vg:=hl r (Cq ..);have hgr:=hg r (Cq ..);have hs:(lessK F row c i k r).2=false:=by
   unfold lessK;by_cases e:k=i
   ·rw [if_pos e]
   ·rw [if_neg e];exact Abz hE hT aA iA hgr hr fun j hj=>hf 0 j (by simp) aA aA
  show ((lessK F row c i k r).2 || (lessRows F row c i (k+1) l).2)=false;rw [hs,ih]; rfl
structure W6 (fit:Rat->Prop) (m N:Nat) (t:Simp.Tab) (r s:Nat):Prop where
 row:∀ j,j<N+1->fit (t.T r j / t.T r s)
 mul:∀ i j,i<m->j<N+1->fit (t.T i s*(t.T r j / t.T r s))
 sub:∀ i j,i<m->j<N+1->i≠r->fit (t.T i j - t.T i s*(t.T r j / t.T r s))
 cmul:∀ j,j<N+1->fit (t.c s*(t.T r j / t.T r s))
 csub:∀ j,j<N+1->fit (t.c j - t.c s*(t.T r j / t.T r s))
theorem Jx {t:Tb} (h:TOk G m N t) {i:Nat} (hi:i<m):Bk t i ∈ t.rows:=Em eI
theorem Aiv (hE:F.Exact G) (hT:F.Total G fit) {t:Tb} (h:TOk G m N t) {i c:Nat} (hi:i<m) (hc:c<N+1) (h0:(tabV t).T i c≠0) (hfl:t.fl=false) (hp:W6 fit m N (tabV t) i c):(Eo F t i c).fl=false:=by
 have cd:=Jx h hi;have hb:=h.okr _ cd _ (Em (d:=q0) (k:=c) (by rw [h.rowW _ cd]; exact hc));have d1:=Aft hT hb h0 (h.okr _ cd) fun j hj=>hp.row j (by rw [h.rowW _ cd] at hj; exact hj);have d2:=Adr hE hb h0 (h.okr _ cd) d1;have dl:=Ads (F:=F) (b:=at_ q0 (Bk t i) c) (l:=Bk t i);rw [h.rowW _ cd] at dl;have r1:(lessRows F (divL F (at_ q0 (Bk t i) c) (Bk t i)).1 c i 0 (put t.rows i (divL F (at_ q0 (Bk t i) c) (Bk t i)).1)).2=false:=by
  refine Tf hE hT (W:=N+1) hc dl d2.1 (fun r hr=>?_) (fun r hr=>?_) fun n j hn hk hj=>?_
  ·rcases Jb hr with rfl|hr
   ·exact dl
   ·exact h.rowW r hr
  ·rcases Jb hr with rfl|hr
   ·exact d2.1
   ·exact h.okr r hr
  ·rw [Ak,h.rows] at hn;rw [Lz eI,if_neg aA,d2.2];exact ⟨hp.mul n j hn hj,hp.sub n j hn hj aA⟩
 have k1:(lessT F t.cost (divL F (at_ q0 (Bk t i) c) (Bk t i)).1 c).2=false:=by
  refine Abz hE hT Za54 fV h.okc d2.1 fun j hj=>?_;rw [dl] at hj;rw [d2.2];exact ⟨hp.cmul j hj,hp.csub j hj⟩
 show (((t.fl || _) || _) || _)=false;rw [hfl,d1,r1,k1]; rfl
theorem Anf (hE:F.Exact G) {t:Tb} (h:TOk G m N t) {i c:Nat} (hi:i<m) (hc:c<N+1) (h0:(tabV t).T i c≠0) (hfl:(Eo F t i c).fl=false):TOk G m N (Eo F t i c)/\tabV (Eo F t i c)=Simp.piv (tabV t) i c:=by
 have cd:=Jx h hi;have hb:=h.okr _ cd _ (Em (d:=q0) (k:=c) (by rw [h.rowW _ cd]; exact hc));have a2x:(((t.fl || (divL F (at_ q0 (Bk t i) c) (Bk t i)).2) || (lessRows F (divL F (at_ q0 (Bk t i) c) (Bk t i)).1 c i 0 (put t.rows i (divL F (at_ q0 (Bk t i) c) (Bk t i)).1)).2) || (lessT F t.cost (divL F (at_ q0 (Bk t i) c) (Bk t i)).1 c).2)=false:=hfl;simp only [F0] at a2x;obtain ⟨⟨⟨-,d1⟩,r1⟩,k1⟩:=a2x;have d2:=Adr hE hb h0 (h.okr _ cd) d1;have dl:=Ads (F:=F) (b:=at_ q0 (Bk t i) c) (l:=Bk t i);rw [h.rowW _ cd] at dl;have r2:=Vm hE (W:=N+1) hc dl d2.1 (fun r hr=>by
  rcases Jb hr with rfl|hr
  ·exact dl
  ·exact h.rowW r hr) (fun r hr=>by
  rcases Jb hr with rfl|hr
  ·exact d2.1
  ·exact h.okr r hr) r1
 have k2:=Agi hE Za54 fV h.okc d2.1 k1;refine ⟨⟨?_,?_,?_,r2.1,r2.2.1,k2.1⟩,?_⟩
 ·show (lessRows _ _ _ _ _ _).1.length=m;rw [Lc,Ak]; exact h.rows
 ·show (put _ _ _).length=m;rw [Ak]; exact h.basis
 ·show (lessT _ _ _ _).1.length=N+1;rw [Y5]; exact h.cost
 ·have eT:(tabV (Eo F t i c)).T=(Simp.piv (tabV t) i c).T:=by
   funext i' j;show qv (at_ q0 (at_ [] (lessRows F (divL F (at_ q0 (Bk t i) c) (Bk t i)).1 c i 0 (put t.rows i (divL F (at_ q0 (Bk t i) c) (Bk t i)).1)).1 i') j)=Simp.pivT (tabV t) i c i' j;by_cases au:i'<m
   ·exact Ya0n
   ·have hn:at_ [] t.rows i'=[]:=Aaq (by rw [h.rows]; omega);have z:∀ j,(tabV t).T i' j=0:=fun j=>by
     show qv (at_ q0 (at_ [] t.rows i') j)=0;rw [hn,Px,Wz]
    have e2:at_ [] (lessRows F (divL F (at_ q0 (Bk t i) c) (Bk t i)).1 c i 0 (put t.rows i (divL F (at_ q0 (Bk t i) c) (Bk t i)).1)).1 i'=[]:=Aaq (by rw [Lc,Ak,h.rows]; omega);rw [e2,Px,Wz];unfold Simp.pivT;rw [if_neg aA,z,z]; grind
  have eC:(tabV (Eo F t i c)).c=(Simp.piv (tabV t) i c).c:=by
   funext j;show qv (at_ q0 (lessT F t.cost (divL F (at_ q0 (Bk t i) c) (Bk t i)).1 c).1 j)=_;rw [k2.2,d2.2]; rfl
  have eB:(tabV (Eo F t i c)).B=(Simp.piv (tabV t) i c).B:=by
   exact Ya1x
  exact Ya2m
end
def Lu (G:Q->Prop) (N c:Nat) (T:Simp.Tab) (k:Nat):Option (Nat × Q)->Prop
 | none=>∀ i,i<k->T.T i c<=0
 | some (i,q)=>i<k/\0<T.T i c/\G q/\qv q=T.T i N / T.T i c/\∀ i',i'<k->0<T.T i' c->T.T i N / T.T i c<=T.T i' N / T.T i' c/\(T.T i N / T.T i c=T.T i' N / T.T i' c->T.B i<=T.B i')
structure K2 (fit:Rat->Prop) (m N c:Nat) (T:Simp.Tab):Prop where
 quo:∀ i,i<m->0<T.T i c->fit (T.T i N / T.T i c)
 sub:∀ i k,i<m->k<m->0<T.T i c->0<T.T k c->fit (T.T i N / T.T i c - T.T k N / T.T k c)
def Qe (F:Fld) (basis:List Nat) (c W k:Nat) (r:List Q) (b:Option (Nat × Q)):Option (Nat × Q) × Bool :=
 if sgn (at_ q0 r c)<=0 then (b,false) else
  match b with
  | none=>(some (k,(F.over (at_ q0 r (W - 1)) (at_ q0 r c)).1),(F.over (at_ q0 r (W - 1)) (at_ q0 r c)).2)
  | some (bi,least)=>(if worse basis (sgn (F.minus (F.over (at_ q0 r (W - 1)) (at_ q0 r c)).1 least).1) k bi=true then some (bi,least) else some (k,(F.over (at_ q0 r (W - 1)) (at_ q0 r c)).1),(F.over (at_ q0 r (W - 1)) (at_ q0 r c)).2 || (F.minus (F.over (at_ q0 r (W - 1)) (at_ q0 r c)).1 least).2)
theorem Vl {F:Fld} {basis:List Nat} {c W k:Nat} {r:List Q} {l:List (List Q)} {b:Option (Nat × Q)} : B9 F basis c W k (r :: l) b=((B9 F basis c W (k+1) l (Qe F basis c W k r b).1).1,(Qe F basis c W k r b).2 || (B9 F basis c W (k+1) l (Qe F basis c W k r b).1).2):=by
 rw [B9];unfold Qe;split
 ·simp
 ·cases b with
  | none=>rfl
  | some p=>obtain ⟨bi,least⟩:=p; rfl
section
variable {F:Fld} {G:Q->Prop} {fit:Rat->Prop} {m N L:Nat}
theorem Abx (hE:F.Exact G) {t:Tb} (h:TOk G m N t) {c k:Nat} (hc:c<N+1) (hk:k<m) {b:Option (Nat × Q)} (hb:Lu G N c (tabV t) k b) (hf:(Qe F t.basis c (N+1) k (Bk t k) b).2=false):Lu G N c (tabV t) (k+1) (Qe F t.basis c (N+1) k (Bk t k) b).1:=by
 have cd:=Jx h hk;have hw:=h.rowW _ cd;have g1:=h.okr _ cd _ (Em (d:=q0) (k:=c) fM);have g2:=h.okr _ cd _ (Em (d:=q0) (k:=N) (by rw [hw]; omega));have p1:=hE.pos _ g1;have e1:qv (at_ q0 (Bk t k) c)=(tabV t).T k c:=rfl;have e2:qv (at_ q0 (Bk t k) N)=(tabV t).T k N:=rfl;unfold Qe at hf ⊢;rw [jN] at hf ⊢;split
 ·rename_i hs;have hn:(tabV t).T k c<=0:=by
   have:¬ 0<qv (at_ q0 (Bk t k) c):=fun h'=>by have:=(Pk p1).2 h'; omega
   rw [e1] at this; grind
  cases b with
  | none =>
   intro i hi;by_cases e:i=k
   ·subst e; exact hn
   ·exact hb i aA
  | some p =>
   obtain ⟨bi,least⟩:=p;obtain ⟨b1,b2,b3,b4,b5⟩:=hb;refine ⟨aA,b2,b3,b4,fun i' au hp=>?_⟩;by_cases e:i'=k
   ·subst e; grind
   ·exact b5 i' aA hp
 ·rename_i hs;rw [if_neg hs] at hf;have hp:0<(tabV t).T k c:=by
   rw [<- e1]; exact (Pk p1).1 aA
  have h0:qv (at_ q0 (Bk t k) c)≠0:=by rw [e1]; grind
  cases b with
  | none =>
   simp only at hf ⊢;have hq:=hE.over _ _ g2 g1 h0 hf;refine ⟨aA,hp,hq.1,by rw [hq.2,e1,e2],fun i' au ez=>?_⟩;by_cases e:i'=k
   ·exact Ya0c
   ·have:=hb i' aA; grind
  | some p =>
   obtain ⟨bi,least⟩:=p;obtain ⟨b1,b2,b3,b4,b5⟩:=hb;simp only [F0] at hf ⊢;have hq:=hE.over _ _ g2 g1 h0 hf.1;have hd:=hE.minus _ _ hq.1 b3 hf.2;have pd:=hE.pos _ hd.1;have hdv:qv (F.minus (F.over (at_ q0 (Bk t k) N) (at_ q0 (Bk t k) c)).1 least).1=(tabV t).T k N / (tabV t).T k c - (tabV t).T bi N / (tabV t).T bi c:=by rw [hd.2,hq.2,b4,e1,e2]
   have s1:=Pk pd;have s2:=Nl pd;have s3:=Aeq pd;rw [hdv] at s1 s2 s3;generalize sgn (F.minus (F.over (at_ q0 (Bk t k) N) (at_ q0 (Bk t k) c)).1 least).1=s at s1 s2 s3 ⊢;have eB:∀ i,at_ 0 t.basis i=(tabV t).B i:=fun _=>rfl;unfold worse;rw [eB,eB];by_cases c1:0<s
   ·have hw1:(decide (0<s) || (s == 0 && decide ((tabV t).B bi<(tabV t).B k)))=true:=by simp [c1]
    rw [if_pos hw1];have:=s1.1 c1;refine ⟨aA,b2,b3,b4,fun i' au ez=>?_⟩;exact Ya3s
   ·by_cases c2:s=0
    ·have hz:=s2.1 c2;have eo:(tabV t).T k N / (tabV t).T k c=(tabV t).T bi N / (tabV t).T bi c:=aL
     by_cases c3:(tabV t).B bi<(tabV t).B k
     ·have hw1:(decide (0<s) || (s == 0 && decide ((tabV t).B bi<(tabV t).B k)))=true:=by simp [c2,c3]
      rw [if_pos hw1];refine ⟨aA,b2,b3,b4,fun i' au ez=>?_⟩;exact Ya3w
     ·have hw1:¬ (decide (0<s) || (s == 0 && decide ((tabV t).B bi<(tabV t).B k)))=true:=by simp [c2,c3]
      rw [if_neg hw1];refine ⟨aA,hp,hq.1,by rw [hq.2,e1,e2],fun i' au ez=>?_⟩;by_cases e:i'=k
      ·exact Ya0c
      ·have h5:=b5 i' aA ez;refine ⟨by rw [eo]; exact h5.1,fun h'=>?_⟩;have:=h5.2 (by rw [<- eo]; exact h');omega
    ·have hw1:¬ (decide (0<s) || (s == 0 && decide ((tabV t).B bi<(tabV t).B k)))=true:=by simp [c1,c2]
     rw [if_neg hw1];have:=s3.1 aA;refine ⟨aA,hp,hq.1,by rw [hq.2,e1,e2],fun i' au ez=>?_⟩;by_cases e:i'=k
     ·exact Ya0c
     ·exact Ya4e
theorem Aig (hE:F.Exact G) (hT:F.Total G fit) {t:Tb} (h:TOk G m N t) {c k:Nat} (hc:c<N+1) (hk:k<m) (hF:K2 fit m N c (tabV t)) {b:Option (Nat × Q)} (hb:Lu G N c (tabV t) k b):(Qe F t.basis c (N+1) k (Bk t k) b).2=false:=by
 have cd:=Jx h hk;have hw:=h.rowW _ cd;have g1:=h.okr _ cd _ (Em (d:=q0) (k:=c) fM);have g2:=h.okr _ cd _ (Em (d:=q0) (k:=N) (by rw [hw]; omega));have p1:=hE.pos _ g1;have e1:qv (at_ q0 (Bk t k) c)=(tabV t).T k c:=rfl;have e2:qv (at_ q0 (Bk t k) N)=(tabV t).T k N:=rfl;unfold Qe;rw [jN];split
 ·rfl
 ·rename_i hs;have hp:0<(tabV t).T k c:=by
   rw [<- e1]; exact (Pk p1).1 aA
  have h0:qv (at_ q0 (Bk t k) c)≠0:=by rw [e1]; grind
  have f1:=hT.over _ _ g2 g1 h0 (hF.quo k hk hp);cases b with
  | none=>exact f1
  | some p =>
   obtain ⟨bi,least⟩:=p;obtain ⟨b1,b2,b3,b4,b5⟩:=hb;have hq:=hE.over _ _ g2 g1 h0 f1;have f2:=hT.minus _ _ hq.1 b3 (by rw [hq.2,b4,e1,e2]; exact hF.sub k bi hk aA hp b2);simp only [f1,f2]; rfl
theorem Abw (hE:F.Exact G) {t:Tb} (h:TOk G m N t) {c:Nat} (hc:c<N+1):∀ {l:List (List Q)} {k:Nat} {b:Option (Nat × Q)},t.rows.drop k=l->k<=m->Lu G N c (tabV t) k b->(B9 F t.basis c (N+1) k l b).2=false->Lu G N c (tabV t) m (B9 F t.basis c (N+1) k l b).1
 | [],k,b,hl,hk,hb,_=>by
  exact Ya26
 | r :: l,k,b,hl,hk,hb,hf=>by
  have mj:k<m:=by
   exact Ya0o
  have hd:=Ax (Uo (d:=[]) (l:=t.rows) (k:=k) Za55);rw [hl] at hd;obtain ⟨hr,hl2⟩:=List.cons.inj hd;have er:r=Bk t k:=hr;rw [Vl] at hf ⊢;simp only [F0] at hf ⊢;rw [er] at hf ⊢;exact Abw hE h hc hl2.symm mj (Abx hE h hc mj hb hf.1) hf.2
theorem Xo (hE:F.Exact G) (hT:F.Total G fit) {t:Tb} (h:TOk G m N t) {c:Nat} (hc:c<N+1) (hF:K2 fit m N c (tabV t)):∀ {l:List (List Q)} {k:Nat} {b:Option (Nat × Q)},t.rows.drop k=l->k<=m->Lu G N c (tabV t) k b->(B9 F t.basis c (N+1) k l b).2=false
 | [],k,b,hl,hk,hb=>rfl
 | r :: l,k,b,hl,hk,hb=>by
  have mj:k<m:=by
   exact Ya0o
  have hd:=Ax (Uo (d:=[]) (l:=t.rows) (k:=k) Za55);rw [hl] at hd;obtain ⟨hr,hl2⟩:=List.cons.inj hd;have er:r=Bk t k:=hr;have s1:=Aig hE hT h hc mj hF hb;rw [Vl,er];simp only [F0];exact ⟨s1,Xo hE hT h hc hF hl2.symm mj (Abx hE h hc mj hb s1)⟩
theorem Adp (hE:F.Exact G) {cost:List Q} (hg:∀ q ∈ cost,G q):∀ {n k:Nat},k+n<=cost.length->match colF cost n k with
  | none=>∀ j,k<=j->j<k+n->0<=qv (at_ q0 cost j)
  | some c=>k<=c/\c<k+n/\qv (at_ q0 cost c)<0/\∀ j,k<=j->j<c->0<=qv (at_ q0 cost j)
 | 0,k,_=>fun j h1 h2=>aA
 | n+1,k,hn=>by
  have gk:=hg _ (Em (d:=q0) (k:=k) (l:=cost) aA);have hs:=Aeq (hE.pos _ gk);unfold colF;by_cases c1:sgn (at_ q0 cost k)<0
  ·rw [if_pos c1];exact ⟨Ce _,aA,hs.1 c1,fun j h1 h2=>aA⟩
  ·rw [if_neg c1];have hk:0<=qv (at_ q0 cost k):=by
    have:¬ qv (at_ q0 cost k)<0:=fun h'=>c1 (hs.2 h');grind
   have ih:=Adp hE hg (n:=n) (k:=k+1) aA;cases ef:colF cost n (k+1) with
   | none =>
    rw [ef] at ih;intro j h1 h2;by_cases e:j=k
    ·subst e; exact hk
    ·exact ih j aA aA
   | some c =>
    rw [ef] at ih;obtain ⟨i1,i2,i3,i4⟩:=ih;refine ⟨aA,aA,i3,fun j h1 h2=>?_⟩;by_cases e:j=k
    ·subst e; exact hk
    ·exact i4 j aA h2
def Safe (F:Fld) (G:Q->Prop) (m N L:Nat) (t0:Simp.Tab):Prop :=
 F.stop=true\/∃ fit,F.Total G fit/\∀ K (R:Simp.Run m N L K),R.t 0=t0->(∀ c,c<L->K2 fit m N c (R.t K))/\∀ r s,r<m->s<N->(R.t K).T r s≠0->W6 fit m N (R.t K) r s
def Ajf (F:Fld) (G:Q->Prop) (m N L:Nat) (t0:Simp.Tab) (b:Bool) (t':Tb):Prop :=
 (F.stop=true/\t'.fl=true)\/(t'.fl=false/\TOk G m N t'/\∃ K,∃ R:Simp.Run m N L K,R.t 0=t0/\R.t K=tabV t'/\(b=true->∀ j,j<L->0<=(tabV t').c j)/\(b=false->∃ s,s<L/\(tabV t').c s<0/\∀ i,i<m->(tabV t').T i s<=0))
theorem TOk.flag {t:Tb} (h:TOk G m N t) (f:Bool):TOk G m N { t with fl:=f }:=⟨h.rows,h.basis,h.cost,h.rowW,h.okr,h.okc⟩
theorem Xi {n:Nat} {t:Tb} (h1:F.stop=true) (h2:t.fl=true):J4 F (n+1) t=some (true,t):=by
 rw [J4,h1,h2]; rfl
theorem Afs (hE:F.Exact G) {t0:Simp.Tab} (hs:Safe F G m N L t0):∀ (n:Nat) {K:Nat} (R:Simp.Run m N L K) {t:Tb},R.t 0=t0->R.t K=tabV t->TOk G m N t->t.real=L->t.fl=false->N ^ m+1<=n+K->∃ b t',J4 F n t=some (b,t')/\Ajf F G m N L t0 b t'
 | 0,K,R,t,h0,hK,ht,hL,hfl,hn=>by have:=R.short; omega
 | n+1,K,R,t,h0,hK,ht,hL,hfl,hn=>by
  have a11:=R.short;have hLN:=R.LN;have ef:=Adp hE ht.okc (n:=t.real) (k:=0) (by rw [ht.cost]; omega);have e0:¬ (F.stop && t.fl)=true:=by rw [hfl]; simp
  rw [J4,if_neg e0];cases hc:colF t.cost t.real 0 with
  | none =>
   rw [hc] at ef;refine ⟨true,t,rfl,.inr ⟨hfl,ht,K,R,h0,hK,fun _ j hj=>ef j (Ci _) aA,fun h=>aV⟩⟩
  | some c =>
   rw [hc] at ef;obtain ⟨-,hcL,hneg,vj⟩:=ef;simp only;have hcN:c<N+1:=aA
   have ji:Bw F t c=B9 F t.basis c (N+1) 0 t.rows none:=by unfold Bw; rw [ht.cost]
   have bw:Lu G N c (tabV t) 0 none:=fun i hi=>aA
   cases hle:Bw F t c with
   | mk o f =>
   have hlx:f=false->Lu G N c (tabV t) m o:=fun hf=>by
    have:=Abw hE ht hcN (l:=t.rows) (k:=0) (b:=none) rfl (Ci _) bw (by rw [<- ji,hle]; exact hf);rw [<- ji,hle] at this;exact this
   have hlf:F.stop=false->f=false:=fun ai=>by
    rcases hs with hs|⟨fit,hT,hs⟩
    ·rw [hs] at ai; cases ai
    ·have:=Xo hE hT ht hcN (by rw [<- hK]; exact (hs K R h0).1 c aA) (l:=t.rows) (k:=0) (b:=none) rfl (Ci _) bw;rw [<- ji,hle] at this;exact this
   cases o with
   | none =>
    simp only;refine ⟨false,_,rfl,?_⟩;cases f with
    | true =>
     cases ai:F.stop with
     | true=>exact .inl ⟨ai,by simp⟩
     | false=>have:=hlf ai; cases this
    | false =>
     refine .inr ⟨by simp [hfl],ht.flag _,K,R,h0,hK,fun h=>aV,fun _=>⟨c,aA,hneg,hlx rfl⟩⟩
   | some p =>
    obtain ⟨i,q⟩:=p;simp only;have a0v:F.stop=true->(Eo F { t with fl:=t.fl || f } i c).fl=true->∃ b t',J4 F n (Eo F { t with fl:=t.fl || f } i c)=some (b,t')/\Ajf F G m N L t0 b t':=fun h1 h2=>by
     obtain ⟨n',rfl⟩:∃ n',n=n'+1:=⟨n - 1,aA⟩;exact ⟨true,_,Xi h1 h2,.inl ⟨h1,h2⟩⟩
    cases f with
    | true =>
     cases ai:F.stop with
     | true=>exact a0v ai (by simp [Eo])
     | false=>have:=hlf ai; cases this
    | false =>
     obtain ⟨l1,l2,l3,l4,l5⟩:=hlx rfl;have ht':=ht.flag (t.fl || false);have h0':(tabV { t with fl:=t.fl || false }).T i c≠0:=by
      show (tabV t).T i c≠0;grind
     have j3:Simp.Step m N L (R.t K) i c:=by
      exact Ya1i
     cases hpf:(Eo F { t with fl:=t.fl || false } i c).fl with
     | true =>
      cases ai:F.stop with
      | true=>exact a0v ai hpf
      | false =>
       rcases hs with hs|⟨fit,hT,hs⟩
       ·rw [hs] at ai; cases ai
       ·have:=Aiv hE hT ht' l1 hcN h0' (by simp [hfl]) (by
         show W6 fit m N (tabV t) i c;rw [<- hK];exact (hs K R h0).2 i c l1 aA (by rw [hK]; exact h0'))
        rw [hpf] at this; cases this
     | false =>
      obtain ⟨x1,x2⟩:=Anf hE ht' l1 hcN h0' hpf;refine Afs hE hs n (R.more j3) (t:=Eo F { t with fl:=t.fl || false } i c) ?_ ?_ x1 hL hpf aA
      ·rw [R.more_old j3 (Ci _)]; exact h0
      ·rw [R.more_last j3,x2,hK]; rfl
end
def Ints (m N M Mc:Nat) (t0:Simp.Tab):Prop:=(∀ i j,i<m->j<N+1->∃ z:Int,t0.T i j=((z:Int):Rat)/\z.natAbs<=M)/\∀ j,j<N+1->∃ z:Int,t0.c j=((z:Int):Rat)/\z.natAbs<=Mc
structure Reach (m N:Nat) (t0 t:Simp.Tab):Prop where
 fit:Simp.Fit m N t
 ker:∀ x,Simp.Ker m N t0 x->Simp.Ker m N t x
 cost:∀ x,Simp.Ker m N t0 x->Simp.dot N t.c x=Simp.dot N t0.c x
def bndX (m M Mc:Nat):Nat:=(2*((m+1)*M)) ^ m+(m+1)*(Mc*(2*((m+1)*M)) ^ m)
section
variable {m N L M Mc X:Nat} {t0 t:Simp.Tab}
theorem Reach.piv (h:Reach m N t0 t) {r s:Nat} (hr:r<m) (hs:s<N) (hp:t.T r s≠0):Reach m N t0 (Simp.piv t r s) :=
 ⟨Simp.piv_fit h.fit hr hs hp,fun x hx=>(Simp.piv_ker hr hp x).2 (h.ker x hx),fun x hx=>by rw [Simp.piv_cost hr (h.ker x hx)]; exact h.cost x hx⟩
theorem Reach.run {K:Nat} (R:Simp.Run m N L K):Reach m N (R.t 0) (R.t K) :=
 ⟨R.fits K (Ce _),fun x hx=>(R.ker (Ci _) (Ce _) x).2 hx,fun x hx=>R.cost (Ci _) (Ce _) hx⟩
theorem Pi (hM:1<=M) (hI:Ints m N M Mc t0) (h:Reach m N t0 t) {j:Nat} (hj:j<N+1) :
  ∃ y0:Int,y0≠0/\y0.natAbs<=bndX m M Mc/\(∀ i,i<m->∃ y:Int,t.T i j=((y:Int):Rat) / ((y0:Int):Rat)/\y.natAbs<=bndX m M Mc)/\∃ w:Int,t.c j=((w:Int):Rat) / ((y0:Int):Rat)/\w.natAbs<=bndX m M Mc:=by
 obtain ⟨hI1,hI2⟩:=hI;obtain ⟨a,ha⟩:∃ a:Nat->Nat->Int,∀ i j,i<m->j<N+1->t0.T i j=((a i j:Int):Rat)/\(a i j).natAbs<=M :=
  ⟨fun i j=>if h:i<m/\j<N+1 then Classical.choose (hI1 i j h.1 h.2) else 0,fun i j hi hj=>by
   dsimp only; rw [dif_pos ⟨hi,hj⟩]; exact Classical.choose_spec (hI1 i j hi hj)⟩
 obtain ⟨a0,qe⟩:∃ a0:Nat->Int,∀ j,j<N+1->t0.c j=((a0 j:Int):Rat)/\(a0 j).natAbs<=Mc :=
  ⟨fun j=>if h:j<N+1 then Classical.choose (hI2 j h) else 0,fun j hj=>by
   dsimp only; rw [dif_pos hj]; exact Classical.choose_spec (hI2 j hj)⟩
 obtain ⟨y0,h1,h2,h3,w,h4,h5⟩:=Simp.small hM ha qe h.fit h.ker h.cost hj;refine ⟨y0,h1,Fh h2 (Mn _ _),fun i hi=>?_,w,h4,Fh h5 (Nat.le_add_left _ _)⟩;obtain ⟨y,e1,e2⟩:=h3 i hi;exact ⟨y,e1,Fh e2 (Mn _ _)⟩
theorem Amj {a b:Nat} (h:a<=X) (hb:b<=X):a*b<=X*X:=Pz h hb
theorem Yx {n d:Int} (hd:d≠0) (h1:n.natAbs<=X) (h2:d.natAbs<=X) (hX:2*(X*X)<10000 ^ 200):J5 (((n:Int):Rat) / ((d:Int):Rat)):=by
 have h3:X<=X*X:=Nat.le_mul_self X;exact ⟨n,d,hd,rfl,aA,aA⟩
theorem Alz {n d n' d':Int} (hd:d≠0) (d8:d'≠0) (h1:n.natAbs<=X) (h2:d.natAbs<=X) (h3:n'.natAbs<=X) (h4:d'.natAbs<=X) (hX:2*(X*X)<10000 ^ 200):J5 (((n:Int):Rat) / ((d:Int):Rat)*(((n':Int):Rat) / ((d':Int):Rat))):=by
 have k1:=Amj h1 h3;have k2:=Amj h2 h4;refine ⟨n*n',d*d',Ik hd d8,?_,?_,?_⟩
 ·rw [Fb,Fb]; exact (Kj (Ho hd) (Ho d8)).symm
 ·rw [Iq]; omega
 ·rw [Iq]; omega
theorem At0 {n d n' d':Int} (hd:d≠0) (d8:d'≠0) (h1:n.natAbs<=X) (h2:d.natAbs<=X) (h3:n'.natAbs<=X) (h4:d'.natAbs<=X) (hX:2*(X*X)<10000 ^ 200):J5 (((n:Int):Rat) / ((d:Int):Rat) - ((n':Int):Rat) / ((d':Int):Rat)):=by
 have k1:=Amj h1 h4;have k2:=Amj h3 h2;have k3:=Amj h2 h4;refine ⟨n*d' - n'*d,d*d',Ik hd d8,?_,?_,?_⟩
 ·rw [kR,Fb,Fb,Fb]; exact (Tj (Ho hd) (Ho d8)).symm
 ·have:=Int.natAbs_sub_le (n*d') (n'*d);rw [Iq,Iq] at this;omega
 ·rw [Iq]; omega
theorem Qv (hM:1<=M) (hI:Ints m N M Mc t0) (hX:2*(bndX m M Mc*bndX m M Mc)<10000 ^ 200) (h:Reach m N t0 t) {r s:Nat} (hr:r<m) (hs:s<N) (hp:t.T r s≠0):W6 J5 m N t r s:=by
 have hq:=h.piv hr hs hp;have e1:∀ j,(Simp.piv t r s).T r j=t.T r j / t.T r s:=fun j=>if_pos rfl;have e2:∀ i j,i≠r->(Simp.piv t r s).T i j=t.T i j - t.T i s*(t.T r j / t.T r s):=fun i j hi=>if_neg hi;have e3:∀ j,(Simp.piv t r s).c j=t.c j - t.c s*(t.T r j / t.T r s):=fun j=>rfl;obtain ⟨z0,c1,c2,c3,w,c4,c5⟩:=Pi hM hI h (j:=s) aA;refine ⟨fun j hj=>?_,fun i j hi hj=>?_,fun i j hi hj wy=>?_,fun j hj=>?_,fun j hj=>?_⟩;all_goals obtain ⟨y0,b1,b2,b3,u,b4,b5⟩:=Pi hM hI hq hj
 ·obtain ⟨y,y1,y2⟩:=b3 r hr;rw [e1] at y1;rw [y1]; exact Yx b1 y2 b2 hX
 ·obtain ⟨y,y1,y2⟩:=b3 r hr;obtain ⟨z,z1,z2⟩:=c3 i hi;rw [e1] at y1;rw [y1,z1]; exact Alz c1 b1 z2 c2 y2 b2 hX
 ·obtain ⟨y,y1,y2⟩:=b3 i hi;rw [e2 i j wy] at y1;rw [y1]; exact Yx b1 y2 b2 hX
 ·obtain ⟨y,y1,y2⟩:=b3 r hr;rw [e1] at y1;rw [y1,c4]; exact Alz c1 b1 c5 c2 y2 b2 hX
 ·rw [e3] at b4;rw [b4]; exact Yx b1 b5 b2 hX
theorem Mr (hM:1<=M) (hI:Ints m N M Mc t0) (hX:2*(bndX m M Mc*bndX m M Mc)<10000 ^ 200) (h:Reach m N t0 t) {c:Nat} (hc:c<N):K2 J5 m N c t:=by
 have key:∀ i,i<m->0<t.T i c->∃ y y0:Int,y0≠0/\y.natAbs<=bndX m M Mc/\y0.natAbs<=bndX m M Mc/\t.T i N / t.T i c=((y:Int):Rat) / ((y0:Int):Rat):=fun i hi hp=>by
  have hq:=h.piv hi hc aL;obtain ⟨y0,b1,b2,b3,-⟩:=Pi hM hI hq (j:=N) aA;obtain ⟨y,y1,y2⟩:=b3 i hi;have e1:(Simp.piv t i c).T i N=t.T i N / t.T i c:=if_pos rfl;exact ⟨y,y0,b1,y2,b2,by rw [<- e1,y1]⟩
 refine ⟨fun i hi hp=>?_,fun i k hi hk hp hq=>?_⟩
 ·obtain ⟨y,y0,a1,a2,a3,a4⟩:=key i hi hp;rw [a4]; exact Yx a1 a2 a3 hX
 ·obtain ⟨y,y0,a1,a2,a3,a4⟩:=key i hi hp;obtain ⟨z,z0,b1,b2,b3,b4⟩:=key k hk hq;rw [a4,b4]; exact At0 a1 b1 a2 a3 b2 b3 hX
theorem Aur (hM:1<=M) (hI:Ints m N M Mc t0) (hX:2*(bndX m M Mc*bndX m M Mc)<10000 ^ 200):Safe WW.qF gW m N L t0:=by
 refine .inr ⟨J5,Q9,fun K R h0=>?_⟩;exact Ya1c
theorem Auq:Safe QQ.qF okS m N L t0:=.inl rfl
end
def N1 (u:Rat) (vars:List ByteArray):List (ByteArray × Int)->(Nat->Rat)->Nat->Rat
 | [],f=>f
 | c :: cs,f=>N1 u vars cs fun j=>if j=2*idxV vars c.1+1 then -(u*((c.2:Int):Rat)) else if j=2*idxV vars c.1 then u*((c.2:Int):Rat) else f j
theorem M3 {u:Rat} {vars:List ByteArray} {k:Nat} : ∀ {cs:List (ByteArray × Int)} {f:Nat->Rat},(∀ c ∈ cs,idxV vars c.1≠k)->N1 u vars cs f (2*k)=f (2*k)/\N1 u vars cs f (2*k+1)=f (2*k+1)
 | [],_,_=>⟨rfl,rfl⟩
 | c :: cs,f,h=>by
  have h1:=h c (Cq ..);have ih:=M3 (u:=u) (cs:=cs) (f:=fun j=>if j=2*idxV vars c.1+1 then -(u*((c.2:Int):Rat)) else if j=2*idxV vars c.1 then u*((c.2:Int):Rat) else f j) fun c' hc=>h c' (Cr _ hc);rw [N1,ih.1,ih.2];exact ⟨by rw [if_neg aA,if_neg aA],by rw [if_neg aA,if_neg aA]⟩
theorem Xh {u:Rat} {vars:List ByteArray} {c:ByteArray × Int} : ∀ {cs:List (ByteArray × Int)} {f:Nat->Rat},(cs.map fun c=>idxV vars c.1).Pairwise (·≠·)->c ∈ cs->N1 u vars cs f (2*idxV vars c.1)=u*((c.2:Int):Rat)/\N1 u vars cs f (2*idxV vars c.1+1)=-(u*((c.2:Int):Rat))
 | [],_,_,h=>aV
 | c' :: cs,f,hp,h=>by
  rw [Cm,Ib] at hp;rw [N1];rcases C4.1 h with rfl|h
  ·have:=M3 (u:=u) (vars:=vars) (k:=idxV vars c.1) (cs:=cs) (f:=fun j=>if j=2*idxV vars c.1+1 then -(u*((c.2:Int):Rat)) else if j=2*idxV vars c.1 then u*((c.2:Int):Rat) else f j) fun c' hc=>(hp.1 _ (F6.2 ⟨c',hc,rfl⟩)).symm;rw [this.1,this.2];exact ⟨by rw [if_neg aA,if_pos rfl],by rw [if_pos rfl]⟩
  ·exact Xh hp.2 h
theorem Uv {u:Rat} {vars:List ByteArray} {j:Nat} : ∀ {cs:List (ByteArray × Int)} {f:Nat->Rat},(∀ c ∈ cs,c.1 ∈ vars)->2*vars.length<=j->N1 u vars cs f j=f j
 | [],_,_,_=>rfl
 | c :: cs,f,h,hj=>by
  have h1:=(P9 (h c (Cq ..))).2;rw [N1,Uv (fun c' hc=>h c' (Cr _ hc)) hj,if_neg aA,if_neg aA]
def cofI (vars:List ByteArray):List (ByteArray × Int)->Nat->Int
 | [],_=>0
 | c :: cs,k=>if idxV vars c.1=k then c.2 else cofI vars cs k
theorem Uu {vars:List ByteArray} {k:Nat} : ∀ {cs:List (ByteArray × Int)},(∀ c ∈ cs,idxV vars c.1≠k)->cofI vars cs k=0
 | [],_=>rfl
 | c :: cs,h=>by rw [cofI,if_neg (h c (Cq ..))]; exact Uu fun c' hc=>h c' (Cr _ hc)
theorem Aa2 {vars:List ByteArray} {c:ByteArray × Int} : ∀ {cs:List (ByteArray × Int)},(cs.map fun c=>idxV vars c.1).Pairwise (·≠·)->c ∈ cs->cofI vars cs (idxV vars c.1)=c.2
 | [],_,h=>aV
 | c' :: cs,hp,h=>by
  rw [Cm,Ib] at hp;rcases C4.1 h with rfl|h
  ·rw [cofI,if_pos rfl]
  ·rw [cofI,if_neg (hp.1 _ (F6.2 ⟨c,h,rfl⟩))];exact Aa2 hp.2 h
theorem Afn {vars:List ByteArray} {k:Nat} : ∀ {cs:List (ByteArray × Int)},cofI vars cs k=0\/∃ c ∈ cs,c.2=cofI vars cs k/\idxV vars c.1=k
 | []=>.inl rfl
 | c :: cs=>by
  rw [cofI];split
  ·rename_i h; exact .inr ⟨c,Cq ..,rfl,h⟩
  ·rcases Afn (vars:=vars) (k:=k) (cs:=cs) with h|⟨c',h1,h2,h3⟩
   ·exact .inl h
   ·exact .inr ⟨c',Cr _ h1,h2,h3⟩
theorem H2 {u:Rat} {vars:List ByteArray} {cs:List (ByteArray × Int)} (hp:(cs.map fun c=>idxV vars c.1).Pairwise (·≠·)) (k:Nat):N1 u vars cs (fun _=>0) (2*k)=u*((cofI vars cs k:Int):Rat)/\N1 u vars cs (fun _=>0) (2*k+1)=-(u*((cofI vars cs k:Int):Rat)):=by
 by_cases h:∃ c ∈ cs,idxV vars c.1=k
 ·obtain ⟨c,hc,rfl⟩:=h;rw [Aa2 hp hc];exact Xh hp hc
 ·have h':∀ c ∈ cs,idxV vars c.1≠k:=fun c hc e=>h ⟨c,hc,e⟩;rw [Uu h',(M3 h').1,(M3 h').2,Rat.intCast_zero];exact ⟨aL,aL⟩
section
variable {F:Fld} {G:Q->Prop} {fit:Rat->Prop}
theorem Agt {l:List Q} {i j:Nat} {x y q:Q} (hl:∀ q ∈ l,G q) (hx:G x) (hy:G y) (h:q ∈ put (put l i x) j y):G q:=by
 rcases Jb h with rfl|h
 ·exact hy
 ·rcases Jb h with rfl|h
  ·exact hx
  ·exact hl q h
theorem Aa1 (hE:F.Exact G) {u z:Q} {vars:List ByteArray} (hu:G u) (hz:G z) (hz0:qv z=0):∀ {cs:List (ByteArray × Int)} {row:List Q} {f:Nat->Rat},(∀ c ∈ cs,i64 c.2/\c.1 ∈ vars)->2*vars.length<=row.length->(∀ q ∈ row,G q)->(∀ j,qv (at_ q0 row j)=f j)->(coefsC F u z vars cs row).2=false ->
  (coefsC F u z vars cs row).1.length=row.length/\(∀ q ∈ (coefsC F u z vars cs row).1,G q)/\∀ j,qv (at_ q0 (coefsC F u z vars cs row).1 j)=N1 (qv u) vars cs f j
 | [],row,f,_,_,hg,hf,_=>⟨rfl,hg,hf⟩
 | c :: cs,row,f,hc,hl,hg,hf,hfl=>by
  obtain ⟨hi,hm⟩:=hc c (Cq ..);have om:=(P9 hm).2;simp only [coefsC,setC,F0] at hfl;obtain ⟨⟨⟨f1,f2⟩,f3⟩,f4⟩:=hfl;have w:=hE.whole c.2 hi f1;have t:=hE.times u _ hu w.1 f2;have d:=hE.minus z _ hz t.1 f3;have ih:=Aa1 hE hu hz hz0 (cs:=cs) (row:=put (put row (2*idxV vars c.1) (F.times u (F.whole c.2).1).1) (2*idxV vars c.1+1) (F.minus z (F.times u (F.whole c.2).1).1).1)
   (f:=fun j=>if j=2*idxV vars c.1+1 then -(qv u*((c.2:Int):Rat)) else if j=2*idxV vars c.1 then qv u*((c.2:Int):Rat) else f j)
   (fun c' h=>hc c' (Cr _ h)) (by rw [Ak,Ak]; exact hl) (fun q h=>Agt hg t.1 d.1 h) (fun j=>by
    rw [Lz (by rw [Ak]; omega),Lz aA];split
    ·rw [d.2,t.2,w.2,hz0]; grind
    ·split
     ·rw [t.2,w.2]
     ·exact hf j) f4
  rw [Ak,Ak] at ih;exact ih
theorem Xg (hE:F.Exact G) (hT:F.Total G fit) {u z:Q} {vars:List ByteArray} (hu:G u) (hz:G z) (hz0:qv z=0):∀ {cs:List (ByteArray × Int)} {row:List Q},(∀ c ∈ cs,i64 c.2/\fit (qv u*((c.2:Int):Rat))/\fit (0 - qv u*((c.2:Int):Rat)))->(coefsC F u z vars cs row).2=false
 | [],_,_=>rfl
 | c :: cs,row,hc=>by
  obtain ⟨hi,h1,h2⟩:=hc c (Cq ..);have f1:=hT.whole c.2 hi;have w:=hE.whole c.2 hi f1;have f2:=hT.times u _ hu w.1 (by rw [w.2]; exact h1);have t:=hE.times u _ hu w.1 f2;have f3:=hT.minus z _ hz t.1 (by rw [t.2,w.2,hz0]; exact h2);simp only [coefsC,setC,F0];exact ⟨⟨⟨f1,f2⟩,f3⟩,Xg hE hT hu hz hz0 fun c' h=>hc c' (Cr _ h)⟩
def sgR (r:RowT):Rat:=if 0<r.2.1 then -1 else 1
def rowR (vars:List ByteArray) (real W i slack:Nat) (r:RowT) (j:Nat):Rat :=
 if j=W - 1 then -(sgR r*((r.2.1:Int):Rat)) else if j=real+i then 1 else if r.2.2=false/\j=slack then sgR r else N1 (sgR r) vars r.1 (fun _=>0) j
theorem Ako {z:Q} (hz:qv z=0) {n j:Nat} : qv (at_ q0 (Cg n z) j)=0:=by
 by_cases h:j<n
 ·have:at_ q0 (Cg n z) j=z:=by
   unfold at_;rw [Af,List.getElem?_replicate,if_pos h]; rfl
  rw [this,hz]
 ·rw [Aaq Za53,Wz]
theorem Ahl (hE:F.Exact G) {r:RowT} (hf:(Kz F (Ee r)).2=false):G (Kz F (Ee r)).1/\qv (Kz F (Ee r)).1=sgR r:=by
 unfold Kz Ee sgR at *;by_cases h:0<r.2.1
 ·simp only [decide_eq_true_eq,h,if_true,F0] at hf ⊢;have:=hE.whole (-1) aD hf.2;exact ⟨this.1,this.2.trans rfl⟩
 ·simp only [decide_eq_true_eq,h,if_false] at hf ⊢;have:=hE.whole 1 aD hf;exact ⟨this.1,this.2.trans rfl⟩
theorem Aol (hT:F.Total G fit) {b:Bool} : (Kz F b).2=false:=by
 unfold Kz;split
 ·simp only [hT.whole 1 aD,hT.whole (-1) aD]; rfl
 ·exact hT.whole 1 aD
theorem Anp (hE:F.Exact G) {z:Q} {vars:List ByteArray} (hz:G z) (hz0:qv z=0) {real W i slack:Nat} {r:RowT} (hi:i64 r.2.1) (hc:∀ c ∈ r.1,i64 c.2/\c.1 ∈ vars) (hv:2*vars.length<=real) (cd:real+i<W - 1) (hs:r.2.2=false->slack<W) (hf:(rowF F z vars real W i slack r).2=false) :
  (rowF F z vars real W i slack r).1.length=W/\(∀ q ∈ (rowF F z vars real W i slack r).1,G q)/\∀ j,qv (at_ q0 (rowF F z vars real W i slack r).1 j)=rowR vars real W i slack r j:=by
 simp only [rowF,Vj,F0] at hf;obtain ⟨⟨⟨f1,f2⟩,f3⟩,⟨f4,f5⟩,f6⟩:=hf;obtain ⟨gu,eu⟩:=Ahl hE f1;obtain ⟨a1,a2,a3⟩:=Aa1 hE gu hz hz0 (f:=fun _=>0) hc Za53 (fun q h=>by rw [(It.1 h).2]; exact hz) (fun j=>Ako hz0) f2;rw [O2] at a1;have o:=hE.whole 1 aD f3;have w:=hE.whole _ hi f4;have t:=hE.times _ _ gu w.1 f5;have d:=hE.minus z _ hz t.1 f6;have hsl:(Q3 r.2.2 (coefsC F (Kz F (Ee r)).1 z vars r.1 (Cg W z)).1 slack (Kz F (Ee r)).1).length=W/\(∀ q ∈ Q3 r.2.2 (coefsC F (Kz F (Ee r)).1 z vars r.1 (Cg W z)).1 slack (Kz F (Ee r)).1,G q)/\∀ j,qv (at_ q0 (Q3 r.2.2 (coefsC F (Kz F (Ee r)).1 z vars r.1 (Cg W z)).1 slack (Kz F (Ee r)).1) j)=if r.2.2=false/\j=slack then sgR r else N1 (sgR r) vars r.1 (fun _=>0) j:=by
  unfold Q3;cases he:r.2.2 with
  | true =>
   rw [if_pos rfl];exact ⟨a1,a2,fun j=>by rw [if_neg (by simp),a3,eu]⟩
  | false =>
   rw [if_neg (by simp)];refine ⟨by rw [Ak]; exact a1,fun q h=>?_,fun j=>?_⟩
   ·rcases Jb h with rfl|h
    ·exact gu
    ·exact a2 q h
   ·rw [Lz (by rw [a1]; exact hs he)];by_cases e:j=slack
    ·rw [if_pos e,if_pos ⟨rfl,e⟩,eu]
    ·rw [if_neg e,if_neg (fun h=>e h.2),a3,eu]
 obtain ⟨b1,b2,b3⟩:=hsl;refine ⟨?_,fun q h=>Agt b2 o.1 d.1 h,fun j=>?_⟩
 ·show (put (put _ _ _) _ _).length=W;rw [Ak,Ak]; exact b1
 ·show qv (at_ q0 (put (put _ _ _) _ _) j)=_;rw [Lz (by rw [Ak,b1]; omega),Lz (by rw [b1]; omega)];unfold rowR;by_cases e1:j=W - 1
  ·rw [if_pos e1,if_pos e1];show qv (F.minus z (F.times (Kz F (Ee r)).1 (F.whole r.2.1).1).1).1=_;rw [d.2,t.2,w.2,eu,hz0]; grind
  ·rw [if_neg e1,if_neg e1];by_cases e2:j=real+i
   ·rw [if_pos e2,if_pos e2,o.2]; rfl
   ·rw [if_neg e2,if_neg e2,b3]
theorem Aq9 (hE:F.Exact G) (hT:F.Total G fit) {z:Q} {vars:List ByteArray} (hz:G z) (hz0:qv z=0) {real W i slack:Nat} {r:RowT} (hi:i64 r.2.1) (hc:∀ c ∈ r.1,i64 c.2/\fit (sgR r*((c.2:Int):Rat))/\fit (0 - sgR r*((c.2:Int):Rat))) (hn:fit (sgR r*((r.2.1:Int):Rat))/\fit (0 - sgR r*((r.2.1:Int):Rat))):(rowF F z vars real W i slack r).2=false:=by
 have f1:=Aol hT (b:=Ee r);obtain ⟨gu,eu⟩:=Ahl hE f1;have f2:=Xg hE hT gu hz hz0 (vars:=vars) (cs:=r.1) (row:=Cg W z) (by rw [eu]; exact hc);have f3:=hT.whole 1 aD;have f4:=hT.whole _ hi;have w:=hE.whole _ hi f4;have f5:=hT.times _ _ gu w.1 (by rw [w.2,eu]; exact hn.1);have t:=hE.times _ _ gu w.1 f5;have f6:=hT.minus z _ hz t.1 (by rw [t.2,w.2,eu,hz0]; exact hn.2);simp only [rowF,Vj,F0];exact ⟨⟨⟨f1,f2⟩,f3⟩,⟨f4,f5⟩,f6⟩
theorem Afp (hE:F.Exact G) {real W:Nat} : ∀ {c r:List Q} {k:Nat},c.length=r.length->(∀ q ∈ c,G q)->(∀ q ∈ r,G q)->(costL F real W k c r).2=false->(∀ q ∈ (costL F real W k c r).1,G q)/\∀ j,qv (at_ q0 (costL F real W k c r).1 j)=if k+j<real\/k+j=W - 1 then qv (at_ q0 c j) - qv (at_ q0 r j) else qv (at_ q0 c j)
 | [],[],_,_,_,_,_=>⟨fun q h=>aV,fun j=>by simp only [costL,Px,Wz]; split <;> grind⟩
 | [],_ :: _,_,h,_,_,_=>aR
 | _ :: _,[],_,h,_,_,_=>aR
 | a :: c,b :: r,k,h,hc,hr,hf=>by
  have hx:(Kn F real W k a b).2=false/\(costL F real W (k+1) c r).2=false:=by simpa [costL] using hf
  have ih:=Afp hE aO (fun q h=>hc q (Cr _ h)) (fun q h=>hr q (Cr _ h)) hx.2;have hs:G (Kn F real W k a b).1/\qv (Kn F real W k a b).1=if k<real\/k=W - 1 then qv a - qv b else qv a:=by
   have h1:=hx.1;unfold Kn at h1 ⊢;split
   ·rename_i hk;rw [if_pos hk] at h1;exact hE.minus a b (hc a (Cq ..)) (hr b (Cq ..)) h1
   ·exact ⟨hc a (Cq ..),rfl⟩
  refine ⟨fun q h=>?_,fun j=>?_⟩
  ·rcases C4.1 h with rfl|h
   ·exact hs.1
   ·exact ih.1 q h
  ·cases j with
   | zero=>exact hs.2
   | succ j =>
    have:=ih.2 j;rw [show k+1+j=k+(j+1) by omega] at this;exact this
theorem Aa6 (hT:F.Total G fit) {real W:Nat} : ∀ {c r:List Q} {k:Nat},(∀ q ∈ c,G q)->(∀ q ∈ r,G q)->(∀ j,fit (qv (at_ q0 c j) - qv (at_ q0 r j)))->(costL F real W k c r).2=false
 | [],_,_,_,_,_=>by simp [costL]
 | _ :: _,[],_,_,_,_=>rfl
 | a :: c,b :: r,k,hc,hr,hf=>by
  have ih:=Aa6 hT (c:=c) (r:=r) (k:=k+1) (real:=real) (W:=W) (fun q h=>hc q (Cr _ h)) (fun q h=>hr q (Cr _ h)) fun j=>hf (j+1);have hs:(Kn F real W k a b).2=false:=by
   unfold Kn;split
   ·exact hT.minus a b (hc a (Cq ..)) (hr b (Cq ..)) (hf 0)
   ·rfl
  show ((Kn F real W k a b).2 || (costL F real W (k+1) c r).2)=false;rw [hs,ih]; rfl
end
def rowX (vars:List ByteArray) (real W:Nat) (l:List RowT) (i j:Nat):Rat :=
 match nth l i with
 | some r=>rowR vars real W i (2*vars.length+neqs (l.take i)) r j
 | none=>0
theorem Ag5 {vars:List ByteArray} {real W:Nat} {l:List RowT} {r:RowT} {i j:Nat} (h:i<l.length):rowX vars real W (l++[r]) i j=rowX vars real W l i j:=by
 unfold rowX;rw [Af,Af,Cy h,Oq aA]
theorem Ag4 {vars:List ByteArray} {real W:Nat} {l:List RowT} {r:RowT} {j:Nat} : rowX vars real W (l++[r]) l.length j=rowR vars real W l.length (2*vars.length+neqs l) r j:=by
 unfold rowX;rw [Af,Fi (Ce _),Oj,Oq (Ce _),C8]; rfl
theorem Jg:∀ {l l':List RowT},neqs (l++l')=neqs l+neqs l'
 | [],l'=>by simp [neqs]
 | r :: l,l'=>by rw [Co,neqs,neqs,Jg]; omega
theorem Akp {α:Type} {d x:α} {l:List α} {i:Nat} : at_ d (l++[x]) i=if i=l.length then x else at_ d l i:=by
 unfold at_;by_cases e:i=l.length
 ·subst e; rw [if_pos rfl,Af,Fi (Ce _),Oj]; rfl
 ·rw [if_neg e];by_cases h:i<l.length
  ·rw [Af,Af,Cy h]
  ·rw [Af,Af,C3 aC,C3 aA]
structure BInv (G:Q->Prop) (vars:List ByteArray) (real W:Nat) (done:List RowT) (t:Tb):Prop where
 nr:t.rows.length=done.length
 nb:t.basis.length=done.length
 nc:t.cost.length=W
 rowW:∀ r ∈ t.rows,r.length=W
 okr:∀ r ∈ t.rows,∀ q ∈ r,G q
 okc:∀ q ∈ t.cost,G q
 vals:∀ i,i<done.length->∀ j,qv (at_ q0 (Bk t i) j)=rowX vars real W done i j
 costs:∀ j,qv (at_ q0 t.cost j)=if j<real\/j=W - 1 then - Simp.sum done.length (fun i=>rowX vars real W done i j) else 0
 bas:∀ i,i<done.length->at_ 0 t.basis i=real+i
 flips:t.flip=done.map Ee
structure Gx (vars:List ByteArray) (r:RowT):Prop where
 c64:i64 r.2.1
 n64:∀ c ∈ r.1,i64 c.2
 mem:∀ c ∈ r.1,c.1 ∈ vars
 dis:(r.1.map fun c=>idxV vars c.1).Pairwise (·≠·)
section
variable {F:Fld} {G:Q->Prop} {fit:Rat->Prop} {vars:List ByteArray} {real W:Nat} {z:Q}
theorem BInv.step (hE:F.Exact G) (hz:G z) (hz0:qv z=0) {done:List RowT} {t:Tb} (h:BInv G vars real W done t) {r:RowT} (hr:Gx vars r) (hv:2*vars.length<=real) (cd:real+done.length<W - 1) (hs:r.2.2=false->2*vars.length+neqs done<real)
  (ha:(rowF F z vars real W done.length (2*vars.length+neqs done) r).2=false) (hcf:(costL F real W 0 t.cost (rowF F z vars real W done.length (2*vars.length+neqs done) r).1).2=false) (fl:Bool) :
  BInv G vars real W (done++[r]) { t with rows:=t.rows++[(rowF F z vars real W done.length (2*vars.length+neqs done) r).1],cost:=(costL F real W 0 t.cost (rowF F z vars real W done.length (2*vars.length+neqs done) r).1).1,basis:=t.basis++[real+done.length],flip:=t.flip++[Ee r],fl:=fl }:=by
 obtain ⟨a1,a2,a3⟩:=Anp hE hz hz0 hr.c64 (fun c hc=>⟨hr.n64 c hc,hr.mem c hc⟩) hv cd (fun e=>by have:=hs e; omega) ha;obtain ⟨c1,c2⟩:=Afp hE (by rw [h.nc,a1]) h.okc a2 hcf;refine ⟨by simp [h.nr],by simp [h.nb],by rw [Ys]; exact h.nc,fun q hq=>?_,fun q hq=>?_,c1,fun i hi j=>?_,fun j=>?_,fun i hi=>?_,by simp [h.flips]⟩
 ·rcases Cu.1 hq with hq|hq
  ·exact h.rowW q hq
  ·rw [Ft.1 hq]; exact a1
 ·rcases Cu.1 hq with hq|hq
  ·exact h.okr q hq
  ·rw [Ft.1 hq]; exact a2
 ·show qv (at_ q0 (at_ [] (t.rows++[_]) i) j)=_;rw [Akp,h.nr];by_cases e:i=done.length
  ·subst e; rw [if_pos rfl,a3,Ag4]
  ·rw [if_neg e,Ag5 cQ];exact h.vals i cQ j
 ·rw [c2,a3,h.costs,Fk];by_cases e:j<real\/j=W - 1
  ·rw [if_pos e,if_pos e,if_pos e,Cn,O0,Simp.sum,Ag4];rw [Simp.sum_congr (g:=fun i=>rowX vars real W done i j) fun i hi=>Ag5 hi];grind
  ·rw [if_neg e,if_neg e,if_neg e]
 ·rw [Akp,h.nb];by_cases e:i=done.length
  ·subst e; rw [if_pos rfl]
  ·rw [if_neg e];exact h.bas i cQ
theorem Adg:∀ {l:List RowT} {i sl:Nat} {t:Tb},(begS F z vars real W l i sl t).fl=false->t.fl=false
 | [],_,_,_,h=>h
 | r :: l,i,sl,t,h=>by
  rw [begS] at h;have h1:=Adg h;simp only [F0] at h1;exact h1.1.1
theorem Aks (hE:F.Exact G) (hz:G z) (hz0:qv z=0) (hv:2*vars.length<=real):∀ {rest done:List RowT} {t:Tb},(∀ r ∈ rest,Gx vars r)->2*vars.length+neqs (done++rest)<=real->real+(done++rest).length<W->BInv G vars real W done t->(begS F z vars real W rest done.length (2*vars.length+neqs done) t).fl=false ->
  BInv G vars real W (done++rest) (begS F z vars real W rest done.length (2*vars.length+neqs done) t)
 | [],done,t,_,_,_,h,_=>by rw [Fj]; exact h
 | r :: rest,done,t,hr,hq,hw,h,hf=>by
  rw [begS] at hf ⊢;have h1:=Adg hf;simp only [F0] at h1;have ml:2*vars.length+neqs done+((if r.2.2=true then 0 else 1)+neqs rest)<=real:=by rw [Jg,neqs] at hq; omega
  have hw':real+done.length+(rest.length+1)<W:=by simp at hw; omega
  have st:=h.step hE hz hz0 (hr r (Cq ..)) hv aA (fun e=>Za38) h1.1.2 h1.2 ((t.fl || (rowF F z vars real W done.length (2*vars.length+neqs done) r).2) || (costL F real W 0 t.cost (rowF F z vars real W done.length (2*vars.length+neqs done) r).1).2);have e1:(if r.2.2=true then 2*vars.length+neqs done else 2*vars.length+neqs done+1)=2*vars.length+neqs (done++[r]):=by
   rw [Jg,neqs,neqs]; split <;> omega
  have e2:done.length+1=(done++[r]).length:=by simp
  have e3:done++r :: rest=(done++[r])++rest:=by simp
  rw [e1,e2] at hf ⊢;rw [e3] at hq hw ⊢;exact Aks hE hz hz0 hv (fun r' h'=>hr r' (Cr _ h')) hq hw st hf
structure Gn (M:Nat) (r:RowT):Prop where
 one:1<=M
 con:r.2.1.natAbs<=M
 cof:∀ c ∈ r.1,c.2.natAbs<=M
theorem Kv {M:Nat} (r:RowT) {n:Int} (h:n.natAbs<=M):(∃ w:Int,sgR r*((n:Int):Rat)=((w:Int):Rat)/\w.natAbs<=M)/\∃ w:Int,-(sgR r*((n:Int):Rat))=((w:Int):Rat)/\w.natAbs<=M:=by
 unfold sgR;split
 ·exact ⟨⟨-n,by rw [Og]; grind,aA⟩,⟨n,aL,h⟩⟩
 ·exact ⟨⟨n,aL,h⟩,⟨-n,by rw [Og]; grind,aA⟩⟩
theorem Ag3 {M i slack:Nat} {r:RowT} (hr:Gx vars r) (hs:Gn M r) (j:Nat):∃ w:Int,rowR vars real W i slack r j=((w:Int):Rat)/\w.natAbs<=M:=by
 have h1:=hs.one;unfold rowR;split
 ·exact (Kv r hs.con).2
 ·split
  ·exact ⟨1,rfl,aY⟩
  ·split
   ·obtain ⟨w,e,h⟩:=(Kv (M:=M) r (n:=1) aY).1;exact ⟨w,by rw [<- e,kS]; grind,h⟩
   ·have hc:∀ k,(cofI vars r.1 k).natAbs<=M:=fun k=>by
     rcases Afn (vars:=vars) (k:=k) (cs:=r.1) with h|⟨c,h2,h3,-⟩
     ·rw [h]; simp
     ·rw [<- h3]; exact hs.cof c h2
    rcases Nat.mod_two_eq_zero_or_one j with h|h
    ·have e:j=2*(j / 2):=aA
     rw [e,(H2 hr.dis _).1];exact (Kv r (hc _)).1
    ·have e:j=2*(j / 2)+1:=aA
     rw [e,(H2 hr.dis _).2];exact (Kv r (hc _)).2
theorem Zv {M:Nat} {f:Nat->Rat} : ∀ {n:Nat},(∀ i,i<n->∃ w:Int,f i=((w:Int):Rat)/\w.natAbs<=M)->∃ w:Int,Simp.sum n f=((w:Int):Rat)/\w.natAbs<=n*M
 | 0,_=>⟨0,rfl,by simp⟩
 | n+1,h=>by
  obtain ⟨w,e,hw⟩:=Zv (n:=n) fun i hi=>h i aA;obtain ⟨u,e2,hu⟩:=h n aA;exact ⟨w+u,by rw [Simp.sum,e,e2,jK],by rw [Nb]; omega⟩
theorem Zn {M:Nat} {l:List RowT} (hl:∀ r ∈ l,Gx vars r/\Gn M r) (i j:Nat):∃ w:Int,rowX vars real W l i j=((w:Int):Rat)/\w.natAbs<=M:=by
 unfold rowX;cases h:nth l i with
 | none=>exact ⟨0,rfl,by simp⟩
 | some r =>
  have:=hl r (Aj h);exact Ag3 this.1 this.2 j
theorem Afi (hE:F.Exact G) (hT:F.Total G fit) (hz:G z) (hz0:qv z=0) (hv:2*vars.length<=real) {M B:Nat} (dw:∀ w:Int,w.natAbs<=B->fit ((w:Int):Rat)):∀ {rest done:List RowT} {t:Tb},(∀ r ∈ done++rest,Gx vars r/\Gn M r)->((done++rest).length+1)*M<=B->2*vars.length+neqs (done++rest)<=real->real+(done++rest).length<W->BInv G vars real W done t->t.fl=false ->
  (begS F z vars real W rest done.length (2*vars.length+neqs done) t).fl=false
 | [],done,t,_,_,_,_,_,hf=>hf
 | r :: rest,done,t,hr,hB,hq,hw,h,hf=>by
  obtain ⟨r1,r2⟩:=hr r (by simp);have hM:M<=B:=Fh (Nat.le_mul_of_pos_left M (iE _)) hB;have hw':real+done.length+(rest.length+1)<W:=by simp at hw; omega
  have ml:2*vars.length+neqs done+((if r.2.2=true then 0 else 1)+neqs rest)<=real:=by rw [Jg,neqs] at hq; omega
  have fz:∀ n:Int,n.natAbs<=M->fit (sgR r*((n:Int):Rat))/\fit (0 - sgR r*((n:Int):Rat)):=fun n hn=>by
   obtain ⟨⟨w,e,hw⟩,u,e2,hu⟩:=Kv r hn;refine ⟨by rw [e]; exact dw w aA,?_⟩;rw [show (0:Rat) - sgR r*((n:Int):Rat)=-(sgR r*((n:Int):Rat)) by grind,e2];exact dw u aA
  have f1:=Aq9 hE hT hz hz0 (vars:=vars) (real:=real) (W:=W) (i:=done.length) (slack:=2*vars.length+neqs done) r1.c64 (fun c hc=>⟨r1.n64 c hc,fz c.2 (r2.cof c hc)⟩) (fz _ r2.con);obtain ⟨a1,a2,a3⟩:=Anp hE hz hz0 r1.c64 (fun c hc=>⟨r1.n64 c hc,r1.mem c hc⟩) hv aA (fun e=>Za38) f1;have wb:(done.length+1)*M<=B:=Fh (F8 M (by simp)) hB;have f2:(costL F real W 0 t.cost (rowF F z vars real W done.length (2*vars.length+neqs done) r).1).2=false:=by
   refine Aa6 hT h.okc a2 fun j=>?_;rw [a3,h.costs];obtain ⟨u,e2,hu⟩:=Ag3 (real:=real) (W:=W) (i:=done.length) (slack:=2*vars.length+neqs done) r1 r2 j;split
   ·obtain ⟨w,e,hw⟩:=Zv (M:=M) (n:=done.length) (f:=fun i=>rowX vars real W done i j) fun i _=>Zn (fun r ju=>hr r (by simp [ju])) i j;rw [e,e2];rw [show -((w:Int):Rat) - ((u:Int):Rat)=((-w - u:Int):Rat) by rw [kR,Og]];refine dw _ ?_;rw [Nb] at wb;omega
   ·rw [e2,show (0:Rat) - ((u:Int):Rat)=((-u:Int):Rat) by rw [Og]; grind];exact dw _ aA
  have st:=h.step hE hz hz0 r1 hv aA (fun e=>Za38) f1 f2 ((t.fl || (rowF F z vars real W done.length (2*vars.length+neqs done) r).2) || (costL F real W 0 t.cost (rowF F z vars real W done.length (2*vars.length+neqs done) r).1).2);have e1:(if r.2.2=true then 2*vars.length+neqs done else 2*vars.length+neqs done+1)=2*vars.length+neqs (done++[r]):=by
   rw [Jg,neqs,neqs]; split <;> omega
  have e2:done.length+1=(done++[r]).length:=by simp
  have e3:done++r :: rest=(done++[r])++rest:=by simp
  rw [begS,e1,e2];rw [e3] at hq hw hr hB;exact Afi hE hT hz hz0 hv dw hr hB hq hw st (by simp only [hf,f1,f2]; rfl)
theorem Aas (hE:F.Exact G) {l:List RowT} (hr:∀ r ∈ l,Gx vars r) (hf:(Bz F l vars false).fl=false):BInv G vars (2*vars.length+neqs l) (2*vars.length+neqs l+l.length+1) l (Bz F l vars false):=by
 unfold Bz at hf ⊢;have h0:=Adg hf;simp only [Oe] at h0;have w:=hE.whole 0 aD h0;refine Aks hE w.1 w.2 (Mn _ _) (rest:=l) (done:=[]) hr (by simp) (by simp) ?_ hf;exact Ya0j
theorem Ahy (hE:F.Exact G) (hT:F.Total G fit) {l:List RowT} {M B:Nat} (dw:∀ w:Int,w.natAbs<=B->fit ((w:Int):Rat)) (hr:∀ r ∈ l,Gx vars r/\Gn M r) (hB:(l.length+1)*M<=B):(Bz F l vars false).fl=false:=by
 have h0:=hT.whole 0 aD;have w:=hE.whole 0 aD h0;unfold Bz;refine Afi hE hT w.1 w.2 (Mn _ _) dw (rest:=l) (done:=[]) hr hB (by simp) (by simp) ?_ (by simp only [h0]; rfl);exact Ya0j
end
def linV (v:ByteArray->Rat):List (ByteArray × Int)->Rat
 | []=>0
 | c :: cs=>((c.2:Int):Rat)*v c.1+linV v cs
def valR (v:ByteArray->Rat) (r:RowT):Rat:=linV v r.1+((r.2.1:Int):Rat)
def Sat (v:ByteArray->Rat) (l:List RowT):Prop:=∀ r ∈ l,valR v r<=0/\(r.2.2=true->valR v r=0)
def rwA (l:List RowT) (i:Nat):RowT:=at_ ([],0,true) l i
def sysY (vars:List ByteArray) (l:List RowT):Simp.Sys:=⟨l.length,vars.length,fun i k=>((cofI vars (rwA l i).1 k:Int):Rat),fun i=>(((rwA l i).2.1:Int):Rat),fun i=>(rwA l i).2.2⟩
theorem An9 {vars:List ByteArray} (v:Nat->Rat):∀ {cs:List (ByteArray × Int)},(∀ c ∈ cs,c.1 ∈ vars)->(cs.map fun c=>idxV vars c.1).Pairwise (·≠·)->(Simp.sum vars.length fun k=>((cofI vars cs k:Int):Rat)*v k)=linV (fun s=>v (idxV vars s)) cs
 | [],_,_=>by
  rw [Simp.sum_zero fun k _=>by show ((0:Int):Rat)*_=0; rw [Rat.intCast_zero]; grind]; rfl
 | c :: cs,hm,hp=>by
  have om:=(P9 (hm c (Cq ..))).2;rw [Cm,Ib] at hp;have ih:=An9 v (fun c' h=>hm c' (Cr _ h)) hp.2;have hz:cofI vars cs (idxV vars c.1)=0:=Uu fun c' h=>(hp.1 _ (F6.2 ⟨c',h,rfl⟩)).symm;have e:∀ k,((cofI vars (c :: cs) k:Int):Rat)*v k=(if k=idxV vars c.1 then ((c.2:Int):Rat)*v k else 0)+((cofI vars cs k:Int):Rat)*v k:=fun k=>by
   rw [cofI];by_cases h:idxV vars c.1=k
   ·rw [if_pos h,if_pos h.symm,<- h,hz,Rat.intCast_zero]; grind
   ·rw [if_neg h,if_neg fun h'=>h h'.symm]; grind
  rw [Simp.sum_congr fun k _=>e k,Simp.sum_add,ih,Simp.sum_one om]; rfl
theorem Xr {v v':ByteArray->Rat} : ∀ {cs:List (ByteArray × Int)},(∀ c ∈ cs,v c.1=v' c.1)->linV v cs=linV v' cs
 | [],_=>rfl
 | c :: cs,h=>by rw [linV,linV,h c (Cq ..),Xr fun c' h'=>h c' (Cr _ h')]
theorem Ajc {v v':ByteArray->Rat} {r:RowT} (h:∀ c ∈ r.1,v c.1=v' c.1):valR v r=valR v' r:=by unfold valR; rw [Xr h]
theorem Aob {vars:List ByteArray} {l:List RowT} (hr:∀ r ∈ l,Gx vars r) {i:Nat} (hi:i<l.length) (v:Nat->Rat):(sysY vars l).val v i=valR (fun s=>v (idxV vars s)) (rwA l i):=by
 have h:Gx vars (rwA l i):=hr _ (Em (d:=([],0,true)) hi);unfold Simp.Sys.val valR;show Simp.sum vars.length _+_=_;rw [<- An9 v h.mem h.dis]; rfl
theorem Anr {vars:List ByteArray} {l:List RowT} (hr:∀ r ∈ l,Gx vars r):(∃ v,(sysY vars l).holds v)↔∃ v,Sat v l:=by
 constructor
 ·rintro ⟨v,hv⟩;refine ⟨fun s=>v (idxV vars s),fun r h=>?_⟩;obtain ⟨i,hi⟩:=List.getElem?_of_mem h;have b6:=(F9.1 hi).1;have hx:=hv i b6;have e:rwA l i=r:=by unfold rwA at_; rw [Af,hi]; rfl
  rw [Aob hr b6,e] at hx;refine ⟨hx.1,fun he=>hx.2 ?_⟩;show (rwA l i).2.2=true;rw [e]; exact he
 ·rintro ⟨v,hv⟩;refine ⟨fun k=>v (at_ ⟨#[]⟩ vars k),fun i hi=>?_⟩;have hm:rwA l i ∈ l:=Em hi;have hx:=hv _ hm;rw [Aob hr hi];have e:valR (fun s=>v (at_ ⟨#[]⟩ vars (idxV vars s))) (rwA l i)=valR v (rwA l i):=Ajc fun c hc=>by
   have:=Y2 ((hr _ hm).mem c hc);unfold at_; rw [this]; rfl
  rw [e]; exact hx
structure Agree (m N:Nat) (t u:Simp.Tab):Prop where
 T:∀ i j,i<m->j<N+1->t.T i j=u.T i j
 c:∀ j,j<N+1->t.c j=u.c j
 B:∀ i,i<m->t.B i=u.B i
section
variable {m N L:Nat} {t u:Simp.Tab}
theorem Agree.dotT (h:Agree m N t u) {i:Nat} (hi:i<m) (x:Nat->Rat):Simp.dot N (t.T i) x=Simp.dot N (u.T i) x:=Simp.sum_congr fun j hj=>by rw [h.T i j hi hj]
theorem Agree.dotC (h:Agree m N t u) (x:Nat->Rat):Simp.dot N t.c x=Simp.dot N u.c x:=Simp.sum_congr fun j hj=>by rw [h.c j hj]
theorem Agree.ker (h:Agree m N t u) (x:Nat->Rat):Simp.Ker m N t x↔Simp.Ker m N u x:=by
 constructor <;> intro hk i hi
 ·rw [<- h.dotT hi]; exact hk i hi
 ·rw [h.dotT hi]; exact hk i hi
theorem Agree.fit (h:Agree m N t u) (hu:Simp.Fit m N u):Simp.Fit m N t:=by
 refine ⟨fun i hi=>by rw [h.B i hi]; exact hu.lt i hi,fun i k hi hk=>?_,fun k hk=>?_⟩
 ·rw [h.B k hk,h.T i _ hi (by have:=hu.lt k hk; omega)]; exact hu.unit i k hi hk
 ·rw [h.B k hk,h.c _ (by have:=hu.lt k hk; omega)]; exact hu.free k hk
theorem Ag7 {L' K:Nat} {R:Nat->Nat->Rat} {b:Nat->Rat} (Rn:Simp.Run m (L+m) L' K) (ha:Agree m (L+m) (Rn.t 0) (Simp.first m L R b)) (hL:L<=L')
  (a0j:(∀ j,j<L'->0<=(Rn.t K).c j)\/∃ s,s<L'/\(Rn.t K).c s<0/\∀ i,i<m->(Rn.t K).T i s<=0) :
  (Rn.t K).c (L+m)=0↔∃ x:Nat->Rat,(∀ j,j<L->0<=x j)/\∀ i,i<m->Simp.sum L (fun j=>R i j*x j)=b i:=by
 have hf:=Rn.fits K (Ce _);have hr:=Rn.rights K (Ce _);have hk:∀ x,Simp.Ker m (L+m) (Rn.t K) x↔Simp.Ker m (L+m) (Simp.first m L R b) x:=fun x=>(Rn.ker (Ci _) (Ce _) x).trans (ha.ker x);have hc:∀ x,Simp.Ker m (L+m) (Simp.first m L R b) x->Simp.dot (L+m) (Rn.t K).c x=Simp.dot (L+m) (Simp.first m L R b).c x:=fun x hx=>by
  rw [Rn.cost (Ci _) (Ce _) ((ha.ker x).2 hx),ha.dotC]
 refine Simp.phase hf hr hk hc ?_;rcases a0j with h|⟨s,hs,hn,hp⟩
 ·exact fun j hj=>h j aA
 ·exfalso;have hLN:=Rn.LN;obtain ⟨x,hx,hlt⟩:=Simp.least_none (L:=L+m) (f:=(Rn.t K).c) hf (Ce _) hr (fun i hi hB=>by have:=hf.lt i hi; omega) aA hn hp (fun i hi hB=>by have:=hf.lt i hi; omega) (fun _ _=>rfl) 0;have hkx:=(hk x).1 hx.sol.ker;rw [hc x hkx,Simp.first_cost hkx] at hlt;have:=Simp.sum_nonneg (f:=fun i=>x (L+i)) (n:=m) fun i hi=>hx.sol.pos _ aA;grind
end
theorem Acd {l:List RowT} {i:Nat} (hi:i<l.length) (he:(rwA l i).2.2=false):neqs (l.take i)<neqs l:=by
 have h1:=B3 (Uo (d:=([],0,true)) hi);have h2:l=l.take (i+1)++l.drop (i+1):=(Ix _ _).symm;have h3:neqs l=neqs (l.take (i+1))+neqs (l.drop (i+1)):=by rw [<- Jg,<- h2]
 have mf:(at_ ([],0,true) l i:RowT).2.2=false:=he;rw [h1,Jg,neqs,neqs,mf] at h3;simp at h3;omega
theorem Am1 {l:List RowT} {i k:Nat} (h:i<=k):neqs (l.take i)<=neqs (l.take k):=by
 have h2:l.take k=(l.take k).take i++(l.take k).drop i:=(Ix _ _).symm;rw [h2,Jg,lF,Nat.min_eq_left h];omega
theorem Aqt {l:List RowT} {i k:Nat} (hi:i<l.length) (hk:k<l.length) (h1:(rwA l i).2.2=false) (h2:(rwA l k).2.2=false) (h:neqs (l.take i)=neqs (l.take k)):i=k:=by
 have key:∀ i k,i<l.length->(rwA l i).2.2=false->i<k->neqs (l.take i)<neqs (l.take k):=fun i k hi he v7=>by
  have s1:=B3 (Uo (d:=([],0,true)) hi);have h3:neqs (l.take (i+1))=neqs (l.take i)+1:=by
   have mf:(at_ ([],0,true) l i:RowT).2.2=false:=he;rw [s1,Jg,neqs,neqs,mf]; simp
  have:=Am1 (l:=l) (show i+1<=k by omega);omega
 rcases Sc i k with h'|h'|h'
 ·have:=key i k hi h1 h'; omega
 ·exact h'
 ·have:=key k i hk h2 h'; omega
section
variable {vars:List ByteArray} {l:List RowT}
theorem Pj {real W i j:Nat} (hi:i<l.length):rowX vars real W l i j=rowR vars real W i (2*vars.length+neqs (l.take i)) (rwA l i) j:=by
 unfold rowX;rw [Uo (d:=([],0,true)) hi]; rfl
theorem U8 {G:Q->Prop} {t:Tb} (hr:∀ r ∈ l,Gx vars r) (h:BInv G vars (2*vars.length+neqs l) (2*vars.length+neqs l+l.length+1) l t) :
  Agree l.length (2*vars.length+neqs l+l.length) (tabV t) (Simp.first l.length (2*vars.length+neqs l) (rowX vars (2*vars.length+neqs l) (2*vars.length+neqs l+l.length+1) l) fun i=>rowX vars (2*vars.length+neqs l) (2*vars.length+neqs l+l.length+1) l i (2*vars.length+neqs l+l.length)):=by
 refine ⟨fun i j hi hj=>?_,fun j hj=>?_,fun i hi=>?_⟩
 ·show qv (at_ q0 (Bk t i) j)=if j<2*vars.length+neqs l then _ else if j<2*vars.length+neqs l+l.length then (if j=2*vars.length+neqs l+i then 1 else 0) else _
  rw [h.vals i hi];split
  ·rfl
  ·rename_i h1;have ho:=hr _ (Em (d:=([],0,true)) hi);split
   ·rename_i h2;rw [Pj hi];unfold rowR;rw [if_neg aA];split
    ·rfl
    ·rw [if_neg (fun h'=>by have:=Acd hi h'.1; omega)];exact Uv ho.mem aA
   ·have:j=2*vars.length+neqs l+l.length:=aA
    rw [this]
 ·show qv (at_ q0 t.cost j)=if j<2*vars.length+neqs l then _ else if j<2*vars.length+neqs l+l.length then 0 else _
  rw [h.costs];split
  ·split
   ·rfl
   ·rw [if_neg aA];have:j=2*vars.length+neqs l+l.length:=aA
    rw [this]
  ·rw [if_neg aA,if_pos aA]
 ·exact h.bas i hi
theorem Ati (hr:∀ r ∈ l,Gx vars r):Simp.Cols (sysY vars l) (2*vars.length+neqs l) (fun i=>sgR (rwA l i)) (fun i=>2*vars.length+neqs (l.take i)) (rowX vars (2*vars.length+neqs l) (2*vars.length+neqs l+l.length+1) l) fun i=>rowX vars (2*vars.length+neqs l) (2*vars.length+neqs l+l.length+1) l i (2*vars.length+neqs l+l.length):=by
 have ho:∀ i,i<l.length->Gx vars (rwA l i):=fun i hi=>hr _ (Em (d:=([],0,true)) hi);refine ⟨fun i hi=>?_,Mn _ _,fun i k hi hk=>?_,fun i k hi hk=>?_,fun i j hi h1 h2=>?_,fun i hi he=>?_,fun i k hi hk h1 h2 h3=>?_,fun i hi=>?_⟩
 ·unfold sgR; split <;> grind
 ·have wm:k<vars.length:=hk;rw [Pj hi];unfold rowR;rw [if_neg aA,if_neg aA,if_neg (fun h'=>aA)];exact (H2 (ho i hi).dis k).1
 ·have wm:k<vars.length:=hk;rw [Pj hi];unfold rowR;rw [if_neg aA,if_neg aA,if_neg (fun h'=>aA)];exact (H2 (ho i hi).dis k).2
 ·have qa:2*vars.length<=j:=h1;rw [Pj hi];unfold rowR;rw [if_neg aA,if_neg aA];show _=if (rwA l i).2.2=false/\j=2*vars.length+neqs (l.take i) then _ else 0
  split
  ·rfl
  ·exact Uv (ho i hi).mem qa
 ·have:=Acd hi he;exact ⟨Mn _ _,aA⟩
 ·exact Aqt hi hk h1 h2 aA
 ·rw [Pj hi];unfold rowR;rw [if_pos aA]; rfl
theorem Tk {i:Nat} (hi:i<l.length):0<=rowX vars (2*vars.length+neqs l) (2*vars.length+neqs l+l.length+1) l i (2*vars.length+neqs l+l.length):=by
 rw [Pj hi];unfold rowR;rw [if_pos aA];unfold sgR;split
 ·rename_i h;have:(0:Rat)<(((rwA l i).2.1:Int):Rat):=Oz.2 h;grind
 ·rename_i h;have:¬ (0:Rat)<(((rwA l i).2.1:Int):Rat):=fun h'=>h (Oz.1 h');grind
variable {F:Fld} {G:Q->Prop}
theorem BInv.tok {real W N:Nat} {t:Tb} (h:BInv G vars real W l t) (hW:W=N+1):TOk G l.length N t:=⟨h.nr,h.nb,by rw [h.nc,hW],fun r hr=>by rw [h.rowW r hr,hW],h.okr,h.okc⟩
theorem Adh:(Bz F l vars false).real=2*vars.length+neqs l:=Up.1
theorem Akw {t:Tb} (hr:∀ r ∈ l,Gx vars r) (h:BInv G vars (2*vars.length+neqs l) (2*vars.length+neqs l+l.length+1) l t):∃ R:Simp.Run l.length (2*vars.length+neqs l+l.length) (2*vars.length+neqs l) 0,R.t 0=tabV t:=by
 have ha:=U8 hr h;exact ⟨Simp.Run.none (ha.fit (Simp.first_fit _ _ _ _)) (Mn _ _) (fun i hi=>by
  rw [ha.T i _ hi aA];show 0<=if 2*vars.length+neqs l+l.length<2*vars.length+neqs l then _ else if 2*vars.length+neqs l+l.length<2*vars.length+neqs l+l.length then _ else _
  rw [if_neg aA,if_neg aA];exact Tk hi),rfl⟩
theorem Akv (hE:F.Exact G) (hr:∀ r ∈ l,Gx vars r) (hb0:F.stop=true\/(Bz F l vars false).fl=false) (hs:Safe F G l.length (2*vars.length+neqs l+l.length) (2*vars.length+neqs l) (tabV (Bz F l vars false))) {n:Nat} (hn:(2*vars.length+neqs l+l.length) ^ l.length+1<=n) :
  ∃ b t',J4 F n (Bz F l vars false)=some (b,t')/\((F.stop=true/\t'.fl=true)\/(t'.fl=false/\TOk G l.length (2*vars.length+neqs l+l.length) t'/\∃ K,∃ R:Simp.Run l.length (2*vars.length+neqs l+l.length) (2*vars.length+neqs l) K,R.t 0=tabV (Bz F l vars false)/\R.t K=tabV t' /\
   Agree l.length (2*vars.length+neqs l+l.length) (R.t 0) (Simp.first l.length (2*vars.length+neqs l) (rowX vars (2*vars.length+neqs l) (2*vars.length+neqs l+l.length+1) l) fun i=>rowX vars (2*vars.length+neqs l) (2*vars.length+neqs l+l.length+1) l i (2*vars.length+neqs l+l.length)) /\
   ((∀ j,j<2*vars.length+neqs l->0<=(tabV t').c j)\/∃ s,s<2*vars.length+neqs l/\(tabV t').c s<0/\∀ i,i<l.length->(tabV t').T i s<=0))):=by
 cases hf:(Bz F l vars false).fl with
 | true =>
  rcases hb0 with ai|h
  ·obtain ⟨n',rfl⟩:∃ n',n=n'+1:=⟨n - 1,aA⟩;exact ⟨_,_,Xi ai hf,.inl ⟨ai,hf⟩⟩
  ·rw [hf] at h; cases h
 | false =>
  have hb:=Aas hE hr hf;obtain ⟨R,h0⟩:=Akw hr hb;obtain ⟨b,t',h1,h2⟩:=Afs hE hs n R h0 h0 (hb.tok rfl) Adh hf aA;refine ⟨b,t',h1,?_⟩;rcases h2 with h2|⟨h3,h4,K,R',h5,h6,h7,h8⟩
  ·exact .inl h2
  ·refine .inr ⟨h3,h4,K,R',h5,h6,by rw [h5]; exact U8 hr hb,?_⟩;cases b with
   | true=>exact .inl (h7 rfl)
   | false=>exact .inr (h8 rfl)
theorem Abf (hE:F.Exact G) {m N:Nat} {t:Tb} (h:TOk G m N t):Jd t=true↔(tabV t).c N=0:=by
 have g:=h.okc _ (Em (d:=q0) (k:=N) (l:=t.cost) (by rw [h.cost]; omega));unfold Jd;rw [h.cost,jN,beq_iff_eq,Nl (hE.pos _ g)]; rfl
theorem Aiu (hE:F.Exact G) (hr:∀ r ∈ l,Gx vars r) {t':Tb} {K:Nat} (ht:TOk G l.length (2*vars.length+neqs l+l.length) t') (R:Simp.Run l.length (2*vars.length+neqs l+l.length) (2*vars.length+neqs l) K) (hK:R.t K=tabV t')
  (ha:Agree l.length (2*vars.length+neqs l+l.length) (R.t 0) (Simp.first l.length (2*vars.length+neqs l) (rowX vars (2*vars.length+neqs l) (2*vars.length+neqs l+l.length+1) l) fun i=>rowX vars (2*vars.length+neqs l) (2*vars.length+neqs l+l.length+1) l i (2*vars.length+neqs l+l.length)))
  (a0j:(∀ j,j<2*vars.length+neqs l->0<=(tabV t').c j)\/∃ s,s<2*vars.length+neqs l/\(tabV t').c s<0/\∀ i,i<l.length->(tabV t').T i s<=0):Jd t'=true↔∃ v,Sat v l:=by
 rw [Abf hE ht,<- Anr hr,<- (Ati hr).solve,<- hK];rw [<- hK] at a0j;exact Ag7 R ha (Ce _) a0j
end
theorem Ann {vars:List ByteArray} {r:RowT} (h:A1 r.1 r.2.1=0) (hm:∀ c ∈ r.1,c.1 ∈ vars):Gx vars r/\Gn 1000000000000 r:=by
 obtain ⟨h1,h2⟩:=Ak5 h;have h3:=Ak4 h;refine ⟨⟨aD,fun c hc=>by have:=(h2 c hc).1; unfold i64; omega,hm,?_⟩,⟨aA,h1,fun c hc=>(h2 c hc).1⟩⟩;have key:∀ (cs:List (ByteArray × Int)),IncC cs->(∀ c ∈ cs,c.1 ∈ vars)->(cs.map fun c=>idxV vars c.1).Pairwise (·≠·):=by
  intro cs;induction cs with
  | nil=>intro _ _; exact lM.nil
  | cons c cs ih =>
   intro hi hm;have hp:=Ib.1 (show (c.1 :: cs.map (·.1)).Pairwise (fun a b=>nm a<nm b) from hi);rw [Cm];refine Ib.2 ⟨fun x hx e=>?_,ih hp.2 fun c' h=>hm c' (Cr _ h)⟩;obtain ⟨c',ew,rfl⟩:=F6.1 hx;have e1:=Y2 (hm c (Cq ..));have e2:=Y2 (hm c' (Cr _ ew));rw [e,e2] at e1;simp only [Bg] at e1;have:=hp.1 c'.1 (F6.2 ⟨c',ew,rfl⟩);rw [e1] at this;exact Ya4h
 exact key _ h3 hm
theorem Ry {l:List RowT} {vars:List ByteArray} (h:Gu l=0) (hm:∀ r ∈ l,∀ c ∈ r.1,c.1 ∈ vars):∀ r ∈ l,Gx vars r/\Gn 1000000000000 r:=fun r hr=>Ann (Hl h r hr) (hm r hr)
theorem Ah8 {G:Q->Prop} {vars:List ByteArray} {M:Nat} {l:List RowT} {t:Tb} (hr:∀ r ∈ l,Gx vars r/\Gn M r) (h:BInv G vars (2*vars.length+neqs l) (2*vars.length+neqs l+l.length+1) l t):Ints l.length (2*vars.length+neqs l+l.length) M (l.length*M) (tabV t):=by
 refine ⟨fun i j hi hj=>?_,fun j hj=>?_⟩
 ·obtain ⟨w,e,hw⟩:=Zn (real:=2*vars.length+neqs l) (W:=2*vars.length+neqs l+l.length+1) hr i j;exact ⟨w,by rw [<- e]; exact h.vals i hi j,hw⟩
 ·show ∃ z:Int,qv (at_ q0 t.cost j)=_/\_;rw [h.costs];split
  ·obtain ⟨w,e,hw⟩:=Zv (M:=M) (n:=l.length) (f:=fun i=>rowX vars (2*vars.length+neqs l) (2*vars.length+neqs l+l.length+1) l i j) fun i _=>Zn hr i j;exact ⟨-w,by rw [e,Og],aA⟩
  ·exact ⟨0,rfl,by simp⟩
theorem Aav {m M:Nat} (hm:m<=13) (hM:M=1000000000000):2*(bndX m M (m*M)*bndX m M (m*M))<10000 ^ 200:=by
 subst hM;have:∀ m,m<14->2*(bndX m 1000000000000 (m*1000000000000)*bndX m 1000000000000 (m*1000000000000))<10000 ^ 200:=aQ
 exact this m aA
theorem Aly {w:Int} (h:w.natAbs<=14000000000000):J5 ((w:Int):Rat):=by
 refine ⟨w,1,aA,by rw [kS]; grind,?_,?_⟩
 ·have:14000000000000<10000 ^ 200:=aQ
  omega
 ·decide +kernel
theorem An2 {l:List RowT} {vars:List ByteArray} (hl:l.length<=13) (hr:∀ r ∈ l,Gx vars r/\Gn 1000000000000 r):(Bz WW.qF l vars false).fl=false/\Safe WW.qF gW l.length (2*vars.length+neqs l+l.length) (2*vars.length+neqs l) (tabV (Bz WW.qF l vars false)):=by
 have hf:=Ahy Jm Q9 (fun w hw=>Aly hw) hr (F8 1000000000000 (show l.length+1<=14 by omega));exact ⟨hf,Aur (M:=1000000000000) (Mc:=l.length*1000000000000) aA (Ah8 hr (Aas Jm (fun r h=>(hr r h).1) hf)) (Aav hl rfl)⟩
structure Ao1 (G:Q->Prop) (vars:List ByteArray) (l:List RowT) (t':Tb):Prop where
 fl:t'.fl=false
 ok:TOk G l.length (2*vars.length+neqs l+l.length) t'
 run:∃ K,∃ R:Simp.Run l.length (2*vars.length+neqs l+l.length) (2*vars.length+neqs l) K,R.t K=tabV t' /\
   Agree l.length (2*vars.length+neqs l+l.length) (R.t 0) (Simp.first l.length (2*vars.length+neqs l) (rowX vars (2*vars.length+neqs l) (2*vars.length+neqs l+l.length+1) l) fun i=>rowX vars (2*vars.length+neqs l) (2*vars.length+neqs l+l.length+1) l i (2*vars.length+neqs l+l.length))
 stop:(∀ j,j<2*vars.length+neqs l->0<=(tabV t').c j)\/∃ s,s<2*vars.length+neqs l/\(tabV t').c s<0/\∀ i,i<l.length->(tabV t').T i s<=0
def kMax (vars:List ByteArray) (l:List RowT):Nat:=(2*vars.length+neqs l+l.length) ^ l.length+1
theorem Ana {F:Fld} {G:Q->Prop} (hE:F.Exact G) {l:List RowT} {vars:List ByteArray} (hr:∀ r ∈ l,Gx vars r) (hb0:F.stop=true\/(Bz F l vars false).fl=false) (hs:Safe F G l.length (2*vars.length+neqs l+l.length) (2*vars.length+neqs l) (tabV (Bz F l vars false))) {K:Nat} (hK:kMax vars l<=K) :
  ∃ b t',J4 F K (Bz F l vars false)=some (b,t')/\((F.stop=true/\t'.fl=true)\/Ao1 G vars l t'):=by
 obtain ⟨b,t',h1,h2⟩:=Akv hE hr hb0 hs hK;refine ⟨b,t',h1,?_⟩;rcases h2 with h2|⟨h3,h4,K',R,-,h5,h6,h7⟩
 ·exact .inl h2
 ·exact .inr ⟨h3,h4,⟨K',R,h5,h6⟩,h7⟩
theorem Ao1.feas {F:Fld} {G:Q->Prop} (hE:F.Exact G) {l:List RowT} {vars:List ByteArray} (hr:∀ r ∈ l,Gx vars r) {t':Tb} (h:Ao1 G vars l t'):Jd t'=true↔∃ v,Sat v l:=by
 obtain ⟨K,R,h1,h2⟩:=h.run;exact Aiu hE hr h.ok R h1 h2 h.stop
def Aje (F:Fld) (G:Q->Prop) (vars:List ByteArray) (l:List RowT) (a:Ans):Prop :=
 ∃ t',Ao1 G vars l t'/\a.f=Jd t'/\a.pt=(if Jd t'=true then (Gv F t').1.map F.rat else [])/\a.nu=(if Jd t'=true then [] else (J6 F t').1.map F.rat)/\(F.stop=true->Jd t'=true->(Gv F t').2=false)/\(F.stop=true->Jd t'=false->(J6 F t').2=false)
theorem X1 {F:Fld} {G:Q->Prop} (hE:F.Exact G) {l:List RowT} {vars:List ByteArray} (hr:∀ r ∈ l,Gx vars r) (hb0:F.stop=true\/(Bz F l vars false).fl=false) (hs:Safe F G l.length (2*vars.length+neqs l+l.length) (2*vars.length+neqs l) (tabV (Bz F l vars false))) {K:Nat} (hK:kMax vars l<=K) :
  ∃ a ok,Kk F K l vars false=some (a,ok)/\a.least=none/\(F.stop=false->ok=true)/\(ok=true->Aje F G vars l a):=by
 obtain ⟨b,t',h1,h2⟩:=Ana hE hr hb0 hs hK;unfold Kk;rw [h1];simp only;rcases h2 with ⟨s1,s2⟩|h2
 ·rw [if_pos (by rw [s1,s2]; rfl)];exact ⟨_,_,rfl,rfl,fun h=>(by rw [s1] at h; cases h),fun h=>aV⟩
 ·rw [if_neg (by rw [h2.fl]; simp)];cases hf:Jd t' with
  | true =>
   rw [if_pos rfl];refine ⟨_,_,rfl,rfl,fun h=>by rw [h]; rfl,fun h=>⟨t',h2,hf.symm,by rw [if_pos hf],by rw [if_pos hf],fun h' _=>?_,fun _ h'=>(by rw [hf] at h'; cases h')⟩⟩;rw [h'] at h;simpa [h2.fl] using h
  | false =>
   rw [if_neg (by simp)];refine ⟨_,_,rfl,rfl,fun h=>by rw [h]; rfl,fun h=>⟨t',h2,hf.symm,by rw [hf]; rfl,by rw [hf]; rfl,fun _ h'=>(by rw [hf] at h'; cases h'),fun h' _=>?_⟩⟩;rw [h'] at h;simpa [h2.fl] using h
theorem Aps {l:List RowT} {vars:List ByteArray} (hl:l.length<=13) (hr:∀ r ∈ l,Gx vars r/\Gn 1000000000000 r) {K:Nat} (hK:kMax vars l<=K) :
  ∃ a,askN K l vars=some a/\a.least=none/\(Aje QQ.qF okS vars l a\/Aje WW.qF gW vars l a):=by
 have bz:∀ r ∈ l,Gx vars r:=fun r h=>(hr r h).1;obtain ⟨a,ok,h1,h2,h3,h4⟩:=X1 Agv bz (.inl rfl) Auq hK;unfold askN;rw [h1];cases ok with
 | true=>exact ⟨a,rfl,h2,.inl (h4 rfl)⟩
 | false =>
  obtain ⟨s1,s2⟩:=An2 hl hr;obtain ⟨a',ok',k1,k2,k3,k4⟩:=X1 Jm bz (.inr s1) s2 hK;simp only [k1,Fa];exact ⟨a',rfl,k2,.inr (k4 (k3 rfl))⟩
theorem Apo {l:List RowT} {vars:List ByteArray} (hr:∀ r ∈ l,Gx vars r) {a:Ans} (h:Aje QQ.qF okS vars l a\/Aje WW.qF gW vars l a):a.f=true↔∃ v,Sat v l:=by
 rcases h with ⟨t',h1,h2,-⟩|⟨t',h1,h2,-⟩
 ·rw [h2]; exact h1.feas Agv hr
 ·rw [h2]; exact h1.feas Jm hr
end
section
open Go Tryz
theorem Atv {l:List RowT} (hl:l.length<=13) (h0:sysE l=0):∃ b:Bool,(b=true↔∃ v,Sat v l)/\∀ S tk k,cL prog 23 [Ao l] S tk k=some (.tup [.bool b,.int 0],S,tk,k):=by
 obtain ⟨f1,f2,f3,f4⟩:=Hc h0;have hr:=Ry (vars:=Dx l) f4 Q8;obtain ⟨a,h1,h2,h3⟩:=Aps hl hr (Ce _);refine ⟨a.f,Apo (fun r h=>(hr r h).1) h3,fun S tk k=>?_⟩;have:=Tt S tk k l (fun r h=>Za3y) (T2 f4) _ a (fun _=>⟨h1,h2⟩);rw [h0,if_pos rfl] at this;exact this
end
section
open Go Tryz
set_option maxHeartbeats 2000000
set_option maxRecDepth 100000
def tS (a:Q):Bool:=smB a.1 && smB a.2
def tN (a:Q):Int:=if tS a=true then a.1 else 0
def tD (a:Q):Int:=if tS a=true then a.2 else 0
def tO (a:Q):Bool:=tS a && decide (0<a.2)
section
variable (S:List Ent) (tk:List Nat) (k:Nat)
theorem J9 (a:Q) (ha:okW a):cL prog 166 [.agg (ceW a)] S tk k=some (.tup [.int (tN a),.int (tD a),.bool (tO a)],S,tk,k):=by
 obtain ⟨l1,l2⟩:=Gz ha;have h0:0<=a.2:=by
  rcases ha with h|h
  ·have:=h.pos; omega
  ·rw [h]; exact Int.le_refl 0
 obtain ⟨an,ad⟩:=a;simp only at l1 l2 h0;simp only [ceW,digA];refine opP func166 ntmps166 (hp3:=rfl) ?_;by_cases dy:(dig an.natAbs).length<=2
 ·have b1:smB an=true:=dT
  have d1:decide (((dig an.natAbs).length:Int) > 2)=false:=aC
  by_cases du:(dig ad.natAbs).length<=2
  ·have b2:smB ad=true:=dT
   have d2:decide (((dig ad.natAbs).length:Int) > 2)=false:=aC
   have e1:tN (an,ad)=an:=by simp [tN,tS,b1,b2]
   have e2:tD (an,ad)=ad:=by simp [tD,tS,b1,b2]
   have e3:tO (an,ad)=decide (0<ad):=by simp [tO,tS,b1,b2]
   rw [e1,e2,e3];have x1:=Nz b1;have x2:=Nz b2;have d3:=E2 (n:=(dig an.natAbs).length) aA;have d4:=E2 (n:=(dig ad.natAbs).length) aA;simp (maxSteps:=10^6)+contextual(disch:=try exact dqd)only[ev1,simprocAttr,Ca,Bo,Cb,results166,d1,d2,d3];refine loop1 (P:=prog) (fun x st=>st.T.length=66/\(x.1<=(dig an.natAbs).length)/\(x.2=((topV (dig an.natAbs) x.1:Nat):Int))/\getT st.T 1=.ref 0 0 0/\getT st.T 5=.int x.2/\getT st.T 6=.int 0/\getT st.T 7=.int ((x.1:Int) - 1)/\st.S=[⟨0,[.prim (.bool (decide (an<0))),.frz ((dig an.natAbs).map digC) .unk,.prim (.bool (decide (ad<0))),.frz ((dig ad.natAbs).map digC) .unk]⟩]) (fun x=>x.1) (fun x=>.tup [.int an,.int ad,.bool (decide (0<ad))]) ((dig an.natAbs).length,(0:Int)) ?_ ?_;case refine_2=>exact ⟨rfl,Ce _,by rw [Zx]; rfl,rfl,rfl,rfl,rfl,rfl⟩
   rintro ⟨n,v⟩ ⟨T,S',tk',n'⟩ ⟨hl,hn,hv,e1,e5,e6,e7,eS⟩ IH;simp only at hn hv e1 e5 e6 e7 eS;subst eS;obtain ⟨g,hg,hT⟩:=Ap hl;rw [hg] at e1 e5 e6 e7;subst hT;clear hg hl;subst hv;by_cases ek:n=0
   ·subst ek;have g2:decide (((0:Nat):Int) - 1 >= 0)=false:=rfl;have ht:topV (dig an.natAbs) 0=an.natAbs:=eZ
    rw [ht] at e5;simp (maxSteps:=10^6)+contextual(disch:=try exact dqd)only[ev1,simprocAttr,Ca,Bo,Cb,results166,e1,e5,e6,e7,g2,d4];refine loop1 (P:=prog) (fun x st=>st.T.length=66/\(x.1<=(dig ad.natAbs).length)/\(x.2=((topV (dig ad.natAbs) x.1:Nat):Int))/\getT st.T 1=.ref 0 0 0/\getT st.T 5=.int (an.natAbs:Nat)/\getT st.T 6=.int x.2/\getT st.T 8=.int ((x.1:Int) - 1)/\st.S=[⟨0,[.prim (.bool (decide (an<0))),.frz ((dig an.natAbs).map digC) .unk,.prim (.bool (decide (ad<0))),.frz ((dig ad.natAbs).map digC) .unk]⟩]) (fun x=>x.1) (fun x=>.tup [.int an,.int ad,.bool (decide (0<ad))]) ((dig ad.natAbs).length,(0:Int)) ?_ ?_;case refine_2=>exact ⟨rfl,Ce _,by rw [Zx]; rfl,rfl,rfl,rfl,rfl,rfl⟩
    rintro ⟨n,v⟩ ⟨T,S',tk',n'⟩ ⟨hl,hn,hv,e1,e5,e6,e8,eS⟩ IH;simp only at hn hv e1 e5 e6 e8 eS;subst eS;obtain ⟨g,hg,hT⟩:=Ap hl;rw [hg] at e1 e5 e6 e8;subst hT;clear hg hl;subst hv;by_cases ek:n=0
    ·subst ek;have g2:decide (((0:Nat):Int) - 1 >= 0)=false:=rfl;have ht:topV (dig ad.natAbs) 0=ad.natAbs:=eZ
     have hz:((ad.natAbs:Nat):Int)=ad:=aA
     rw [ht,hz] at e6;have g3:decide (ad > 0)=decide (0<ad):=rfl;by_cases hneg:an<0
     ·have g4:decide (an<0)=true:=bA
      have v3:B8.wrap (0 - ((an.natAbs:Nat):Int))=an:=aP
      have v4:B8.wrap (-((an.natAbs:Nat):Int))=an:=aP
      simp (maxSteps:=10^6)+contextual(disch:=try exact dqd)only[ev1,simprocAttr,Ca,Bo,Cb,results166,e1,e5,e6,e8,g2,g3,g4,v3,v4]
     ·have g4:decide (an<0)=false:=bA
      have hz2:((an.natAbs:Nat):Int)=an:=aA
      rw [hz2] at e5;simp (maxSteps:=10^6)+contextual(disch:=try exact dqd)only[ev1,simprocAttr,Ca,Bo,Cb,results166,e1,e5,e6,e8,g2,g3,g4]
    ·have g2:decide ((n:Int) - 1 >= 0)=true:=aC
     have hi:(n:Int) - 1=((n - 1:Nat):Int):=aA
     obtain ⟨x,hx⟩:=Ab (show n - 1<(dig ad.natAbs).length by omega);have hx':=Bd hx;have hxk:=Bs (A5 ad.natAbs) hx;have ai:=Q6 (A5 ad.natAbs) hx;rw [show n - 1+1=n by omega] at ai;have hb1:=R5 (a:=ad.natAbs) (k:=n);have hb2:=R5 (a:=ad.natAbs) (k:=n - 1);have hp:=E2 (n:=n - 1) aA;have hw1:B8.wrap (10000*(topV (dig ad.natAbs) n:Int))=10000*(topV (dig ad.natAbs) n:Int):=Aa aD;have hw2:B8.wrap (10000*(topV (dig ad.natAbs) n:Int)+x)=((topV (dig ad.natAbs) (n - 1):Nat):Int):=by
      rw [Aa aD]; omega
     rw [hi] at e8 g2;simp (maxSteps:=10^6)+contextual(disch:=try exact dqd)only[ev1,simprocAttr,Ca,Bo,Cb,results166,e1,e5,e6,e8,g2,hx',hp,hw1,hw2];exact IH (n - 1,((topV (dig ad.natAbs) (n - 1):Nat):Int)) _ aF ⟨rfl,aE,rfl,aN,aN,aN,aN,aN⟩
   ·have g2:decide ((n:Int) - 1 >= 0)=true:=aC
    have hi:(n:Int) - 1=((n - 1:Nat):Int):=aA
    obtain ⟨x,hx⟩:=Ab (show n - 1<(dig an.natAbs).length by omega);have hx':=Bd hx;have hxk:=Bs (A5 an.natAbs) hx;have ai:=Q6 (A5 an.natAbs) hx;rw [show n - 1+1=n by omega] at ai;have hb1:=R5 (a:=an.natAbs) (k:=n);have hb2:=R5 (a:=an.natAbs) (k:=n - 1);have hp:=E2 (n:=n - 1) aA;have hw1:B8.wrap (10000*(topV (dig an.natAbs) n:Int))=10000*(topV (dig an.natAbs) n:Int):=Aa aD;have hw2:B8.wrap (10000*(topV (dig an.natAbs) n:Int)+x)=((topV (dig an.natAbs) (n - 1):Nat):Int):=by
     rw [Aa aD]; omega
    rw [hi] at e7 g2;simp (maxSteps:=10^6)+contextual(disch:=try exact dqd)only[ev1,simprocAttr,Ca,Bo,Cb,results166,e1,e5,e6,e7,g2,hx',hp,hw1,hw2];exact IH (n - 1,((topV (dig an.natAbs) (n - 1):Nat):Int)) _ aF ⟨rfl,aE,rfl,aN,aN,aN,aN,aN⟩
  ·have b2:smB ad=false:=dT
   have d2:decide (((dig ad.natAbs).length:Int) > 2)=true:=aC
   have e1:tN (an,ad)=0:=by simp [tN,tS,b1,b2]
   have e2:tD (an,ad)=0:=by simp [tD,tS,b1,b2]
   have e3:tO (an,ad)=false:=by simp [tO,tS,b1,b2]
   rw [e1,e2,e3];simp (maxSteps:=10^6)+contextual(disch:=try exact dqd)only[ev1,simprocAttr,Ca,Bo,Cb,results166,d1,d2]
 ·have b1:smB an=false:=dT
  have d1:decide (((dig an.natAbs).length:Int) > 2)=true:=aC
  have e1:tN (an,ad)=0:=by simp [tN,tS,b1]
  have e2:tD (an,ad)=0:=by simp [tD,tS,b1]
  have e3:tO (an,ad)=false:=by simp [tO,tS,b1]
  rw [e1,e2,e3];simp (maxSteps:=10^6)+contextual(disch:=try exact dqd)only[ev1,simprocAttr,Ca,Bo,Cb,results166,d1]
theorem Pv (a:Q):cL prog 141 [.agg (ceW a)] S tk k=some (.int (sgn a),S,tk,k):=by
 obtain ⟨an,ad⟩:=a;simp only [ceW,digA];refine opP func141 ntmps141 (hp3:=rfl) ?_;unfold sgn;simp only;by_cases h:an<0
 ·have d1:decide (an<0)=true:=aO
  rw [if_pos h];simp (maxSteps:=10^6)+contextual(disch:=try exact dqd)only[ev1,simprocAttr,Ca,Bo,Cb,results141,d1]
 ·have d1:decide (an<0)=false:=aO
  rw [if_neg h];have hl:dig an.natAbs=[]↔an.natAbs=0:=D4;by_cases h0:an=0
  ·subst h0;rw [if_neg aA];have d2:(((dig 0).length:Int) == 0)=true:=by rw [Bp]; rfl
   exact Ya1p
  ·rw [if_pos aA];have d2:(((dig an.natAbs).length:Int) == 0)=false:=by
    have:dig an.natAbs≠[]:=fun e=>by have:=hl.1 e; omega
    exact Ya1n
   exact Ya1p
theorem Rc (n d:Int) (hn:n.natAbs<=100000000000000000) (hd:d.natAbs<=100000000000000000) (de:d≠0):cL prog 167 [.int n,.int d] S tk k=some (.agg (ceW (lowN n d,lowD n d)),S,tk,k):=by
 refine opP func167 ntmps167 (hp3:=rfl) ?_;obtain ⟨N,hN⟩:∃ N,N=if d<0 then -n else n:=⟨_,rfl⟩
 obtain ⟨D,hD⟩:∃ D:Nat,D=d.natAbs:=⟨_,rfl⟩;obtain ⟨g,hg⟩:∃ g:Nat,g=n.natAbs.gcd d.natAbs:=⟨_,rfl⟩;have hNn:N.natAbs=n.natAbs:=by subst hN; split <;> omega
 have kt:g≠0:=by have:=Iv n.natAbs (show 0<d.natAbs by omega); omega
 have f1:lowN n d=N.tdiv ((g:Nat):Int):=by unfold lowN; rw [<- hN,<- hg]
 have f2:lowD n d=((D:Nat):Int).tdiv ((g:Nat):Int):=by
  unfold lowD;rw [<- hg,<- hD,Cz aA]; rfl
 obtain ⟨res,hr⟩:∃ r:Q,r=(lowN n d,lowD n d):=⟨_,rfl⟩;rw [<- hr];rw [f1,f2] at hr;by_cases hneg:d<0
 ·have d1:decide (d<0)=true:=bA
  have w1':B8.wrap (0 - n)=N:=by rw [hN,if_pos hneg,Aa aD]; omega
  have w2':B8.wrap (0 - d)=((D:Nat):Int):=by rw [hD,Aa aD]; omega
  by_cases ek:N<0
  ·have d2:decide (N<0)=true:=cK
   have w3':B8.wrap (0 - N)=((N.natAbs:Nat):Int):=aP
   simp (maxSteps:=10^6)+contextual(disch:=try exact dqd)only[ev1,simprocAttr,Ca,Bo,Cb,results167,d1,w1',w2',d2,w3'];refine loop1 (P:=prog) (fun x st=>st.T.length=34/\(x.1.gcd x.2=g)/\(x.1<=100000000000000000)/\(x.2<=100000000000000000)/\getT st.T 0=.int N/\getT st.T 1=.int (D:Nat)/\getT st.T 4=.ref 0 0 0/\getT st.T 5=.int (x.1:Nat)/\getT st.T 6=.int (x.2:Nat)/\st.S=[⟨0,[.prim (.bool false),.frz [] .nilc,.prim (.bool false),.frz [] .nilc]⟩]) (fun x=>x.2) (fun x=>.agg (ceW res)) (N.natAbs,D) ?_ ?_;case refine_2=>exact ⟨rfl,cX,aA,aA,rfl,rfl,rfl,rfl,rfl,rfl⟩
   rintro ⟨x,y⟩ ⟨T,S',tk',n'⟩ ⟨hl,gg,hx,hy,e0,e1,e4,e5,e6,eS⟩ IH;simp only at gg hx hy e0 e1 e4 e5 e6 eS;subst eS;obtain ⟨g,hg,hT⟩:=Ap hl;rw [hg] at e0 e1 e4 e5 e6;subst hT;clear hg hl;by_cases h0:y=0
   ·subst h0;have c1:(((0:Nat):Int) != 0)=false:=rfl;rw [I6] at gg;subst gg;have hz:¬ ((x:Int)=0):=aA
    have v1:=Bc N x;have v2:=Bc (D:Int) x;have w5:B8.wrap (N.tdiv (x:Int))=N.tdiv (x:Int):=Aa aD;have w6:B8.wrap ((D:Int).tdiv (x:Int))=(D:Int).tdiv (x:Int):=Aa aD;have hA:=fun S tk k=>Pr S tk k (N.tdiv (x:Int)) aD;exact Yab
   ·exact Ya6
  ·have d2:decide (N<0)=false:=cK
   simp (maxSteps:=10^6)+contextual(disch:=try exact dqd)only[ev1,simprocAttr,Ca,Bo,Cb,results167,d1,w1',w2',d2];obtain ⟨M,hM⟩:∃ M:Nat,N=M:=⟨N.natAbs,aA⟩;exact Ya4
 ·have d1:decide (d<0)=false:=bA
  have a1f:n=N:=by rw [hN,if_neg hneg]
  have hDd:d=(D:Int):=aA
  subst a1f;subst hDd;by_cases ek:n<0
  ·have d2:decide (n<0)=true:=cK
   have w3':B8.wrap (0 - n)=((n.natAbs:Nat):Int):=aP
   simp (maxSteps:=10^6)+contextual(disch:=try exact dqd)only[ev1,simprocAttr,Ca,Bo,Cb,results167,d1,d2,w3'];refine loop1 (P:=prog) (fun x st=>st.T.length=34/\(x.1.gcd x.2=g)/\(x.1<=100000000000000000)/\(x.2<=100000000000000000)/\getT st.T 0=.int n/\getT st.T 1=.int (D:Nat)/\getT st.T 4=.ref 0 0 0/\getT st.T 5=.int (x.1:Nat)/\getT st.T 6=.int (x.2:Nat)/\st.S=[⟨0,[.prim (.bool false),.frz [] .nilc,.prim (.bool false),.frz [] .nilc]⟩]) (fun x=>x.2) (fun x=>.agg (ceW res)) (n.natAbs,D) ?_ ?_;case refine_2=>exact ⟨rfl,cX,aA,aA,rfl,rfl,rfl,rfl,rfl,rfl⟩
   rintro ⟨x,y⟩ ⟨T,S',tk',n'⟩ ⟨hl,gg,hx,hy,e0,e1,e4,e5,e6,eS⟩ IH;simp only at gg hx hy e0 e1 e4 e5 e6 eS;subst eS;obtain ⟨g,hg,hT⟩:=Ap hl;rw [hg] at e0 e1 e4 e5 e6;subst hT;clear hg hl;by_cases h0:y=0
   ·subst h0;have c1:(((0:Nat):Int) != 0)=false:=rfl;rw [I6] at gg;subst gg;have hz:¬ ((x:Int)=0):=aA
    have v1:=Bc n x;have v2:=Bc (D:Int) x;have w5:B8.wrap (n.tdiv (x:Int))=n.tdiv (x:Int):=Aa aD;have w6:B8.wrap ((D:Int).tdiv (x:Int))=(D:Int).tdiv (x:Int):=Aa aD;have hA:=fun S tk k=>Pr S tk k (n.tdiv (x:Int)) aD;exact Yab
   ·exact Ya6
  ·have d2:decide (n<0)=false:=cK
   simp (maxSteps:=10^6)+contextual(disch:=try exact dqd)only[ev1,simprocAttr,Ca,Bo,Cb,results167,d1,d2];obtain ⟨M,hM⟩:∃ M:Nat,n=M:=⟨n.natAbs,aA⟩;exact Ya4
end
end
section
open Go Tryz
set_option maxHeartbeats 2000000
set_option maxRecDepth 100000
structure Tiny (a:Q):Prop where
 n:tN a=a.1
 d:tD a=a.2
 l1:a.1.natAbs<100000000
 l2:a.2.natAbs<100000000
 pos:0<a.2
theorem Mu {a:Q} (h:tO a=true):Tiny a:=by
 simp only [tO,tS,Ch,decide_eq_true_eq] at h;have h1:tS a=true:=by simp [tS,h.1.1,h.1.2]
 exact ⟨by simp [tN,h1],by simp [tD,h1],Nz h.1.1,Nz h.1.2,h.2⟩
theorem Jj {x y:Int} (hx:x.natAbs<100000000) (hy:y.natAbs<100000000):(x*y).natAbs<=9999999800000001:=by
 rw [Iq];exact Fh (Pz (show x.natAbs<=99999999 by omega) (show y.natAbs<=99999999 by omega)) aA
theorem Z3 {n d:Int} (hn:n.natAbs<=100000000000000000) (hd:d.natAbs<=100000000000000000) (h0:d≠0):(wn n d).1=(lowN n d,lowD n d):=by
 have hf:=Xk hn hd h0;unfold wn resN resD;simp only [hf,if_true]
theorem Ml {a:Q} (h:Tiny a):qz a=a:=by
 have:=h.pos;unfold qz; rw [if_neg aA]
section
variable (S:List Ent) (tk:List Nat) (k:Nat)
theorem Aj2 (a b:Q) (ha:okW a) (hb:okW b):cL prog 139 [.agg (ceW a),.agg (ceW b)] S tk k=some (.agg (ceW (WW.qF.minus a b).1),S,tk,k):=by
 obtain ⟨r,hr⟩:∃ r,r=(WW.qF.minus a b).1:=⟨_,rfl⟩;rw [<- hr];simp only [WW.qF] at hr;obtain ⟨l1,l2⟩:=Gz ha;obtain ⟨l3,l4⟩:=Gz hb;obtain ⟨g1,g2⟩:=qz_n ha;obtain ⟨g3,g4⟩:=qz_n hb;have ba:=fun S tk k=>J9 S tk k a ha;have ah:=fun S tk k=>J9 S tk k b hb;obtain ⟨an,ad⟩:=a;obtain ⟨bn,bd⟩:=b;simp only at l1 l2 l3 l4 g1 g2 g3 g4;refine opP func139 ntmps139 (hp3:=rfl) ?_;cases h1:tO (an,ad) with
 | true =>
  have t1:=Mu h1;have q1:=Ml t1;have p1:=t1.pos;have m1:=t1.l1;have m2:=t1.l2;rw [h1,t1.n,t1.d] at ba;simp only at p1 m1 m2;cases h2:tO (bn,bd) with
  | true =>
   have t2:=Mu h2;have q2:=Ml t2;have p2:=t2.pos;have m3:=t2.l1;have m4:=t2.l2;rw [h2,t2.n,t2.d] at ah;simp only at p2 m3 m4;have b1:=Jj m1 m4;have b2:=Jj m3 m2;have b3:=Jj m2 m4;have hd:ad*bd≠0:=Ik aA aA;rw [q1,q2] at hr;simp only at hr;rw [Rp] at hr;have e:an*bd+-(bn*ad)=an*bd - bn*ad:=aA
   rw [e,Z3 aA aA hd] at hr;have hL:=fun S tk k=>Rc S tk k (an*bd - bn*ad) (ad*bd) aA aA hd;rw [<- hr] at hL;have v1:B8.wrap (an*bd)=an*bd:=Aa aD;have v2:B8.wrap (bn*ad)=bn*ad:=Aa aD;have v3:B8.wrap (an*bd - bn*ad)=an*bd - bn*ad:=Aa aD;have v4:B8.wrap (ad*bd)=ad*bd:=Aa aD;simp only [ceW,digA] at ba ah hL ⊢;simp (maxSteps:=10^6)+contextual(disch:=try exact dqd)only[ev1,simprocAttr,Ca,Bo,Cb,results139,ba,ah,v1,v2,v3,v4,hL]
  | false =>
   rw [h2] at ah;exact Yao
 | false =>
  rw [h1] at ba;exact Yao
theorem Ast (a b:Q) (ha:okW a) (hb:okW b):cL prog 188 [.agg (ceW a),.agg (ceW b)] S tk k=some (.agg (ceW (WW.qF.times a b).1),S,tk,k):=by
 obtain ⟨r,hr⟩:∃ r,r=(WW.qF.times a b).1:=⟨_,rfl⟩;rw [<- hr];simp only [WW.qF] at hr;obtain ⟨l1,l2⟩:=Gz ha;obtain ⟨l3,l4⟩:=Gz hb;obtain ⟨g1,g2⟩:=qz_n ha;obtain ⟨g3,g4⟩:=qz_n hb;have ba:=fun S tk k=>J9 S tk k a ha;have ah:=fun S tk k=>J9 S tk k b hb;obtain ⟨an,ad⟩:=a;obtain ⟨bn,bd⟩:=b;simp only at l1 l2 l3 l4 g1 g2 g3 g4;refine opP func188 ntmps188 (hp3:=rfl) ?_;cases h1:tO (an,ad) with
 | true =>
  have t1:=Mu h1;have q1:=Ml t1;have p1:=t1.pos;have m1:=t1.l1;have m2:=t1.l2;rw [h1,t1.n,t1.d] at ba;simp only at p1 m1 m2;cases h2:tO (bn,bd) with
  | true =>
   have t2:=Mu h2;have q2:=Ml t2;have p2:=t2.pos;have m3:=t2.l1;have m4:=t2.l2;rw [h2,t2.n,t2.d] at ah;simp only at p2 m3 m4;have b1:=Jj m1 m3;have b3:=Jj m2 m4;have hd:ad*bd≠0:=Ik aA aA;rw [q1,q2] at hr;simp only at hr;rw [Z3 aA aA hd] at hr;have hL:=fun S tk k=>Rc S tk k (an*bn) (ad*bd) aA aA hd;rw [<- hr] at hL;have v1:B8.wrap (an*bn)=an*bn:=Aa aD;have v4:B8.wrap (ad*bd)=ad*bd:=Aa aD;simp only [ceW,digA] at ba ah hL ⊢;simp (maxSteps:=10^6)+contextual(disch:=try exact dqd)only[ev1,simprocAttr,Ca,Bo,Cb,results188,ba,ah,v1,v4,hL]
  | false =>
   rw [h2] at ah;exact Yap
 | false =>
  rw [h1] at ba;exact Yap
theorem Ac9 (a b:Q) (ha:okW a) (hb:okW b):cL prog 179 [.agg (ceW a),.agg (ceW b)] S tk k=some (.agg (ceW (WW.qF.over a b).1),S,tk,k):=by
 obtain ⟨r,hr⟩:∃ r,r=(WW.qF.over a b).1:=⟨_,rfl⟩;rw [<- hr];simp only [WW.qF] at hr;obtain ⟨l1,l2⟩:=Gz ha;obtain ⟨l3,l4⟩:=Gz hb;obtain ⟨g1,g2⟩:=qz_n ha;obtain ⟨g3,g4⟩:=qz_n hb;have ba:=fun S tk k=>J9 S tk k a ha;have ah:=fun S tk k=>J9 S tk k b hb;obtain ⟨an,ad⟩:=a;obtain ⟨bn,bd⟩:=b;simp only at l1 l2 l3 l4 g1 g2 g3 g4;refine opP func179 ntmps179 (hp3:=rfl) ?_;cases h1:tO (an,ad) with
 | true =>
  have t1:=Mu h1;have q1:=Ml t1;have p1:=t1.pos;have m1:=t1.l1;have m2:=t1.l2;rw [h1,t1.n,t1.d] at ba;simp only at p1 m1 m2;cases h2:tO (bn,bd) with
  | true =>
   have t2:=Mu h2;have q2:=Ml t2;have p2:=t2.pos;have m3:=t2.l1;have m4:=t2.l2;rw [h2,t2.n,t2.d] at ah;simp only at p2 m3 m4;by_cases hb0:bn=0
   ·have c0:(bn != 0)=false:=by simp [hb0]
    have hJ:=fun S tk k=>Ac8 S tk k (decide (an<0)) (dig an.natAbs) (decide (ad<0)) (dig ad.natAbs) (decide (bn<0)) (dig bn.natAbs) (decide (bd<0)) (dig bd.natAbs) aA aA aA aA;rw [g1,g2,g3,g4] at hJ;simp only [resQ,qA,ratA,ceW,digA] at ba ah hJ ⊢;simp (maxSteps:=10^6)+contextual(disch:=try exact dqd)only[ev1,simprocAttr,Ca,Bo,Cb,results179,ba,ah,c0,hJ];rw [hr]; exact ⟨rfl,rfl,rfl,rfl⟩
   have c0:(bn != 0)=true:=by simp [hb0]
   have b1:=Jj m1 m4;have b3:=Jj m2 m3;have hd:ad*bn≠0:=Ik aA hb0;rw [q1,q2] at hr;simp only at hr;rw [Z3 aA aA hd] at hr;have hL:=fun S tk k=>Rc S tk k (an*bd) (ad*bn) aA aA hd;rw [<- hr] at hL;have v1:B8.wrap (an*bd)=an*bd:=Aa aD;have v4:B8.wrap (ad*bn)=ad*bn:=Aa aD;simp only [ceW,digA] at ba ah hL ⊢;simp (maxSteps:=10^6)+contextual(disch:=try exact dqd)only[ev1,simprocAttr,Ca,Bo,Cb,results179,ba,ah,c0,v1,v4,hL]
  | false =>
   rw [h2] at ah;exact Yaq
 | false =>
  rw [h1] at ba;exact Yaq
def cmpW (a b:Q):Int:=cmpZ ((qz a).1*(qz b).2) ((qz b).1*(qz a).2)
theorem Ass (a b:Q) (ha:okW a) (hb:okW b):cL prog 178 [.agg (ceW a),.agg (ceW b)] S tk k=some (.int (cmpW a b),S,tk,k):=by
 obtain ⟨r,hr⟩:∃ r,r=cmpW a b:=⟨_,rfl⟩;rw [<- hr];unfold cmpW at hr;obtain ⟨l1,l2⟩:=Gz ha;obtain ⟨l3,l4⟩:=Gz hb;obtain ⟨g1,g2⟩:=qz_n ha;obtain ⟨g3,g4⟩:=qz_n hb;have ba:=fun S tk k=>J9 S tk k a ha;have ah:=fun S tk k=>J9 S tk k b hb;obtain ⟨an,ad⟩:=a;obtain ⟨bn,bd⟩:=b;simp only at l1 l2 l3 l4 g1 g2 g3 g4;refine opP func178 ntmps178 (hp3:=rfl) ?_;cases h1:tO (an,ad) with
 | true =>
  have t1:=Mu h1;have q1:=Ml t1;have p1:=t1.pos;have m1:=t1.l1;have m2:=t1.l2;rw [h1,t1.n,t1.d] at ba;simp only at p1 m1 m2;cases h2:tO (bn,bd) with
  | true =>
   have t2:=Mu h2;have q2:=Ml t2;have p2:=t2.pos;have m3:=t2.l1;have m4:=t2.l2;rw [h2,t2.n,t2.d] at ah;simp only at p2 m3 m4;have b1:=Jj m1 m4;have b2:=Jj m3 m2;rw [q1,q2] at hr;simp only at hr;have v1:B8.wrap (an*bd)=an*bd:=Aa aD;have v2:B8.wrap (bn*ad)=bn*ad:=Aa aD;unfold cmpZ at hr;simp only [ceW,digA] at ba ah ⊢;by_cases c1:an*bd<bn*ad
   ·have k1:decide (an*bd<bn*ad)=true:=by simpa using c1
    rw [if_pos c1] at hr;subst hr;simp (maxSteps:=10^6)+contextual(disch:=try exact dqd)only[ev1,simprocAttr,Ca,Bo,Cb,results178,ba,ah,v1,v2,k1]
   ·have k1:decide (an*bd<bn*ad)=false:=by simpa using c1
    rw [if_neg c1] at hr;by_cases c2:an*bd > bn*ad
    ·have k2:decide (an*bd > bn*ad)=true:=by simpa using c2
     rw [if_pos aA] at hr;exact Ya1d
    ·have k2:decide (an*bd > bn*ad)=false:=by simpa using c2
     rw [if_neg aA] at hr;exact Ya1d
  | false =>
   rw [h2] at ah;exact Yar
 | false =>
  rw [h1] at ba;exact Yar
end
end
section
open Go
def ovR (p:Q) (row:List Q):List Q:=row.map fun x=>(WW.qF.over x p).1
def zipR (f:Q):List Q->List Q->List Q
 | a :: l,b :: r=>(WW.qF.minus a (WW.qF.times f b).1).1 :: zipR f l r
 | _,_=>[]
def lsR (f:Q) (a b:List Q):List Q:=if sgn f=0 then a else zipR f a b
def rowsR (row:List Q) (c i:Nat):Nat->List (List Q)->List (List Q)
 | _,[]=>[]
 | k,r :: l=>(if k=i then r else lsR (at_ q0 r c) r row) :: rowsR row c i (k+1) l
def pivR (t:Tb) (i c:Nat):Tb :=
 { t with rows:=rowsR (ovR (at_ q0 (Bk t i) c) (Bk t i)) c i 0 (put t.rows i (ovR (at_ q0 (Bk t i) c) (Bk t i))),cost:=lsR (at_ q0 t.cost c) t.cost (ovR (at_ q0 (Bk t i) c) (Bk t i)),basis:=put t.basis i c }
def quoR (r:List Q) (c W:Nat):Q:=(WW.qF.over (at_ q0 r (W - 1)) (at_ q0 r c)).1
def Wv (basis:List Nat) (s:Int) (k bi:Nat):Bool:=decide (s<0) || (s == 0 && decide (at_ 0 basis k<at_ 0 basis bi))
def G3 (t:Tb) (c:Nat):Nat->List (List Q)->Option Nat->Option Nat
 | _,[],b=>b
 | k,r :: l,b =>
  if sgn (at_ q0 r c)<=0 then G3 t c (k+1) l b else
   match b with
   | none=>G3 t c (k+1) l (some k)
   | some bi=>G3 t c (k+1) l (if Wv t.basis (cmpW (quoR r c t.cost.length) (quoR (Bk t bi) c t.cost.length)) k bi=true then some k else some bi)
def Nu (lim:Nat):Nat->Tb->Option (Bool × Tb)
 | 0,_=>none
 | n+1,t=>match colF t.cost lim 0 with
  | none=>some (true,t)
  | some c=>match G3 t c 0 t.rows none with
   | none=>some (false,t)
   | some i=>Nu lim n (pivR t i c)
def sgI (r:RowT):Int:=if -r.2.1<0 then -1 else 1
def iQ (n:Int):Q:=(n,1)
def Hb:List (ByteArray × Int)->ByteArray->Int
 | [],_=>0
 | c :: cs,s=>if sEq c.1 s=true then c.2 else Hb cs s
def Ja (s:Int) (cs:List (ByteArray × Int)):List ByteArray->List Q
 | []=>[]
 | v :: vs=>iQ (s*Hb cs v) :: iQ (-s*Hb cs v) :: Ja s cs vs
def Y7 (m i:Nat) (r:RowT) (k:Nat):Int:=if k=m+i then 1 else if k=i/\r.2.2=false then sgI r else 0
def Jf (vars:List ByteArray) (m i:Nat) (r:RowT):List Q:=Ja (sgI r) r.1 vars++(E7 (2*m)).map (fun k=>iQ (Y7 m i r k))++[iQ (sgI r*-r.2.1)]
def linesR (vars:List ByteArray) (m:Nat):Nat->List RowT->List (List Q)
 | _,[]=>[]
 | i,r :: l=>Jf vars m i r :: linesR vars m (i+1) l
def colR (k:Nat):List (List Q)->Q->Q
 | [],c=>c
 | r :: l,c=>colR k l (WW.qF.minus c (at_ q0 r k)).1
def Ah4 (rows:List (List Q)) (real m k:Nat):Q:=colR k rows (iQ (if real<=k/\k<real+m then 1 else 0))
def Gb (l:List RowT) (vars:List ByteArray):Tb :=
 let real:=2*vars.length+l.length
 let rows:=linesR vars l.length 0 l
 { vars:=vars.length,real:=real,rows:=rows,cost:=(E7 (real+l.length+1)).map (Ah4 rows real l.length),basis:=(E7 l.length).map (real+·),flip:=l.map fun r=>decide (sgI r<0),fl:=false }
theorem Z5 {f:Q} : ∀ {l r:List Q},l.length=r.length->(zipR f l r).length=l.length
 | [],[],_=>rfl
 | [],_ :: _,h=>aR
 | _ :: _,[],h=>aR
 | _ :: l,_ :: r,h=>by simp only [zipR,Cj,Z5 (show l.length=r.length by simpa using h)]
theorem Ab8 {f:Q} {l r:List Q} (h:l.length=r.length):(lsR f l r).length=l.length:=by
 unfold lsR; split
 ·rfl
 ·exact Z5 h
theorem Asd {p:Q} {l:List Q} : (ovR p l).length=l.length:=Fg _
end
section
open Go Tryz
set_option maxHeartbeats 8000000
set_option maxRecDepth 100000
section
variable {P:Program} {t:TypeId} {e:List AV} {S:List Ent} {n:Nat} {c:Cap}
theorem Ake (h:apT P t=some 4) (hx:e.length=4) (hl:e.all leafOk=true):apO P t (.frz [] .nilc) (.frz [e] c) S n=some (.sref S.length n 0 1 4,S++[⟨n,e⟩],n+1):=by
 have hl:litC 4 (.frz [e] c)=some (1,e):=by simp [litC,hl,B2,hx]
 exact Ya1s
theorem App {id ep len:Nat} {cs:List AV} (h:apT P t=some 4) (hx:e.length=4) (hl:e.all leafOk=true) (hE:entAt S id ep=some cs) (hc:cs.length=len*4) (h0:0<len) (h1:len+1<=1048576):apO P t (.sref id ep 0 len 4) (.frz [e] c) S n=some (.sref id n 0 (len+1) 4,put S id ⟨n,cs++e⟩,n+1):=by
 have hl:litC 4 (.frz [e] c)=some (1,e):=by simp [litC,hl,B2,hx]
 unfold apO;rw [h]; simp only [hl];rw [if_pos ⟨aA,dI⟩];simp only [apO2,hE];rw [if_pos ⟨trivial,h0⟩];rw [if_pos ⟨hc,by simp [roomy]; omega⟩]
end
def ohd (id ep:Nat):Nat->AV
 | 0=>.frz [] .nilc
 | k+1=>.sref id ep 0 (k+1) 4
theorem Kq {id ep k:Nat} (h:k≠0):ohd id ep k=.sref id ep 0 k 4:=by cases k with|zero=>exact absurd rfl h|succ k=>rfl
def oent (ep:Nat) (l:List Q):List Ent:=if l=[] then [] else [⟨ep,flat ceW l⟩]
theorem Al0 {l:List Q} {q:Q} : flat ceW (l++[q])=flat ceW l++ceW q:=by unfold flat; simp
def Avf (S:List Ent) (tk:List Nat) (ida epa:Nat) (f:Q) (a b:List Q) (r:Rs):Prop :=
 ∃ S' k' id ep,r=(.sref id ep 0 a.length 4,S',tk,k')/\S.length<=S'.length/\(∀ j,j<S.length->nth S' j=nth S j)/\entAt S' id ep=some (flat ceW (lsR f a b))/\((id=ida/\ep=epa)\/S.length<=id)
theorem Aot {f:Q} {a b:List Q} {k:Nat} {x y:Q} (hx:nth a k=some x) (hy:nth b k=some y):zipR f (a.take (k+1)) (b.take (k+1))=zipR f (a.take k) (b.take k)++[(WW.qF.minus x (WW.qF.times f y).1).1]:=by
 induction k generalizing a b with
 | zero =>
  cases a with
  | nil=>simp [nth] at hx
  | cons u a =>
   cases b with
   | nil=>simp [nth] at hy
   | cons v b =>
    simp only [nth,Bg] at hx hy;subst hx; subst hy; rfl
 | succ k ih =>
  cases a with
  | nil=>simp [nth] at hx
  | cons u a =>
   cases b with
   | nil=>simp [nth] at hy
   | cons v b =>
    simp only [He,zipR,Co];rw [ih (a:=a) (b:=b) hx hy]
section
variable (S:List Ent) (tk:List Nat) (k:Nat)
theorem Ae7 (ida epa idb epb:Nat) (f:Q) (a b:List Q) (hf:okW f) (hA:entAt S ida epa=some (flat ceW a)) (hB:entAt S idb epb=some (flat ceW b)) (hab:a.length=b.length) (h0:0<a.length) (hW:a.length<=1000000) (ha:okL WW.qF a) (hb:okL WW.qF b) :
  ∃ r,cL prog 180 [.sref ida epa 0 a.length 4,.sref idb epb 0 a.length 4,.agg (ceW f)] S tk k=some r/\Avf S tk ida epa f a b r:=by
 obtain ⟨Φ,hΦ⟩:∃ Φ,Φ=Avf S tk ida epa f a b:=⟨_,rfl⟩;rw [<- hΦ];have hs:=fun S tk k=>Pv S tk k f;refine opM func180 ntmps180 ?_;by_cases h1:sgn f=0
 ·have c1:(sgn f == 0)=true:=aY
  simp (maxSteps:=10^6)+contextual(disch:=try exact dqd)only[evg1,simprocAttr,Ca,Bo,Cb,results180,hs,c1,Al,Av,Ea,D9,WW.tkQ,WW.puQ,xfs];rw [hΦ];refine ⟨_,_,ida,epa,rfl,by simp,fun j hj=>Bj hj,?_,.inl ⟨rfl,rfl⟩⟩;unfold lsR; rw [if_pos h1];exact Ad hA
 have c1:(sgn f == 0)=false:=aY
 simp (maxSteps:=10^6)+contextual(disch:=try exact dqd)only[evg1,simprocAttr,Ca,Bo,Cb,results180,hs,c1,Al,Av,Ea,D9,WW.tkQ,WW.puQ,xfs];have hoe:∀ e,oent e (zipR f (a.take 0) (b.take 0))=[]:=fun e=>by simp [oent,zipR]
 refine Ef (P:=prog) (fun x st=>st.T.length=34/\(x.2.2.1<=a.length)/\(x.1=S++[(⟨k,ceW f⟩:Ent)]++oent x.2.2.2 (zipR f (a.take x.2.2.1) (b.take x.2.2.1)))/\getT st.T 0=.sref ida epa 0 a.length 4/\getT st.T 1=.sref idb epb 0 a.length 4/\getT st.T 5=.ref S.length k 0/\getT st.T 7=ohd (S.length+1) x.2.2.2 x.2.2.1/\getT st.T 14=.int (a.length:Nat)/\getT st.T 15=.int (x.2.2.1:Nat)/\st.S=x.1/\st.tk=tk/\st.n=x.2.1) (fun x=>a.length - x.2.2.1) ((S++[(⟨k,ceW f⟩:Ent)]),(k+1),0,0) ?_ ?_;case refine_2=>exact ⟨rfl,Ci _,by rw [hoe,Fj],rfl,rfl,rfl,rfl,rfl,rfl,rfl,rfl,rfl⟩
 rintro ⟨SS,n1,j,e⟩ ⟨T,S',tk',n'⟩ ⟨hl,hj,hSS,e0,e1,e5,e7,e14,e15,eS,eT,eN⟩ IH;simp only at hj hSS e0 e1 e5 e7 e14 e15 eS eT eN;subst eS eT eN;obtain ⟨g,hg,hT⟩:=Ap hl;rw [hg] at e0 e1 e5 e7 e14 e15;subst hT;clear hg hl;have ci:∀ x:Ent,(S++[x]).length=S.length+1:=fun x=>by simp
 have hzl:(zipR f (a.take j) (b.take j)).length=j:=by rw [Z5 (by simp [hab])]; simp; omega
 by_cases hja:j<a.length
 ·have c2:decide ((j:Int)<(a.length:Int))=true:=by simpa using hja
  have ru:B8.wrap ((j:Int)+1)=((j+1:Nat):Int):=aS
  obtain ⟨x,hx⟩:=Ab hja;obtain ⟨y,hy⟩:=Ab (show j<b.length by omega);have ox:=ha x (Aj hx);have oy:=hb y (Aj hy);have fj:=Au (ce:=ceW) Al hx;have hyt:=Au (ce:=ceW) Al hy;have jj:=Aot (f:=f) hx hy;obtain ⟨p,hp⟩:∃ p,p=(WW.qF.times f y).1:=⟨_,rfl⟩;have op:okW p:=by rw [hp]; exact WW.Du.times _ _ hf oy
  obtain ⟨d,hd⟩:∃ d,d=(WW.qF.minus x p).1:=⟨_,rfl⟩;have od:okW d:=by rw [hd]; exact WW.Du.minus _ _ ox op
  rw [<- hp,<- hd] at jj;have hM:=fun S tk k=>Ast S tk k f y hf oy;have hD:=fun S tk k=>Aj2 S tk k x p ox op;rw [<- hp] at hM;rw [<- hd] at hD;have eA:entAt S' ida epa=some (flat ceW a):=by rw [hSS,C6]; exact Ad hA
  have eB:entAt S' idb epb=some (flat ceW b):=by rw [hSS,C6]; exact Ad hB
  have eF:entAt S' S.length k=some (ceW f):=by rw [hSS]; exact Ad Bm
  have bh:apT prog 78=some 4:=aK
  by_cases wd:j=0
  ·have a2y:S'=S++[(⟨k,ceW f⟩:Ent)]:=by rw [hSS,wd,hoe,Fj]
   have fg:∀ c S n,apO prog 78 (.frz [] .nilc) (.frz [ceW d] c) S n=some (.sref S.length n 0 (j+1) 4,S++[⟨n,ceW d⟩],n+1):=fun c S n=>by rw [wd]; exact Ake bh (Al d) (Av d)
   rw [show ohd (S.length+1) e j=.frz [] .nilc by rw [wd]; rfl] at e7;have hSl:S'.length=S.length+1:=by rw [a2y,ci]
   simp (maxSteps:=10^6)+contextual(disch:=try exact dqd)only[evg1,simprocAttr,Ca,Bo,Cb,results180,e0,e1,e5,e7,e14,e15,c2,ru,hja,eA,eB,eF,fj,hyt,hM,hD,fg,hSl,Al,Av,Ea,D9,WW.tkQ,WW.puQ,xfs];have gy:zipR f (a.take (j+1)) (b.take (j+1))=[d]:=by rw [jj,wd]; rfl
   exact IH (S'++[(⟨n',ceW d⟩:Ent)],n'+1,j+1,n') _ aF ⟨rfl,aE,by rw [gy,a2y]; simp [oent,flat],bZ⟩
  ·have a12:zipR f (a.take j) (b.take j)≠[]:=fun h=>by rw [h] at hzl; simp at hzl; omega
   have a13:oent e (zipR f (a.take j) (b.take j))=[⟨e,flat ceW (zipR f (a.take j) (b.take j))⟩]:=if_neg a12;rw [a13] at hSS;rw [Kq wd] at e7;have eO:entAt S' (S.length+1) e=some (flat ceW (zipR f (a.take j) (b.take j))):=by rw [hSS]; exact An (ci _)
   have fg:=fun c n=>App (S:=S') (n:=n) (c:=c) (id:=S.length+1) (ep:=e) (len:=j) bh (Al d) (Av d) eO (by rw [Va Al,hzl]) aA aA;simp (maxSteps:=10^6)+contextual(disch:=try exact dqd)only[evg1,simprocAttr,Ca,Bo,Cb,results180,e0,e1,e5,e7,e14,e15,c2,ru,hja,eA,eB,eF,fj,hyt,hM,hD,fg,Al,Av,Ea,D9,WW.tkQ,WW.puQ,xfs];have gy:oent n' (zipR f (a.take (j+1)) (b.take (j+1)))=[⟨n',flat ceW (zipR f (a.take j) (b.take j))++ceW d⟩]:=by rw [jj]; unfold oent; rw [if_neg (by simp),Al0]
   exact IH (put S' (S.length+1) ⟨n',flat ceW (zipR f (a.take j) (b.take j))++ceW d⟩,n'+1,j+1,n') _ aF ⟨rfl,aE,by rw [gy,hSS,De (ci _)],bZ⟩
 ·have c2:decide ((j:Int)<(a.length:Int))=false:=by simpa using hja
  have rj:j=a.length:=aA
  subst rj;rw [C8,hab,C8] at hSS;rw [Kq aA] at e7;simp (maxSteps:=10^6)+contextual(disch:=try exact dqd)only[evg1,simprocAttr,Ca,Bo,Cb,results180,e0,e1,e5,e7,e14,e15,c2];have a12:zipR f a b≠[]:=fun h=>by
   have:=Z5 (f:=f) hab;rw [h] at this; simp at this; omega
  have a13:oent e (zipR f a b)=[⟨e,flat ceW (zipR f a b)⟩]:=if_neg a12;rw [a13] at hSS;rw [hΦ,hSS];refine ⟨_,_,S.length+1,e,rfl,by simp,fun j hj=>?_,?_,.inr aA⟩
  ·rw [Bj (by rw [ci]; omega),Bj hj]
  ·unfold lsR; rw [if_neg h1];exact An (ci _)
end
end
section
open Go
structure AptR (I:TI):Prop where
 tr:I.it≠I.ir
 tc:I.it≠I.ic
 tb:I.it≠I.ib
 rc:I.ir≠I.ic
 rb:I.ir≠I.ib
 cb:I.ic≠I.ib
 row:∀ p ∈ I.ids,p.1≠I.it/\p.1≠I.ir/\p.1≠I.ic/\p.1≠I.ib
 rows:∀ i j p q,nth I.ids i=some p->nth I.ids j=some q->i≠j->p.1≠q.1
structure RTab (S:List Ent) (I:TI) (t:Tb) (vars:List ByteArray) (m:Nat) (c:Cap):Prop where
 top:entAt S I.it I.et=some [.sref I.ir I.er 0 t.rows.length 1,.sref I.ib I.eb 0 t.rows.length 1,.sref I.ic I.ec 0 t.cost.length 4,.frz (vars.map strC) .unk,.frz (t.flip.map Di) c,intA m]
 nids:I.ids.length=t.rows.length
 rowsE:entAt S I.ir I.er=some (I.ids.map (dp t.cost.length 4))
 rowE:∀ i p r,nth I.ids i=some p->nth t.rows i=some r->entAt S p.1 p.2=some (flat ceW r)
 rowW:∀ r ∈ t.rows,r.length=t.cost.length
 costE:entAt S I.ic I.ec=some (flat ceW t.cost)
 basisE:entAt S I.ib I.eb=some (t.basis.map intA)
 nb:t.basis.length=t.rows.length
 ap:AptR I
 okr:∀ r ∈ t.rows,okL WW.qF r
 okc:okL WW.qF t.cost
 bigW:t.cost.length<=1000000
 bigM:t.rows.length<=1000000
 posM:0<t.rows.length
 posW:0<t.cost.length
def OutR (I:TI) (j:Nat):Prop:=j≠I.it/\j≠I.ir/\j≠I.ic/\j≠I.ib/\∀ p ∈ I.ids,j≠p.1
section
variable {S S':List Ent} {I:TI} {t:Tb} {vars:List ByteArray} {m:Nat} {c:Cap}
theorem RTab.lt (h:RTab S I t vars m c):I.it<S.length/\I.ir<S.length/\I.ic<S.length/\I.ib<S.length/\∀ p ∈ I.ids,p.1<S.length:=by
 refine ⟨A7 h.top,A7 h.rowsE,A7 h.costE,A7 h.basisE,fun p hp=>?_⟩;exact Yau
theorem RTab.out (h:RTab S I t vars m c) {j:Nat} (hj:S.length<=j):OutR I j:=by
 obtain ⟨h1,h2,h3,h4,h5⟩:=h.lt;exact ⟨aA,aA,aA,aA,fun p hp=>by have:=h5 p hp; omega⟩
theorem RTab.frame (h:RTab S I t vars m c) (hS:∀ j,j<S.length->¬ OutR I j->nth S' j=nth S j):RTab S' I t vars m c:=by
 obtain ⟨h1,h2,h3,h4,h5⟩:=h.lt;have k1:=hS I.it h1 fun h=>h.1 rfl;have k2:=hS I.ir h2 fun h=>h.2.1 rfl;have k3:=hS I.ic h3 fun h=>h.2.2.1 rfl;have k4:=hS I.ib h4 fun h=>h.2.2.2.1 rfl;have k5:∀ p ∈ I.ids,nth S' p.1=nth S p.1:=fun p hp=>hS p.1 (h5 p hp) fun h=>h.2.2.2.2 p hp rfl;exact ⟨by rw [Ac k1]; exact h.top,h.nids,by rw [Ac k2]; exact h.rowsE,fun i p r hp hr=>by rw [Ac (k5 p (Aj hp))]; exact h.rowE i p r hp hr,h.rowW,by rw [Ac k3]; exact h.costE,by rw [Ac k4]; exact h.basisE,h.nb,h.ap,h.okr,h.okc,h.bigW,h.bigM,h.posM,h.posW⟩
theorem RTab.app (h:RTab S I t vars m c) (L:List Ent):RTab (S++L) I t vars m c:=h.frame fun j hj _=>Bj hj
theorem RTab.row (h:RTab S I t vars m c) {i:Nat} {p:Nat × Nat} {r':List Q} (hp:nth I.ids i=some p) (hi:i<t.rows.length) (hl:r'.length=t.cost.length) (ho:okL WW.qF r') (hS:∀ j,j≠p.1->j<S.length->nth S' j=nth S j) (he:entAt S' p.1 p.2=some (flat ceW r')) :
  RTab S' I { t with rows:=put t.rows i r' } vars m c:=by
 obtain ⟨h1,h2,h3,h4,h5⟩:=h.lt;have kv:=h.ap.row p (Aj hp);have key:∀ j e,j≠p.1->j<S.length->entAt S' j e=entAt S j e:=fun j e a b=>Ac (hS j a b);refine ⟨?_,by rw [Ak]; exact h.nids,?_,fun j q r hq ae=>?_,fun r ae=>?_,?_,?_,Za60,h.ap,fun r ae=>?_,h.okc,h.bigW,by rw [Ak]; exact h.bigM,by rw [Ak]; exact h.posM,h.posW⟩
 ·rw [key _ _ kv.1.symm h1,Ak]; exact h.top
 ·rw [key _ _ kv.2.1.symm h2]; exact h.rowsE
 ·rw [Kp hi] at ae;by_cases e:j=i
  ·exact Ya1w
  ·rw [if_neg e] at ae;rw [key _ _ (h.ap.rows j i q p hq hp e) (h5 q (Aj hq))];exact Ya2r
 ·exact Ya24
 ·rw [key _ _ kv.2.2.1.symm h3]; exact h.costE
 ·rw [key _ _ kv.2.2.2.symm h4]; exact h.basisE
 ·rcases Bx ae with rfl|ae
  ·exact ho
  ·exact h.okr r ae
theorem RTab.setRow (h:RTab S I t vars m c) {i:Nat} {q:Nat × Nat} {r':List Q} (hi:i<t.rows.length) (hl:r'.length=t.cost.length) (ho:okL WW.qF r') (hq:nth I.ids i=some q\/OutR I q.1) (he:entAt S q.1 q.2=some (flat ceW r')) :
  RTab (put S I.ir ⟨I.er,put (I.ids.map (dp t.cost.length 4)) i (dp t.cost.length 4 q)⟩) { I with ids:=put I.ids i q } { t with rows:=put t.rows i r' } vars m c:=by
 obtain ⟨h1,h2,h3,h4,h5⟩:=h.lt;have hii:i<I.ids.length:=by rw [h.nids]; exact hi
 have vk:q.1≠I.it/\q.1≠I.ir/\q.1≠I.ic/\q.1≠I.ib:=by
  rcases hq with hq|hq
  ·exact h.ap.row q (Aj hq)
  ·exact ⟨hq.1,hq.2.1,hq.2.2.1,hq.2.2.2.1⟩
 have hqd:∀ j p,j≠i->nth I.ids j=some p->p.1≠q.1:=fun j p hj hp=>by
  rcases hq with hq|hq
  ·exact h.ap.rows j i p q hp hq hj
  ·exact (hq.2.2.2.2 p (Aj hp)).symm
 refine ⟨?_,by simp only [Ak]; exact h.nids,?_,fun j p r hp ae=>?_,fun r ae=>?_,?_,?_,by simp only [Ak]; exact h.nb,⟨h.ap.tr,h.ap.tc,h.ap.tb,h.ap.rc,h.ap.rb,h.ap.cb,fun p hp=>?_,fun a b p p' ha hb hab=>?_⟩,fun r ae=>?_,h.okc,h.bigW,by simp only [Ak]; exact h.bigM,by simp only [Ak]; exact h.posM,h.posW⟩
 ·rw [Ai h.ap.tr.symm]; simp only [Ak]; exact h.top
 ·rw [Ah h2,<- Ph]
 ·have ez:nth (put I.ids i q) j=some p:=hp;rw [Kp hii] at ez;rw [Kp hi] at ae;by_cases e:j=i
  ·rw [if_pos e] at ez ae;simp only [Bg] at ez ae;subst ez; subst ae;rw [Ai vk.2.1.symm]; exact he
  ·rw [if_neg e] at ez ae;rw [Ai (h.ap.row p (Aj ez)).2.1.symm]; exact h.rowE j p r ez ae
 ·exact Ya24
 ·rw [Ai h.ap.rc]; exact h.costE
 ·rw [Ai h.ap.rb]; exact h.basisE
 ·rcases Bx hp with rfl|hp
  ·exact vk
  ·exact h.ap.row p hp
 ·have ha':nth (put I.ids i q) a=some p:=ha;have s9:nth (put I.ids i q) b=some p':=hb;rw [Kp hii] at ha' s9;by_cases e:a=i
  ·rw [if_pos e] at ha';rw [if_neg (fun e2=>hab (e.trans e2.symm))] at s9;simp only [Bg] at ha';subst ha';exact (hqd b p' (fun e2=>hab (e.trans e2.symm)) s9).symm
  ·rw [if_neg e] at ha';by_cases e2:b=i
   ·rw [if_pos e2] at s9;simp only [Bg] at s9;subst s9;exact hqd a p e ha'
   ·rw [if_neg e2] at s9;exact h.ap.rows a b p p' ha' s9 hab
 ·rcases Bx ae with rfl|ae
  ·exact ho
  ·exact h.okr r ae
theorem RTab.setCost (h:RTab S I t vars m c) {q:Nat × Nat} {k':List Q} (hl:k'.length=t.cost.length) (ho:okL WW.qF k') (hq:q=(I.ic,I.ec)\/OutR I q.1) (he:entAt S q.1 q.2=some (flat ceW k')) :
  RTab (put S I.it ⟨I.et,[.sref I.ir I.er 0 t.rows.length 1,.sref I.ib I.eb 0 t.rows.length 1,.sref q.1 q.2 0 t.cost.length 4,.frz (vars.map strC) .unk,.frz (t.flip.map Di) c,intA m]⟩) { I with ic:=q.1,ec:=q.2 } { t with cost:=k' } vars m c:=by
 obtain ⟨h1,h2,h3,h4,h5⟩:=h.lt;have vk:q.1≠I.it/\I.ir≠q.1/\q.1≠I.ib/\∀ p ∈ I.ids,p.1≠q.1:=by
  rcases hq with rfl|hq
  ·exact ⟨h.ap.tc.symm,h.ap.rc,h.ap.cb,fun p hp=>(h.ap.row p hp).2.2.1⟩
  ·exact ⟨hq.1,hq.2.1.symm,hq.2.2.2.1,fun p hp=>(hq.2.2.2.2 p hp).symm⟩
 refine ⟨?_,h.nids,?_,fun j p r hp hr=>?_,fun r hr=>by rw [hl]; exact h.rowW r hr,?_,?_,h.nb,⟨h.ap.tr,vk.1.symm,h.ap.tb,vk.2.1,h.ap.rb,vk.2.2.1,fun p hp=>?_,h.ap.rows⟩,h.okr,ho,by rw [hl]; exact h.bigW,h.bigM,h.posM,by rw [hl]; exact h.posW⟩
 ·rw [Ah h1,hl]
 ·rw [Ai h.ap.tr,hl]; exact h.rowsE
 ·rw [Ai (h.ap.row p (Aj hp)).1.symm]; exact h.rowE j p r hp hr
 ·rw [Ai vk.1.symm]; exact he
 ·rw [Ai h.ap.tb]; exact h.basisE
 ·have:=h.ap.row p hp;exact ⟨this.1,this.2.1,vk.2.2.2 p hp,this.2.2.2⟩
theorem RTab.setBasis (h:RTab S I t vars m c) {i b:Nat} : RTab (put S I.ib ⟨I.eb,(put t.basis i b).map intA⟩) I { t with basis:=put t.basis i b } vars m c:=by
 obtain ⟨h1,h2,h3,h4,h5⟩:=h.lt;refine ⟨?_,h.nids,?_,fun j p r hp hr=>?_,h.rowW,?_,Ah h4,by simp only [Ak]; exact h.nb,h.ap,h.okr,h.okc,h.bigW,h.bigM,h.posM,h.posW⟩
 ·rw [Ai h.ap.tb.symm]; exact h.top
 ·rw [Ai h.ap.rb.symm]; exact h.rowsE
 ·rw [Ai (h.ap.row p (Aj hp)).2.2.2.symm]; exact h.rowE j p r hp hr
 ·rw [Ai h.ap.cb.symm]; exact h.costE
def RetR (S:List Ent) (tk:List Nat) (I:TI) (t':Tb) (vars:List ByteArray) (m:Nat) (c:Cap) (v:AV) (r:Rs):Prop :=
 ∃ S' k' I',r=(v,S',tk,k')/\S.length<=S'.length/\RTab S' I' t' vars m c/\I'.it=I.it/\I'.et=I.et/\∀ j,j<S.length->OutR I j->nth S' j=nth S j/\OutR I' j
end
end
section
open Go Tryz
set_option maxHeartbeats 8000000
set_option maxRecDepth 100000
theorem ext_mvK (f:FuncId) (h:CkF (mvF0 f)):Ext.mv prog f=false:=h.h
theorem ext_mvT (f:FuncId) (h:CkT (mvF0 f)):Ext.mv prog f=true:=h.h
set_option linter.defProp false in
def evgm:=Cc @Arn <| Cc @Arm <| Cc @Aey <| Cc @Aex <| Cc ext_mvK <| Cc ext_mvT evs0
set_option linter.defProp false in
def evm:=Cc ext_mvK <| Cc ext_mvT ev0
theorem Axd {P:Program} {all:List Oper} {d:Option Tmp} {T:List AV} {S S':List Ent} {t:TypeId} {a e:Tmp} {x v:AV} (hL:loadsB all d=[(t,.tmp a,some e,true)]) (h2:S.length<=S'.length) (he:decide (e<T.length)=true) (ha:getT T a=x) (hv:getT T e=v) (h:ldA P t x S'=some v):reA P all d T S S'=some () :=
 Ag0 hL h2 fun q hq=>by
  simp only [Ft] at hq; subst hq;exact ⟨rfl,e,rfl,of_decide_eq_true he,by show ldA P t (opv T (.tmp a)) S'=_; rw [show opv T (.tmp a)=getT T a from rfl,ha,hv]; exact h⟩
theorem Awx {b:Q} (hb:okW b) {l:List Q} (h:okL WW.qF l):okL WW.qF (ovR b l):=by
 intro q hq;obtain ⟨x,hx,rfl⟩:=F6.1 hq;exact WW.Du.over _ _ (h x hx) hb
theorem Aos {f:Q} (hf:okW f):∀ {l r:List Q},okL WW.qF l->okL WW.qF r->okL WW.qF (zipR f l r)
 | [],_,_,_=>fun q hq=>by simp [zipR] at hq
 | _ :: _,[],_,_=>fun q hq=>by simp [zipR] at hq
 | x :: l,y :: r,h,h'=>by
  intro q hq;simp only [zipR,C4] at hq;rcases hq with rfl|hq
  ·exact WW.Du.minus _ _ (h _ (by simp)) (WW.Du.times _ _ hf (h' _ (by simp)))
  ·exact Aos hf (fun q hq=>h q bV) (fun q hq=>h' q bV) q hq
theorem Ar8 {f:Q} (hf:okW f) {l r:List Q} (h:okL WW.qF l) (h':okL WW.qF r):okL WW.qF (lsR f l r):=by
 unfold lsR; split
 ·exact h
 ·exact Aos hf h h'
section
variable (S:List Ent) (tk:List Nat) (k:Nat)
theorem Aj1 (I:TI) (t:Tb) (vars:List ByteArray) (m:Nat) (cc:Cap) (i c:Nat) (aj:RTab S I t vars m cc) (hi:i<t.rows.length) (hc:c<t.cost.length) :
  ∃ r,cL prog 170 [.ref I.it I.et 0,.int i,.int c] S tk k=some r/\RetR S tk I (pivR t i c) vars m cc (.tup []) r:=by
 obtain ⟨Φ,hΦ⟩:∃ Φ,Φ=RetR S tk I (pivR t i c) vars m cc (.tup []):=⟨_,rfl⟩;rw [<- hΦ];obtain ⟨row,bj⟩:=Ab hi;obtain ⟨pi,i7⟩:=Ab (show i<I.ids.length by rw [aj.nids]; exact hi);have i6:=aj.rowW row (Aj bj);have lj:=aj.okr row (Aj bj);obtain ⟨b,hb⟩:=Ab (show c<row.length by omega);have ob:okW b:=lj b (Aj hb);have ag:=aj.top;have jp:=aj.rowsE;have om:nth (Se i (I.ids.map (dp t.cost.length 4))) 0=some (.sref pi.1 pi.2 0 t.cost.length 4):=Db (by rw [Af] at i7 ⊢; rw [Fe,i7]; rfl);have o5:=Au (ce:=ceW) Al hb;have cq:=aj.rowE i pi row i7 bj;refine opM func170 ntmps170 ?_;simp (maxSteps:=10^6)+contextual(disch:=try exact dqd)only[evgm,simprocAttr,Ca,Bo,Cb,results170,ag,jp,om,o5,cq,hi,hc,Cw,intA,Al,Av,WW.ovQ];have hW:=aj.bigW;have hM:=aj.bigM;have w7:=aj.lt;have kv:=aj.ap.row pi (Aj i7);have qy:=V0 bj;have eT:({ t with rows:=t.rows } : Tb)=t:=rfl;refine Ef (P:=prog) (fun x st=>st.T.length=124/\(ovR b row=x.2.2.1++ovR b x.2.2.2)/\(x.2.2.1.length+x.2.2.2.length=t.cost.length)/\(RTab x.1 I { t with rows:=put t.rows i (x.2.2.1++x.2.2.2) } vars m cc)/\(entAt x.1 S.length k=some (ceW b))/\(x.1.length=S.length+1)/\(∀ j,j<S.length->OutR I j->nth x.1 j=nth S j)/\(okL WW.qF x.2.2.2)/\getT st.T 0=.ref I.it I.et 0/\getT st.T 1=.int (i:Nat)/\getT st.T 2=.int (c:Nat)/\getT st.T 6=.ref S.length k 0/\getT st.T 26=.int (t.cost.length:Nat)/\getT st.T 27=.int (x.2.2.1.length:Nat)/\st.S=x.1/\st.tk=tk/\st.n=x.2.1) (fun x=>x.2.2.2.length) ((S++[⟨k,ceW b⟩]),(k+1),([]:List Q),row) ?_ ?_;case refine_2=>exact ⟨rfl,by simp,by simpa using i6,by simp only [Ct,qy]; exact aj.app _,An rfl,by simp,fun j hj _=>Bj hj,lj,rfl,rfl,rfl,rfl,rfl,rfl,rfl,rfl,rfl⟩
 rintro ⟨SS,n1,p,u⟩ ⟨T,S',tk',n'⟩ ⟨hl,hR,jv,hT,xa,ei,aw,ou,e0,e1,e2,e6,e26,e27,eS,eT,eN⟩ IH;simp only at hR jv hT xa ei aw ou e0 e1 e2 e6 e26 e27 eS eT eN;subst eS eT eN;obtain ⟨g,hg,hT⟩:=Ap hl;rw [hg] at e0 e1 e2 e6 e26 e27;subst hT;clear hg hl;by_cases cj:p.length<t.cost.length
 ·have c1:decide ((p.length:Int)<(t.cost.length:Int))=true:=cC
  obtain ⟨a0,u,rfl⟩:∃ a0 u',u=a0 :: u':=by
   exact Ya41
  have oa0:=ou a0 (by simp);have qe:=Au (ce:=ceW) Al (Eg (p:=p) (u:=u) (x:=a0));have we:nth (put t.rows i (p++a0 :: u)) i=some (p++a0 :: u):=Dm hi;have he:=hT.rowE i pi _ i7 we;have i9:=hT.rowsE;have dv:=hT.top;have wg:u.length<(a0 :: u).length:=by simp
  obtain ⟨y,hy⟩:∃ y,y=(WW.qF.over a0 b).1:=⟨_,rfl⟩;have oy:okW y:=by rw [hy]; exact WW.Du.over _ _ oa0 ob
  have hD:=fun S tk k=>Ac9 S tk k a0 b oa0 ob;rw [<- hy] at hD;have hw:B8.wrap ((p.length:Int)+1)=(((p++[y]).length:Nat):Int):=bQ
  have ho:=Bn (ce:=ceW) Al (l:=p++a0 :: u) (k:=p.length) (q':=y) (by simp);rw [Gi] at ho;have jz:∀ x,Ob S'.length (put S' pi.1 x)=put S' pi.1 x:=fun x=>Ff (by simp [Am]);simp (maxSteps:=10^6)+contextual(disch:=try exact dqd)only[evgm,simprocAttr,Ca,Bo,Cb,results170,e0,e1,e2,e6,e26,e27,c1,jz,hw,dv,i9,om,he,qe,xa,cj,hi,hD,ho,Cw,Al,Av,Ea,D9,WW.tkQ,WW.puQ,Ak];have c8:=hT.row (S':=put S' pi.1 ⟨pi.2,flat ceW (p++y :: u)⟩) (r':=p++y :: u) i7 (by simp only [Ak]; exact hi) Za20 (fun q hq=>by
   rcases Cu.1 hq with h|h
   ·exact hT.okr _ (Aj we) q cF
   ·rcases C4.1 h with rfl|h
    ·exact oy
    ·exact ou q cF) (fun j h1 h2=>Ae (I8 h1)) (Ah (A7 he))
  simp only [Mi] at c8;have hpS:pi.1<S.length:=w7.2.2.2.2 pi (Aj i7);exact IH (put S' pi.1 ⟨pi.2,flat ceW (p++y :: u)⟩,n',p++[y],u) _ aF ⟨rfl,by rw [hR]; simp only [ovR,Cm,<- hy,C6,Co,Ct],by show (p++[y]).length+u.length=t.cost.length; simp only [Cn,Cj,Cv] at jv ⊢; omega,by simp only [C6,Co,Ct]; exact c8,by rw [Ai aE]; exact xa,by rw [Am]; exact ei,fun j h1 h2=>by rw [Ae (I8 (h2.2.2.2.2 pi (Aj i7)))]; exact aw j h1 h2,fun q hq=>ou q bV,aU⟩
 ·have c1:decide ((p.length:Int)<(t.cost.length:Int))=false:=cC
  have xr:u=[]:=C5.1 aA;subst xr;simp only [ovR,Cp] at hR;simp only [Fj,Cv,Ie] at hR jv hT;have y5:pivR t i c={ t with rows:=rowsR p c i 0 (put t.rows i p),cost:=lsR (at_ q0 t.cost c) t.cost p,basis:=put t.basis i c }:=by
   have:ovR b row=p:=hR;unfold pivR Bk;rw [A0 bj,A0 hb,this]
  have op:okL WW.qF p:=by have:=Awx ob lj; rw [show ovR b row=p from hR] at this; exact this
  have jh:=hT.top;simp only [Ak] at jh;simp (maxSteps:=10^6)+contextual(disch:=try exact dqd)only[evgm,simprocAttr,Ca,Bo,Cb,results170,e0,e1,e2,e6,e26,e27,c1,jh];refine Ef (P:=prog) (fun x st=>st.T.length=124/\(rowsR p c i 0 (put t.rows i p)=x.2.2.1++rowsR p c i x.2.2.1.length x.2.2.2.1)/\(x.2.2.1.length+x.2.2.2.1.length=t.rows.length)/\(RTab x.1 x.2.2.2.2 { t with rows:=x.2.2.1++x.2.2.2.1 } vars m cc)/\(nth (x.2.2.1++x.2.2.2.1) i=some p)/\(nth x.2.2.2.2.ids i=some pi)/\(x.2.2.2.2.it=I.it/\x.2.2.2.2.et=I.et)/\(S.length<=x.1.length)/\(∀ j,j<S.length->OutR I j->nth x.1 j=nth S j/\OutR x.2.2.2.2 j)/\getT st.T 0=.ref I.it I.et 0/\getT st.T 1=.int (i:Nat)/\getT st.T 2=.int (c:Nat)/\getT st.T 56=.int (t.rows.length:Nat)/\getT st.T 57=.int (x.2.2.1.length:Nat)/\st.S=x.1/\st.tk=tk'/\st.n=x.2.1) (fun x=>x.2.2.2.1.length) (S',n',([]:List (List Q)),(put t.rows i p),I) ?_ ?_;case refine_2=>exact ⟨rfl,by simp,by simp [Ak],by simp only [Ct]; exact hT,Za45,i7,⟨rfl,rfl⟩,by show S.length<=S'.length; omega,fun j h1 h2=>⟨aw j h1 h2,h2⟩,rfl,rfl,rfl,rfl,rfl,rfl,rfl,rfl⟩
  rintro ⟨SS,n1,P,U,J⟩ ⟨T,S',tk',n'⟩ ⟨hl,fi,dq,ah,cd,hJi,hJ,o9,i8,e0,e1,e2,e56,e57,eS,eT,eN⟩ IH;simp only at fi dq ah cd hJi hJ o9 i8 e0 e1 e2 e56 e57 eS eT eN;subst eS eT eN;obtain ⟨g,hg,hT⟩:=Ap hl;rw [hg] at e0 e1 e2 e56 e57;subst hT;clear hg hl;obtain ⟨vn,wk⟩:=hJ;have hJn:=ah.nids;simp only [Cn,dq] at hJn;have ev:=ah.top;simp only [Cn,dq,vn,wk] at ev;have pe:=ah.rowsE;have mo:=ah.rowE i pi p hJi cd;have hlt3:=ah.lt;by_cases bp:P.length<t.rows.length
  ·have c2:decide ((P.length:Int)<(t.rows.length:Int))=true:=cD
   obtain ⟨r0,U,rfl⟩:∃ r0 U',U=r0 :: U':=by
    exact Ya42
   have wg:U.length<(r0 :: U).length:=by simp
   have hw2:∀ z:List Q,B8.wrap ((P.length:Int)+1)=(((P++[z]).length:Nat):Int):=fun z=>bQ
   by_cases oi:P.length=i
   ·have c3:((P.length:Int) != (i:Int))=false:=by rw [oi]; simp
    have hw3:=hw2 r0;simp (maxSteps:=10^6)+contextual(disch:=try exact dqd)only[evgm,simprocAttr,Ca,Bo,Cb,results170,e0,e1,e2,e56,e57,c2,c3,hw3,Cw];exact IH (S',n',P++[r0],U,J) _ aF ⟨rfl,by rw [fi]; simp only [rowsR,if_pos oi,C6,Co,Ct,Cn,Cj,Cv,Fk],Za0i,by simpa using ah,by simpa using cd,hJi,⟨vn,wk⟩,o9,i8,aU⟩
   ·have c3:((P.length:Int) != (i:Int))=true:=aC
    obtain ⟨pk,gh⟩:=Ab (show P.length<J.ids.length by omega);have ck:nth (Se P.length (J.ids.map (dp t.cost.length 4))) 0=some (.sref pk.1 pk.2 0 t.cost.length 4):=Db (by rw [Af] at gh ⊢; rw [Fe,gh]; rfl);have a14:nth (Se i (J.ids.map (dp t.cost.length 4))) 0=some (.sref pi.1 pi.2 0 t.cost.length 4):=Db (by rw [Af] at hJi ⊢; rw [Fe,hJi]; rfl);have iv:nth (P++r0 :: U) P.length=some r0:=Eg;have cn:=ah.rowE P.length pk r0 gh iv;have dk:=ah.rowW r0 (Aj iv);have or0:=ah.okr r0 (Aj iv);obtain ⟨f,hf⟩:=Ab (show c<r0.length by simp only at dk; omega);have of:=or0 f (Aj hf);have hft:=Au (ce:=ceW) Al hf;have hff:at_ q0 r0 c=f:=A0 hf;obtain ⟨r,bo,S3,k3,id,ep,rfl,fd,cl,o8,hor⟩:=Ae7 S' tk' n' pk.1 pk.2 pi.1 pi.2 f r0 p of cn mo Za4x Za4x Za4x or0 op;simp only at dk;rw [dk] at bo;have xv:RTab S3 J { t with rows:=P++r0 :: U } vars m cc:=ah.frame fun j hj _=>cl j hj;have hz:(lsR f r0 p).length=t.cost.length:=by rw [Ab8 aA,dk]
    have hq:nth J.ids P.length=some (id,ep)\/OutR J (id,ep).1:=by
     rcases hor with ⟨rfl,rfl⟩|h
     ·exact .inl gh
     ·exact .inr (ah.out h)
    have c8:=xv.setRow (i:=P.length) (q:=(id,ep)) (r':=lsR f r0 p) (by simp only [Cn,Cj]; omega) hz (Ar8 of or0 op) hq o8;simp only [Gi] at c8;have hw3:=hw2 (lsR f r0 p);have htf:=xv.top;simp only [Cn,dq,vn,wk] at htf;have hrf:=xv.rowsE;simp only at hrf;have yz:ldA prog 168 (.ref I.it I.et 0) S3=some (.sref J.ir J.er 0 t.rows.length 1):=by
     simp (disch:=try exact dqd) only [evs1,htf]
    have c9:over (J.ids.map (dp t.cost.length 4)) P.length [.sref id ep 0 t.cost.length 4]=some (put (J.ids.map (dp t.cost.length 4)) P.length (dp t.cost.length 4 (id,ep))):=Qp (w:=dp t.cost.length 4 pk) (by rw [Af] at gh ⊢; rw [Fe,gh]; rfl);have hra:=fun {all T S} (h1:loadsB all (some 92)=[(168,.tmp 65,some 66,true)]) (h2:S.length<=S3.length) (h3:decide (66<T.length)=true) (h4:getT T 65=.ref I.it I.et 0) (h5:getT T 66=.sref J.ir J.er 0 t.rows.length 1)=>Axd (P:=prog) (S:=S) h1 h2 h3 h4 h5 yz;simp (maxSteps:=10^6)+contextual(disch:=try exact dqd)only[evgm,simprocAttr,Ca,Bo,Cb,results170,e0,e1,e2,e56,e57,c2,c3,ev,pe,ck,a14,cn,hft,hc,hi,bp,hw3,bo,fd,hra,htf,hrf,c9,xfs,Cw,Al,Av,Ea,D9,WW.tkQ,WW.puQ];have a15:∀ j,j<S.length->OutR I j->nth (put S3 J.ir ⟨J.er,put (J.ids.map (dp t.cost.length 4)) P.length (dp t.cost.length 4 (id,ep))⟩) j=nth S j/\OutR { J with ids:=put J.ids P.length (id,ep) } j:=fun j h1 h2=>by
     obtain ⟨a1,a2⟩:=i8 j h1 h2;refine ⟨by rw [Ae (I8 a2.2.1),cl j aA]; exact a1,a2.1,a2.2.1,a2.2.2.1,a2.2.2.2.1,fun q hq=>?_⟩;rcases Bx hq with rfl|hq
     ·rcases hor with ⟨h3,h4⟩|h3
      ·show j≠id;rw [h3]; exact a2.2.2.2.2 pk (Aj gh)
      ·show j≠id;omega
     ·exact a2.2.2.2.2 q hq
    exact IH (put S3 J.ir ⟨J.er,put (J.ids.map (dp t.cost.length 4)) P.length (dp t.cost.length 4 (id,ep))⟩,k3,P++[lsR f r0 p],U,{ J with ids:=put J.ids P.length (id,ep) }) _ aF ⟨rfl,by rw [fi]; simp only [rowsR,if_neg oi,hff,C6,Co,Ct,Cn,Cj,Cv,Fk],by show (P++[lsR f r0 p]).length+U.length=t.rows.length; simp only [Cn,Cj,Cv] at dq ⊢; omega,by simpa using c8,Za0u,by rw [Kp aE,if_neg (fun h=>oi h.symm)]; exact hJi,⟨vn,wk⟩,dV,a15,aU⟩
  ·have c2:decide ((P.length:Int)<(t.rows.length:Int))=false:=cD
   have tw:U=[]:=C5.1 aA;subst tw;simp only [rowsR] at fi;simp only [Fj,Cv,Ie] at fi dq ah cd;have a14:nth (Se i (J.ids.map (dp t.cost.length 4))) 0=some (.sref pi.1 pi.2 0 t.cost.length 4):=Db (by rw [Af] at hJi ⊢; rw [Fe,hJi]; rfl);obtain ⟨f,hf⟩:=Ab hc;have of:=aj.okc f (Aj hf);have hft:=Au (ce:=ceW) Al hf;have hff:at_ q0 t.cost c=f:=A0 hf;have gm:=ah.costE;obtain ⟨r,bo,S3,k3,id,ep,rfl,fd,cl,o8,hor⟩:=Ae7 S' tk' n' J.ic J.ec pi.1 pi.2 f t.cost p of gm mo aA aA aA aj.okc op;have xv:RTab S3 J { t with rows:=P } vars m cc:=ah.frame fun j hj _=>cl j hj;have hz:(lsR f t.cost p).length=t.cost.length:=Ab8 aA;have hq:(id,ep)=(J.ic,J.ec)\/OutR J (id,ep).1:=by
    rcases hor with ⟨rfl,rfl⟩|h
    ·exact .inl rfl
    ·exact .inr (ah.out h)
   have c8:=xv.setCost (q:=(id,ep)) (k':=lsR f t.cost p) hz (Ar8 of aj.okc op) hq o8;have wh:=c8.setBasis (i:=i) (b:=c);have htf:=xv.top;simp only [dq,vn,wk] at htf;have htp:=c8.top;have qg:=c8.basisE;simp only [dq,vn,wk,hz] at htp qg;obtain ⟨b0,hb0⟩:=Ab (show i<t.basis.length by rw [aj.nb]; exact hi);have c9:over (t.basis.map intA) i [.prim (.int .i64 (c:Int))]=some ((put t.basis i c).map intA):=by
    exact Ya2s
   have rh:=aj.nb;simp (maxSteps:=10^6)+contextual(disch:=try exact dqd)only[evgm,simprocAttr,Ca,Bo,Cb,results170,e0,e1,e2,e56,e57,c2,ev,pe,a14,gm,hft,mo,hc,hi,bo,fd,htf,htp,qg,c9,Ael,xfs,Cw,Al,Av,Ea,D9,WW.tkQ,WW.puQ];rw [hΦ,y5,hff,fi];simp only [dq,vn,wk] at wh;exact ⟨_,_,_,rfl,by rw [Am,Am]; omega,wh,rfl,rfl,fun j h1 h2=>by
    obtain ⟨a1,a2⟩:=i8 j h1 h2;refine ⟨by rw [Ae (I8 a2.2.2.2.1),Ae (by rw [<- vn]; exact I8 a2.1),cl j aA]; exact a1,h2.1,a2.2.1,?_,a2.2.2.2.1,a2.2.2.2.2⟩;rcases hor with ⟨h3,h4⟩|h3
    ·show j≠id;rw [h3]; exact a2.2.2.1
    ·show j≠id;omega⟩
end
end
section
open Go Tryz
set_option maxHeartbeats 8000000
set_option maxRecDepth 100000
def Re:Option Nat->AV
 | none=>.int (-1)
 | some i=>.int (i:Nat)
theorem Qd {t:Tb} {c m:Nat} : ∀ {l:List (List Q)} {k:Nat} {b:Option Nat} {i:Nat},k+l.length<=m->(∀ i,b=some i->i<m)->G3 t c k l b=some i->i<m
 | [],k,b,i,_,hb,h=>hb i h
 | r :: l,k,b,i,hl,hb,h=>by
  simp only [Cj] at hl;unfold G3 at h;split at h
  ·exact Qd aA hb h
  ·split at h
   ·exact Qd (k:=k+1) (l:=l) aA (fun i e=>by simp only [Bg] at e; omega) h
   ·refine Qd (k:=k+1) (l:=l) aA (fun i' e=>?_) h;split at e
    ·simp only [Bg] at e; omega
    ·exact hb i' e
section
variable (S:List Ent) (tk:List Nat) (k:Nat)
theorem Ahp (I:TI) (t:Tb) (vars:List ByteArray) (m:Nat) (cc:Cap) (c:Nat) (hT:RTab S I t vars m cc) (hc:c<t.cost.length) :
  ∃ r,cL prog 169 [.ref I.it I.et 0,.int c] S tk k=some r/\r=(Re (G3 t c 0 t.rows none),S,tk,k):=by
 obtain ⟨Φ,hΦ⟩:∃ Φ:Rs->Prop,Φ=fun r=>r=(Re (G3 t c 0 t.rows none),S,tk,k):=⟨_,rfl⟩;rw [show (∃ r,cL prog 169 [.ref I.it I.et 0,.int c] S tk k=some r/\r=(Re (G3 t c 0 t.rows none),S,tk,k))=(∃ r,cL prog 169 [.ref I.it I.et 0,.int c] S tk k=some r/\Φ r) by rw [hΦ]];have ag:=hT.top;have i9:=hT.rowsE;have hW:=hT.bigW;have hM:=hT.bigM;refine opG func169 ntmps169 ?_;simp (maxSteps:=10^6)+contextual(disch:=try exact dqd)only[evg1,simprocAttr,Ca,Bo,Cb,results169,ag];refine Ef (P:=prog) (fun x st=>st.T.length=110/\(G3 t c 0 t.rows none=G3 t c x.1.length x.2.1 x.2.2)/\(t.rows=x.1++x.2.1)/\(∀ bi,x.2.2=some bi->bi<x.1.length)/\getT st.T 0=.ref I.it I.et 0/\getT st.T 1=.int (c:Nat)/\getT st.T 5=Re x.2.2/\getT st.T 13=.int (t.rows.length:Nat)/\getT st.T 14=.int (x.1.length:Nat)/\st.S=S/\st.tk=tk/\st.n=k) (fun x=>x.2.1.length) (([]:List (List Q)),t.rows,(none:Option Nat)) ?_ ?_;case refine_2=>exact ⟨rfl,rfl,rfl,(fun _ h=>aV),rfl,rfl,rfl,rfl,rfl,rfl,rfl,rfl⟩
 rintro ⟨P,U,bst⟩ ⟨T,S',tk',n'⟩ ⟨hl,hR,dq,hb,e0,e1,e5,e13,e14,eS,eT,eN⟩ IH;simp only at hR dq hb e0 e1 e5 e13 e14 eS eT eN;subst eS eT eN;obtain ⟨g,hg,hT⟩:=Ap hl;rw [hg] at e0 e1 e5 e13 e14;subst hT;clear hg hl;have rg:t.rows.length=P.length+U.length:=dY
 by_cases bp:P.length<t.rows.length
 ·have c1:decide ((P.length:Int)<(t.rows.length:Int))=true:=cD
  obtain ⟨r0,U,rfl⟩:∃ r0 U',U=r0 :: U':=by
   exact Ya1h
  have wg:U.length<(r0 :: U).length:=by simp
  have q7:=fun {i:Nat} (hi:i<t.rows.length)=>show ∃ (p:Nat × Nat) (r:List Q),nth (Se i (I.ids.map (dp t.cost.length 4))) 0=some (.sref p.1 p.2 0 t.cost.length 4)/\entAt S' p.1 p.2=some (flat ceW r)/\nth t.rows i=some r/\r.length=t.cost.length by
   obtain ⟨r,hr⟩:=Ab hi;obtain ⟨p,hp⟩:=Ab (show i<I.ids.length by rw [hT.nids]; exact hi);exact ⟨p,r,Db (by rw [Af] at hp ⊢; rw [Fe,hp]; rfl),hT.rowE i p r hp hr,hr,hT.rowW r (Aj hr)⟩
  have iv:nth t.rows P.length=some r0:=by rw [dq]; exact Eg
  obtain ⟨pk,r0',ck,cn,a2z,dk⟩:=q7 bp;obtain rfl:r0'=r0:=by rw [iv] at a2z; simpa using a2z.symm
  have or0:=hT.okr r0' (Aj iv);obtain ⟨x,hx⟩:=Ab (show c<r0'.length by omega);have ox:=or0 x (Aj hx);have fj:=Au (ce:=ceW) Al hx;have hs:=fun S tk k=>Pv S tk k x;have hw2:B8.wrap ((P.length:Int)+1)=(((P++[r0']).length:Nat):Int):=bQ
  have fm:t.rows=(P++[r0'])++U:=dY
  have kg:(P++[r0']).length=P.length+1:=by simp
  by_cases ko:sgn x<=0
  ·have c2:decide (sgn x<=0)=true:=gV
   simp (maxSteps:=10^6)+contextual(disch:=try exact dqd)only[evg1,simprocAttr,Ca,Bo,Cb,results169,e0,e1,e5,e13,e14,c1,c2,hw2,ag,i9,ck,cn,fj,bp,hc,hs,Cw,Al,Av,Ea,D9,WW.tkQ,WW.puQ];exact IH (P++[r0'],U,bst) _ aF ⟨rfl,by rw [hR,kg]; simp only [G3,A0 hx]; rw [if_pos ko],fm,fun bi h=>by have:=hb bi h; show bi<(P++[r0']).length; omega,aU⟩
  have c2:decide (sgn x<=0)=false:=gV
  cases bst with
  | none =>
   have c3:decide ((-1:Int)<0)=true:=rfl;simp only [Re] at e5;simp (maxSteps:=10^6)+contextual(disch:=try exact dqd)only[evg1,simprocAttr,Ca,Bo,Cb,results169,e0,e1,e5,e13,e14,c1,c2,c3,hw2,ag,i9,ck,cn,fj,bp,hc,hs,Cw,Al,Av,Ea,D9,WW.tkQ,WW.puQ];exact IH (P++[r0'],U,some P.length) _ aF ⟨rfl,by rw [hR,kg]; simp only [G3,A0 hx]; rw [if_neg ko],fm,fun bi h=>by simp only [Bg] at h; show bi<(P++[r0']).length; omega,aU⟩
  | some bi =>
   have hbi:=hb bi rfl;have c3:decide ((bi:Int)<0)=false:=by simp
   simp only [Re] at e5;have gj:B8.wrap ((t.cost.length:Int) - 1)=((t.cost.length - 1:Nat):Int):=aP
   have kh:t.cost.length - 1<t.cost.length:=aA
   obtain ⟨z,hz⟩:=Ab (show t.cost.length - 1<r0'.length by omega);have oz:=or0 z (Aj hz);have jj:=Au (ce:=ceW) Al hz;have o5:bi<t.rows.length:=aA
   obtain ⟨pb,rb,a0k,a0l,hrb,hrbw⟩:=q7 o5;have orb:=hT.okr rb (Aj hrb);obtain ⟨xb,s6⟩:=Ab (show c<rb.length by omega);obtain ⟨zb,hzb⟩:=Ab (show t.cost.length - 1<rb.length by omega);have oxb:=orb xb (Aj s6);have ozb:=orb zb (Aj hzb);have a0m:=Au (ce:=ceW) Al s6;have a0n:=Au (ce:=ceW) Al hzb;have rr:=fun S tk k=>Ac9 S tk k z x oz ox;have mi:=fun S tk k=>Ac9 S tk k zb xb ozb oxb;have b9:quoR r0' c t.cost.length=(WW.qF.over z x).1:=by unfold quoR; rw [A0 hz,A0 hx]
   have hq2:quoR (Bk t bi) c t.cost.length=(WW.qF.over zb xb).1:=by unfold quoR Bk; rw [A0 hrb,A0 hzb,A0 s6]
   rw [<- b9] at rr;rw [<- hq2] at mi;have oq1:okW (quoR r0' c t.cost.length):=by rw [b9]; exact WW.Du.over _ _ oz ox
   have oq2:okW (quoR (Bk t bi) c t.cost.length):=by rw [hq2]; exact WW.Du.over _ _ ozb oxb
   have hC:=fun S tk k=>Ass S tk k _ _ oq1 oq2;obtain ⟨s,hsd⟩:∃ s,s=cmpW (quoR r0' c t.cost.length) (quoR (Bk t bi) c t.cost.length):=⟨_,rfl⟩;rw [<- hsd] at hC;obtain ⟨bk,mn⟩:=Ab (show P.length<t.basis.length by rw [hT.nb]; exact bp);obtain ⟨bb,ua⟩:=Ab (show bi<t.basis.length by rw [hT.nb]; exact o5);have qg:=hT.basisE;have ja:nth (Se P.length (t.basis.map intA)) 0=some (.prim (.int .i64 (bk:Int))):=Db (by rw [Af] at mn ⊢; rw [Fe,mn]; rfl);have pf:nth (Se bi (t.basis.map intA)) 0=some (.prim (.int .i64 (bb:Int))):=Db (by rw [Af] at ua ⊢; rw [Fe,ua]; rfl);have vg:Wv t.basis s P.length bi=(decide (s<0) || (s == 0 && decide (bk<bb))):=by unfold Wv; rw [A0 mn,A0 ua]
   have ot:G3 t c 0 t.rows none=G3 t c (P++[r0']).length U (if Wv t.basis s P.length bi=true then some P.length else some bi):=by
    rw [hR,kg]; simp only [G3,A0 hx]; rw [if_neg ko,<- hsd]
   have hb2:∀ b,(if Wv t.basis s P.length bi=true then some P.length else some bi)=some b->b<(P++[r0']).length:=fun b h=>by
    rw [kg];split at h <;> (simp only [Bg] at h; omega)
   by_cases h1:s<0
   ·have k1:decide (s<0)=true:=aY
    rw [show Wv t.basis s P.length bi=true by rw [vg,k1]; rfl,if_pos rfl] at ot hb2;simp (maxSteps:=10^6)+contextual(disch:=try exact dqd)only[evg1,simprocAttr,Ca,Bo,Cb,results169,e0,e1,e5,e13,e14,c1,c2,c3,k1,hw2,ag,i9,ck,cn,fj,jj,a0k,a0l,a0m,a0n,gj,kh,bp,o5,hc,hs,rr,mi,hC,Cw,Al,Av,Ea,D9,WW.tkQ,WW.puQ];exact Ya4i
   have k1:decide (s<0)=false:=aY
   by_cases h2:s=0
   ·have k2:(s == 0)=true:=cA
    by_cases h3:bk<bb
    ·have k3:decide ((bk:Int)<(bb:Int))=true:=cJ
     rw [show Wv t.basis s P.length bi=true by rw [vg,k1,k2]; simpa using h3,if_pos rfl] at ot hb2;simp (maxSteps:=10^6)+contextual(disch:=try exact dqd)only[evg1,simprocAttr,Ca,Bo,Cb,results169,e0,e1,e5,e13,e14,c1,c2,c3,k1,k2,k3,hw2,ag,i9,ck,cn,fj,jj,a0k,a0l,a0m,a0n,gj,kh,bp,o5,hc,hs,rr,mi,hC,qg,ja,pf,Cw,Al,Av,Ea,D9,WW.tkQ,WW.puQ];exact Ya4i
    ·have k3:decide ((bk:Int)<(bb:Int))=false:=cJ
     rw [show Wv t.basis s P.length bi=false by rw [vg,k1,k2]; simpa using h3,if_neg Iw] at ot hb2;simp (maxSteps:=10^6)+contextual(disch:=try exact dqd)only[evg1,simprocAttr,Ca,Bo,Cb,results169,e0,e1,e5,e13,e14,c1,c2,c3,k1,k2,k3,hw2,ag,i9,ck,cn,fj,jj,a0k,a0l,a0m,a0n,gj,kh,bp,o5,hc,hs,rr,mi,hC,qg,ja,pf,Cw,Al,Av,Ea,D9,WW.tkQ,WW.puQ];exact IH (P++[r0'],U,some bi) _ aF ⟨rfl,ot,fm,hb2,aU⟩
   ·have k2:(s == 0)=false:=cA
    rw [show Wv t.basis s P.length bi=false by rw [vg,k1,k2]; rfl,if_neg Iw] at ot hb2;simp (maxSteps:=10^6)+contextual(disch:=try exact dqd)only[evg1,simprocAttr,Ca,Bo,Cb,results169,e0,e1,e5,e13,e14,c1,c2,c3,k1,k2,hw2,ag,i9,ck,cn,fj,jj,a0k,a0l,a0m,a0n,gj,kh,bp,o5,hc,hs,rr,mi,hC,Cw,Al,Av,Ea,D9,WW.tkQ,WW.puQ];exact IH (P++[r0'],U,some bi) _ aF ⟨rfl,ot,fm,hb2,aU⟩
 ·have c1:decide ((P.length:Int)<(t.rows.length:Int))=false:=cD
  have tw:U=[]:=C5.1 aA;subst tw;simp (maxSteps:=10^6)+contextual(disch:=try exact dqd)only[evg1,simprocAttr,Ca,Bo,Cb,results169,e0,e1,e5,e13,e14,c1];simp only [G3] at hR;have jo:fz3 S'.length S' (Re bst)=Re bst:=by cases bst <;> rfl
  rw [hΦ,hR,jo];try simp only [C8]
end
end
section
open Go Tryz
set_option maxHeartbeats 8000000
set_option maxRecDepth 100000
theorem Ak9 {cost:List Q} : ∀ {n j c:Nat},colF cost n j=some c->j<=c/\c<j+n
 | 0,_,_,h=>by simp [colF] at h
 | n+1,j,c,h=>by
  unfold colF at h;split at h
  ·simp only [Bg] at h; omega
  ·have:=Ak9 h; omega
theorem Ane {S:List Ent} {I:TI} {t:Tb} {vars:List ByteArray} {m:Nat} {cc:Cap} {i c:Nat} (h:RTab S I t vars m cc) (hi:i<t.rows.length):(pivR t i c).cost.length=t.cost.length:=by
 obtain ⟨row,bj⟩:=Ab hi;have:=h.rowW row (Aj bj);unfold pivR Bk;rw [A0 bj];exact Ab8 (by rw [Asd]; omega)
section
variable (S:List Ent) (tk:List Nat) (k:Nat)
theorem Aj0 (I:TI) (t t':Tb) (vars:List ByteArray) (m:Nat) (cc:Cap) (lim K:Nat) (b:Bool) (aj:RTab S I t vars m cc) (sv:lim<=t.cost.length) (hK:Nu lim K t=some (b,t')) :
  ∃ r,cL prog 140 [.ref I.it I.et 0,.int lim] S tk k=some r/\RetR S tk I t' vars m cc (.bool b) r:=by
 obtain ⟨Φ,hΦ⟩:∃ Φ,Φ=RetR S tk I t' vars m cc (.bool b):=⟨_,rfl⟩;rw [<- hΦ];refine opM func140 ntmps140 ?_;simp (maxSteps:=10^6)+contextual(disch:=try exact dqd)only[evgm,simprocAttr,Ca,Bo,Cb,results140];refine Ef (P:=prog) (fun x st=>st.T.length=38/\(Nu lim x.2.2.1 x.2.2.2.1=some (b,t'))/\(RTab x.1 x.2.2.2.2 x.2.2.2.1 vars m cc)/\(x.2.2.2.1.cost.length=t.cost.length)/\(x.2.2.2.2.it=I.it/\x.2.2.2.2.et=I.et)/\(S.length<=x.1.length)/\(∀ j,j<S.length->OutR I j->nth x.1 j=nth S j/\OutR x.2.2.2.2 j)/\getT st.T 0=.ref I.it I.et 0/\getT st.T 1=.int (lim:Nat)/\st.S=x.1/\st.tk=tk/\st.n=x.2.1) (fun x=>x.2.2.1) (S,k,K,t,I) ?_ ?_;case refine_2=>exact ⟨rfl,hK,aj,rfl,⟨rfl,rfl⟩,Ce _,fun j _ h=>⟨rfl,h⟩,rfl,rfl,rfl,rfl,rfl⟩
 rintro ⟨SS,n1,K1,t1,J⟩ ⟨T,S',tk',n'⟩ ⟨hl,dt,hT,hcl,hJ,ei,aw,e0,e1,eS,eT,eN⟩ IH;simp only at dt hT hcl hJ ei aw e0 e1 eS eT eN;subst eS eT eN;obtain ⟨g,hg,hT⟩:=Ap hl;rw [hg] at e0 e1;subst hT;clear hg hl;have IHA:=IH;clear IH;obtain ⟨vn,wk⟩:=hJ;cases K1 with
 | zero=>simp [Nu] at dt
 | succ K1 =>
 have ag:=hT.top;simp only [vn,wk] at ag;have gm:=hT.costE;have hW:=hT.bigW;unfold Nu at dt;simp (maxSteps:=10^6)+contextual(disch:=try exact dqd)only[evgm,simprocAttr,Ca,Bo,Cb,results140,e0,e1];refine Ef (P:=prog) (fun x st=>st.T.length=38/\(x.1<=lim)/\((x.2=none/\colF t1.cost lim 0=colF t1.cost (lim - x.1) x.1)\/∃ c,x.2=some c/\colF t1.cost lim 0=some c)/\getT st.T 0=.ref I.it I.et 0/\getT st.T 1=.int (lim:Nat)/\getT st.T 5=Re x.2/\getT st.T 6=.int (x.1:Nat)/\st.S=S'/\st.tk=tk'/\st.n=n') (fun x=>lim - x.1) (0,(none:Option Nat)) ?_ ?_;case refine_2=>exact ⟨rfl,Ci _,.inl ⟨rfl,rfl⟩,rfl,rfl,rfl,rfl,rfl,rfl,rfl⟩
 rintro ⟨j,co⟩ ⟨T,S',tk',n'⟩ ⟨hl,hj,hco,e0,e1,e5,e6,eS,eT,eN⟩ IH;simp only at hj hco e0 e1 e5 e6 eS eT eN;subst eS eT eN;obtain ⟨g,hg,hT⟩:=Ap hl;rw [hg] at e0 e1 e5 e6;subst hT;clear hg hl;rcases hco with ⟨rfl,hc⟩|⟨c,rfl,hc⟩
 ·have c3:decide ((-1:Int)<0)=true:=rfl;simp only [Re] at e5;by_cases re:j<lim
  ·have c1:decide ((j:Int)<(lim:Int))=true:=dX
   have hw:B8.wrap ((j:Int)+1)=((j+1:Nat):Int):=aS
   have mw:j<t1.cost.length:=aA
   obtain ⟨x,hx⟩:=Ab mw;have fj:=Au (ce:=ceW) Al hx;have hs:=fun S tk k=>Pv S tk k x;have tj:colF t1.cost (lim - j) j=if sgn x<0 then some j else colF t1.cost (lim - (j+1)) (j+1):=by
    rw [show lim - j=(lim - (j+1))+1 by omega];simp only [colF,A0 hx]
   by_cases hneg:sgn x<0
   ·have c2:decide (sgn x<0)=true:=bA
    rw [tj,if_pos hneg] at hc;simp (maxSteps:=10^6)+contextual(disch:=try exact dqd)only[evgm,simprocAttr,Ca,Bo,Cb,results140,e0,e1,e5,e6,c1,c2,c3,hw,ag,gm,fj,mw,hs,Cw,Al,Av,Ea,D9,WW.tkQ,WW.puQ];exact IH (j+1,some j) _ aF ⟨rfl,aE,.inr ⟨j,rfl,hc⟩,aU⟩
   ·have c2:decide (sgn x<0)=false:=bA
    rw [tj,if_neg hneg] at hc;simp (maxSteps:=10^6)+contextual(disch:=try exact dqd)only[evgm,simprocAttr,Ca,Bo,Cb,results140,e0,e1,e5,e6,c1,c2,c3,hw,ag,gm,fj,mw,hs,Cw,Al,Av,Ea,D9,WW.tkQ,WW.puQ];exact IH (j+1,none) _ aF ⟨rfl,aE,.inl ⟨rfl,hc⟩,aU⟩
  ·have c1:decide ((j:Int)<(lim:Int))=false:=dX
   rw [hc,show lim - j=0 by omega] at dt;simp only [colF,Bg,Cf] at dt;obtain ⟨rfl,rfl⟩:=dt;simp (maxSteps:=10^6)+contextual(disch:=try exact dqd)only[evgm,simprocAttr,Ca,Bo,Cb,results140,e0,e1,e5,e6,c1,c3];rw [hΦ];exact ⟨_,_,J,rfl,ei,hT,vn,wk,aw⟩
 ·have wo:=Ak9 hc;have hcc:c<t1.cost.length:=aA
  rw [hc] at dt;simp only at dt;simp only [Re] at e5;have c3:decide ((c:Int)<0)=false:=by simp
  obtain ⟨r,ji,rfl⟩:=Ahp S' tk' n' J t1 vars m cc c hT hcc;rw [vn,wk] at ji;cases hl:G3 t1 c 0 t1.rows none with
  | none =>
   rw [hl] at dt ji;simp only [Bg,Cf] at dt;obtain ⟨rfl,rfl⟩:=dt;have c4:decide ((-1:Int)<0)=true:=rfl;simp only [Re] at ji;cases c1:decide ((j:Int)<(lim:Int));all_goals
    simp (maxSteps:=10^6)+contextual(disch:=try exact dqd)only[evgm,simprocAttr,Ca,Bo,Cb,results140,e0,e1,e5,e6,c1,c3,c4,ji,C8]
    rw [hΦ]
    exact ⟨_,_,J,rfl,ei,hT,vn,wk,aw⟩
  | some i =>
   rw [hl] at dt ji;have wy:i<t1.rows.length:=Qd (t:=t1) (c:=c) (l:=t1.rows) (k:=0) aA (fun _ h=>aR) hl;obtain ⟨r,px,S3,k3,J3,rfl,fd,c8,a4d,a4e,ed⟩:=Aj1 S' tk' n' J t1 vars m cc i c hT wy hcc;rw [vn,wk] at px;have c4:decide ((i:Int)<0)=false:=by simp
   simp only [Re] at ji;have a4f:(pivR t1 i c).cost.length=t.cost.length:=by rw [Ane hT wy]; exact hcl
   have a15:∀ j,j<S.length->OutR I j->nth S3 j=nth S j/\OutR J3 j:=fun j h1 h2=>by
    obtain ⟨a1,a2⟩:=aw j h1 h2;obtain ⟨b1,b2⟩:=ed j aA a2;exact ⟨by rw [b1]; exact a1,b2⟩
   cases c1:decide ((j:Int)<(lim:Int));all_goals
    simp (maxSteps:=10^6)+contextual(disch:=try exact dqd)only[evgm,simprocAttr,Ca,Bo,Cb,results140,e0,e1,e5,e6,c1,c3,c4,ji,px,C8]
    exact IHA (S3,k3,K1,pivR t1 i c,J3) _ aF ⟨rfl,dt,c8,a4f,⟨a4d.trans vn,a4e.trans wk⟩,by show S.length<=S3.length; omega,a15,aU⟩
end
end
end Go.Proofs.YthelkgdmgihhiaaGreat
