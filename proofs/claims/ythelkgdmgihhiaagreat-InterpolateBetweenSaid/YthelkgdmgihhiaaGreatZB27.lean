/- Part 27. -/
import Derived.Test.YthelkgdmgihhiaaGreatZB26
open Bool renaming and_eq_true->Ci,or->Ck,false_eq_true->C5,or_eq_false_iff->Fb,or_false->Fs,not_true->F5,or_assoc->F7,not_eq_true'->Gb,or_eq_true->Ht,false_or->I5,false_ne_true->Nz,eq_iff_iff->iB
open Classical renaming choose_spec->iS
open Go.IntKind renaming i64->Ce
open Go.Proofs.YthelkgdmgihhiaaGreat.AV renaming bool->Ca,int->Cc,str->Cd
open Go.Value renaming int->iH
open Int renaming tdiv_eq_ediv_of_nonneg->C8,natAbs_mul->Ib,tmod_eq_emod_of_nonneg->Ic,mul_ne_zero->I3,mul_sub->Sz,natAbs_tdiv->jM
open List renaming replicate->Cg,length_cons->Cm,map_cons->Cn,mem_cons_of_mem->Co,cons_append->Cp,mem_cons_self->Cq,length_append->Cs,map_nil->Ct,getElem?_append_left->Cu,mem_append->Cw,nil_append->Cz,getElem?_append_right->C3,all_eq_true->C4,mem_cons->C6,length_nil->C7,drop_length->C9,take_of_length_le->Dc,getElem?_eq_none->Et,length_eq_zero_iff->Fc,mem_map->Fg,append_assoc->Fh,getElem?_eq_some_iff->Fk,append_nil->Fp,drop_eq_nil_of_le->Fx,pairwise_cons->Fz,mem_singleton->F0,take_length->F2,map_append->F6,length_map->F8,take_succ_cons->F9,range->Ih,length_take->Im,mem_of_getElem?->Iq,mem_replicate->Iu,take_append_of_le_length->Iy,take_append_drop->I9,getElem?_cons_zero->M2,all_cons->Oh,map_map->Ol,take->Oq,length_replicate->Oy,mem_flatten->Se,getElem?_of_mem->Sv,length_singleton->gD,lt_irrefl->iM,Pairwise->jF,take_take->kC
open Nat renaming le_refl->Cf,zero_le->Cl,mul_le_mul_right->E5,le_trans->Fe,zero_add->Fo,lt_of_le_of_lt->Ij,mul_le_mul->Ix,gcd_pos_of_pos_right->I6,sub_self->Mg,div_le_self->Ob,succ_mul->Oc,lt_trichotomy->Ou,le_add_right->O1,gcd_le_right->Sy,succ_pos->S9,eq_zero_or_pos->Vo,add_sub_cancel->iG
open Ne renaming symm->O3
open Option renaming map_some->Cy,bind_some->Oo
open Option.some renaming injEq->A3
open Prod.mk renaming injEq->Ch
open Rat renaming intCast_mul->Cv,intCast_neg->Oa,intCast_add->Ox,intCast_inj->O8,intCast_pos->Qm,le_refl->S5,intCast_sub->iC
namespace Go.Proofs.YthelkgdmgihhiaaGreat
section
open Go Go.Proofs.Tryz
open Go.Proofs.Tryz renaming f121->ga28,results121->ga29
open Go.Proofs.YthelkgdmgihhiaaGreat renaming ceW->ga0,Aq->ga1,Bg->ga5,Bo->ga6
set_option maxRecDepth 100000
namespace WW
abbrev ua13:Nat:=168
end WW
set_option maxHeartbeats 20000000
set_option maxRecDepth 100000
section
variable (S:List Ent) (l:List RowT) (vars:List ByteArray) (fl:Bool) (k iq eq c W nz:Nat) (z:Q)
namespace WW
theorem Awr:Ay21:=Ma21
end WW
end
end
section
open Go Go.Proofs.Tryz
open Go.Proofs.Tryz renaming f121->ga28,results121->ga29
open Go.Proofs.YthelkgdmgihhiaaGreat renaming ceW->ga0,Aq->ga1,Bg->ga5,Bo->ga6
set_option maxRecDepth 100000
set_option maxHeartbeats 20000000
set_option maxRecDepth 100000
section
variable (S:List Ent) (l:List RowT) (vars:List ByteArray) (fl:Bool) (k iq eq c W nz:Nat) (z:Q)
namespace WW
theorem Awt:Ay22:=Ma22
end WW
end
end
section
open Go Go.Proofs.Tryz
open Go.Proofs.Tryz renaming f121->ga28,results121->ga29,func121->ga30,ntmps121->ga31
open Go.Proofs.YthelkgdmgihhiaaGreat renaming ceW->ga0,Aq->ga1,Bg->ga5,Bo->ga6
set_option maxRecDepth 100000
namespace WW
abbrev ua14:Nat:=121
end WW
set_option maxHeartbeats 20000000
set_option maxRecDepth 100000
namespace WW
def Nr (iq eq:Nat) (n real:Nat) (rows cost basis flip:AV):List AV:=[.ifc 123 (rcvQ iq eq),.int (n:Nat),.int (real:Nat),rows,cost,basis,flip]
theorem mk_Q {W:Nat} (h:W<=1048576):mkA prog 78 (.int (W:Nat)) (.int (W:Nat))=some (W,4,(Cg W zeroQ).flatten):=by
 have hz:(Ay prog 78).bind (Av prog)=some zeroQ:=aQ
 have hs:(Ay prog 78).bind (szOf prog)=some 4:=aQ
 obtain ⟨bb,hb,wc⟩:∃ bb,(Ay prog 78).bind (Ep prog)=some bb/\bb<=1048576:=⟨64,aJ,aA⟩;exact Ya2e
def Ao5 (S:List Ent) (iq eq:Nat) (t':Tb) (r:Rs):Prop :=
 ∃ S' k' tk' I cc,r=(.ref I.it I.et 0,S',tk',k')/\S.length<=S'.length/\A2 S' iq eq I t' cc/\(∀ j,j<S.length->j≠iq->nth S' j=nth S j)/\(∀ j,j<S.length->j≠iq->OutQ I iq j)
end WW
section
variable (S:List Ent) (tk:List Nat) (k iq eq:Nat)
namespace WW
theorem Awv:Ay23:=Ma23
end WW
end
end
section
open Go
set_option maxRecDepth 100000
namespace WW
structure Ajo (S SS:List Ent) (iq eq:Nat) (I:TI) (t:Tb) (cc:Cap) (k n8:Nat) (z:Q) (cf:AV) (n:Int):Prop where
 T:A2 SS iq eq I t cc
 E4:entAt SS S.length k=some [cf,.prim (.int .i64 n)]
 E6:entAt SS (S.length+1) (k+1)=some ceW0Q
 E8:entAt SS (S.length+2) n8=some (ceW z)
 len:SS.length=S.length+3
 fr:∀ j,j<S.length->OutQ I iq j->nth SS j=nth S j
theorem Au7:Ay24:=fun {S iq eq I t cc}=>Ma24
theorem Ajo.step:Ay25:=fun {S SS S' iq eq I t t' cc k n8 z cf n}=>Ma25
end WW
namespace WW
theorem A2.junk:Ay26:=fun {S iq eq I t c}=>Ma26
def BegRQ (S:List Ent) (iq eq:Nat) (t':Tb) (r:Rs):Prop :=
 ∃ S' k' tk' I cc,r=(.ref I.it I.et 0,S',tk',k')/\S.length<=S'.length/\A2 S' iq eq I t' cc/\(∀ j,j<S.length->j≠iq->nth S' j=nth S j)/\(∀ j,j<S.length->j≠iq->OutQ I iq j)/\(I.ib<S'.length\/S'.length+15<I.ib)
theorem Ao5.far:Ay27:=fun {S iq eq t' r}=>Ma27
end WW
end
section
open Go Go.Proofs.Tryz
open Go.Proofs.Tryz renaming func85->ga32,ntmps85->ga33,results85->ga34
set_option maxRecDepth 100000
namespace WW
abbrev ua15:Nat:=85
end WW
set_option maxHeartbeats 20000000
set_option maxRecDepth 100000
section
variable (S:List Ent) (tk:List Nat) (k iq eq:Nat)
namespace WW
theorem Avo:Ay28:=Ma28
end WW
end
end
section
open Go Go.Proofs.Tryz
set_option maxHeartbeats 4000000
set_option maxRecDepth 100000
def askN (K:Nat) (l:List RowT) (vars:List ByteArray):Option Ans :=
 match Ju QQ.qF K l vars false with
 | none=>none
 | some (a,true)=>some a
 | some (_,false)=>(Ju WW.qF K l vars false).map (·.1)
section
variable (S:List Ent) (tk:List Nat) (k:Nat)
theorem Ra (l:List RowT) (hl:l.length<=1000) (hn:(varsF l).length<=1000) (vars:List ByteArray) (nw:vars.length<=1000) (hv:∀ r ∈ l,∀ c ∈ r.1,c.1 ∈ vars) (hc:∀ r ∈ l,i64 r.2.1/\∀ c ∈ r.1,i64 c.2) (fj:fewC l) (K:Nat) (a:Ans) (hS:askN K l vars=some a) (ha:a.least=none) :
  cL prog 45 [An l,Bc vars,.prim (.pointer none)] S tk k=some (.agg (ansC a.f a.pt a.nu .unk .unk (some (0,0)) false),S,tk,k):=by
 unfold askN at hS;cases h1:Ju QQ.qF K l vars false with
 | none=>rw [h1] at hS; simp at hS
 | some p =>
  obtain ⟨a1,ok1⟩:=p;rw [h1] at hS;obtain ⟨r1,c8,S1,tk1,k1,c1,c2,q1,b1,rfl,hl1,cd,d6,cz⟩:=QQ.Avo [(⟨0,ans0⟩:Ent),(⟨1,[.prim (.bool false)]⟩:Ent)] [] 2 1 1 l false hl hn vars nw hv hc fj (by simp) rfl K a1 ok1 h1;simp only [ans0,An,Bc] at c8;have hi1:Aii prog 118=false:=aJ
  have yi:Aii prog 123=false:=aJ
  have hN1:∀ e:Ent,nth (S1++[e]) S1.length=some e:=fun e=>by rw [Ae,C3 (Cf _),Mg]; rfl
  have gv:over [AV.prim (.bool false),.frz [] .nilc,.frz [] .nilc,.prim (.bool false),.frz [] .nilc,.prim (.bool false),.frz [] .nilc,.prim (.bool false)] 0 (ansC a1.f a1.pt a1.nu c1 c2 q1 b1)=some (ansC a1.f a1.pt a1.nu c1 c2 q1 b1):=Va (by rw [Kh]; rfl);have ky:∀ f p n c1 c2 q b,takeN 8 (ansC f p n c1 c2 q b)=some (ansC f p n c1 c2 q b):=fun f p n c1 c2 q b=>by
   have:=Ac1 (r:=[]) (Kh (f:=f) (p:=p) (n:=n) (c1:=c1) (c2:=c2) (q:=q) (b:=b));exact Ya1f
  have h10:nth S1 0=some ⟨0,ans0⟩:=by rw [cd 0 (by simp) aA]; rfl
  have a3k:S1.length=2:=by rw [hl1]; rfl
  have hN0:∀ e:Ent,nth (S1++[e]) 0=some ⟨0,ans0⟩:=fun e=>by rw [Bv aA]; exact h10
  have hNP:∀ e x:Ent,nth (put (S1++[e]) 0 x) 0=some x:=fun e x=>Dt (by simp);simp only [ans0] at hN0;cases ok1 with
  | true =>
   simp only [A3] at hS;subst hS;obtain ⟨rfl,rfl⟩:=cz ha;refine opP func45 ntmps45 (hp3:=rfl) ?_;simp (maxSteps:=10^6)+contextual(disch:=try exact dqd)only[ev1,simprocAttr,Cc,Ca,Cd,results45,An,Bc,c8,hi1,yi,ifcA,hN1,gv,Kh,Aah,ky,hN0,hNP];rfl
  | false =>
   cases h2:Ju WW.qF K l vars false with
   | none=>rw [h2] at hS; simp at hS
   | some p =>
    obtain ⟨a2,ok2⟩:=p;rw [h2] at hS;simp only [Cy,A3] at hS;subst hS;obtain ⟨r2,hc2,S2,tk2,k2,c3,c4,q2,b2,rfl,hl2,bj,n9,vq⟩:=WW.Avo (S1++[(⟨k1,ansC a1.f a1.pt a1.nu c1 c2 q1 b1⟩:Ent)]) tk1 (k1+1) 1 0 l false hl hn vars nw hv hc fj aC ⟨⟩ K a2 ok2 h2;obtain ⟨rfl,rfl⟩:=vq ha;simp only [An,Bc] at hc2;have hl22:S2.length=3:=by rw [hl2]; simp [a3k]
    have h20:nth S2 0=some ⟨0,ans0⟩:=by rw [bj 0 (by simp) aA,Bv aA]; exact h10
    have h2N:nth S2 S1.length=some ⟨k1,ansC a1.f a1.pt a1.nu c1 c2 q1 b1⟩:=by rw [bj _ (by simp) aA]; exact hN1 _
    have hP2:∀ x:Ent,nth (put S2 S1.length x) S1.length=some x:=fun x=>Dt aA;have a19:∀ x:Ent,nth (put S2 S1.length x) 0=some ⟨0,ans0⟩:=fun x=>by rw [Af aA]; exact h20
    have a3l:∀ x y:Ent,nth (put (put S2 S1.length x) 0 y) 0=some y:=fun x y=>Dt dZ;have np:over (ansC a1.f a1.pt a1.nu c1 c2 q1 b1) 0 (ansC a2.f a2.pt a2.nu c3 c4 none false)=some (ansC a2.f a2.pt a2.nu c3 c4 none false):=Va (by rw [Kh,Kh]);have zm:over [AV.prim (.bool false),.frz [] .nilc,.frz [] .nilc,.prim (.bool false),.frz [] .nilc,.prim (.bool false),.frz [] .nilc,.prim (.bool false)] 0 (ansC a2.f a2.pt a2.nu c3 c4 none false)=some (ansC a2.f a2.pt a2.nu c3 c4 none false):=Va (by rw [Kh]; rfl);simp only [ans0] at a19;have wc:bldA (some []) (fieldsOf prog 123) []=some (.agg []):=aJ
    refine opP func45 ntmps45 (hp3:=rfl) ?_;simp (maxSteps:=10^6)+contextual(disch:=try exact dqd)only[ev1,simprocAttr,Cc,Ca,Cd,results45,An,Bc,c8,hi1,yi,ifcA,hN1,gv,Kh,Aah,ky,hc2,h2N,hP2,a19,a3l,np,zm,wc];rfl
end
end
section
open Go Go.Proofs.Tryz
theorem H6 {l:List RowT} : ∀ r ∈ l,∀ c ∈ r.1,c.1 ∈ varsF l:=fun r hr c hc=>by
 refine ((Ji (D7 l)).2.1 c.1).2 ?_;unfold D7;refine Se.2 ⟨r.1.map (·.1),Fg.2 ⟨r,hr,rfl⟩,Fg.2 ⟨c,hc,rfl⟩⟩
def Av1 (l:List RowT) (a:Ans):Prop:=∀ S tk k,cL prog 45 [An l,Bc (varsF l),.prim (.pointer none)] S tk k=some (.agg (ansC a.f a.pt a.nu .unk .unk (some (0,0)) false),S,tk,k)
section
variable (S:List Ent) (tk:List Nat) (k:Nat)
theorem Qx (l:List RowT) (dp:∀ r ∈ l,r.1.length<=1048576) (a:Ans) (hA:sysE l=0->Av1 l a) :
  cL prog 23 [An l] S tk k=some (.tup [.bool (if sysE l=0 then a.f else false),.int (sysE l)],S,tk,k):=by
 have hC S tk k:=G9 S tk k l dp;by_cases h0:sysE l=0
 ·obtain ⟨h1,h2,h3,-⟩:=D8 h0;have hV S tk k:=Ec S tk k l h1 h2;have hA:=hA h0;unfold Av1 at hA;exact Yan
 ·exact Ya03
end
section
variable (S:List Ent) (tk:List Nat) (k:Nat)
theorem Ro (l:List RowT) (dp:∀ r ∈ l,r.1.length<=1048576) (hi:∀ r ∈ l,i64 r.2.1/\∀ c ∈ r.1,i64 c.2) (K:Nat) (a:Ans) (hS:sysE l=0->askN K l (varsF l)=some a/\a.least=none) :
  cL prog 23 [An l] S tk k=some (.tup [.bool (if sysE l=0 then a.f else false),.int (sysE l)],S,tk,k):=by
 have hC S tk k:=G9 S tk k l dp;by_cases h0:sysE l=0
 ·obtain ⟨h1,h2,h3,-⟩:=D8 h0;have hV S tk k:=Ec S tk k l h1 h2;obtain ⟨di,bg⟩:=hS h0;have hA S tk k:=Ra S tk k l aA aA (varsF l) aA H6 hi h1 K a di bg;exact Yan
 ·exact Ya03
end
end
section
open Go
def qv (a:Q):Rat:=((a.1:Int):Rat) / ((a.2:Int):Rat)
theorem Gh {d:Int} (h:d≠0):((d:Int):Rat)≠0:=fun e=>h (O8.mp (e.trans rfl))
theorem Ax6 {a:Q} {n d:Int} (ha:a.2≠0) (hd:d≠0) (h:a.1*d=n*a.2):qv a=((n:Int):Rat) / ((d:Int):Rat):=by
 have h1:=congrArg (fun z:Int=>(z:Rat)) h;simp only [Cv] at h1;have h2:=Gh ha;have h3:=Gh hd;unfold qv;grind
theorem Ax8 {a:Q} (h:0<a.2):qv a<0↔a.1<0:=by
 unfold qv;rw [Rat.div_lt_iff (Qm.2 h),Rat.zero_mul,Rat.intCast_neg_iff]
theorem Ax9 {a:Q} (h:0<a.2):0<qv a↔0<a.1:=by
 unfold qv;rw [Rat.lt_div_iff (Qm.2 h),Rat.zero_mul,Qm]
theorem Aex {a:Q} (h:0<a.2):sgn a<0↔qv a<0:=by
 rw [Ax8 h]; unfold sgn;exact Ya30
theorem Vx {a:Q} (h:0<a.2):0<sgn a↔0<qv a:=by
 rw [Ax9 h]; unfold sgn;exact Ya30
theorem P1 {a:Q} (h:0<a.2):sgn a=0↔qv a=0:=by
 have h1:=Aex h;have h2:=Vx h;constructor
 ·intro h0;have a1:¬ qv a<0:=fun h'=>by have:=h1.2 h'; omega
  have a2:¬ 0<qv a:=fun h'=>by have:=h2.2 h'; omega
  grind
 ·intro h0;have a1:¬ sgn a<0:=fun h'=>by have:=h1.1 h'; grind
  have a2:¬ 0<sgn a:=fun h'=>by have:=h2.1 h'; grind
  omega
theorem Ai3:qv q0=0:=by unfold qv q0; grind
structure Fld.Exact (F:Fld) (G:Q->Prop):Prop where
 pos:∀ a,G a->0<a.2
 zero:G q0
 whole:∀ n,i64 n->(F.whole n).2=false->G (F.whole n).1/\qv (F.whole n).1=((n:Int):Rat)
 minus:∀ a b,G a->G b->(F.minus a b).2=false->G (F.minus a b).1/\qv (F.minus a b).1=qv a - qv b
 times:∀ a b,G a->G b->(F.times a b).2=false->G (F.times a b).1/\qv (F.times a b).1=qv a*qv b
 over:∀ a b,G a->G b->qv b≠0->(F.over a b).2=false->G (F.over a b).1/\qv (F.over a b).1=qv a / qv b
structure Fld.Total (F:Fld) (G:Q->Prop) (fit:Rat->Prop):Prop where
 whole:∀ n,i64 n->(F.whole n).2=false
 minus:∀ a b,G a->G b->fit (qv a - qv b)->(F.minus a b).2=false
 times:∀ a b,G a->G b->fit (qv a*qv b)->(F.times a b).2=false
 over:∀ a b,G a->G b->qv b≠0->fit (qv a / qv b)->(F.over a b).2=false
theorem Ax7 {n d:Int} (hd:d≠0):qv (lowN n d,lowD n d)=((n:Int):Rat) / ((d:Int):Rat):=Ax6 (a:=(lowN n d,lowD n d)) (by have:=Pk (n:=n) hd; simp only; omega) hd (Lg hd)
theorem Zg {n d:Int} (hd:d≠0) (h:(qn n d).2=false):okS (qn n d).1/\qv (qn n d).1=((n:Int):Rat) / ((d:Int):Rat):=by
 refine ⟨Arj n d,?_⟩;unfold qn at h ⊢;split
 ·rename_i hb; rw [if_pos hb] at h; simp at h
 ·exact Ax7 hd
theorem Tf {n d:Int} (h:(wn n d).2=false):Jv (wn n d).1.1 (wn n d).1.2/\qv (wn n d).1=((n:Int):Rat) / ((d:Int):Rat):=by
 have hf:Gx n d=true:=by simpa [wn] using h
 have g:=Ag9 hf;exact ⟨g,Ax6 (a:=(resN n d,resD n d)) (by have:=g.pos; simp only; omega) (Ad6 hf) (Anv hf)⟩
def Ug (x:Rat):Prop:=∃ n d:Int,d≠0/\x=((n:Int):Rat) / ((d:Int):Rat)/\n.natAbs<10000 ^ 200/\d.natAbs<10000 ^ 200
theorem Nn {z:Int} (h:z.natAbs<10000 ^ 200):okZ z=true:=by
 have:=A9.2 h;simp only [okZ,Gb,decide_eq_false_iff_not];omega
theorem Tg {n d:Int} (hd:d≠0) (h:Ug (((n:Int):Rat) / ((d:Int):Rat))):(wn n d).2=false:=by
 obtain ⟨a,b,hb,he,q8,hb1⟩:=h;have e:n*b=a*d:=by
  have h2:=Gh hd;have h3:=Gh hb;have h4:((n*b:Int):Rat)=((a*d:Int):Rat):=by
   rw [Cv,Cv];grind
  exact O8.mp h4
 have hf:=(Auk hd hb e).1;have hg:Gx a b=true:=by
  unfold Gx;have l1:(lowN a b).natAbs<10000 ^ 200:=by rw [U0]; exact Ij (Ob _ _) q8
  have l2:(lowD a b).natAbs<10000 ^ 200:=Ij (Ob _ _) hb1;rw [Nn l1,Nn l2];simp [hb]
 unfold wn;rw [hf,hg]; rfl
theorem Q8 {a b c d:Rat} (hb:b≠0) (hd:d≠0):(a*d - c*b) / (b*d)=a / b - c / d:=aM
theorem Q7 {a b c d:Rat} (hb:b≠0) (hd:d≠0):(a*d+-c*b) / (b*d)=a / b - c / d:=aM
theorem Js {a b c d:Rat} (hb:b≠0) (hd:d≠0):(a*c) / (b*d)=a / b*(c / d):=aM
theorem Lr {a b c d:Rat} (hb:b≠0) (hd:d≠0) (hc:c≠0):(a*d) / (b*c)=a / b / (c / d):=aM
theorem Vi {b:Q} (h:qv b≠0):b.1≠0:=fun h0=>h (by unfold qv; rw [h0]; show (0:Rat) / _=0; grind)
theorem Mm:QQ.qF.Exact okS:=by
 refine ⟨fun a h=>h.2.2.1,⟨aK,aK,aK,aK⟩,fun n _ h=>?_,fun a b ha hb h=>?_,fun a b ha hb h=>?_,fun a b ha hb h0 h=>?_⟩
 ·simp only [QQ.qF] at h ⊢;split
  ·rename_i hb; rw [if_pos hb] at h; simp at h
  ·refine ⟨⟨?_,?_,?_,?_⟩,?_⟩
   ·simp only; omega
   ·simp only; omega
   ·simp only; omega
   ·simp only; omega
   ·unfold qv;exact Ya3p
 ·have h1:=ha.2.2.1;have h2:=hb.2.2.1;have e:=Zg (I3 aA aA) h;refine ⟨e.1,e.2.trans ?_⟩;rw [iC,Cv,Cv,Cv];exact Q8 (Gh aA) (Gh aA)
 ·have h1:=ha.2.2.1;have h2:=hb.2.2.1;have e:=Zg (I3 aA aA) h;exact Ya2f
 ·have h1:=ha.2.2.1;have h2:=hb.2.2.1;have h3:=Vi h0;simp only [QQ.qF] at h ⊢;rw [if_neg h3] at h ⊢;have e:=Zg (I3 aA h3) h;exact Ya1v
def gW (a:Q):Prop:=Jv a.1 a.2
theorem Rm {a:Q} (h:gW a):qz a=a:=by
 have:=h.pos;unfold qz; rw [if_neg aA]
theorem Aqs {n:Int} (h:i64 n):gW (n,1):=by
 have:=WW.Dk.whole n h;rcases this with h1|h1
 ·exact h1
 ·simp [WW.qF] at h1
theorem Gf:WW.qF.Exact gW:=by
 refine ⟨fun a h=>h.pos,Abo,fun n hn h=>⟨Aqs hn,?_⟩,fun a b ha hb h=>?_,fun a b ha hb h=>?_,fun a b ha hb h0 h=>?_⟩
 ·simp only [WW.qF]; unfold qv;exact Ya3p
 ·have h1:=ha.pos;have h2:=hb.pos;simp only [WW.qF,Rm ha,Rm hb] at h ⊢;have e:=Tf h;refine ⟨e.1,e.2.trans ?_⟩;rw [Ox,Cv,Cv,Cv,Oa];exact Q7 (Gh aA) (Gh aA)
 ·have h1:=ha.pos;have h2:=hb.pos;simp only [WW.qF,Rm ha,Rm hb] at h ⊢;have e:=Tf h;exact Ya2f
 ·have h1:=ha.pos;have h2:=hb.pos;have h3:=Vi h0;simp only [WW.qF,Rm ha,Rm hb] at h ⊢;have e:=Tf h;exact Ya1v
theorem P7:WW.qF.Total gW Ug:=by
 refine ⟨fun n _=>rfl,fun a b ha hb h=>?_,fun a b ha hb h=>?_,fun a b ha hb h0 h=>?_⟩
 ·have h1:=ha.pos;have h2:=hb.pos;simp only [WW.qF,Rm ha,Rm hb];refine Tg (I3 aA aA) ?_;rw [Ox,Cv,Cv,Cv,Oa,Q7 (Gh aA) (Gh aA)];exact h
 ·have h1:=ha.pos;have h2:=hb.pos;simp only [WW.qF,Rm ha,Rm hb];refine Tg (I3 aA aA) ?_;rw [Cv,Cv,Js (Gh aA) (Gh aA)];exact h
 ·have h1:=ha.pos;have h2:=hb.pos;have h3:=Vi h0;simp only [WW.qF,Rm ha,Rm hb];refine Tg (I3 aA h3) ?_;rw [Cv,Cv,Lr (Gh aA) (Gh aA) (Gh h3)];exact h
theorem Uq {l:List ByteArray} {s:ByteArray} (h:s ∈ l):nth l (idxV l s)=some s:=by
 obtain ⟨j,h1,h2,h3⟩:=Uc (i:=0) h;unfold idxV;rw [h2];have:((0+j:Nat):Int).toNat=j:=aA
 rw [this]; exact h3
def tabV (t:Tb):Simp.Tab:=⟨fun i j=>qv (at_ q0 (Da t i) j),fun j=>qv (at_ q0 t.cost j),fun i=>at_ 0 t.basis i⟩
structure TOk (G:Q->Prop) (m N:Nat) (t:Tb):Prop where
 rows:t.rows.length=m
 basis:t.basis.length=m
 cost:t.cost.length=N+1
 rowW:∀ r ∈ t.rows,r.length=N+1
 okr:∀ r ∈ t.rows,∀ q ∈ r,G q
 okc:∀ q ∈ t.cost,G q
section
variable {α:Type} {d x:α} {l:List α} {k:Nat}
theorem Aak:at_ d [] k=d:=rfl
theorem Nv (h:k<l.length):nth l k=some (at_ d l k):=by
 obtain ⟨y,hy⟩:=Ab h;unfold at_; rw [hy]; rfl
theorem Gi (h:k<l.length):at_ d l k ∈ l:=Ak (Nv h)
theorem Akf (h:l.length<=k):at_ d l k=d:=by
 unfold at_; rw [Ae,Et h]; rfl
theorem Q0 (h:k<l.length) {j:Nat} : at_ d (put l k x) j=if j=k then x else at_ d l j:=by
 unfold at_;by_cases e:j=k
 ·subst e; rw [if_pos rfl,Dt h]; rfl
 ·rw [if_neg e,Af (O3 e)]
end
section
variable {F:Fld} {G:Q->Prop} {fit:Rat->Prop} {m N:Nat}
theorem Ady (hE:F.Exact G) {b:Q} (hb:G b) (h0:qv b≠0):∀ {l:List Q},(∀ q ∈ l,G q)->(divL F b l).2=false->(∀ q ∈ (divL F b l).1,G q)/\∀ j,qv (at_ q0 (divL F b l).1 j)=qv (at_ q0 l j) / qv b
 | [],_,_=>⟨fun q h=>aT,fun j=>by simp only [divL,Aak,Ai3]; grind⟩
 | x :: l,hl,hf=>by
  have hx:(dvS F b x).2=false/\(divL F b l).2=false:=by simpa [divL] using hf
  have ih:=Ady hE hb h0 (fun q h=>hl q (Co _ h)) hx.2;have gx:=hl x (Cq ..);have hs:G (dvS F b x).1/\qv (dvS F b x).1=qv x / qv b:=by
   have h1:=hx.1;unfold dvS at h1 ⊢;split
   ·rename_i h;exact ⟨gx,by rw [(P1 (hE.pos x gx)).1 h]; grind⟩
   ·rename_i h;rw [if_neg h] at h1;exact hE.over x b gx hb h0 h1
  exact Ya3v
theorem Aft (hT:F.Total G fit) {b:Q} (hb:G b) (h0:qv b≠0):∀ {l:List Q},(∀ q ∈ l,G q)->(∀ j,j<l.length->fit (qv (at_ q0 l j) / qv b))->(divL F b l).2=false
 | [],_,_=>rfl
 | x :: l,hl,hf=>by
  have ih:=Aft hT hb h0 (l:=l) (fun q h=>hl q (Co _ h)) fun j hj=>hf (j+1) bK;have gx:=hl x (Cq ..);have hs:(dvS F b x).2=false:=by
   unfold dvS;split
   ·rfl
   ·exact hT.over x b gx hb h0 (hf 0 (by simp))
  show ((dvS F b x).2 || (divL F b l).2)=false;rw [hs,ih]; rfl
theorem Adz {b:Q} : ∀ {l:List Q},(divL F b l).1.length=l.length
 | []=>rfl
 | x :: l=>by simp only [divL,Cm,Adz]
theorem Arz (hE:F.Exact G) {b a r:Q} (hb:G b) (ha:G a) (hr:G r) (hf:(J9 F b a r).2=false):G (J9 F b a r).1/\qv (J9 F b a r).1=qv a - qv b*qv r:=by
 unfold J9 at hf ⊢;split
 ·rename_i h;exact ⟨ha,by rw [(P1 (hE.pos r hr)).1 h]; grind⟩
 ·rename_i h;rw [if_neg h] at hf;simp only [Fb] at hf;have h1:=hE.times b r hb hr hf.1;have h2:=hE.minus a _ ha h1.1 hf.2;exact ⟨h2.1,by rw [h2.2,h1.2]⟩
theorem Agm (hE:F.Exact G) {b:Q} (hb:G b):∀ {l r:List Q},l.length=r.length->(∀ q ∈ l,G q)->(∀ q ∈ r,G q)->(lessL F b l r).2=false->(∀ q ∈ (lessL F b l r).1,G q)/\∀ j,qv (at_ q0 (lessL F b l r).1 j)=qv (at_ q0 l j) - qv b*qv (at_ q0 r j)
 | [],[],_,_,_,_=>⟨fun q h=>aT,fun j=>by simp only [lessL,Aak,Ai3]; grind⟩
 | [],_ :: _,h,_,_,_=>aO
 | _ :: _,[],h,_,_,_=>aO
 | a :: l,r :: rs,h,hl,hr,hf=>by
  have hx:(J9 F b a r).2=false/\(lessL F b l rs).2=false:=by simpa [lessL] using hf
  have ih:=Agm hE hb aI (fun q h=>hl q (Co _ h)) (fun q h=>hr q (Co _ h)) hx.2;have hs:=Arz hE hb (hl a (Cq ..)) (hr r (Cq ..)) hx.1;exact Ya3v
theorem Aby (hE:F.Exact G) (hT:F.Total G fit) {b:Q} (hb:G b):∀ {l r:List Q},l.length=r.length->(∀ q ∈ l,G q)->(∀ q ∈ r,G q)->(∀ j,j<r.length->fit (qv b*qv (at_ q0 r j))/\fit (qv (at_ q0 l j) - qv b*qv (at_ q0 r j)))->(lessL F b l r).2=false
 | [],[],_,_,_,_=>rfl
 | [],_ :: _,h,_,_,_=>aO
 | _ :: _,[],h,_,_,_=>aO
 | a :: l,r :: rs,h,hl,hr,hf=>by
  have ih:=Aby hE hT hb (l:=l) (r:=rs) aI (fun q h=>hl q (Co _ h)) (fun q h=>hr q (Co _ h)) fun j hj=>hf (j+1) bK;have ga:=hl a (Cq ..);have gr:=hr r (Cq ..);have h0:=hf 0 (by simp);have hs:(J9 F b a r).2=false:=by
   unfold J9;split
   ·rfl
   ·have t1:=hT.times b r hb gr h0.1;have t2:=hE.times b r hb gr t1;have t3:=hT.minus a _ ga t2.1 (by rw [t2.2]; exact h0.2);simp only [t1,t3]; rfl
  show ((J9 F b a r).2 || (lessL F b l rs).2)=false;rw [hs,ih]; rfl
theorem Agn (hE:F.Exact G) {a r:List Q} {c:Nat} (hc:c<a.length) (hl:a.length=r.length) (ha:∀ q ∈ a,G q) (hr:∀ q ∈ r,G q) (hf:(lessT F a r c).2=false):(∀ q ∈ (lessT F a r c).1,G q)/\∀ j,qv (at_ q0 (lessT F a r c).1 j)=qv (at_ q0 a j) - qv (at_ q0 a c)*qv (at_ q0 r j):=by
 have hb:=ha _ (Gi (d:=q0) hc);unfold lessT at hf ⊢;rw [Nv (d:=q0) hc] at hf ⊢;simp only at hf ⊢;split
 ·rename_i h;exact ⟨ha,fun j=>by rw [(P1 (hE.pos _ hb)).1 h]; grind⟩
 ·rename_i h;rw [if_neg h] at hf;exact Agm hE hb hl ha hr hf
theorem Abz (hE:F.Exact G) (hT:F.Total G fit) {a r:List Q} {c:Nat} (hc:c<a.length) (hl:a.length=r.length) (ha:∀ q ∈ a,G q) (hr:∀ q ∈ r,G q) (hf:∀ j,j<r.length->fit (qv (at_ q0 a c)*qv (at_ q0 r j))/\fit (qv (at_ q0 a j) - qv (at_ q0 a c)*qv (at_ q0 r j))):(lessT F a r c).2=false:=by
 have hb:=ha _ (Gi (d:=q0) hc);unfold lessT;rw [Nv (d:=q0) hc];simp only;split
 ·rfl
 ·exact Aby hE hT hb hl ha hr hf
theorem Uz (hE:F.Exact G) {row:List Q} {c i W:Nat} (hc:c<W) (hw:row.length=W) (hr:∀ q ∈ row,G q):∀ {l:List (List Q)} {k:Nat},(∀ r ∈ l,r.length=W)->(∀ r ∈ l,∀ q ∈ r,G q)->(lessRows F row c i k l).2=false ->
  (∀ r ∈ (lessRows F row c i k l).1,r.length=W)/\(∀ r ∈ (lessRows F row c i k l).1,∀ q ∈ r,G q)/\∀ n j,n<l.length->qv (at_ q0 (at_ [] (lessRows F row c i k l).1 n) j)=if k+n=i then qv (at_ q0 (at_ [] l n) j) else qv (at_ q0 (at_ [] l n) j) - qv (at_ q0 (at_ [] l n) c)*qv (at_ q0 row j)
 | [],k,_,_,_=>⟨fun r h=>aT,fun r h=>aT,fun n j hn=>by simp at hn⟩
 | r :: l,k,hl,hg,hf=>by
  have hx:(lessK F row c i k r).2=false/\(lessRows F row c i (k+1) l).2=false:=by simpa [lessRows] using hf
  have ih:=Uz hE hc hw hr (fun r h=>hl r (Co _ h)) (fun r h=>hg r (Co _ h)) hx.2;have hlr:=hl r (Cq ..);have hgr:=hg r (Cq ..);have hs:(lessK F row c i k r).1.length=W/\(∀ q ∈ (lessK F row c i k r).1,G q)/\∀ j,qv (at_ q0 (lessK F row c i k r).1 j)=if k=i then qv (at_ q0 r j) else qv (at_ q0 r j) - qv (at_ q0 r c)*qv (at_ q0 row j):=by
   have h1:=hx.1;unfold lessK at h1 ⊢;by_cases e:k=i
   ·simp only [if_pos e]; exact ⟨hlr,hgr,fun j=>trivial⟩
   ·simp only [if_neg e] at h1 ⊢;have h2:=Agn hE aA (by rw [hlr,hw]) hgr hr h1;exact ⟨by rw [Y0]; exact hlr,h2.1,h2.2⟩
  refine ⟨fun q h=>?_,fun q h=>?_,fun n j hn=>?_⟩
  ·exact Ya0i
  ·rcases C6.1 h with rfl|h
   ·exact hs.2.1
   ·exact ih.2.1 q h
  ·cases n with
   | zero=>exact hs.2.2 j
   | succ n =>
    have:=ih.2.2 n j bZ;rw [show k+1+n=k+(n+1) by omega] at this;exact this
theorem Q4 (hE:F.Exact G) (hT:F.Total G fit) {row:List Q} {c i W:Nat} (hc:c<W) (hw:row.length=W) (hr:∀ q ∈ row,G q):∀ {l:List (List Q)} {k:Nat},(∀ r ∈ l,r.length=W)->(∀ r ∈ l,∀ q ∈ r,G q) ->
  (∀ n j,n<l.length->k+n≠i->j<W->fit (qv (at_ q0 (at_ [] l n) c)*qv (at_ q0 row j))/\fit (qv (at_ q0 (at_ [] l n) j) - qv (at_ q0 (at_ [] l n) c)*qv (at_ q0 row j)))->(lessRows F row c i k l).2=false
 | [],k,_,_,_=>rfl
 | r :: l,k,hl,hg,hf=>by
  have ih:=Q4 hE hT hc hw hr (l:=l) (k:=k+1) (i:=i) (fun r h=>hl r (Co _ h)) (fun r h=>hg r (Co _ h)) fun n j hn hk hj=>hf (n+1) j bZ aA hj;have hlr:=hl r (Cq ..);have hgr:=hg r (Cq ..);have hs:(lessK F row c i k r).2=false:=by
   unfold lessK;by_cases e:k=i
   ·rw [if_pos e]
   ·rw [if_neg e];exact Abz hE hT aA (by rw [hlr,hw]) hgr hr fun j hj=>hf 0 j (by simp) aA aA
  show ((lessK F row c i k r).2 || (lessRows F row c i (k+1) l).2)=false;rw [hs,ih]; rfl
structure Ae9 (fit:Rat->Prop) (m N:Nat) (t:Simp.Tab) (r s:Nat):Prop where
 row:∀ j,j<N+1->fit (t.T r j / t.T r s)
 mul:∀ i j,i<m->j<N+1->fit (t.T i s*(t.T r j / t.T r s))
 sub:∀ i j,i<m->j<N+1->i≠r->fit (t.T i j - t.T i s*(t.T r j / t.T r s))
 cmul:∀ j,j<N+1->fit (t.c s*(t.T r j / t.T r s))
 csub:∀ j,j<N+1->fit (t.c j - t.c s*(t.T r j / t.T r s))
theorem Pv {t:Tb} (h:TOk G m N t) {i:Nat} (hi:i<m):Da t i ∈ t.rows:=Gi Za4b
theorem Aiz (hE:F.Exact G) (hT:F.Total G fit) {t:Tb} (h:TOk G m N t) {i c:Nat} (hi:i<m) (hc:c<N+1) (h0:(tabV t).T i c≠0) (ew:t.fl=false) (hp:Ae9 fit m N (tabV t) i c):(Ef F t i c).fl=false:=by
 have dc:=Pv h hi;have hb:=h.okr _ dc _ (Gi (d:=q0) (k:=c) (by rw [h.rowW _ dc]; exact hc));have d1:=Aft hT hb h0 (h.okr _ dc) fun j hj=>hp.row j (by rw [h.rowW _ dc] at hj; exact hj);have d2:=Ady hE hb h0 (h.okr _ dc) d1;have dl:=Adz (F:=F) (b:=at_ q0 (Da t i) c) (l:=Da t i);rw [h.rowW _ dc] at dl;have r1:(lessRows F (divL F (at_ q0 (Da t i) c) (Da t i)).1 c i 0 (put t.rows i (divL F (at_ q0 (Da t i) c) (Da t i)).1)).2=false:=by
  refine Q4 hE hT (W:=N+1) hc dl d2.1 (fun r hr=>?_) (fun r hr=>?_) fun n j hn hk hj=>?_
  ·rcases J0 hr with rfl|hr
   ·exact dl
   ·exact h.rowW r hr
  ·rcases J0 hr with rfl|hr
   ·exact d2.1
   ·exact h.okr r hr
  ·rw [Aj,h.rows] at hn;rw [Q0 Za4b,if_neg aA,d2.2];exact ⟨hp.mul n j hn hj,hp.sub n j hn hj aA⟩
 have k1:(lessT F t.cost (divL F (at_ q0 (Da t i) c) (Da t i)).1 c).2=false:=by
  refine Abz hE hT (by rw [h.cost]; exact hc) (by rw [h.cost,dl]) h.okc d2.1 fun j hj=>?_;rw [dl] at hj;rw [d2.2];exact ⟨hp.cmul j hj,hp.csub j hj⟩
 show (((t.fl || _) || _) || _)=false;rw [ew,d1,r1,k1]; rfl
theorem Anl (hE:F.Exact G) {t:Tb} (h:TOk G m N t) {i c:Nat} (hi:i<m) (hc:c<N+1) (h0:(tabV t).T i c≠0) (ew:(Ef F t i c).fl=false):TOk G m N (Ef F t i c)/\tabV (Ef F t i c)=Simp.piv (tabV t) i c:=by
 have dc:=Pv h hi;have hb:=h.okr _ dc _ (Gi (d:=q0) (k:=c) (by rw [h.rowW _ dc]; exact hc));have a2a:(((t.fl || (divL F (at_ q0 (Da t i) c) (Da t i)).2) || (lessRows F (divL F (at_ q0 (Da t i) c) (Da t i)).1 c i 0 (put t.rows i (divL F (at_ q0 (Da t i) c) (Da t i)).1)).2) || (lessT F t.cost (divL F (at_ q0 (Da t i) c) (Da t i)).1 c).2)=false:=ew;simp only [Fb] at a2a;obtain ⟨⟨⟨-,d1⟩,r1⟩,k1⟩:=a2a;have d2:=Ady hE hb h0 (h.okr _ dc) d1;have dl:=Adz (F:=F) (b:=at_ q0 (Da t i) c) (l:=Da t i);rw [h.rowW _ dc] at dl;have r2:=Uz hE (W:=N+1) hc dl d2.1 (fun r hr=>by
  rcases J0 hr with rfl|hr
  ·exact dl
  ·exact h.rowW r hr) (fun r hr=>by
  rcases J0 hr with rfl|hr
  ·exact d2.1
  ·exact h.okr r hr) r1
 have k2:=Agn hE (by rw [h.cost]; exact hc) (by rw [h.cost,dl]) h.okc d2.1 k1;refine ⟨⟨?_,?_,?_,r2.1,r2.2.1,k2.1⟩,?_⟩
 ·show (lessRows _ _ _ _ _ _).1.length=m;rw [Kp,Aj]; exact h.rows
 ·show (put _ _ _).length=m;rw [Aj]; exact h.basis
 ·show (lessT _ _ _ _).1.length=N+1;rw [Y0]; exact h.cost
 ·have eT:(tabV (Ef F t i c)).T=(Simp.piv (tabV t) i c).T:=by
   funext i' j;show qv (at_ q0 (at_ [] (lessRows F (divL F (at_ q0 (Da t i) c) (Da t i)).1 c i 0 (put t.rows i (divL F (at_ q0 (Da t i) c) (Da t i)).1)).1 i') j)=Simp.pivT (tabV t) i c i' j;by_cases aw:i'<m
   ·rw [r2.2.2 i' j (by rw [Aj,h.rows]; exact aw),Q0 Za4b,d2.2];unfold Simp.pivT;by_cases e:i'=i
    ·subst e;rw [if_pos aA,if_pos rfl,if_pos rfl,d2.2]; rfl
    ·rw [if_neg aA,if_neg e,if_neg e]; rfl
   ·have hn:at_ [] t.rows i'=[]:=Akf (by rw [h.rows]; omega);have z:∀ j,(tabV t).T i' j=0:=fun j=>by
     show qv (at_ q0 (at_ [] t.rows i') j)=0;rw [hn,Aak,Ai3]
    have e2:at_ [] (lessRows F (divL F (at_ q0 (Da t i) c) (Da t i)).1 c i 0 (put t.rows i (divL F (at_ q0 (Da t i) c) (Da t i)).1)).1 i'=[]:=Akf (by rw [Kp,Aj,h.rows]; omega);rw [e2,Aak,Ai3];unfold Simp.pivT;rw [if_neg aA,z,z]; grind
  have eC:(tabV (Ef F t i c)).c=(Simp.piv (tabV t) i c).c:=by
   funext j;show qv (at_ q0 (lessT F t.cost (divL F (at_ q0 (Da t i) c) (Da t i)).1 c).1 j)=_;rw [k2.2,d2.2]; rfl
  have eB:(tabV (Ef F t i c)).B=(Simp.piv (tabV t) i c).B:=by
   funext k;show at_ 0 (put t.basis i c) k=if k=i then c else at_ 0 t.basis k
   exact Q0 (by rw [h.basis]; exact hi)
  show Simp.Tab.mk _ _ _=Simp.Tab.mk _ _ _;exact congr (congr (congrArg Simp.Tab.mk eT) eC) eB
end
def K5 (G:Q->Prop) (N c:Nat) (T:Simp.Tab) (k:Nat):Option (Nat × Q)->Prop
 | none=>∀ i,i<k->T.T i c<=0
 | some (i,q)=>i<k/\0<T.T i c/\G q/\qv q=T.T i N / T.T i c/\∀ i',i'<k->0<T.T i' c->T.T i N / T.T i c<=T.T i' N / T.T i' c/\(T.T i N / T.T i c=T.T i' N / T.T i' c->T.B i<=T.B i')
structure Rq (fit:Rat->Prop) (m N c:Nat) (T:Simp.Tab):Prop where
 quo:∀ i,i<m->0<T.T i c->fit (T.T i N / T.T i c)
 sub:∀ i k,i<m->k<m->0<T.T i c->0<T.T k c->fit (T.T i N / T.T i c - T.T k N / T.T k c)
def Pf (F:Fld) (basis:List Nat) (c W k:Nat) (r:List Q) (b:Option (Nat × Q)):Option (Nat × Q) × Bool :=
 if sgn (at_ q0 r c)<=0 then (b,false) else
  match b with
  | none=>(some (k,(F.over (at_ q0 r (W - 1)) (at_ q0 r c)).1),(F.over (at_ q0 r (W - 1)) (at_ q0 r c)).2)
  | some (bi,least)=>(if worse basis (sgn (F.minus (F.over (at_ q0 r (W - 1)) (at_ q0 r c)).1 least).1) k bi=true then some (bi,least) else some (k,(F.over (at_ q0 r (W - 1)) (at_ q0 r c)).1),(F.over (at_ q0 r (W - 1)) (at_ q0 r c)).2 || (F.minus (F.over (at_ q0 r (W - 1)) (at_ q0 r c)).1 least).2)
theorem Ux {F:Fld} {basis:List Nat} {c W k:Nat} {r:List Q} {l:List (List Q)} {b:Option (Nat × Q)} : B4 F basis c W k (r :: l) b=((B4 F basis c W (k+1) l (Pf F basis c W k r b).1).1,(Pf F basis c W k r b).2 || (B4 F basis c W (k+1) l (Pf F basis c W k r b).1).2):=by
 rw [B4];unfold Pf;split
 ·simp
 ·cases b with
  | none=>rfl
  | some p=>obtain ⟨bi,least⟩:=p; rfl
section
variable {F:Fld} {G:Q->Prop} {fit:Rat->Prop} {m N L:Nat}
theorem Abx (hE:F.Exact G) {t:Tb} (h:TOk G m N t) {c k:Nat} (hc:c<N+1) (hk:k<m) {b:Option (Nat × Q)} (hb:K5 G N c (tabV t) k b) (hf:(Pf F t.basis c (N+1) k (Da t k) b).2=false):K5 G N c (tabV t) (k+1) (Pf F t.basis c (N+1) k (Da t k) b).1:=by
 have dc:=Pv h hk;have hw:=h.rowW _ dc;have g1:=h.okr _ dc _ (Gi (d:=q0) (k:=c) (by rw [hw]; exact hc));have g2:=h.okr _ dc _ (Gi (d:=q0) (k:=N) (by rw [hw]; omega));have p1:=hE.pos _ g1;have e1:qv (at_ q0 (Da t k) c)=(tabV t).T k c:=rfl;have e2:qv (at_ q0 (Da t k) N)=(tabV t).T k N:=rfl;unfold Pf at hf ⊢;rw [iG] at hf ⊢;split
 ·rename_i hs;have hn:(tabV t).T k c<=0:=by
   have:¬ 0<qv (at_ q0 (Da t k) c):=fun h'=>by have:=(Vx p1).2 h'; omega
   rw [e1] at this; grind
  cases b with
  | none =>
   intro i hi;by_cases e:i=k
   ·subst e; exact hn
   ·exact hb i aA
  | some p =>
   obtain ⟨bi,least⟩:=p;obtain ⟨b1,b2,b3,b4,b5⟩:=hb;refine ⟨aA,b2,b3,b4,fun i' aw hp=>?_⟩;by_cases e:i'=k
   ·subst e; grind
   ·exact b5 i' aA hp
 ·rename_i hs;rw [if_neg hs] at hf;have hp:0<(tabV t).T k c:=by
   rw [<- e1]; exact (Vx p1).1 aA
  have h0:qv (at_ q0 (Da t k) c)≠0:=by rw [e1]; grind
  cases b with
  | none =>
   simp only at hf ⊢;have hq:=hE.over _ _ g2 g1 h0 hf;refine ⟨aA,hp,hq.1,by rw [hq.2,e1,e2],fun i' aw fk=>?_⟩;by_cases e:i'=k
   ·exact Ya1x
   ·have:=hb i' aA; grind
  | some p =>
   obtain ⟨bi,least⟩:=p;obtain ⟨b1,b2,b3,b4,b5⟩:=hb;simp only [Fb] at hf ⊢;have hq:=hE.over _ _ g2 g1 h0 hf.1;have hd:=hE.minus _ _ hq.1 b3 hf.2;have pd:=hE.pos _ hd.1;have hdv:qv (F.minus (F.over (at_ q0 (Da t k) N) (at_ q0 (Da t k) c)).1 least).1=(tabV t).T k N / (tabV t).T k c - (tabV t).T bi N / (tabV t).T bi c:=by rw [hd.2,hq.2,b4,e1,e2]
   have s1:=Vx pd;have s2:=P1 pd;have s3:=Aex pd;rw [hdv] at s1 s2 s3;generalize sgn (F.minus (F.over (at_ q0 (Da t k) N) (at_ q0 (Da t k) c)).1 least).1=s at s1 s2 s3 ⊢;have eB:∀ i,at_ 0 t.basis i=(tabV t).B i:=fun _=>rfl;unfold worse;rw [eB,eB];by_cases c1:0<s
   ·have hw1:(decide (0<s) || (s == 0 && decide ((tabV t).B bi<(tabV t).B k)))=true:=by simp [c1]
    rw [if_pos hw1];have:=s1.1 c1;refine ⟨aA,b2,b3,b4,fun i' aw fk=>?_⟩;by_cases e:i'=k
    ·subst e; exact ⟨aM,fun h'=>aM⟩
    ·exact b5 i' aA fk
   ·by_cases c2:s=0
    ·have hz:=s2.1 c2;have ev:(tabV t).T k N / (tabV t).T k c=(tabV t).T bi N / (tabV t).T bi c:=aM
     by_cases c3:(tabV t).B bi<(tabV t).B k
     ·have hw1:(decide (0<s) || (s == 0 && decide ((tabV t).B bi<(tabV t).B k)))=true:=by simp [c2,c3]
      rw [if_pos hw1];refine ⟨aA,b2,b3,b4,fun i' aw fk=>?_⟩;by_cases e:i'=k
      ·subst e; exact ⟨aM,fun _=>aA⟩
      ·exact b5 i' aA fk
     ·have hw1:¬ (decide (0<s) || (s == 0 && decide ((tabV t).B bi<(tabV t).B k)))=true:=by simp [c2,c3]
      rw [if_neg hw1];refine ⟨aA,hp,hq.1,by rw [hq.2,e1,e2],fun i' aw fk=>?_⟩;by_cases e:i'=k
      ·exact Ya1x
      ·have h5:=b5 i' aA fk;refine ⟨by rw [ev]; exact h5.1,fun h'=>?_⟩;have:=h5.2 (by rw [<- ev]; exact h');omega
    ·have hw1:¬ (decide (0<s) || (s == 0 && decide ((tabV t).B bi<(tabV t).B k)))=true:=by simp [c1,c2]
     rw [if_neg hw1];have:=s3.1 aA;refine ⟨aA,hp,hq.1,by rw [hq.2,e1,e2],fun i' aw fk=>?_⟩;by_cases e:i'=k
     ·exact Ya1x
     ·have h5:=b5 i' aA fk;exact ⟨aM,fun h'=>by have:=h5.1; grind⟩
theorem Aik (hE:F.Exact G) (hT:F.Total G fit) {t:Tb} (h:TOk G m N t) {c k:Nat} (hc:c<N+1) (hk:k<m) (hF:Rq fit m N c (tabV t)) {b:Option (Nat × Q)} (hb:K5 G N c (tabV t) k b):(Pf F t.basis c (N+1) k (Da t k) b).2=false:=by
 have dc:=Pv h hk;have hw:=h.rowW _ dc;have g1:=h.okr _ dc _ (Gi (d:=q0) (k:=c) (by rw [hw]; exact hc));have g2:=h.okr _ dc _ (Gi (d:=q0) (k:=N) (by rw [hw]; omega));have p1:=hE.pos _ g1;have e1:qv (at_ q0 (Da t k) c)=(tabV t).T k c:=rfl;have e2:qv (at_ q0 (Da t k) N)=(tabV t).T k N:=rfl;unfold Pf;rw [iG];split
 ·rfl
 ·rename_i hs;have hp:0<(tabV t).T k c:=by
   rw [<- e1]; exact (Vx p1).1 aA
  have h0:qv (at_ q0 (Da t k) c)≠0:=by rw [e1]; grind
  have f1:=hT.over _ _ g2 g1 h0 (hF.quo k hk hp);cases b with
  | none=>exact f1
  | some p =>
   obtain ⟨bi,least⟩:=p;obtain ⟨b1,b2,b3,b4,b5⟩:=hb;have hq:=hE.over _ _ g2 g1 h0 f1;have f2:=hT.minus _ _ hq.1 b3 (by rw [hq.2,b4,e1,e2]; exact hF.sub k bi hk aA hp b2);simp only [f1,f2]; rfl
theorem Abw (hE:F.Exact G) {t:Tb} (h:TOk G m N t) {c:Nat} (hc:c<N+1):∀ {l:List (List Q)} {k:Nat} {b:Option (Nat × Q)},t.rows.drop k=l->k<=m->K5 G N c (tabV t) k b->(B4 F t.basis c (N+1) k l b).2=false->K5 G N c (tabV t) m (B4 F t.basis c (N+1) k l b).1
 | [],k,b,hl,hk,hb,_=>by
  have:t.rows.length<=k:=List.drop_eq_nil_iff.1 hl;rw [h.rows] at this;have e:k=m:=aA
  subst e;exact hb
 | r :: l,k,b,hl,hk,hb,hf=>by
  have qw:k<m:=by
   exact Ya21
  have hd:=Au (Nv (d:=[]) (l:=t.rows) (k:=k) (by rw [h.rows]; exact qw));rw [hl] at hd;obtain ⟨hr,hl2⟩:=List.cons.inj hd;have er:r=Da t k:=hr;rw [Ux] at hf ⊢;simp only [Fb] at hf ⊢;rw [er] at hf ⊢;exact Abw hE h hc hl2.symm qw (Abx hE h hc qw hb hf.1) hf.2
theorem W9 (hE:F.Exact G) (hT:F.Total G fit) {t:Tb} (h:TOk G m N t) {c:Nat} (hc:c<N+1) (hF:Rq fit m N c (tabV t)):∀ {l:List (List Q)} {k:Nat} {b:Option (Nat × Q)},t.rows.drop k=l->k<=m->K5 G N c (tabV t) k b->(B4 F t.basis c (N+1) k l b).2=false
 | [],k,b,hl,hk,hb=>rfl
 | r :: l,k,b,hl,hk,hb=>by
  have qw:k<m:=by
   exact Ya21
  have hd:=Au (Nv (d:=[]) (l:=t.rows) (k:=k) (by rw [h.rows]; exact qw));rw [hl] at hd;obtain ⟨hr,hl2⟩:=List.cons.inj hd;have er:r=Da t k:=hr;have s1:=Aik hE hT h hc qw hF hb;rw [Ux,er];simp only [Fb];exact ⟨s1,W9 hE hT h hc hF hl2.symm qw (Abx hE h hc qw hb s1)⟩
theorem Ak6 (hE:F.Exact G) {cost:List Q} (hg:∀ q ∈ cost,G q):∀ {n k:Nat},k+n<=cost.length->match colF cost n k with
  | none=>∀ j,k<=j->j<k+n->0<=qv (at_ q0 cost j)
  | some c=>k<=c/\c<k+n/\qv (at_ q0 cost c)<0/\∀ j,k<=j->j<c->0<=qv (at_ q0 cost j)
 | 0,k,_=>fun j h1 h2=>aA
 | n+1,k,hn=>by
  have gk:=hg _ (Gi (d:=q0) (k:=k) (l:=cost) aA);have hs:=Aex (hE.pos _ gk);unfold colF;by_cases c1:sgn (at_ q0 cost k)<0
  ·rw [if_pos c1];exact ⟨Cf _,aA,hs.1 c1,fun j h1 h2=>aA⟩
  ·rw [if_neg c1];have hk:0<=qv (at_ q0 cost k):=by
    have:¬ qv (at_ q0 cost k)<0:=fun h'=>c1 (hs.2 h');grind
   have ih:=Ak6 hE hg (n:=n) (k:=k+1) aA;cases fe:colF cost n (k+1) with
   | none =>
    rw [fe] at ih;intro j h1 h2;by_cases e:j=k
    ·subst e; exact hk
    ·exact ih j aA aA
   | some c =>
    rw [fe] at ih;obtain ⟨i1,i2,i3,i4⟩:=ih;refine ⟨aA,aA,i3,fun j h1 h2=>?_⟩;by_cases e:j=k
    ·subst e; exact hk
    ·exact i4 j aA h2
def Safe (F:Fld) (G:Q->Prop) (m N L:Nat) (t0:Simp.Tab):Prop :=
 F.stop=true\/∃ fit,F.Total G fit/\∀ K (R:Simp.Run m N L K),R.t 0=t0->(∀ c,c<L->Rq fit m N c (R.t K))/\∀ r s,r<m->s<N->(R.t K).T r s≠0->Ae9 fit m N (R.t K) r s
def Ajk (F:Fld) (G:Q->Prop) (m N L:Nat) (t0:Simp.Tab) (b:Bool) (t':Tb):Prop :=
 (F.stop=true/\t'.fl=true)\/(t'.fl=false/\TOk G m N t'/\∃ K,∃ R:Simp.Run m N L K,R.t 0=t0/\R.t K=tabV t'/\(b=true->∀ j,j<L->0<=(tabV t').c j)/\(b=false->∃ s,s<L/\(tabV t').c s<0/\∀ i,i<m->(tabV t').T i s<=0))
theorem TOk.flag {t:Tb} (h:TOk G m N t) (f:Bool):TOk G m N { t with fl:=f }:=⟨h.rows,h.basis,h.cost,h.rowW,h.okr,h.okc⟩
theorem W0 {n:Nat} {t:Tb} (h1:F.stop=true) (h2:t.fl=true):Hr F (n+1) t=some (true,t):=by
 rw [Hr,h1,h2]; rfl
theorem Afs (hE:F.Exact G) {t0:Simp.Tab} (hs:Safe F G m N L t0):∀ (n:Nat) {K:Nat} (R:Simp.Run m N L K) {t:Tb},R.t 0=t0->R.t K=tabV t->TOk G m N t->t.real=L->t.fl=false->N ^ m+1<=n+K->∃ b t',Hr F n t=some (b,t')/\Ajk F G m N L t0 b t'
 | 0,K,R,t,h0,hK,ht,hL,ew,hn=>by have:=R.short; omega
 | n+1,K,R,t,h0,hK,ht,hL,ew,hn=>by
  have a3m:=R.short;have hLN:=R.LN;have fe:=Ak6 hE ht.okc (n:=t.real) (k:=0) (by rw [ht.cost]; omega);have e0:¬ (F.stop && t.fl)=true:=by rw [ew]; simp
  rw [Hr,if_neg e0];cases hc:colF t.cost t.real 0 with
  | none =>
   rw [hc] at fe;refine ⟨true,t,rfl,.inr ⟨ew,ht,K,R,h0,hK,fun _ j hj=>fe j (Cl _) aA,fun h=>aT⟩⟩
  | some c =>
   rw [hc] at fe;obtain ⟨-,hcL,hneg,a1o⟩:=fe;simp only;have hcN:c<N+1:=aA
   have ov:Br F t c=B4 F t.basis c (N+1) 0 t.rows none:=by unfold Br; rw [ht.cost]
   have dp:K5 G N c (tabV t) 0 none:=fun i hi=>aA
   cases hle:Br F t c with
   | mk o f =>
   have hlx:f=false->K5 G N c (tabV t) m o:=fun hf=>by
    have:=Abw hE ht hcN (l:=t.rows) (k:=0) (b:=none) rfl (Cl _) dp (by rw [<- ov,hle]; exact hf);rw [<- ov,hle] at this;exact this
   have hlf:F.stop=false->f=false:=fun ag=>by
    rcases hs with hs|⟨fit,hT,hs⟩
    ·rw [hs] at ag; cases ag
    ·have:=W9 hE hT ht hcN (by rw [<- hK]; exact (hs K R h0).1 c aA) (l:=t.rows) (k:=0) (b:=none) rfl (Cl _) dp;rw [<- ov,hle] at this;exact this
   cases o with
   | none =>
    simp only;refine ⟨false,_,rfl,?_⟩;cases f with
    | true =>
     cases ag:F.stop with
     | true=>exact .inl ⟨ag,by simp⟩
     | false=>have:=hlf ag; cases this
    | false =>
     refine .inr ⟨by simp [ew],ht.flag _,K,R,h0,hK,fun h=>aT,fun _=>⟨c,aA,hneg,hlx rfl⟩⟩
   | some p =>
    obtain ⟨i,q⟩:=p;simp only;have a0h:F.stop=true->(Ef F { t with fl:=t.fl || f } i c).fl=true->∃ b t',Hr F n (Ef F { t with fl:=t.fl || f } i c)=some (b,t')/\Ajk F G m N L t0 b t':=fun h1 h2=>by
     obtain ⟨n',rfl⟩:∃ n',n=n'+1:=⟨n - 1,aA⟩;exact ⟨true,_,W0 h1 h2,.inl ⟨h1,h2⟩⟩
    cases f with
    | true =>
     cases ag:F.stop with
     | true=>exact a0h ag (by simp [Ef])
     | false=>have:=hlf ag; cases this
    | false =>
     obtain ⟨l1,l2,l3,l4,l5⟩:=hlx rfl;have y7:=ht.flag (t.fl || false);have h0':(tabV { t with fl:=t.fl || false }).T i c≠0:=by
      show (tabV t).T i c≠0;grind
     have p6:Simp.Step m N L (R.t K) i c:=by
      rw [hK];exact ⟨l1,aA,hneg,fun j hj=>a1o j (Cl _) hj,l2,fun i' aw hp=>(l5 i' aw hp).1,fun i' aw hp=>(l5 i' aw hp).2⟩
     cases hpf:(Ef F { t with fl:=t.fl || false } i c).fl with
     | true =>
      cases ag:F.stop with
      | true=>exact a0h ag hpf
      | false =>
       rcases hs with hs|⟨fit,hT,hs⟩
       ·rw [hs] at ag; cases ag
       ·have:=Aiz hE hT y7 l1 hcN h0' (by simp [ew]) (by
         show Ae9 fit m N (tabV t) i c;rw [<- hK];exact (hs K R h0).2 i c l1 aA (by rw [hK]; exact h0'))
        rw [hpf] at this; cases this
     | false =>
      obtain ⟨x1,x2⟩:=Anl hE y7 l1 hcN h0' hpf;refine Afs hE hs n (R.more p6) (t:=Ef F { t with fl:=t.fl || false } i c) ?_ ?_ x1 hL hpf aA
      ·rw [R.more_old p6 (Cl _)]; exact h0
      ·rw [R.more_last p6,x2,hK]; rfl
end
def Ints (m N M Mc:Nat) (t0:Simp.Tab):Prop:=(∀ i j,i<m->j<N+1->∃ z:Int,t0.T i j=((z:Int):Rat)/\z.natAbs<=M)/\∀ j,j<N+1->∃ z:Int,t0.c j=((z:Int):Rat)/\z.natAbs<=Mc
structure Reach (m N:Nat) (t0 t:Simp.Tab):Prop where
 fit:Simp.Fit m N t
 ker:∀ x,Simp.Ker m N t0 x->Simp.Ker m N t x
 cost:∀ x,Simp.Ker m N t0 x->Simp.dot N t.c x=Simp.dot N t0.c x
def bndX (m M Mc:Nat):Nat:=(2*((m+1)*M)) ^ m+(m+1)*(Mc*(2*((m+1)*M)) ^ m)
section
variable {m N L M Mc X:Nat} {t0 t:Simp.Tab}
theorem Reach.piv (h:Reach m N t0 t) {r s:Nat} (hr:r<m) (hs:s<N) (hp:t.T r s≠0):Reach m N t0 (Simp.piv t r s) :=
 ⟨Simp.piv_fit h.fit hr hs hp,fun x hx=>(Simp.piv_ker hr hp x).2 (h.ker x hx),fun x hx=>by rw [Simp.piv_cost hr (h.ker x hx)]; exact h.cost x hx⟩
theorem Reach.run {K:Nat} (R:Simp.Run m N L K):Reach m N (R.t 0) (R.t K) :=
 ⟨R.fits K (Cf _),fun x hx=>(R.ker (Cl _) (Cf _) x).2 hx,fun x hx=>R.cost (Cl _) (Cf _) hx⟩
theorem Kt (hM:1<=M) (hI:Ints m N M Mc t0) (h:Reach m N t0 t) {j:Nat} (hj:j<N+1) :
  ∃ y0:Int,y0≠0/\y0.natAbs<=bndX m M Mc/\(∀ i,i<m->∃ y:Int,t.T i j=((y:Int):Rat) / ((y0:Int):Rat)/\y.natAbs<=bndX m M Mc)/\∃ w:Int,t.c j=((w:Int):Rat) / ((y0:Int):Rat)/\w.natAbs<=bndX m M Mc:=by
 obtain ⟨hI1,hI2⟩:=hI;obtain ⟨a,ha⟩:∃ a:Nat->Nat->Int,∀ i j,i<m->j<N+1->t0.T i j=((a i j:Int):Rat)/\(a i j).natAbs<=M :=
  ⟨fun i j=>if h:i<m/\j<N+1 then Classical.choose (hI1 i j h.1 h.2) else 0,fun i j hi hj=>by
   dsimp only; rw [dif_pos ⟨hi,hj⟩]; exact iS (hI1 i j hi hj)⟩
 obtain ⟨a0,ll⟩:∃ a0:Nat->Int,∀ j,j<N+1->t0.c j=((a0 j:Int):Rat)/\(a0 j).natAbs<=Mc :=
  ⟨fun j=>if h:j<N+1 then Classical.choose (hI2 j h) else 0,fun j hj=>by
   dsimp only; rw [dif_pos hj]; exact iS (hI2 j hj)⟩
 obtain ⟨y0,h1,h2,h3,w,h4,h5⟩:=Simp.small hM ha ll h.fit h.ker h.cost hj;refine ⟨y0,h1,Fe h2 (O1 _ _),fun i hi=>?_,w,h4,Fe h5 (Nat.le_add_left _ _)⟩;obtain ⟨y,e1,e2⟩:=h3 i hi;exact ⟨y,e1,Fe e2 (O1 _ _)⟩
theorem Amt {a b:Nat} (h:a<=X) (hb:b<=X):a*b<=X*X:=Ix h hb
theorem Yq {n d:Int} (hd:d≠0) (h1:n.natAbs<=X) (h2:d.natAbs<=X) (hX:2*(X*X)<10000 ^ 200):Ug (((n:Int):Rat) / ((d:Int):Rat)):=by
 have h3:X<=X*X:=Nat.le_mul_self X;exact ⟨n,d,hd,rfl,aA,aA⟩
theorem Al4 {n d n' d':Int} (hd:d≠0) (dm:d'≠0) (h1:n.natAbs<=X) (h2:d.natAbs<=X) (h3:n'.natAbs<=X) (h4:d'.natAbs<=X) (hX:2*(X*X)<10000 ^ 200):Ug (((n:Int):Rat) / ((d:Int):Rat)*(((n':Int):Rat) / ((d':Int):Rat))):=by
 have k1:=Amt h1 h3;have k2:=Amt h2 h4;refine ⟨n*n',d*d',I3 hd dm,?_,?_,?_⟩
 ·rw [Cv,Cv]; exact (Js (Gh hd) (Gh dm)).symm
 ·rw [Ib]; omega
 ·rw [Ib]; omega
theorem Auj {n d n' d':Int} (hd:d≠0) (dm:d'≠0) (h1:n.natAbs<=X) (h2:d.natAbs<=X) (h3:n'.natAbs<=X) (h4:d'.natAbs<=X) (hX:2*(X*X)<10000 ^ 200):Ug (((n:Int):Rat) / ((d:Int):Rat) - ((n':Int):Rat) / ((d':Int):Rat)):=by
 have k1:=Amt h1 h4;have k2:=Amt h3 h2;have k3:=Amt h2 h4;refine ⟨n*d' - n'*d,d*d',I3 hd dm,?_,?_,?_⟩
 ·rw [iC,Cv,Cv,Cv]; exact (Q8 (Gh hd) (Gh dm)).symm
 ·have:=Int.natAbs_sub_le (n*d') (n'*d);rw [Ib,Ib] at this;omega
 ·rw [Ib]; omega
theorem Zj (hM:1<=M) (hI:Ints m N M Mc t0) (hX:2*(bndX m M Mc*bndX m M Mc)<10000 ^ 200) (h:Reach m N t0 t) {r s:Nat} (hr:r<m) (hs:s<N) (hp:t.T r s≠0):Ae9 Ug m N t r s:=by
 have hq:=h.piv hr hs hp;have e1:∀ j,(Simp.piv t r s).T r j=t.T r j / t.T r s:=fun j=>if_pos rfl;have e2:∀ i j,i≠r->(Simp.piv t r s).T i j=t.T i j - t.T i s*(t.T r j / t.T r s):=fun i j hi=>if_neg hi;have e3:∀ j,(Simp.piv t r s).c j=t.c j - t.c s*(t.T r j / t.T r s):=fun j=>rfl;obtain ⟨z0,c1,c2,c3,w,c4,c5⟩:=Kt hM hI h (j:=s) aA;refine ⟨fun j hj=>?_,fun i j hi hj=>?_,fun i j hi hj zf=>?_,fun j hj=>?_,fun j hj=>?_⟩;all_goals obtain ⟨y0,b1,b2,b3,u,b4,b5⟩:=Kt hM hI hq hj
 ·obtain ⟨y,y1,y2⟩:=b3 r hr;rw [e1] at y1;rw [y1]; exact Yq b1 y2 b2 hX
 ·obtain ⟨y,y1,y2⟩:=b3 r hr;obtain ⟨z,z1,z2⟩:=c3 i hi;rw [e1] at y1;rw [y1,z1]; exact Al4 c1 b1 z2 c2 y2 b2 hX
 ·obtain ⟨y,y1,y2⟩:=b3 i hi;rw [e2 i j zf] at y1;rw [y1]; exact Yq b1 y2 b2 hX
 ·obtain ⟨y,y1,y2⟩:=b3 r hr;rw [e1] at y1;rw [y1,c4]; exact Al4 c1 b1 c5 c2 y2 b2 hX
 ·rw [e3] at b4;rw [b4]; exact Yq b1 b5 b2 hX
theorem Vp (hM:1<=M) (hI:Ints m N M Mc t0) (hX:2*(bndX m M Mc*bndX m M Mc)<10000 ^ 200) (h:Reach m N t0 t) {c:Nat} (hc:c<N):Rq Ug m N c t:=by
 have key:∀ i,i<m->0<t.T i c->∃ y y0:Int,y0≠0/\y.natAbs<=bndX m M Mc/\y0.natAbs<=bndX m M Mc/\t.T i N / t.T i c=((y:Int):Rat) / ((y0:Int):Rat):=fun i hi hp=>by
  have hq:=h.piv hi hc aM;obtain ⟨y0,b1,b2,b3,-⟩:=Kt hM hI hq (j:=N) aA;obtain ⟨y,y1,y2⟩:=b3 i hi;have e1:(Simp.piv t i c).T i N=t.T i N / t.T i c:=if_pos rfl;exact ⟨y,y0,b1,y2,b2,by rw [<- e1,y1]⟩
 refine ⟨fun i hi hp=>?_,fun i k hi hk hp hq=>?_⟩
 ·obtain ⟨y,y0,a1,a2,a3,a4⟩:=key i hi hp;rw [a4]; exact Yq a1 a2 a3 hX
 ·obtain ⟨y,y0,a1,a2,a3,a4⟩:=key i hi hp;obtain ⟨z,z0,b1,b2,b3,b4⟩:=key k hk hq;rw [a4,b4]; exact Auj a1 b1 a2 a3 b2 b3 hX
theorem Avf (hM:1<=M) (hI:Ints m N M Mc t0) (hX:2*(bndX m M Mc*bndX m M Mc)<10000 ^ 200):Safe WW.qF gW m N L t0:=by
 refine .inr ⟨Ug,P7,fun K R h0=>?_⟩;have hr:=Reach.run R;rw [h0] at hr;exact ⟨fun c hc=>Vp hM hI hX hr (by have:=R.LN; omega),fun r s h1 h2 h3=>Zj hM hI hX hr h1 h2 h3⟩
theorem An1:Safe QQ.qF okS m N L t0:=.inl rfl
end
def N1 (u:Rat) (vars:List ByteArray):List (ByteArray × Int)->(Nat->Rat)->Nat->Rat
 | [],f=>f
 | c :: cs,f=>N1 u vars cs fun j=>if j=2*idxV vars c.1+1 then -(u*((c.2:Int):Rat)) else if j=2*idxV vars c.1 then u*((c.2:Int):Rat) else f j
theorem L6 {u:Rat} {vars:List ByteArray} {k:Nat} : ∀ {cs:List (ByteArray × Int)} {f:Nat->Rat},(∀ c ∈ cs,idxV vars c.1≠k)->N1 u vars cs f (2*k)=f (2*k)/\N1 u vars cs f (2*k+1)=f (2*k+1)
 | [],_,_=>⟨rfl,rfl⟩
 | c :: cs,f,h=>by
  have h1:=h c (Cq ..);have ih:=L6 (u:=u) (cs:=cs) (f:=fun j=>if j=2*idxV vars c.1+1 then -(u*((c.2:Int):Rat)) else if j=2*idxV vars c.1 then u*((c.2:Int):Rat) else f j) fun c' hc=>h c' (Co _ hc);rw [N1,ih.1,ih.2];exact ⟨Za5t,Za5t⟩
theorem Wy {u:Rat} {vars:List ByteArray} {c:ByteArray × Int} : ∀ {cs:List (ByteArray × Int)} {f:Nat->Rat},(cs.map fun c=>idxV vars c.1).Pairwise (·≠·)->c ∈ cs->N1 u vars cs f (2*idxV vars c.1)=u*((c.2:Int):Rat)/\N1 u vars cs f (2*idxV vars c.1+1)=-(u*((c.2:Int):Rat))
 | [],_,_,h=>aT
 | c' :: cs,f,hp,h=>by
  rw [Cn,Fz] at hp;rw [N1];rcases C6.1 h with rfl|h
  ·have:=L6 (u:=u) (vars:=vars) (k:=idxV vars c.1) (cs:=cs) (f:=fun j=>if j=2*idxV vars c.1+1 then -(u*((c.2:Int):Rat)) else if j=2*idxV vars c.1 then u*((c.2:Int):Rat) else f j) fun c' hc=>(hp.1 _ (Fg.2 ⟨c',hc,rfl⟩)).symm;rw [this.1,this.2];exact ⟨by rw [if_neg aA,if_pos rfl],by rw [if_pos rfl]⟩
  ·exact Wy hp.2 h
theorem T2 {u:Rat} {vars:List ByteArray} {j:Nat} : ∀ {cs:List (ByteArray × Int)} {f:Nat->Rat},(∀ c ∈ cs,c.1 ∈ vars)->2*vars.length<=j->N1 u vars cs f j=f j
 | [],_,_,_=>rfl
 | c :: cs,f,h,hj=>by
  have h1:=(Ma (h c (Cq ..))).2;rw [N1,T2 (fun c' hc=>h c' (Co _ hc)) hj,if_neg aA,if_neg aA]
def cofI (vars:List ByteArray):List (ByteArray × Int)->Nat->Int
 | [],_=>0
 | c :: cs,k=>if idxV vars c.1=k then c.2 else cofI vars cs k
theorem Tz {vars:List ByteArray} {k:Nat} : ∀ {cs:List (ByteArray × Int)},(∀ c ∈ cs,idxV vars c.1≠k)->cofI vars cs k=0
 | [],_=>rfl
 | c :: cs,h=>by rw [cofI,if_neg (h c (Cq ..))]; exact Tz fun c' hc=>h c' (Co _ hc)
theorem Aav {vars:List ByteArray} {c:ByteArray × Int} : ∀ {cs:List (ByteArray × Int)},(cs.map fun c=>idxV vars c.1).Pairwise (·≠·)->c ∈ cs->cofI vars cs (idxV vars c.1)=c.2
 | [],_,h=>aT
 | c' :: cs,hp,h=>by
  rw [Cn,Fz] at hp;rcases C6.1 h with rfl|h
  ·rw [cofI,if_pos rfl]
  ·rw [cofI,if_neg (hp.1 _ (Fg.2 ⟨c,h,rfl⟩))];exact Aav hp.2 h
theorem Afo {vars:List ByteArray} {k:Nat} : ∀ {cs:List (ByteArray × Int)},cofI vars cs k=0\/∃ c ∈ cs,c.2=cofI vars cs k/\idxV vars c.1=k
 | []=>.inl rfl
 | c :: cs=>by
  rw [cofI];split
  ·rename_i h; exact .inr ⟨c,Cq ..,rfl,h⟩
  ·rcases Afo (vars:=vars) (k:=k) (cs:=cs) with h|⟨c',h1,h2,h3⟩
   ·exact .inl h
   ·exact .inr ⟨c',Co _ h1,h2,h3⟩
theorem N2 {u:Rat} {vars:List ByteArray} {cs:List (ByteArray × Int)} (hp:(cs.map fun c=>idxV vars c.1).Pairwise (·≠·)) (k:Nat):N1 u vars cs (fun _=>0) (2*k)=u*((cofI vars cs k:Int):Rat)/\N1 u vars cs (fun _=>0) (2*k+1)=-(u*((cofI vars cs k:Int):Rat)):=by
 by_cases h:∃ c ∈ cs,idxV vars c.1=k
 ·obtain ⟨c,hc,rfl⟩:=h;rw [Aav hp hc];exact Wy hp hc
 ·have h':∀ c ∈ cs,idxV vars c.1≠k:=fun c hc e=>h ⟨c,hc,e⟩;rw [Tz h',(L6 h').1,(L6 h').2,Rat.intCast_zero];exact ⟨aM,aM⟩
section
variable {F:Fld} {G:Q->Prop} {fit:Rat->Prop}
theorem Ag2 {l:List Q} {i j:Nat} {x y q:Q} (hl:∀ q ∈ l,G q) (hx:G x) (hy:G y) (h:q ∈ put (put l i x) j y):G q:=by
 rcases J0 h with rfl|h
 ·exact hy
 ·rcases J0 h with rfl|h
  ·exact hx
  ·exact hl q h
theorem Aat (hE:F.Exact G) {u z:Q} {vars:List ByteArray} (hu:G u) (hz:G z) (hz0:qv z=0):∀ {cs:List (ByteArray × Int)} {row:List Q} {f:Nat->Rat},(∀ c ∈ cs,i64 c.2/\c.1 ∈ vars)->2*vars.length<=row.length->(∀ q ∈ row,G q)->(∀ j,qv (at_ q0 row j)=f j)->(coefsC F u z vars cs row).2=false ->
  (coefsC F u z vars cs row).1.length=row.length/\(∀ q ∈ (coefsC F u z vars cs row).1,G q)/\∀ j,qv (at_ q0 (coefsC F u z vars cs row).1 j)=N1 (qv u) vars cs f j
 | [],row,f,_,_,hg,hf,_=>⟨rfl,hg,hf⟩
 | c :: cs,row,f,hc,hl,hg,hf,ew=>by
  obtain ⟨hi,hm⟩:=hc c (Cq ..);have py:=(Ma hm).2;simp only [coefsC,setC,Fb] at ew;obtain ⟨⟨⟨f1,f2⟩,f3⟩,f4⟩:=ew;have w:=hE.whole c.2 hi f1;have t:=hE.times u _ hu w.1 f2;have d:=hE.minus z _ hz t.1 f3;have ih:=Aat hE hu hz hz0 (cs:=cs) (row:=put (put row (2*idxV vars c.1) (F.times u (F.whole c.2).1).1) (2*idxV vars c.1+1) (F.minus z (F.times u (F.whole c.2).1).1).1)
   (f:=fun j=>if j=2*idxV vars c.1+1 then -(qv u*((c.2:Int):Rat)) else if j=2*idxV vars c.1 then qv u*((c.2:Int):Rat) else f j)
   (fun c' h=>hc c' (Co _ h)) (by rw [Aj,Aj]; exact hl) (fun q h=>Ag2 hg t.1 d.1 h) (fun j=>by
    rw [Q0 (by rw [Aj]; omega),Q0 aA];split
    ·rw [d.2,t.2,w.2,hz0]; grind
    ·split
     ·rw [t.2,w.2]
     ·exact hf j) f4
  rw [Aj,Aj] at ih;exact ih
theorem Wx (hE:F.Exact G) (hT:F.Total G fit) {u z:Q} {vars:List ByteArray} (hu:G u) (hz:G z) (hz0:qv z=0):∀ {cs:List (ByteArray × Int)} {row:List Q},(∀ c ∈ cs,i64 c.2/\fit (qv u*((c.2:Int):Rat))/\fit (0 - qv u*((c.2:Int):Rat)))->(coefsC F u z vars cs row).2=false
 | [],_,_=>rfl
 | c :: cs,row,hc=>by
  obtain ⟨hi,h1,h2⟩:=hc c (Cq ..);have f1:=hT.whole c.2 hi;have w:=hE.whole c.2 hi f1;have f2:=hT.times u _ hu w.1 (by rw [w.2]; exact h1);have t:=hE.times u _ hu w.1 f2;have f3:=hT.minus z _ hz t.1 (by rw [t.2,w.2,hz0]; exact h2);simp only [coefsC,setC,Fb];exact ⟨⟨⟨f1,f2⟩,f3⟩,Wx hE hT hu hz hz0 fun c' h=>hc c' (Co _ h)⟩
def sgR (r:RowT):Rat:=if 0<r.2.1 then -1 else 1
def rowR (vars:List ByteArray) (real W i slack:Nat) (r:RowT) (j:Nat):Rat :=
 if j=W - 1 then -(sgR r*((r.2.1:Int):Rat)) else if j=real+i then 1 else if r.2.2=false/\j=slack then sgR r else N1 (sgR r) vars r.1 (fun _=>0) j
theorem Akg {z:Q} (hz:qv z=0) {n j:Nat} : qv (at_ q0 (Cg n z) j)=0:=by
 by_cases h:j<n
 ·have:at_ q0 (Cg n z) j=z:=by
   unfold at_;rw [Ae,List.getElem?_replicate,if_pos h]; rfl
  rw [this,hz]
 ·rw [Akf Za4a,Ai3]
theorem Ahr (hE:F.Exact G) {r:RowT} (hf:(Kc F (Dm r)).2=false):G (Kc F (Dm r)).1/\qv (Kc F (Dm r)).1=sgR r:=by
 unfold Kc Dm sgR at *;by_cases h:0<r.2.1
 ·simp only [decide_eq_true_eq,h,if_true,Fb] at hf ⊢;have:=hE.whole (-1) aD hf.2;exact ⟨this.1,this.2.trans rfl⟩
 ·simp only [decide_eq_true_eq,h,if_false] at hf ⊢;have:=hE.whole 1 aD hf;exact ⟨this.1,this.2.trans rfl⟩
theorem Aox (hT:F.Total G fit) {b:Bool} : (Kc F b).2=false:=by
 unfold Kc;split
 ·simp only [hT.whole 1 aD,hT.whole (-1) aD]; rfl
 ·exact hT.whole 1 aD
theorem Anz (hE:F.Exact G) {z:Q} {vars:List ByteArray} (hz:G z) (hz0:qv z=0) {real W i slack:Nat} {r:RowT} (hi:i64 r.2.1) (hc:∀ c ∈ r.1,i64 c.2/\c.1 ∈ vars) (hv:2*vars.length<=real) (dc:real+i<W - 1) (hs:r.2.2=false->slack<W) (hf:(rowF F z vars real W i slack r).2=false) :
  (rowF F z vars real W i slack r).1.length=W/\(∀ q ∈ (rowF F z vars real W i slack r).1,G q)/\∀ j,qv (at_ q0 (rowF F z vars real W i slack r).1 j)=rowR vars real W i slack r j:=by
 simp only [rowF,Uw,Fb] at hf;obtain ⟨⟨⟨f1,f2⟩,f3⟩,⟨f4,f5⟩,f6⟩:=hf;obtain ⟨gu,eu⟩:=Ahr hE f1;obtain ⟨a1,a2,a3⟩:=Aat hE gu hz hz0 (f:=fun _=>0) hc Za4a (fun q h=>by rw [(Iu.1 h).2]; exact hz) (fun j=>Akg hz0) f2;rw [Oy] at a1;have o:=hE.whole 1 aD f3;have w:=hE.whole _ hi f4;have t:=hE.times _ _ gu w.1 f5;have d:=hE.minus z _ hz t.1 f6;have hsl:(P2 r.2.2 (coefsC F (Kc F (Dm r)).1 z vars r.1 (Cg W z)).1 slack (Kc F (Dm r)).1).length=W/\(∀ q ∈ P2 r.2.2 (coefsC F (Kc F (Dm r)).1 z vars r.1 (Cg W z)).1 slack (Kc F (Dm r)).1,G q)/\∀ j,qv (at_ q0 (P2 r.2.2 (coefsC F (Kc F (Dm r)).1 z vars r.1 (Cg W z)).1 slack (Kc F (Dm r)).1) j)=if r.2.2=false/\j=slack then sgR r else N1 (sgR r) vars r.1 (fun _=>0) j:=by
  unfold P2;cases he:r.2.2 with
  | true =>
   rw [if_pos rfl];exact ⟨a1,a2,fun j=>by rw [if_neg (by simp),a3,eu]⟩
  | false =>
   rw [if_neg (by simp)];refine ⟨by rw [Aj]; exact a1,fun q h=>?_,fun j=>?_⟩
   ·rcases J0 h with rfl|h
    ·exact gu
    ·exact a2 q h
   ·rw [Q0 (by rw [a1]; exact hs he)];by_cases e:j=slack
    ·rw [if_pos e,if_pos ⟨rfl,e⟩,eu]
    ·rw [if_neg e,if_neg (fun h=>e h.2),a3,eu]
 obtain ⟨b1,b2,b3⟩:=hsl;refine ⟨?_,fun q h=>Ag2 b2 o.1 d.1 h,fun j=>?_⟩
 ·show (put (put _ _ _) _ _).length=W;rw [Aj,Aj]; exact b1
 ·show qv (at_ q0 (put (put _ _ _) _ _) j)=_;rw [Q0 (by rw [Aj,b1]; omega),Q0 (by rw [b1]; omega)];unfold rowR;by_cases e1:j=W - 1
  ·rw [if_pos e1,if_pos e1];show qv (F.minus z (F.times (Kc F (Dm r)).1 (F.whole r.2.1).1).1).1=_;rw [d.2,t.2,w.2,eu,hz0]; grind
  ·rw [if_neg e1,if_neg e1];by_cases e2:j=real+i
   ·rw [if_pos e2,if_pos e2,o.2]; rfl
   ·rw [if_neg e2,if_neg e2,b3]
theorem Arr (hE:F.Exact G) (hT:F.Total G fit) {z:Q} {vars:List ByteArray} (hz:G z) (hz0:qv z=0) {real W i slack:Nat} {r:RowT} (hi:i64 r.2.1) (hc:∀ c ∈ r.1,i64 c.2/\fit (sgR r*((c.2:Int):Rat))/\fit (0 - sgR r*((c.2:Int):Rat))) (hn:fit (sgR r*((r.2.1:Int):Rat))/\fit (0 - sgR r*((r.2.1:Int):Rat))):(rowF F z vars real W i slack r).2=false:=by
 have f1:=Aox hT (b:=Dm r);obtain ⟨gu,eu⟩:=Ahr hE f1;have f2:=Wx hE hT gu hz hz0 (vars:=vars) (cs:=r.1) (row:=Cg W z) (by rw [eu]; exact hc);have f3:=hT.whole 1 aD;have f4:=hT.whole _ hi;have w:=hE.whole _ hi f4;have f5:=hT.times _ _ gu w.1 (by rw [w.2,eu]; exact hn.1);have t:=hE.times _ _ gu w.1 f5;have f6:=hT.minus z _ hz t.1 (by rw [t.2,w.2,eu,hz0]; exact hn.2);simp only [rowF,Uw,Fb];exact ⟨⟨⟨f1,f2⟩,f3⟩,⟨f4,f5⟩,f6⟩
theorem Afp (hE:F.Exact G) {real W:Nat} : ∀ {c r:List Q} {k:Nat},c.length=r.length->(∀ q ∈ c,G q)->(∀ q ∈ r,G q)->(costL F real W k c r).2=false->(∀ q ∈ (costL F real W k c r).1,G q)/\∀ j,qv (at_ q0 (costL F real W k c r).1 j)=if k+j<real\/k+j=W - 1 then qv (at_ q0 c j) - qv (at_ q0 r j) else qv (at_ q0 c j)
 | [],[],_,_,_,_,_=>⟨fun q h=>aT,fun j=>by simp only [costL,Aak,Ai3]; split <;> grind⟩
 | [],_ :: _,_,h,_,_,_=>aO
 | _ :: _,[],_,h,_,_,_=>aO
 | a :: c,b :: r,k,h,hc,hr,hf=>by
  have hx:(Jw F real W k a b).2=false/\(costL F real W (k+1) c r).2=false:=by simpa [costL] using hf
  have ih:=Afp hE aI (fun q h=>hc q (Co _ h)) (fun q h=>hr q (Co _ h)) hx.2;have hs:G (Jw F real W k a b).1/\qv (Jw F real W k a b).1=if k<real\/k=W - 1 then qv a - qv b else qv a:=by
   have h1:=hx.1;unfold Jw at h1 ⊢;split
   ·rename_i hk;rw [if_pos hk] at h1;exact hE.minus a b (hc a (Cq ..)) (hr b (Cq ..)) h1
   ·exact ⟨hc a (Cq ..),rfl⟩
  refine ⟨fun q h=>?_,fun j=>?_⟩
  ·exact Ya0i
  ·cases j with
   | zero=>exact hs.2
   | succ j =>
    have:=ih.2 j;rw [show k+1+j=k+(j+1) by omega] at this;exact this
theorem Aaz (hT:F.Total G fit) {real W:Nat} : ∀ {c r:List Q} {k:Nat},(∀ q ∈ c,G q)->(∀ q ∈ r,G q)->(∀ j,fit (qv (at_ q0 c j) - qv (at_ q0 r j)))->(costL F real W k c r).2=false
 | [],_,_,_,_,_=>by simp [costL]
 | _ :: _,[],_,_,_,_=>rfl
 | a :: c,b :: r,k,hc,hr,hf=>by
  have ih:=Aaz hT (c:=c) (r:=r) (k:=k+1) (real:=real) (W:=W) (fun q h=>hc q (Co _ h)) (fun q h=>hr q (Co _ h)) fun j=>hf (j+1);have hs:(Jw F real W k a b).2=false:=by
   unfold Jw;split
   ·exact hT.minus a b (hc a (Cq ..)) (hr b (Cq ..)) (hf 0)
   ·rfl
  show ((Jw F real W k a b).2 || (costL F real W (k+1) c r).2)=false;rw [hs,ih]; rfl
end
def rowX (vars:List ByteArray) (real W:Nat) (l:List RowT) (i j:Nat):Rat :=
 match nth l i with
 | some r=>rowR vars real W i (2*vars.length+neqs (l.take i)) r j
 | none=>0
theorem Ahc {vars:List ByteArray} {real W:Nat} {l:List RowT} {r:RowT} {i j:Nat} (h:i<l.length):rowX vars real W (l++[r]) i j=rowX vars real W l i j:=by
 unfold rowX;rw [Ae,Ae,Cu h,Iy aA]
theorem Ahb {vars:List ByteArray} {real W:Nat} {l:List RowT} {r:RowT} {j:Nat} : rowX vars real W (l++[r]) l.length j=rowR vars real W l.length (2*vars.length+neqs l) r j:=by
 unfold rowX;rw [Ae,C3 (Cf _),Mg,Iy (Cf _),F2]; rfl
theorem H2:∀ {l l':List RowT},neqs (l++l')=neqs l+neqs l'
 | [],l'=>by simp [neqs]
 | r :: l,l'=>by rw [Cp,neqs,neqs,H2]; omega
theorem Akh {α:Type} {d x:α} {l:List α} {i:Nat} : at_ d (l++[x]) i=if i=l.length then x else at_ d l i:=by
 unfold at_;by_cases e:i=l.length
 ·subst e; rw [if_pos rfl,Ae,C3 (Cf _),Mg]; rfl
 ·rw [if_neg e];by_cases h:i<l.length
  ·rw [Ae,Ae,Cu h]
  ·rw [Ae,Ae,Et aC,Et aA]
structure BInv (G:Q->Prop) (vars:List ByteArray) (real W:Nat) (done:List RowT) (t:Tb):Prop where
 nr:t.rows.length=done.length
 nb:t.basis.length=done.length
 nc:t.cost.length=W
 rowW:∀ r ∈ t.rows,r.length=W
 okr:∀ r ∈ t.rows,∀ q ∈ r,G q
 okc:∀ q ∈ t.cost,G q
 vals:∀ i,i<done.length->∀ j,qv (at_ q0 (Da t i) j)=rowX vars real W done i j
 costs:∀ j,qv (at_ q0 t.cost j)=if j<real\/j=W - 1 then - Simp.sum done.length (fun i=>rowX vars real W done i j) else 0
 bas:∀ i,i<done.length->at_ 0 t.basis i=real+i
 flips:t.flip=done.map Dm
structure E7 (vars:List ByteArray) (r:RowT):Prop where
 c64:i64 r.2.1
 n64:∀ c ∈ r.1,i64 c.2
 mem:∀ c ∈ r.1,c.1 ∈ vars
 dis:(r.1.map fun c=>idxV vars c.1).Pairwise (·≠·)
section
variable {F:Fld} {G:Q->Prop} {fit:Rat->Prop} {vars:List ByteArray} {real W:Nat} {z:Q}
theorem BInv.step (hE:F.Exact G) (hz:G z) (hz0:qv z=0) {done:List RowT} {t:Tb} (h:BInv G vars real W done t) {r:RowT} (hr:E7 vars r) (hv:2*vars.length<=real) (dc:real+done.length<W - 1) (hs:r.2.2=false->2*vars.length+neqs done<real)
  (ha:(rowF F z vars real W done.length (2*vars.length+neqs done) r).2=false) (hcf:(costL F real W 0 t.cost (rowF F z vars real W done.length (2*vars.length+neqs done) r).1).2=false) (fl:Bool) :
  BInv G vars real W (done++[r]) { t with rows:=t.rows++[(rowF F z vars real W done.length (2*vars.length+neqs done) r).1],cost:=(costL F real W 0 t.cost (rowF F z vars real W done.length (2*vars.length+neqs done) r).1).1,basis:=t.basis++[real+done.length],flip:=t.flip++[Dm r],fl:=fl }:=by
 obtain ⟨a1,a2,a3⟩:=Anz hE hz hz0 hr.c64 (fun c hc=>⟨hr.n64 c hc,hr.mem c hc⟩) hv dc (fun e=>by have:=hs e; omega) ha;obtain ⟨c1,c2⟩:=Afp hE (by rw [h.nc,a1]) h.okc a2 hcf;refine ⟨by simp [h.nr],by simp [h.nb],by rw [Yi]; exact h.nc,fun q hq=>?_,fun q hq=>?_,c1,fun i hi j=>?_,fun j=>?_,fun i hi=>?_,by simp [h.flips]⟩
 ·rcases Cw.1 hq with hq|hq
  ·exact h.rowW q hq
  ·rw [F0.1 hq]; exact a1
 ·rcases Cw.1 hq with hq|hq
  ·exact h.okr q hq
  ·rw [F0.1 hq]; exact a2
 ·show qv (at_ q0 (at_ [] (t.rows++[_]) i) j)=_;rw [Akh,h.nr];by_cases e:i=done.length
  ·subst e; rw [if_pos rfl,a3,Ahb]
  ·rw [if_neg e,Ahc cH];exact h.vals i cH j
 ·rw [c2,a3,h.costs,Fo];by_cases e:j<real\/j=W - 1
  ·rw [if_pos e,if_pos e,if_pos e,Cs,gD,Simp.sum,Ahb];rw [Simp.sum_congr (g:=fun i=>rowX vars real W done i j) fun i hi=>Ahc hi];grind
  ·rw [if_neg e,if_neg e,if_neg e]
 ·rw [Akh,h.nb];by_cases e:i=done.length
  ·subst e; rw [if_pos rfl]
  ·rw [if_neg e];exact h.bas i cH
theorem Adn:∀ {l:List RowT} {i sl:Nat} {t:Tb},(begS F z vars real W l i sl t).fl=false->t.fl=false
 | [],_,_,_,h=>h
 | r :: l,i,sl,t,h=>by
  rw [begS] at h;have h1:=Adn h;simp only [Fb] at h1;exact h1.1.1
theorem Akj (hE:F.Exact G) (hz:G z) (hz0:qv z=0) (hv:2*vars.length<=real):∀ {rest done:List RowT} {t:Tb},(∀ r ∈ rest,E7 vars r)->2*vars.length+neqs (done++rest)<=real->real+(done++rest).length<W->BInv G vars real W done t->(begS F z vars real W rest done.length (2*vars.length+neqs done) t).fl=false ->
  BInv G vars real W (done++rest) (begS F z vars real W rest done.length (2*vars.length+neqs done) t)
 | [],done,t,_,_,_,h,_=>by rw [Fp]; exact h
 | r :: rest,done,t,hr,hq,hw,h,hf=>by
  rw [begS] at hf ⊢;have h1:=Adn hf;simp only [Fb] at h1;have m9:2*vars.length+neqs done+((if r.2.2=true then 0 else 1)+neqs rest)<=real:=by rw [H2,neqs] at hq; omega
  have hw':real+done.length+(rest.length+1)<W:=by simp at hw; omega
  have st:=h.step hE hz hz0 (hr r (Cq ..)) hv aA (fun e=>Za2h) h1.1.2 h1.2 ((t.fl || (rowF F z vars real W done.length (2*vars.length+neqs done) r).2) || (costL F real W 0 t.cost (rowF F z vars real W done.length (2*vars.length+neqs done) r).1).2);have e1:(if r.2.2=true then 2*vars.length+neqs done else 2*vars.length+neqs done+1)=2*vars.length+neqs (done++[r]):=by
   rw [H2,neqs,neqs]; split <;> omega
  have e2:done.length+1=(done++[r]).length:=by simp
  have e3:done++r :: rest=(done++[r])++rest:=by simp
  rw [e1,e2] at hf ⊢;rw [e3] at hq hw ⊢;exact Akj hE hz hz0 hv (fun r' h'=>hr r' (Co _ h')) hq hw st hf
structure D9 (M:Nat) (r:RowT):Prop where
 one:1<=M
 con:r.2.1.natAbs<=M
 cof:∀ c ∈ r.1,c.2.natAbs<=M
theorem J6 {M:Nat} (r:RowT) {n:Int} (h:n.natAbs<=M):(∃ w:Int,sgR r*((n:Int):Rat)=((w:Int):Rat)/\w.natAbs<=M)/\∃ w:Int,-(sgR r*((n:Int):Rat))=((w:Int):Rat)/\w.natAbs<=M:=by
 unfold sgR;split
 ·exact ⟨⟨-n,by rw [Oa]; grind,aA⟩,⟨n,aM,h⟩⟩
 ·exact ⟨⟨n,aM,h⟩,⟨-n,by rw [Oa]; grind,aA⟩⟩
theorem Aha {M i slack:Nat} {r:RowT} (hr:E7 vars r) (hs:D9 M r) (j:Nat):∃ w:Int,rowR vars real W i slack r j=((w:Int):Rat)/\w.natAbs<=M:=by
 have h1:=hs.one;unfold rowR;split
 ·exact (J6 r hs.con).2
 ·split
  ·exact ⟨1,rfl,aW⟩
  ·split
   ·obtain ⟨w,e,h⟩:=(J6 (M:=M) r (n:=1) aW).1;exact ⟨w,by rw [<- e,Rat.intCast_one]; grind,h⟩
   ·have hc:∀ k,(cofI vars r.1 k).natAbs<=M:=fun k=>by
     rcases Afo (vars:=vars) (k:=k) (cs:=r.1) with h|⟨c,h2,h3,-⟩
     ·rw [h]; simp
     ·rw [<- h3]; exact hs.cof c h2
    rcases Nat.mod_two_eq_zero_or_one j with h|h
    ·have e:j=2*(j / 2):=aA
     rw [e,(N2 hr.dis _).1];exact (J6 r (hc _)).1
    ·have e:j=2*(j / 2)+1:=aA
     rw [e,(N2 hr.dis _).2];exact (J6 r (hc _)).2
theorem Ae0 {M:Nat} {f:Nat->Rat} : ∀ {n:Nat},(∀ i,i<n->∃ w:Int,f i=((w:Int):Rat)/\w.natAbs<=M)->∃ w:Int,Simp.sum n f=((w:Int):Rat)/\w.natAbs<=n*M
 | 0,_=>⟨0,rfl,by simp⟩
 | n+1,h=>by
  obtain ⟨w,e,hw⟩:=Ae0 (n:=n) fun i hi=>h i aA;obtain ⟨u,e2,hu⟩:=h n aA;exact ⟨w+u,by rw [Simp.sum,e,e2,Ox],by rw [Oc]; omega⟩
theorem Pw {M:Nat} {l:List RowT} (hl:∀ r ∈ l,E7 vars r/\D9 M r) (i j:Nat):∃ w:Int,rowX vars real W l i j=((w:Int):Rat)/\w.natAbs<=M:=by
 unfold rowX;cases h:nth l i with
 | none=>exact ⟨0,rfl,by simp⟩
 | some r =>
  have:=hl r (Ak h);exact Aha this.1 this.2 j
theorem Afh (hE:F.Exact G) (hT:F.Total G fit) (hz:G z) (hz0:qv z=0) (hv:2*vars.length<=real) {M B:Nat} (b6:∀ w:Int,w.natAbs<=B->fit ((w:Int):Rat)):∀ {rest done:List RowT} {t:Tb},(∀ r ∈ done++rest,E7 vars r/\D9 M r)->((done++rest).length+1)*M<=B->2*vars.length+neqs (done++rest)<=real->real+(done++rest).length<W->BInv G vars real W done t->t.fl=false ->
  (begS F z vars real W rest done.length (2*vars.length+neqs done) t).fl=false
 | [],done,t,_,_,_,_,_,hf=>hf
 | r :: rest,done,t,hr,hB,hq,hw,h,hf=>by
  obtain ⟨r1,r2⟩:=hr r (by simp);have hM:M<=B:=Fe (Nat.le_mul_of_pos_left M (S9 _)) hB;have hw':real+done.length+(rest.length+1)<W:=by simp at hw; omega
  have m9:2*vars.length+neqs done+((if r.2.2=true then 0 else 1)+neqs rest)<=real:=by rw [H2,neqs] at hq; omega
  have fz:∀ n:Int,n.natAbs<=M->fit (sgR r*((n:Int):Rat))/\fit (0 - sgR r*((n:Int):Rat)):=fun n hn=>by
   obtain ⟨⟨w,e,hw⟩,u,e2,hu⟩:=J6 r hn;refine ⟨by rw [e]; exact b6 w aA,?_⟩;rw [show (0:Rat) - sgR r*((n:Int):Rat)=-(sgR r*((n:Int):Rat)) by grind,e2];exact b6 u aA
  have f1:=Arr hE hT hz hz0 (vars:=vars) (real:=real) (W:=W) (i:=done.length) (slack:=2*vars.length+neqs done) r1.c64 (fun c hc=>⟨r1.n64 c hc,fz c.2 (r2.cof c hc)⟩) (fz _ r2.con);obtain ⟨a1,a2,a3⟩:=Anz hE hz hz0 r1.c64 (fun c hc=>⟨r1.n64 c hc,r1.mem c hc⟩) hv aA (fun e=>Za2h) f1;have rt:(done.length+1)*M<=B:=Fe (E5 M (by simp)) hB;have f2:(costL F real W 0 t.cost (rowF F z vars real W done.length (2*vars.length+neqs done) r).1).2=false:=by
   refine Aaz hT h.okc a2 fun j=>?_;rw [a3,h.costs];obtain ⟨u,e2,hu⟩:=Aha (real:=real) (W:=W) (i:=done.length) (slack:=2*vars.length+neqs done) r1 r2 j;split
   ·obtain ⟨w,e,hw⟩:=Ae0 (M:=M) (n:=done.length) (f:=fun i=>rowX vars real W done i j) fun i _=>Pw (fun r b8=>hr r (by simp [b8])) i j;rw [e,e2];rw [show -((w:Int):Rat) - ((u:Int):Rat)=((-w - u:Int):Rat) by rw [iC,Oa]];refine b6 _ ?_;rw [Oc] at rt;omega
   ·rw [e2,show (0:Rat) - ((u:Int):Rat)=((-u:Int):Rat) by rw [Oa]; grind];exact b6 _ aA
  have st:=h.step hE hz hz0 r1 hv aA (fun e=>Za2h) f1 f2 ((t.fl || (rowF F z vars real W done.length (2*vars.length+neqs done) r).2) || (costL F real W 0 t.cost (rowF F z vars real W done.length (2*vars.length+neqs done) r).1).2);have e1:(if r.2.2=true then 2*vars.length+neqs done else 2*vars.length+neqs done+1)=2*vars.length+neqs (done++[r]):=by
   rw [H2,neqs,neqs]; split <;> omega
  have e2:done.length+1=(done++[r]).length:=by simp
  have e3:done++r :: rest=(done++[r])++rest:=by simp
  rw [begS,e1,e2];rw [e3] at hq hw hr hB;exact Afh hE hT hz hz0 hv b6 hr hB hq hw st (by simp only [hf,f1,f2]; rfl)
theorem Ts (hE:F.Exact G) {l:List RowT} (hr:∀ r ∈ l,E7 vars r) (hf:(Bl F l vars false).fl=false):BInv G vars (2*vars.length+neqs l) (2*vars.length+neqs l+l.length+1) l (Bl F l vars false):=by
 unfold Bl at hf ⊢;have h0:=Adn hf;simp only [I5] at h0;have w:=hE.whole 0 aD h0;refine Akj hE w.1 w.2 (O1 _ _) (rest:=l) (done:=[]) hr (by simp) (by simp) ?_ hf;exact Ya08
theorem Wr (hE:F.Exact G) (hT:F.Total G fit) {l:List RowT} {M B:Nat} (b6:∀ w:Int,w.natAbs<=B->fit ((w:Int):Rat)) (hr:∀ r ∈ l,E7 vars r/\D9 M r) (hB:(l.length+1)*M<=B):(Bl F l vars false).fl=false:=by
 have h0:=hT.whole 0 aD;have w:=hE.whole 0 aD h0;unfold Bl;refine Afh hE hT w.1 w.2 (O1 _ _) b6 (rest:=l) (done:=[]) hr hB (by simp) (by simp) ?_ (by simp only [h0]; rfl);exact Ya08
end
def linV (v:ByteArray->Rat):List (ByteArray × Int)->Rat
 | []=>0
 | c :: cs=>((c.2:Int):Rat)*v c.1+linV v cs
def valR (v:ByteArray->Rat) (r:RowT):Rat:=linV v r.1+((r.2.1:Int):Rat)
def Sat (v:ByteArray->Rat) (l:List RowT):Prop:=∀ r ∈ l,valR v r<=0/\(r.2.2=true->valR v r=0)
def rwA (l:List RowT) (i:Nat):RowT:=at_ ([],0,true) l i
def sysY (vars:List ByteArray) (l:List RowT):Simp.Sys:=⟨l.length,vars.length,fun i k=>((cofI vars (rwA l i).1 k:Int):Rat),fun i=>(((rwA l i).2.1:Int):Rat),fun i=>(rwA l i).2.2⟩
theorem Aoi {vars:List ByteArray} (v:Nat->Rat):∀ {cs:List (ByteArray × Int)},(∀ c ∈ cs,c.1 ∈ vars)->(cs.map fun c=>idxV vars c.1).Pairwise (·≠·)->(Simp.sum vars.length fun k=>((cofI vars cs k:Int):Rat)*v k)=linV (fun s=>v (idxV vars s)) cs
 | [],_,_=>by
  rw [Simp.sum_zero fun k _=>by show ((0:Int):Rat)*_=0; rw [Rat.intCast_zero]; grind]; rfl
 | c :: cs,hm,hp=>by
  have py:=(Ma (hm c (Cq ..))).2;rw [Cn,Fz] at hp;have ih:=Aoi v (fun c' h=>hm c' (Co _ h)) hp.2;have hz:cofI vars cs (idxV vars c.1)=0:=Tz fun c' h=>(hp.1 _ (Fg.2 ⟨c',h,rfl⟩)).symm;have e:∀ k,((cofI vars (c :: cs) k:Int):Rat)*v k=(if k=idxV vars c.1 then ((c.2:Int):Rat)*v k else 0)+((cofI vars cs k:Int):Rat)*v k:=fun k=>by
   rw [cofI];by_cases h:idxV vars c.1=k
   ·rw [if_pos h,if_pos h.symm,<- h,hz,Rat.intCast_zero]; grind
   ·rw [if_neg h,if_neg fun h'=>h h'.symm]; grind
  rw [Simp.sum_congr fun k _=>e k,Simp.sum_add,ih,Simp.sum_one py]; rfl
theorem Xb {v v':ByteArray->Rat} : ∀ {cs:List (ByteArray × Int)},(∀ c ∈ cs,v c.1=v' c.1)->linV v cs=linV v' cs
 | [],_=>rfl
 | c :: cs,h=>by rw [linV,linV,h c (Cq ..),Xb fun c' h'=>h c' (Co _ h')]
theorem Ajh {v v':ByteArray->Rat} {r:RowT} (h:∀ c ∈ r.1,v c.1=v' c.1):valR v r=valR v' r:=by unfold valR; rw [Xb h]
theorem Aol {vars:List ByteArray} {l:List RowT} (hr:∀ r ∈ l,E7 vars r) {i:Nat} (hi:i<l.length) (v:Nat->Rat):(sysY vars l).val v i=valR (fun s=>v (idxV vars s)) (rwA l i):=by
 have h:E7 vars (rwA l i):=hr _ (Gi (d:=([],0,true)) hi);unfold Simp.Sys.val valR;show Simp.sum vars.length _+_=_;rw [<- Aoi v h.mem h.dis]; rfl
theorem Avg {vars:List ByteArray} {l:List RowT} (hr:∀ r ∈ l,E7 vars r):(∃ v,(sysY vars l).holds v)↔∃ v,Sat v l:=by
 constructor
 ·rintro ⟨v,hv⟩;refine ⟨fun s=>v (idxV vars s),fun r h=>?_⟩;obtain ⟨i,hi⟩:=Sv h;have bh:=(Fk.1 hi).1;have hx:=hv i bh;have e:rwA l i=r:=by unfold rwA at_; rw [Ae,hi]; rfl
  rw [Aol hr bh,e] at hx;refine ⟨hx.1,fun he=>hx.2 ?_⟩;show (rwA l i).2.2=true;rw [e]; exact he
 ·rintro ⟨v,hv⟩;refine ⟨fun k=>v (at_ ⟨#[]⟩ vars k),fun i hi=>?_⟩;have hm:rwA l i ∈ l:=Gi hi;have hx:=hv _ hm;rw [Aol hr hi];have e:valR (fun s=>v (at_ ⟨#[]⟩ vars (idxV vars s))) (rwA l i)=valR v (rwA l i):=Ajh fun c hc=>by
   have:=Uq ((hr _ hm).mem c hc);unfold at_; rw [this]; rfl
  rw [e]; exact hx
structure Agree (m N:Nat) (t u:Simp.Tab):Prop where
 T:∀ i j,i<m->j<N+1->t.T i j=u.T i j
 c:∀ j,j<N+1->t.c j=u.c j
 B:∀ i,i<m->t.B i=u.B i
section
variable {m N L:Nat} {t u:Simp.Tab}
theorem Agree.dotT (h:Agree m N t u) {i:Nat} (hi:i<m) (x:Nat->Rat):Simp.dot N (t.T i) x=Simp.dot N (u.T i) x:=Simp.sum_congr fun j hj=>by rw [h.T i j hi hj]
theorem Agree.dotC (h:Agree m N t u) (x:Nat->Rat):Simp.dot N t.c x=Simp.dot N u.c x:=Simp.sum_congr fun j hj=>by rw [h.c j hj]
theorem Agree.ker (h:Agree m N t u) (x:Nat->Rat):Simp.Ker m N t x↔Simp.Ker m N u x:=by
 constructor <;> intro hk i hi
 ·rw [<- h.dotT hi]; exact hk i hi
 ·rw [h.dotT hi]; exact hk i hi
theorem Agree.fit (h:Agree m N t u) (hu:Simp.Fit m N u):Simp.Fit m N t:=by
 refine ⟨fun i hi=>by rw [h.B i hi]; exact hu.lt i hi,fun i k hi hk=>?_,fun k hk=>?_⟩
 ·rw [h.B k hk,h.T i _ hi (by have:=hu.lt k hk; omega)]; exact hu.unit i k hi hk
 ·rw [h.B k hk,h.c _ (by have:=hu.lt k hk; omega)]; exact hu.free k hk
theorem Ars {L' K:Nat} {R:Nat->Nat->Rat} {b:Nat->Rat} (Rn:Simp.Run m (L+m) L' K) (ha:Agree m (L+m) (Rn.t 0) (Simp.first m L R b)) (hL:L<=L')
  (a0a:(∀ j,j<L'->0<=(Rn.t K).c j)\/∃ s,s<L'/\(Rn.t K).c s<0/\∀ i,i<m->(Rn.t K).T i s<=0) :
  (Rn.t K).c (L+m)=0↔∃ x:Nat->Rat,(∀ j,j<L->0<=x j)/\∀ i,i<m->Simp.sum L (fun j=>R i j*x j)=b i:=by
 have hf:=Rn.fits K (Cf _);have hr:=Rn.rights K (Cf _);have hk:∀ x,Simp.Ker m (L+m) (Rn.t K) x↔Simp.Ker m (L+m) (Simp.first m L R b) x:=fun x=>(Rn.ker (Cl _) (Cf _) x).trans (ha.ker x);have hc:∀ x,Simp.Ker m (L+m) (Simp.first m L R b) x->Simp.dot (L+m) (Rn.t K).c x=Simp.dot (L+m) (Simp.first m L R b).c x:=fun x hx=>by
  rw [Rn.cost (Cl _) (Cf _) ((ha.ker x).2 hx),ha.dotC]
 refine Simp.phase hf hr hk hc ?_;rcases a0a with h|⟨s,hs,hn,hp⟩
 ·exact fun j hj=>h j aA
 ·exfalso;have hLN:=Rn.LN;obtain ⟨x,hx,hlt⟩:=Simp.least_none (L:=L+m) (f:=(Rn.t K).c) hf (Cf _) hr (fun i hi hB=>by have:=hf.lt i hi; omega) aA hn hp (fun i hi hB=>by have:=hf.lt i hi; omega) (fun _ _=>rfl) 0;have hkx:=(hk x).1 hx.sol.ker;rw [hc x hkx,Simp.first_cost hkx] at hlt;exact Ya2v
end
theorem Acd {l:List RowT} {i:Nat} (hi:i<l.length) (he:(rwA l i).2.2=false):neqs (l.take i)<neqs l:=by
 have h1:=Db (Nv (d:=([],0,true)) hi);have h2:l=l.take (i+1)++l.drop (i+1):=(I9 _ _).symm;have h3:neqs l=neqs (l.take (i+1))+neqs (l.drop (i+1)):=by rw [<- H2,<- h2]
 have om:(at_ ([],0,true) l i:RowT).2.2=false:=he;rw [h1,H2,neqs,neqs,om] at h3;simp at h3;omega
theorem Am8 {l:List RowT} {i k:Nat} (h:i<=k):neqs (l.take i)<=neqs (l.take k):=by
 have h2:l.take k=(l.take k).take i++(l.take k).drop i:=(I9 _ _).symm;rw [h2,H2,kC,Nat.min_eq_left h];omega
theorem Ara {l:List RowT} {i k:Nat} (hi:i<l.length) (hk:k<l.length) (h1:(rwA l i).2.2=false) (h2:(rwA l k).2.2=false) (h:neqs (l.take i)=neqs (l.take k)):i=k:=by
 have key:∀ i k,i<l.length->(rwA l i).2.2=false->i<k->neqs (l.take i)<neqs (l.take k):=fun i k hi he ug=>by
  have s1:=Db (Nv (d:=([],0,true)) hi);have h3:neqs (l.take (i+1))=neqs (l.take i)+1:=by
   have om:(at_ ([],0,true) l i:RowT).2.2=false:=he;rw [s1,H2,neqs,neqs,om]; simp
  have:=Am8 (l:=l) (show i+1<=k by omega);omega
 rcases Ou i k with h'|h'|h'
 ·have:=key i k hi h1 h'; omega
 ·exact h'
 ·have:=key k i hk h2 h'; omega
section
variable {vars:List ByteArray} {l:List RowT}
theorem Qu {real W i j:Nat} (hi:i<l.length):rowX vars real W l i j=rowR vars real W i (2*vars.length+neqs (l.take i)) (rwA l i) j:=by
 unfold rowX;rw [Nv (d:=([],0,true)) hi]; rfl
theorem Nf {G:Q->Prop} {t:Tb} (hr:∀ r ∈ l,E7 vars r) (h:BInv G vars (2*vars.length+neqs l) (2*vars.length+neqs l+l.length+1) l t) :
  Agree l.length (2*vars.length+neqs l+l.length) (tabV t) (Simp.first l.length (2*vars.length+neqs l) (rowX vars (2*vars.length+neqs l) (2*vars.length+neqs l+l.length+1) l) fun i=>rowX vars (2*vars.length+neqs l) (2*vars.length+neqs l+l.length+1) l i (2*vars.length+neqs l+l.length)):=by
 refine ⟨fun i j hi hj=>?_,fun j hj=>?_,fun i hi=>?_⟩
 ·show qv (at_ q0 (Da t i) j)=if j<2*vars.length+neqs l then _ else if j<2*vars.length+neqs l+l.length then (if j=2*vars.length+neqs l+i then 1 else 0) else _
  rw [h.vals i hi];split
  ·rfl
  ·rename_i h1;have ho:=hr _ (Gi (d:=([],0,true)) hi);split
   ·rename_i h2;rw [Qu hi];unfold rowR;rw [if_neg aA];split
    ·rfl
    ·rw [if_neg (fun h'=>by have:=Acd hi h'.1; omega)];exact T2 ho.mem aA
   ·have:j=2*vars.length+neqs l+l.length:=aA
    rw [this]
 ·show qv (at_ q0 t.cost j)=if j<2*vars.length+neqs l then _ else if j<2*vars.length+neqs l+l.length then 0 else _
  rw [h.costs];split
  ·split
   ·rfl
   ·rw [if_neg aA];have:j=2*vars.length+neqs l+l.length:=aA
    rw [this]
  ·rw [if_neg aA,if_pos aA]
 ·exact h.bas i hi
theorem Ak9 (hr:∀ r ∈ l,E7 vars r):Simp.Cols (sysY vars l) (2*vars.length+neqs l) (fun i=>sgR (rwA l i)) (fun i=>2*vars.length+neqs (l.take i)) (rowX vars (2*vars.length+neqs l) (2*vars.length+neqs l+l.length+1) l) fun i=>rowX vars (2*vars.length+neqs l) (2*vars.length+neqs l+l.length+1) l i (2*vars.length+neqs l+l.length):=by
 have ho:∀ i,i<l.length->E7 vars (rwA l i):=fun i hi=>hr _ (Gi (d:=([],0,true)) hi);refine ⟨fun i hi=>?_,O1 _ _,fun i k hi hk=>?_,fun i k hi hk=>?_,fun i j hi h1 h2=>?_,fun i hi he=>?_,fun i k hi hk h1 h2 h3=>?_,fun i hi=>?_⟩
 ·unfold sgR; split <;> grind
 ·have y9:k<vars.length:=hk;rw [Qu hi];unfold rowR;rw [if_neg aA,if_neg aA,if_neg (fun h'=>aA)];exact (N2 (ho i hi).dis k).1
 ·have y9:k<vars.length:=hk;rw [Qu hi];unfold rowR;rw [if_neg aA,if_neg aA,if_neg (fun h'=>aA)];exact (N2 (ho i hi).dis k).2
 ·have v7:2*vars.length<=j:=h1;rw [Qu hi];unfold rowR;rw [if_neg aA,if_neg aA];show _=if (rwA l i).2.2=false/\j=2*vars.length+neqs (l.take i) then _ else 0
  split
  ·rfl
  ·exact T2 (ho i hi).mem v7
 ·have:=Acd hi he;exact ⟨O1 _ _,aA⟩
 ·exact Ara hi hk h1 h2 aA
 ·rw [Qu hi];unfold rowR;rw [if_pos aA]; rfl
theorem Acr {i:Nat} (hi:i<l.length):0<=rowX vars (2*vars.length+neqs l) (2*vars.length+neqs l+l.length+1) l i (2*vars.length+neqs l+l.length):=by
 rw [Qu hi];unfold rowR;rw [if_pos aA];unfold sgR;split
 ·rename_i h;have:(0:Rat)<(((rwA l i).2.1:Int):Rat):=Qm.2 h;grind
 ·rename_i h;have:¬ (0:Rat)<(((rwA l i).2.1:Int):Rat):=fun h'=>h (Qm.1 h');grind
variable {F:Fld} {G:Q->Prop}
theorem BInv.tok {real W N:Nat} {t:Tb} (h:BInv G vars real W l t) (hW:W=N+1):TOk G l.length N t:=⟨h.nr,h.nb,by rw [h.nc,hW],fun r hr=>by rw [h.rowW r hr,hW],h.okr,h.okc⟩
theorem Adp:(Bl F l vars false).real=2*vars.length+neqs l:=Nx.1
theorem Akm {t:Tb} (hr:∀ r ∈ l,E7 vars r) (h:BInv G vars (2*vars.length+neqs l) (2*vars.length+neqs l+l.length+1) l t):∃ R:Simp.Run l.length (2*vars.length+neqs l+l.length) (2*vars.length+neqs l) 0,R.t 0=tabV t:=by
 have ha:=Nf hr h;exact ⟨Simp.Run.none (ha.fit (Simp.first_fit _ _ _ _)) (O1 _ _) (fun i hi=>by
  rw [ha.T i _ hi aA];show 0<=if 2*vars.length+neqs l+l.length<2*vars.length+neqs l then _ else if 2*vars.length+neqs l+l.length<2*vars.length+neqs l+l.length then _ else _
  rw [if_neg aA,if_neg aA];exact Acr hi),rfl⟩
theorem Akl (hE:F.Exact G) (hr:∀ r ∈ l,E7 vars r) (hb0:F.stop=true\/(Bl F l vars false).fl=false) (hs:Safe F G l.length (2*vars.length+neqs l+l.length) (2*vars.length+neqs l) (tabV (Bl F l vars false))) {n:Nat} (hn:(2*vars.length+neqs l+l.length) ^ l.length+1<=n) :
  ∃ b t',Hr F n (Bl F l vars false)=some (b,t')/\((F.stop=true/\t'.fl=true)\/(t'.fl=false/\TOk G l.length (2*vars.length+neqs l+l.length) t'/\∃ K,∃ R:Simp.Run l.length (2*vars.length+neqs l+l.length) (2*vars.length+neqs l) K,R.t 0=tabV (Bl F l vars false)/\R.t K=tabV t' /\
   Agree l.length (2*vars.length+neqs l+l.length) (R.t 0) (Simp.first l.length (2*vars.length+neqs l) (rowX vars (2*vars.length+neqs l) (2*vars.length+neqs l+l.length+1) l) fun i=>rowX vars (2*vars.length+neqs l) (2*vars.length+neqs l+l.length+1) l i (2*vars.length+neqs l+l.length)) /\
   ((∀ j,j<2*vars.length+neqs l->0<=(tabV t').c j)\/∃ s,s<2*vars.length+neqs l/\(tabV t').c s<0/\∀ i,i<l.length->(tabV t').T i s<=0))):=by
 cases hf:(Bl F l vars false).fl with
 | true =>
  rcases hb0 with ag|h
  ·obtain ⟨n',rfl⟩:∃ n',n=n'+1:=⟨n - 1,aA⟩;exact ⟨_,_,W0 ag hf,.inl ⟨ag,hf⟩⟩
  ·rw [hf] at h; cases h
 | false =>
  have hb:=Ts hE hr hf;obtain ⟨R,h0⟩:=Akm hr hb;obtain ⟨b,t',h1,h2⟩:=Afs hE hs n R h0 h0 (hb.tok rfl) Adp hf aA;refine ⟨b,t',h1,?_⟩;rcases h2 with h2|⟨h3,h4,K,R',h5,h6,h7,h8⟩
  ·exact .inl h2
  ·refine .inr ⟨h3,h4,K,R',h5,h6,by rw [h5]; exact Nf hr hb,?_⟩;cases b with
   | true=>exact .inl (h7 rfl)
   | false=>exact .inr (h8 rfl)
theorem T8 (hE:F.Exact G) {m N:Nat} {t:Tb} (h:TOk G m N t):Jc t=true↔(tabV t).c N=0:=by
 have g:=h.okc _ (Gi (d:=q0) (k:=N) (l:=t.cost) (by rw [h.cost]; omega));unfold Jc;rw [h.cost,iG,beq_iff_eq,P1 (hE.pos _ g)]; rfl
theorem Aiy (hE:F.Exact G) (hr:∀ r ∈ l,E7 vars r) {t':Tb} {K:Nat} (ht:TOk G l.length (2*vars.length+neqs l+l.length) t') (R:Simp.Run l.length (2*vars.length+neqs l+l.length) (2*vars.length+neqs l) K) (hK:R.t K=tabV t')
  (ha:Agree l.length (2*vars.length+neqs l+l.length) (R.t 0) (Simp.first l.length (2*vars.length+neqs l) (rowX vars (2*vars.length+neqs l) (2*vars.length+neqs l+l.length+1) l) fun i=>rowX vars (2*vars.length+neqs l) (2*vars.length+neqs l+l.length+1) l i (2*vars.length+neqs l+l.length)))
  (a0a:(∀ j,j<2*vars.length+neqs l->0<=(tabV t').c j)\/∃ s,s<2*vars.length+neqs l/\(tabV t').c s<0/\∀ i,i<l.length->(tabV t').T i s<=0):Jc t'=true↔∃ v,Sat v l:=by
 rw [T8 hE ht,<- Avg hr,<- (Ak9 hr).solve,<- hK];rw [<- hK] at a0a;exact Ars R ha (Cf _) a0a
end
theorem Anw {vars:List ByteArray} {r:RowT} (h:Az r.1 r.2.1=0) (hm:∀ c ∈ r.1,c.1 ∈ vars):E7 vars r/\D9 1000000000000 r:=by
 obtain ⟨h1,h2⟩:=Aky h;have h3:=Tw h;refine ⟨⟨aD,fun c hc=>by have:=(h2 c hc).1; unfold i64; omega,hm,?_⟩,⟨aA,h1,fun c hc=>(h2 c hc).1⟩⟩;have key:∀ (cs:List (ByteArray × Int)),IncC cs->(∀ c ∈ cs,c.1 ∈ vars)->(cs.map fun c=>idxV vars c.1).Pairwise (·≠·):=by
  intro cs;induction cs with
  | nil=>intro _ _; exact jF.nil
  | cons c cs ih =>
   intro hi hm;have hp:=Fz.1 (show (c.1 :: cs.map (·.1)).Pairwise (fun a b=>nm a<nm b) from hi);rw [Cn];refine Fz.2 ⟨fun x hx e=>?_,ih hp.2 fun c' h=>hm c' (Co _ h)⟩;obtain ⟨c',bp,rfl⟩:=Fg.1 hx;have e1:=Uq (hm c (Cq ..));have e2:=Uq (hm c' (Co _ bp));rw [e,e2] at e1;simp only [A3] at e1;have:=hp.1 c'.1 (Fg.2 ⟨c',bp,rfl⟩);rw [e1] at this;exact Ya2u
 exact key _ h3 hm
theorem Qt {l:List RowT} {vars:List ByteArray} (h:G3 l=0) (hm:∀ r ∈ l,∀ c ∈ r.1,c.1 ∈ vars):∀ r ∈ l,E7 vars r/\D9 1000000000000 r:=fun r hr=>Anw (Ho h r hr) (hm r hr)
theorem W3 {G:Q->Prop} {vars:List ByteArray} {M:Nat} {l:List RowT} {t:Tb} (hr:∀ r ∈ l,E7 vars r/\D9 M r) (h:BInv G vars (2*vars.length+neqs l) (2*vars.length+neqs l+l.length+1) l t):Ints l.length (2*vars.length+neqs l+l.length) M (l.length*M) (tabV t):=by
 refine ⟨fun i j hi hj=>?_,fun j hj=>?_⟩
 ·obtain ⟨w,e,hw⟩:=Pw (real:=2*vars.length+neqs l) (W:=2*vars.length+neqs l+l.length+1) hr i j;exact ⟨w,by rw [<- e]; exact h.vals i hi j,hw⟩
 ·show ∃ z:Int,qv (at_ q0 t.cost j)=_/\_;rw [h.costs];split
  ·obtain ⟨w,e,hw⟩:=Ae0 (M:=M) (n:=l.length) (f:=fun i=>rowX vars (2*vars.length+neqs l) (2*vars.length+neqs l+l.length+1) l i j) fun i _=>Pw hr i j;exact ⟨-w,by rw [e,Oa],aA⟩
  ·exact ⟨0,rfl,by simp⟩
theorem Akt {m M:Nat} (hm:m<=13) (hM:M=1000000000000):2*(bndX m M (m*M)*bndX m M (m*M))<10000 ^ 200:=by
 subst hM;have:∀ m,m<14->2*(bndX m 1000000000000 (m*1000000000000)*bndX m 1000000000000 (m*1000000000000))<10000 ^ 200:=aR
 exact this m aA
theorem Abh {w:Int} (h:w.natAbs<=14000000000000):Ug ((w:Int):Rat):=by
 refine ⟨w,1,aA,by rw [Rat.intCast_one]; grind,?_,?_⟩
 ·have:14000000000000<10000 ^ 200:=aR
  omega
 ·decide +kernel
theorem Acx {l:List RowT} {vars:List ByteArray} (hl:l.length<=13) (hr:∀ r ∈ l,E7 vars r/\D9 1000000000000 r):(Bl WW.qF l vars false).fl=false/\Safe WW.qF gW l.length (2*vars.length+neqs l+l.length) (2*vars.length+neqs l) (tabV (Bl WW.qF l vars false)):=by
 have hf:=Wr Gf P7 (fun w hw=>Abh hw) hr (E5 1000000000000 (show l.length+1<=14 by omega));exact ⟨hf,Avf (M:=1000000000000) (Mc:=l.length*1000000000000) aA (W3 hr (Ts Gf (fun r h=>(hr r h).1) hf)) (Akt hl rfl)⟩
structure Ahw (G:Q->Prop) (vars:List ByteArray) (l:List RowT) (t':Tb):Prop where
 fl:t'.fl=false
 ok:TOk G l.length (2*vars.length+neqs l+l.length) t'
 run:∃ K,∃ R:Simp.Run l.length (2*vars.length+neqs l+l.length) (2*vars.length+neqs l) K,R.t K=tabV t' /\
   Agree l.length (2*vars.length+neqs l+l.length) (R.t 0) (Simp.first l.length (2*vars.length+neqs l) (rowX vars (2*vars.length+neqs l) (2*vars.length+neqs l+l.length+1) l) fun i=>rowX vars (2*vars.length+neqs l) (2*vars.length+neqs l+l.length+1) l i (2*vars.length+neqs l+l.length))
 stop:(∀ j,j<2*vars.length+neqs l->0<=(tabV t').c j)\/∃ s,s<2*vars.length+neqs l/\(tabV t').c s<0/\∀ i,i<l.length->(tabV t').T i s<=0
def kMax (vars:List ByteArray) (l:List RowT):Nat:=(2*vars.length+neqs l+l.length) ^ l.length+1
theorem Ack {F:Fld} {G:Q->Prop} (hE:F.Exact G) {l:List RowT} {vars:List ByteArray} (hr:∀ r ∈ l,E7 vars r) (hb0:F.stop=true\/(Bl F l vars false).fl=false) (hs:Safe F G l.length (2*vars.length+neqs l+l.length) (2*vars.length+neqs l) (tabV (Bl F l vars false))) {K:Nat} (hK:kMax vars l<=K) :
  ∃ b t',Hr F K (Bl F l vars false)=some (b,t')/\((F.stop=true/\t'.fl=true)\/Ahw G vars l t'):=by
 obtain ⟨b,t',h1,h2⟩:=Akl hE hr hb0 hs hK;refine ⟨b,t',h1,?_⟩;rcases h2 with h2|⟨h3,h4,K',R,-,h5,h6,h7⟩
 ·exact .inl h2
 ·exact .inr ⟨h3,h4,⟨K',R,h5,h6⟩,h7⟩
theorem Ahw.feas {F:Fld} {G:Q->Prop} (hE:F.Exact G) {l:List RowT} {vars:List ByteArray} (hr:∀ r ∈ l,E7 vars r) {t':Tb} (h:Ahw G vars l t'):Jc t'=true↔∃ v,Sat v l:=by
 obtain ⟨K,R,h1,h2⟩:=h.run;exact Aiy hE hr h.ok R h1 h2 h.stop
def Ajj (F:Fld) (G:Q->Prop) (vars:List ByteArray) (l:List RowT) (a:Ans):Prop :=
 ∃ t',Ahw G vars l t'/\a.f=Jc t'/\a.pt=(if Jc t'=true then (Gg F t').1.map F.rat else [])/\a.nu=(if Jc t'=true then [] else (Hc F t').1.map F.rat)/\(F.stop=true->Jc t'=true->(Gg F t').2=false)/\(F.stop=true->Jc t'=false->(Hc F t').2=false)
theorem Xr {F:Fld} {G:Q->Prop} (hE:F.Exact G) {l:List RowT} {vars:List ByteArray} (hr:∀ r ∈ l,E7 vars r) (hb0:F.stop=true\/(Bl F l vars false).fl=false) (hs:Safe F G l.length (2*vars.length+neqs l+l.length) (2*vars.length+neqs l) (tabV (Bl F l vars false))) {K:Nat} (hK:kMax vars l<=K) :
  ∃ a ok,Ju F K l vars false=some (a,ok)/\a.least=none/\(F.stop=false->ok=true)/\(ok=true->Ajj F G vars l a):=by
 obtain ⟨b,t',h1,h2⟩:=Ack hE hr hb0 hs hK;unfold Ju;rw [h1];simp only;rcases h2 with ⟨s1,s2⟩|h2
 ·exact Ya1t
 ·rw [if_neg (by rw [h2.fl]; simp)];cases hf:Jc t' with
  | true =>
   rw [if_pos rfl];refine ⟨_,_,rfl,rfl,fun h=>eI,fun h=>⟨t',h2,hf.symm,by rw [if_pos hf],by rw [if_pos hf],fun h' _=>?_,fun _ h'=>eU⟩⟩;rw [h'] at h;simpa [h2.fl] using h
  | false =>
   rw [if_neg (by simp)];refine ⟨_,_,rfl,rfl,fun h=>eI,fun h=>⟨t',h2,hf.symm,by rw [hf]; rfl,by rw [hf]; rfl,fun _ h'=>eU,fun h' _=>?_⟩⟩;rw [h'] at h;simpa [h2.fl] using h
theorem Ap1 {l:List RowT} {vars:List ByteArray} (hl:l.length<=13) (hr:∀ r ∈ l,E7 vars r/\D9 1000000000000 r) {K:Nat} (hK:kMax vars l<=K) :
  ∃ a,askN K l vars=some a/\a.least=none/\(Ajj QQ.qF okS vars l a\/Ajj WW.qF gW vars l a):=by
 have bw:∀ r ∈ l,E7 vars r:=fun r h=>(hr r h).1;obtain ⟨a,ok,h1,h2,h3,h4⟩:=Xr Mm bw (.inl rfl) An1 hK;unfold askN;rw [h1];cases ok with
 | true=>exact ⟨a,rfl,h2,.inl (h4 rfl)⟩
 | false =>
  obtain ⟨s1,s2⟩:=Acx hl hr;obtain ⟨a',ok',k1,k2,k3,k4⟩:=Xr Gf bw (.inr s1) s2 hK;exact Ya3e
theorem Apy {l:List RowT} {vars:List ByteArray} (hr:∀ r ∈ l,E7 vars r) {a:Ans} (h:Ajj QQ.qF okS vars l a\/Ajj WW.qF gW vars l a):a.f=true↔∃ v,Sat v l:=by
 rcases h with ⟨t',h1,h2,-⟩|⟨t',h1,h2,-⟩
 ·rw [h2]; exact h1.feas Mm hr
 ·rw [h2]; exact h1.feas Gf hr
end
section
open Go Go.Proofs.Tryz
theorem Aud {l:List RowT} (hl:l.length<=13) (h0:sysE l=0):∃ b:Bool,(b=true↔∃ v,Sat v l)/\∀ S tk k,cL prog 23 [An l] S tk k=some (.tup [.bool b,.int 0],S,tk,k):=by
 obtain ⟨f1,f2,f3,f4⟩:=D8 h0;have hr:=Qt (vars:=varsF l) f4 H6;obtain ⟨a,h1,h2,h3⟩:=Ap1 hl hr (Cf _);refine ⟨a.f,Apy (fun r h=>(hr r h).1) h3,fun S tk k=>?_⟩;have:=Ro S tk k l (fun r h=>by have:=J4 (Ho f4 r h); omega) (L9 f4) _ a (fun _=>⟨h1,h2⟩);rw [h0,if_pos rfl] at this;exact this
end
section
open Go
def tS (a:Q):Bool:=smB a.1 && smB a.2
def tN (a:Q):Int:=if tS a=true then a.1 else 0
def tD (a:Q):Int:=if tS a=true then a.2 else 0
structure Tiny (a:Q):Prop where
 n:tN a=a.1
 d:tD a=a.2
 l1:a.1.natAbs<100000000
 l2:a.2.natAbs<100000000
 pos:0<a.2
def sgI (r:RowT):Int:=if -r.2.1<0 then -1 else 1
def iQ (n:Int):Q:=(n,1)
def At2:List (ByteArray × Int)->ByteArray->Int
 | [],_=>0
 | c :: cs,s=>if sEq c.1 s=true then c.2 else At2 cs s
def Axk (s:Int) (cs:List (ByteArray × Int)):List ByteArray->List Q
 | []=>[]
 | v :: vs=>iQ (s*At2 cs v) :: iQ (-s*At2 cs v) :: Axk s cs vs
def lineN (m i:Nat) (r:RowT) (k:Nat):Int:=if k=m+i then 1 else if k=i/\r.2.2=false then sgI r else 0
def lineR (vars:List ByteArray) (m i:Nat) (r:RowT):List Q:=Axk (sgI r) r.1 vars++(Ih (2*m)).map (fun k=>iQ (lineN m i r k))++[iQ (sgI r*-r.2.1)]
def Asw (vars:List ByteArray) (m:Nat):Nat->List RowT->List (List Q)
 | _,[]=>[]
 | i,r :: l=>lineR vars m i r :: Asw vars m (i+1) l
end
section
open Go
end
section
open Go
structure AptR (I:TI):Prop where
 tr:I.it≠I.ir
 tc:I.it≠I.ic
 tb:I.it≠I.ib
 rc:I.ir≠I.ic
 rb:I.ir≠I.ib
 cb:I.ic≠I.ib
 row:∀ p ∈ I.ids,p.1≠I.it/\p.1≠I.ir/\p.1≠I.ic/\p.1≠I.ib
 rows:∀ i j p q,nth I.ids i=some p->nth I.ids j=some q->i≠j->p.1≠q.1
structure RTab (S:List Ent) (I:TI) (t:Tb) (vars:List ByteArray) (m:Nat) (c:Cap):Prop where
 top:entAt S I.it I.et=some [.sref I.ir I.er 0 t.rows.length 1,.sref I.ib I.eb 0 t.rows.length 1,.sref I.ic I.ec 0 t.cost.length 4,.frz (vars.map strC) .unk,.frz (t.flip.map Dx) c,intA m]
 nids:I.ids.length=t.rows.length
 rowsE:entAt S I.ir I.er=some (I.ids.map (g8 t.cost.length 4))
 rowE:∀ i p r,nth I.ids i=some p->nth t.rows i=some r->entAt S p.1 p.2=some (flat ceW r)
 rowW:∀ r ∈ t.rows,r.length=t.cost.length
 costE:entAt S I.ic I.ec=some (flat ceW t.cost)
 basisE:entAt S I.ib I.eb=some (t.basis.map intA)
 nb:t.basis.length=t.rows.length
 ap:AptR I
 okr:∀ r ∈ t.rows,okL WW.qF r
 okc:okL WW.qF t.cost
 bigW:t.cost.length<=1000000
 bigM:t.rows.length<=1000000
 posM:0<t.rows.length
 posW:0<t.cost.length
def OutR (I:TI) (j:Nat):Prop:=j≠I.it/\j≠I.ir/\j≠I.ic/\j≠I.ib/\∀ p ∈ I.ids,j≠p.1
section
variable {S S':List Ent} {I:TI} {t:Tb} {vars:List ByteArray} {m:Nat} {c:Cap}
theorem RTab.lt (h:RTab S I t vars m c):I.it<S.length/\I.ir<S.length/\I.ic<S.length/\I.ib<S.length/\∀ p ∈ I.ids,p.1<S.length:=by
 refine ⟨Ba h.top,Ba h.rowsE,Ba h.costE,Ba h.basisE,fun p hp=>?_⟩;exact Yak
theorem RTab.out (h:RTab S I t vars m c) {j:Nat} (hj:S.length<=j):OutR I j:=by
 obtain ⟨h1,h2,h3,h4,h5⟩:=h.lt;exact ⟨aA,aA,aA,aA,fun p hp=>by have:=h5 p hp; omega⟩
theorem RTab.frame (h:RTab S I t vars m c) (hS:∀ j,j<S.length->¬ OutR I j->nth S' j=nth S j):RTab S' I t vars m c:=by
 obtain ⟨h1,h2,h3,h4,h5⟩:=h.lt;have k1:=hS I.it h1 fun h=>h.1 rfl;have k2:=hS I.ir h2 fun h=>h.2.1 rfl;have k3:=hS I.ic h3 fun h=>h.2.2.1 rfl;have k4:=hS I.ib h4 fun h=>h.2.2.2.1 rfl;have k5:∀ p ∈ I.ids,nth S' p.1=nth S p.1:=fun p hp=>hS p.1 (h5 p hp) fun h=>h.2.2.2.2 p hp rfl;exact ⟨by rw [Ac k1]; exact h.top,h.nids,by rw [Ac k2]; exact h.rowsE,fun i p r hp hr=>by rw [Ac (k5 p (Ak hp))]; exact h.rowE i p r hp hr,h.rowW,by rw [Ac k3]; exact h.costE,by rw [Ac k4]; exact h.basisE,h.nb,h.ap,h.okr,h.okc,h.bigW,h.bigM,h.posM,h.posW⟩
theorem RTab.app (h:RTab S I t vars m c) (L:List Ent):RTab (S++L) I t vars m c:=h.frame fun j hj _=>Bv hj
theorem RTab.row (h:RTab S I t vars m c) {i:Nat} {p:Nat × Nat} {r':List Q} (hp:nth I.ids i=some p) (hi:i<t.rows.length) (hl:r'.length=t.cost.length) (ho:okL WW.qF r') (hS:∀ j,j≠p.1->j<S.length->nth S' j=nth S j) (he:entAt S' p.1 p.2=some (flat ceW r')) :
  RTab S' I { t with rows:=put t.rows i r' } vars m c:=by
 obtain ⟨h1,h2,h3,h4,h5⟩:=h.lt;have jf:=h.ap.row p (Ak hp);have key:∀ j e,j≠p.1->j<S.length->entAt S' j e=entAt S j e:=fun j e a b=>Ac (hS j a b);refine ⟨?_,by rw [Aj]; exact h.nids,?_,fun j q r hq ab=>?_,fun r ab=>?_,?_,?_,Za4z,h.ap,fun r ab=>?_,h.okc,h.bigW,by rw [Aj]; exact h.bigM,by rw [Aj]; exact h.posM,h.posW⟩
 ·rw [key _ _ jf.1.symm h1,Aj]; exact h.top
 ·rw [key _ _ jf.2.1.symm h2]; exact h.rowsE
 ·rw [Li hi] at ab;by_cases e:j=i
  ·exact Ya1l
  ·rw [if_neg e] at ab;rw [key _ _ (h.ap.rows j i q p hq hp e) (h5 q (Ak hq))];exact Ya2g
 ·exact Ya1u
 ·rw [key _ _ jf.2.2.1.symm h3]; exact h.costE
 ·rw [key _ _ jf.2.2.2.symm h4]; exact h.basisE
 ·rcases Bu ab with rfl|ab
  ·exact ho
  ·exact h.okr r ab
theorem RTab.setRow (h:RTab S I t vars m c) {i:Nat} {q:Nat × Nat} {r':List Q} (hi:i<t.rows.length) (hl:r'.length=t.cost.length) (ho:okL WW.qF r') (hq:nth I.ids i=some q\/OutR I q.1) (he:entAt S q.1 q.2=some (flat ceW r')) :
  RTab (put S I.ir ⟨I.er,put (I.ids.map (g8 t.cost.length 4)) i (g8 t.cost.length 4 q)⟩) { I with ids:=put I.ids i q } { t with rows:=put t.rows i r' } vars m c:=by
 obtain ⟨h1,h2,h3,h4,h5⟩:=h.lt;have hii:i<I.ids.length:=by rw [h.nids]; exact hi
 have hqm:q.1≠I.it/\q.1≠I.ir/\q.1≠I.ic/\q.1≠I.ib:=by
  rcases hq with hq|hq
  ·exact h.ap.row q (Ak hq)
  ·exact ⟨hq.1,hq.2.1,hq.2.2.1,hq.2.2.2.1⟩
 have hqd:∀ j p,j≠i->nth I.ids j=some p->p.1≠q.1:=fun j p hj hp=>by
  rcases hq with hq|hq
  ·exact h.ap.rows j i p q hp hq hj
  ·exact (hq.2.2.2.2 p (Ak hp)).symm
 refine ⟨?_,by simp only [Aj]; exact h.nids,?_,fun j p r hp ab=>?_,fun r ab=>?_,?_,?_,by simp only [Aj]; exact h.nb,⟨h.ap.tr,h.ap.tc,h.ap.tb,h.ap.rc,h.ap.rb,h.ap.cb,fun p hp=>?_,fun a b p p' ha hb hab=>?_⟩,fun r ab=>?_,h.okc,h.bigW,by simp only [Aj]; exact h.bigM,by simp only [Aj]; exact h.posM,h.posW⟩
 ·rw [Ah h.ap.tr.symm]; simp only [Aj]; exact h.top
 ·rw [Ai h2,<- Qq]
 ·have fk:nth (put I.ids i q) j=some p:=hp;rw [Li hii] at fk;rw [Li hi] at ab;by_cases e:j=i
  ·rw [if_pos e] at fk ab;simp only [A3] at fk ab;subst fk; subst ab;rw [Ah hqm.2.1.symm]; exact he
  ·rw [if_neg e] at fk ab;rw [Ah (h.ap.row p (Ak fk)).2.1.symm]; exact h.rowE j p r fk ab
 ·exact Ya1u
 ·rw [Ah h.ap.rc]; exact h.costE
 ·rw [Ah h.ap.rb]; exact h.basisE
 ·rcases Bu hp with rfl|hp
  ·exact hqm
  ·exact h.ap.row p hp
 ·have ha':nth (put I.ids i q) a=some p:=ha;have ng:nth (put I.ids i q) b=some p':=hb;rw [Li hii] at ha' ng;by_cases e:a=i
  ·rw [if_pos e] at ha';rw [if_neg (fun e2=>hab (e.trans e2.symm))] at ng;simp only [A3] at ha';subst ha';exact (hqd b p' (fun e2=>hab (e.trans e2.symm)) ng).symm
  ·rw [if_neg e] at ha';by_cases e2:b=i
   ·rw [if_pos e2] at ng;simp only [A3] at ng;subst ng;exact hqd a p e ha'
   ·rw [if_neg e2] at ng;exact h.ap.rows a b p p' ha' ng hab
 ·rcases Bu ab with rfl|ab
  ·exact ho
  ·exact h.okr r ab
theorem RTab.setCost (h:RTab S I t vars m c) {q:Nat × Nat} {k':List Q} (hl:k'.length=t.cost.length) (ho:okL WW.qF k') (hq:q=(I.ic,I.ec)\/OutR I q.1) (he:entAt S q.1 q.2=some (flat ceW k')) :
  RTab (put S I.it ⟨I.et,[.sref I.ir I.er 0 t.rows.length 1,.sref I.ib I.eb 0 t.rows.length 1,.sref q.1 q.2 0 t.cost.length 4,.frz (vars.map strC) .unk,.frz (t.flip.map Dx) c,intA m]⟩) { I with ic:=q.1,ec:=q.2 } { t with cost:=k' } vars m c:=by
 obtain ⟨h1,h2,h3,h4,h5⟩:=h.lt;have hqm:q.1≠I.it/\I.ir≠q.1/\q.1≠I.ib/\∀ p ∈ I.ids,p.1≠q.1:=by
  rcases hq with rfl|hq
  ·exact ⟨h.ap.tc.symm,h.ap.rc,h.ap.cb,fun p hp=>(h.ap.row p hp).2.2.1⟩
  ·exact ⟨hq.1,hq.2.1.symm,hq.2.2.2.1,fun p hp=>(hq.2.2.2.2 p hp).symm⟩
 refine ⟨?_,h.nids,?_,fun j p r hp hr=>?_,fun r hr=>by rw [hl]; exact h.rowW r hr,?_,?_,h.nb,⟨h.ap.tr,hqm.1.symm,h.ap.tb,hqm.2.1,h.ap.rb,hqm.2.2.1,fun p hp=>?_,h.ap.rows⟩,h.okr,ho,by rw [hl]; exact h.bigW,h.bigM,h.posM,by rw [hl]; exact h.posW⟩
 ·rw [Ai h1,hl]
 ·rw [Ah h.ap.tr,hl]; exact h.rowsE
 ·rw [Ah (h.ap.row p (Ak hp)).1.symm]; exact h.rowE j p r hp hr
 ·rw [Ah hqm.1.symm]; exact he
 ·rw [Ah h.ap.tb]; exact h.basisE
 ·have:=h.ap.row p hp;exact ⟨this.1,this.2.1,hqm.2.2.2 p hp,this.2.2.2⟩
theorem RTab.setBasis (h:RTab S I t vars m c) {i b:Nat} : RTab (put S I.ib ⟨I.eb,(put t.basis i b).map intA⟩) I { t with basis:=put t.basis i b } vars m c:=by
 obtain ⟨h1,h2,h3,h4,h5⟩:=h.lt;refine ⟨?_,h.nids,?_,fun j p r hp hr=>?_,h.rowW,?_,Ai h4,by simp only [Aj]; exact h.nb,h.ap,h.okr,h.okc,h.bigW,h.bigM,h.posM,h.posW⟩
 ·rw [Ah h.ap.tb.symm]; exact h.top
 ·rw [Ah h.ap.rb.symm]; exact h.rowsE
 ·rw [Ah (h.ap.row p (Ak hp)).2.2.2.symm]; exact h.rowE j p r hp hr
 ·rw [Ah h.ap.cb.symm]; exact h.costE
end
end
section
open Go
end
section
open Go
end
section
open Go
end
section
open Go
end
section
open Go
def OwnL (SS:List Ent) (id e:Nat) (l:List Q):Prop:=if l=[] then SS.length=id else SS.length=id+1/\entAt SS id e=some (flat ceW l)
def As4 (S:List Ent) (id n:Nat) (l:List Q) (cs:List AV):List Ent:=if l=[] then S++[⟨n,cs⟩] else put S id ⟨n,cs⟩
section
variable {P:Program} {t:TypeId} {S:List Ent} {id e n:Nat} {l zs:List Q} {cs:List AV} {c:Cap}
theorem OwnL.put (hO:OwnL S id e l) (hz:zs≠[]):OwnL (As4 S id n l (flat ceW (l++zs))) id n (l++zs):=by
 unfold OwnL As4 at *;rw [if_neg (show l++zs≠[] by simp [hz])];by_cases hn:l=[]
 ·rw [if_pos hn] at hO ⊢;subst hO;exact ⟨by simp,B8⟩
 ·rw [if_neg hn] at hO ⊢;exact ⟨by rw [Am]; exact hO.1,Ai aA⟩
theorem OwnL.le (hO:OwnL S id e l):id<=S.length:=by unfold OwnL at hO; split at hO <;> omega
end
section
variable (S:List Ent) (tk:List Nat) (k:Nat)
structure LineC (S:List Ent) (tk:List Nat) (it et:Nat) (vars:List ByteArray) (m:Nat) (fl:List Bool) (cc:Cap) (i:Nat) (r:RowT):Prop where
 vv:it<S.length
 hcap:Be tk cc 1=true
 ew:fl.length<=1000000
 hi:i<m
 hv:vars.length<=100000
 hm:m<=100000
 hcl:r.1.length<=1048576
 hc:∀ c ∈ r.1,inB c.2=true
 hn:inB r.2.1=true
end
def shd (id e:Nat):Nat->AV
 | 0=>.frz [] .nilc
 | k+1=>.sref id e 0 (k+1) 1
structure PTab (S:List Ent) (I:TI) (R:List (List Q)) (B:List Nat) (F:List Bool) (vars:List ByteArray) (m W:Nat) (cc:Cap) (x:AV):Prop where
 top:entAt S I.it I.et=some [shd I.ir I.er R.length,shd I.ib I.eb B.length,x,.frz (vars.map strC) .unk,.frz (F.map Dx) cc,.prim (.int .i64 (m:Int))]
 nids:I.ids.length=R.length
 nb:B.length=R.length
 rowsE:R≠[]->entAt S I.ir I.er=some (I.ids.map (g8 W 4))
 basisE:R≠[]->entAt S I.ib I.eb=some (B.map intA)
 rowE:∀ i p r,nth I.ids i=some p->nth R i=some r->entAt S p.1 p.2=some (flat ceW r)
 rowW:∀ r ∈ R,r.length=W
 okr:∀ r ∈ R,okL WW.qF r
 tr:I.it≠I.ir
 tb:I.it≠I.ib
 rb:I.ir≠I.ib
 row:∀ p ∈ I.ids,p.1≠I.it/\p.1≠I.ir/\p.1≠I.ib
 lt:I.it<S.length/\∀ p ∈ I.ids,p.1<S.length
 rows:∀ i j p q,nth I.ids i=some p->nth I.ids j=some q->i≠j->p.1≠q.1
theorem U5 {α:Type} {l:List α} {x y:α} {i:Nat} (h:nth (l++[x]) i=some y):nth l i=some y\/i=l.length/\y=x:=by
 rw [Ae] at h ⊢;by_cases hi:i<l.length
 ·rw [Cu hi] at h; exact .inl h
 ·have:=(Fk.1 h).1;simp at this;have e:i=l.length:=aA
  rw [e,C3 (Cf _),Mg] at h;simp at h; exact .inr ⟨e,h.symm⟩
theorem PTab.add {S S':List Ent} {I:TI} {R:List (List Q)} {B:List Nat} {F:List Bool} {vars:List ByteArray} {m W:Nat} {cc cc':Cap} {x:AV} (h:PTab S I R B F vars m W cc x) {er eb id ep b:Nat} {f:Bool} {row:List Q}
  (ht:entAt S' I.it I.et=some [.sref I.ir er 0 (R.length+1) 1,.sref I.ib eb 0 (R.length+1) 1,x,.frz (vars.map strC) .unk,.frz ((F++[f]).map Dx) cc',.prim (.int .i64 (m:Int))])
  (hr:entAt S' I.ir er=some ((I.ids++[(id,ep)]).map (g8 W 4))) (hb:entAt S' I.ib eb=some ((B++[b]).map intA)) (b7:entAt S' id ep=some (flat ceW row)) (hW:row.length=W) (ho:okL WW.qF row) (fy:∀ p ∈ I.ids,nth S' p.1=nth S p.1) (hlen:S.length<=S'.length)
  (hid:id≠I.it/\id≠I.ir/\id≠I.ib) (jj:S.length<=id) (eg:id<S'.length) :
  PTab S' { I with er:=er,eb:=eb,ids:=I.ids++[(id,ep)] } (R++[row]) (B++[b]) (F++[f]) vars m W cc' x:=by
 have hl1:=h.lt;refine ⟨?_,by simp [h.nids],by simp [h.nb],fun _=>hr,fun _=>hb,fun i p r hp hr=>?_,fun r hr=>?_,fun r hr=>?_,h.tr,h.tb,h.rb,fun p hp=>?_,⟨by show I.it<_; omega,fun p hp=>?_⟩,fun i j p q hp hq hij=>?_⟩
 ·simp only [Cs,gD,h.nb]; exact ht
 ·rcases U5 hp with hp|⟨e1,rfl⟩
  ·have hi:i<R.length:=by rw [<- h.nids]; have:=A8 hp; exact this
   rcases U5 hr with hr|⟨e2,-⟩
   ·rw [Ac (fy p (Ak hp))]; exact h.rowE i p r hp hr
   ·omega
  ·rcases U5 hr with hr|⟨e2,rfl⟩
   ·have:=A8 hr; rw [<- h.nids] at this; omega
   ·exact b7
 ·rcases Cw.1 hr with hr|hr
  ·exact h.rowW r hr
  ·rw [F0.1 hr]; exact hW
 ·rcases Cw.1 hr with hr|hr
  ·exact h.okr r hr
  ·rw [F0.1 hr]; exact ho
 ·rcases Cw.1 hp with hp|hp
  ·exact h.row p hp
  ·rw [F0.1 hp]; exact hid
 ·rcases Cw.1 hp with hp|hp
  ·have:=hl1.2 p hp; omega
  ·rw [F0.1 hp]; exact eg
 ·rcases U5 hp with hp|⟨e1,rfl⟩ <;> rcases U5 hq with hq|⟨e2,rfl⟩
  ·exact h.rows i j p q hp hq hij
  ·have:=hl1.2 p (Ak hp); show p.1≠id; omega
  ·have:=hl1.2 q (Ak hq); show id≠q.1; omega
  ·omega
end
section
open Go
end
section
open Go
end
section
open Go
def flipB (r:RowT):Bool:=decide (sgI r<0)
structure RightL (l:List RowT) (vars:List ByteArray):Prop where
 hm:l.length<=1000
 hv:vars.length<=1000
 hcl:∀ r ∈ l,r.1.length<=1048576
 hc:∀ r ∈ l,∀ c ∈ r.1,inB c.2=true
 hn:∀ r ∈ l,inB r.2.1=true
structure RowsI (S:List Ent) (k:Nat) (l:List RowT) (vars:List ByteArray) (SS:List Ent) (tk1:List Nat) (cc:Cap) (q:Nat) (I:TI):Prop where
 hq:q<=l.length
 P:PTab SS I (Asw vars l.length 0 (l.take q)) ((Ih q).map (2*vars.length+l.length+·)) ((l.take q).map flipB) vars l.length (2*vars.length+l.length+l.length+1) cc (.frz [] .nilc)
 it:I.it=S.length
 et:I.et=k
 ir:I.ir=S.length+4
 ib:I.ib=S.length+5
 len:SS.length=S.length+1+(if q=0 then 0 else 3*q+2)
 cap:Be tk1 cc 1=true
 fr:∀ j,j<S.length->nth SS j=nth S j
 ge:∀ p ∈ I.ids,S.length<=p.1
section
variable {S S':List Ent} {I:TI} {R:List (List Q)} {B:List Nat} {F:List Bool} {vars:List ByteArray} {m W:Nat} {cc:Cap} {x:AV}
theorem PTab.frame (h:PTab S I R B F vars m W cc x) {L:Nat} (h1:I.it<L/\I.ir<L/\I.ib<L/\∀ p ∈ I.ids,p.1<L) (hl:L<=S'.length) (hS:∀ j,j<L->nth S' j=nth S j):PTab S' I R B F vars m W cc x :=
 ⟨by rw [Ac (hS _ h1.1)]; exact h.top,h.nids,h.nb,fun e=>by rw [Ac (hS _ h1.2.1)]; exact h.rowsE e,fun e=>by rw [Ac (hS _ h1.2.2.1)]; exact h.basisE e,fun i p r hp hr=>by rw [Ac (hS _ (h1.2.2.2 p (Ak hp)))]; exact h.rowE i p r hp hr,h.rowW,h.okr,h.tr,h.tb,h.rb,h.row,⟨aA,fun p hp=>by have:=h1.2.2.2 p hp; omega⟩,h.rows⟩
end
end
section
open Go
end
section
open Go
end
section
open Go Go.Proofs.Tryz
open Classical in
noncomputable def feasB (l:List RowT):Bool:=decide (sysE l=0/\∃ v,Sat v l)
open Classical in
theorem Aqo {l:List RowT} (h:sysE l≠0):feasB l=false:=by
 unfold feasB;exact decide_eq_false fun h'=>h h'.1
open Classical in
theorem Af7 {l:List RowT} (h:sysE l=0) {b:Bool} (hb:b=true↔∃ v,Sat v l):feasB l=b:=by
 refine iB.2 ?_;unfold feasB;rw [decide_eq_true_iff];exact ⟨fun h'=>hb.2 h'.2,fun h'=>⟨h,hb.1 h'⟩⟩
section
variable (S:List Ent) (tk:List Nat) (k:Nat)
theorem Jt (l:List RowT) (hl:l.length<=13) (dp:∀ r ∈ l,r.1.length<=1048576):cL prog 23 [An l] S tk k=some (.tup [.bool (feasB l),.int (sysE l)],S,tk,k):=by
 by_cases h0:sysE l=0
 ·obtain ⟨b,i1,e1⟩:=Aud hl h0;rw [e1,Af7 h0 i1,h0]
 ·have:=Qx S tk k l dp ⟨false,[],[],none⟩ fun h=>absurd h h0;rw [if_neg h0] at this;rw [this,Aqo h0]
end
noncomputable def infB (l:List RowT):Bool:=(sysE l == 0) && !feasB l
open Classical in
theorem Amj {l:List RowT} : infB l=true↔sysE l=0/\¬ ∃ v,Sat v l:=by
 unfold infB;rw [Ci,beq_iff_eq,Gb];constructor
 ·rintro ⟨h1,h2⟩;refine ⟨h1,fun h3=>?_⟩;unfold feasB at h2;exact of_decide_eq_false h2 ⟨h1,h3⟩
 ·rintro ⟨h1,h2⟩;refine ⟨h1,?_⟩;unfold feasB;exact decide_eq_false fun h3=>h2 h3.2
end
section
open Go Go.Proofs.Tryz
theorem Yx {n:Int} (h:inB n=true):i64 n:=by rw [D5] at h; unfold i64; omega
section
variable (S:List Ent) (tk:List Nat) (k:Nat)
theorem Lj (n:Int):cL prog 58 [.int n] S tk k=some (.bool (inB n),S,tk,k):=by
 refine opP func58 ntmps58 ?_;simp (maxSteps:=10^6)+contextual(disch:=try exact dqd)only[ev1,simprocAttr,Cc,Ca,Cd,results58];unfold inB;exact ⟨fun h=>dE,fun h=>dE⟩
theorem U7 (n:Int) (ok:Bool):cL prog 104 [.int n,.bool ok] S tk k=some (.tup [.int (chk ok n).1,.bool (chk ok n).2],S,tk,k):=by
 refine opP func104 ntmps104 ?_;simp (maxSteps:=10^6)+contextual(disch:=try exact dqd)only[ev1,simprocAttr,Cc,Ca,Cd,results104,Lj];simp +contextual [chk]
theorem X8 {a b:Int} (ha:inB a=true) (hb:inB b=true):Ce.wrap (a+b)=a+b:=by
 rw [D5] at ha hb; exact Aa aD
theorem Anc (a b:Int):cL prog 67 [.int a,.int b] S tk k=some (.tup [.int (addS a b).1,.bool (addS a b).2],S,tk,k):=by
 refine opP func67 ntmps67 ?_;simp (maxSteps:=10^6)+contextual(disch:=try exact dqd)only[ev1,simprocAttr,Cc,Ca,Cd,results67,Lj,U7,X8];simp +contextual [addS,chk]
theorem Aek (n:Int) (h:i64 n):cL prog 103 [.int n] S tk k=some (.int (absS n),S,tk,k):=by
 refine opP func103 ntmps103 ?_;simp (maxSteps:=10^6)+contextual(disch:=try exact dqd)only[ev1,simprocAttr,Cc,Ca,Cd,results103];simp only [IntKind.wrap_i64,absS,AV.prim.injEq,iH.injEq,A3,true_and,decide_eq_true_eq,decide_eq_false_iff_not];unfold i64 at h;refine ⟨fun h1=>?_,fun h1=>⟨fun h2=>?_,fun h2=>?_⟩⟩ <;> (split <;> try split) <;> omega
theorem Arc {n:Int} (h:inB n=true):cL prog 103 [.int n] S tk k=some (.int n.natAbs,S,tk,k):=by rw [Aek S tk k n (Yx h),M7 h]
theorem Aq8 {a b:Int} (ha:inB a=true) (hb:inB b=true) (h0:¬ a=0) (v:Int) (hv:v=(a.natAbs:Int)) :
  (decide ((b.natAbs:Int) > Ce.wrap (Int.tdiv 1000000000000 v))=false->Ce.wrap (a*b)=a*b/\inB (a*b)=true)/\(decide ((b.natAbs:Int) > Ce.wrap (Int.tdiv 1000000000000 v))=true->inB (a*b)=false):=by
 subst hv;have hp:0<(a.natAbs:Int):=aA
 have e:Int.tdiv 1000000000000 (a.natAbs:Int)=1000000000000 / (a.natAbs:Int):=C8 aA;have h1:0<=1000000000000 / (a.natAbs:Int):=Int.ediv_nonneg aA aA;have h2:1000000000000 / (a.natAbs:Int)<=1000000000000:=Int.ediv_le_self _ aA;rw [e,Aa aD];rcases Aq9 a b h0 with ⟨h3,h4,h5,h6⟩|⟨h3,h4⟩
 ·exact ⟨fun _=>⟨Aa aD,h6⟩,fun h=>Za27⟩
 ·exact ⟨fun h=>Za27,fun _=>h4⟩
theorem U6 (a b:Int):cL prog 66 [.int a,.int b] S tk k=some (.tup [.int (mulS a b).1,.bool (mulS a b).2],S,tk,k):=by
 refine opP func66 ntmps66 ?_;simp (maxSteps:=10^6)+contextual(disch:=try exact dqd)only[ev1,simprocAttr,Cc,Ca,Cd,results66,Lj,U7,Arc];refine ⟨fun ha=>⟨fun hb=>⟨fun h0=>?_,fun h0=>⟨fun h1=>?_,fun h1=>?_⟩⟩,fun hb=>?_⟩,fun ha=>?_⟩
 ·simp at h0; subst h0; simp [mulS,chk,hb]; decide
 ·simp at h1; subst h1; simp [mulS,chk,ha]; decide
 ·have h0':¬ a=0:=aX
  obtain ⟨c1,c2⟩:=Aq8 ha hb h0' _ rfl;refine ⟨aA,fun h=>?_,fun h=>?_⟩
  ·simp [mulS,chk,ha,hb,c2 h]
  ·simp [mulS,chk,ha,hb,(c1 h).1,(c1 h).2]
 ·simp [mulS,chk,hb]
 ·simp [mulS,chk,ha]
end
section
variable (S:List Ent) (tk:List Nat) (k:Nat)
theorem Aj5 {n:Int} (h:i64 n):0<=absS n/\i64 (absS n):=by
 unfold absS; unfold i64 at *;exact Ya30
theorem Al8 (x y:Int):Int.gcd y (x % y)=Int.gcd x y:=by
 rw [Int.emod_def,Int.sub_eq_add_neg,<- Int.mul_neg,Int.gcd_add_mul_left_right,Int.gcd_comm]
theorem lit16 {T:List AV} (h:T.length=16):∃ t0 t1 t2 t3 t4 t5 t6 t7 t8 t9 t10 t11 t12 t13 t14 t15,T=[t0,t1,t2,t3,t4,t5,t6,t7,t8,t9,t10,t11,t12,t13,t14,t15]:=by
 match T,h with
 | [t0,t1,t2,t3,t4,t5,t6,t7,t8,t9,t10,t11,t12,t13,t14,t15],_=>exact ⟨t0,t1,t2,t3,t4,t5,t6,t7,t8,t9,t10,t11,t12,t13,t14,t15,rfl⟩
theorem Au1 (a b:Int) (ha:i64 a) (hb:i64 b):cL prog 99 [.int a,.int b] S tk k=some (.int (gcdS a b),S,tk,k):=by
 refine opP func99 ntmps99 ?_;have h1:=Aek (h:=ha);have h2:=Aek (h:=hb);simp (maxSteps:=10^6)+contextual(disch:=try exact dqd)only[ev1,simprocAttr,Cc,Ca,Cd,results99,h1,h2];refine loop1 (P:=prog) (fun x st=>st.T.length=16/\getT st.T 0=.int x.1/\getT st.T 1=.int x.2/\st.S=[]/\0<=x.1/\0<=x.2) (fun x=>x.2.toNat) (fun x=>.int (Int.gcd x.1 x.2)) (absS a,absS b) ?_ ?_;case refine_2=>exact ⟨rfl,rfl,rfl,rfl,(Aj5 ha).1,(Aj5 hb).1⟩
 rintro ⟨x,y⟩ ⟨T,S',tk',n'⟩ ⟨hl,e0,e1,rfl,hx,hy⟩ IH;obtain ⟨t0,t1,t2,t3,t4,t5,t6,t7,t8,t9,t10,t11,t12,t13,t14,t15,rfl⟩:=lit16 hl;simp only [getT] at e0 e1;subst e0 e1;clear hl;simp (maxSteps:=10^6)+contextual(disch:=try exact dqd)only[ev1,simprocAttr,Cc,Ca,Cd,results99];refine ⟨fun h=>⟨aI,?_⟩,fun h=>?_⟩
 ·have h0:y≠0:=aI
  simp only at hx hy;have e:x.tmod y=x % y:=Ic hx;have e1:=Int.emod_nonneg x h0;have e2:=Int.emod_lt_of_pos x (show 0<y by omega);rw [IH (y,x.tmod y) _ aV ⟨rfl,rfl,rfl,rfl,hy,aV⟩];simp only [e];rw [Al8]
 ·have h0:y=0:=aI
  subst h0;simp only at hx;simp; omega
theorem V4 {a b:Int} (hb:0<b):(a.tmod b=0/\a.tdiv b=a / b)\/(0<a.tmod b/\a.tdiv b=a / b)\/(a.tmod b<0/\a.tdiv b - 1=a / b):=by
 have e1:=@Int.tmod_eq_emod a b;have e2:=@Int.tdiv_eq_ediv a b;have h1:=Int.emod_nonneg a (show b≠0 by omega);have h2:=Int.emod_lt_of_pos a hb;have hs:b.sign=1:=Int.sign_eq_one_of_pos hb;by_cases hd:0<=a\/b ∣ a
 ·rw [if_pos hd] at e1 e2;rcases Int.lt_or_le 0 (a.tmod b) with h|h
  ·exact .inr (.inl ⟨h,aA⟩)
  ·exact .inl ⟨aA,aA⟩
 ·rw [if_neg hd] at e1 e2;exact .inr (.inr ⟨aA,aA⟩)
theorem Qy {a b:Int} (a0 : -1000000000000<=a) (a1:a<=1000000000000) : -1000000000000<=a.tdiv b/\a.tdiv b<=1000000000000:=by
 have:=jM a b;have h2:(a.tdiv b).natAbs<=a.natAbs:=by rw [this]; exact Ob _ _
 omega
theorem Aqg {a b:Int} (ha:inB a=true) (hb:0<b):Ce.wrap (a.tdiv b)=a.tdiv b/\Ce.wrap (a.tdiv b - 1)=a.tdiv b - 1/\(divS a b).1=(if inB b then a / b else 0)/\(divS a b).2=inB b:=by
 rw [D5] at ha;have:=Qy ha.1 ha.2 (b:=b);refine ⟨Aa aD,Aa aD,?_,?_⟩
 ·unfold divS;rw [D5.2 ha,Int.fdiv_eq_ediv_of_nonneg a aA];have:(b == 0)=false:=aC
  rw [this]; cases inB b <;> simp
 ·unfold divS;rw [D5.2 ha];have:(b == 0)=false:=aC
  rw [this]; cases inB b <;> simp
theorem Aiv (a b:Int) (ha:inB a=true) (hb:0<b) (ng:inB b=true):cL prog 100 [.int a,.int b] S tk k=some (.tup [.int (a / b),.int (a % b),.bool true],S,tk,k):=by
 refine opP func100 ntmps100 ?_;simp (maxSteps:=10^6)+contextual(disch:=try exact dqd)only[ev1,simprocAttr,Cc,Ca,Cd,results100,Lj,ha,ng];obtain ⟨w1,w2,-,-⟩:=Aqg ha hb;have hm:=Int.tmod_def a b;have he:=Int.emod_def a b;have rt:a.tmod b<b/\-b<a.tmod b:=⟨Int.tmod_lt_of_pos a hb,by have:=Int.lt_tmod_of_pos a hb; omega⟩;have hb2:=ng;rw [D5] at ha hb2;rw [w1,w2,Aa (n:=a.tmod b+b) aD];refine ⟨fun h=>by simp at h; omega,fun _=>⟨aA,aA,fun h1=>⟨fun h2=>?_,fun h2=>?_⟩,fun h1=>?_⟩⟩
 ·have h2':a.tmod b<0↔b<0:=bT
  rcases V4 (a:=a) hb with ⟨c1,c2⟩|⟨c1,c2⟩|⟨c1,c2⟩
  ·exact Ya3f
  ·exact Ya3f
  ·omega
 ·have h2':¬ (a.tmod b<0↔b<0):=bT
  have v7:a.tmod b≠0:=aW
  rcases V4 (a:=a) hb with ⟨c1,c2⟩|⟨c1,c2⟩|⟨c1,c2⟩
  ·omega
  ·omega
  ·rw [<- c2] at he ⊢;rw [Sz] at he;exact ⟨rfl,aA⟩
 ·have v7:a.tmod b=0:=aW
  rcases V4 (a:=a) hb with ⟨c1,c2⟩|⟨c1,c2⟩|⟨c1,c2⟩
  ·exact Ya3f
  ·omega
  ·omega
theorem Au0 (a b:Int) (ha:inB a=true) (hb:0<b) (ng:inB b=true):cL prog 62 [.int a,.int b] S tk k=some (.tup [.int (a / b),.bool true],S,tk,k):=by
 refine opP func62 ntmps62 ?_;have h S tk k:=Aiv S tk k a b ha hb ng;simp (maxSteps:=10^6)+contextual(disch:=try exact dqd)only[ev1,simprocAttr,Cc,Ca,Cd,results62,h]
end
section
variable (S:List Ent) (tk:List Nat) (k:Nat)
theorem Jy (b:Bool):cL prog 60 [.bool b] S tk k=some (if b=true then rowA [] 0 false else rowA [] 1 false,S,tk,k):=by
 cases b <;> simp only [if_true,if_false,C5]
 ·exact Ya0w
 ·exact Ya0w
def gcdL:Int->List (ByteArray × Int)->Int
 | g,[]=>g
 | g,c :: r=>gcdL (gcdS g c.2) r
theorem Yw {a b:Int} (ha:inB a=true) (hb:inB b=true) (h:b≠0):inB (gcdS a b)=true:=by
 unfold gcdS;rw [M7 ha,M7 hb,D5];rw [D5] at hb;have h1:Int.gcd (a.natAbs:Int) (b.natAbs:Int)<=b.natAbs:=Sy _ aA;omega
theorem Wh (cs:List (ByteArray × Int)) (n g:Int) (hlen:cs.length<=1048576) (hb:∀ c ∈ cs,inB c.2=true/\c.2≠0) (hg:inB g=true):cL prog 61 [linA cs n,.int g] S tk k=some (.int (gcdL g cs),S,tk,k):=by
 refine opP func61 ntmps61 ?_;simp (maxSteps:=10^6)+contextual(disch:=try exact dqd)only[ev1,simprocAttr,Cc,Ca,Cd,results61,linA,Ag];refine loop1 (P:=prog) (fun x st=>st.T.length=20/\x.1<=cs.length/\inB x.2=true/\getT st.T 1=.int x.2/\getT st.T 8=Ag cs/\getT st.T 9=.int cs.length/\getT st.T 10=.int (x.1:Nat)/\st.S=[⟨0,[Ag cs,.int n]⟩]) (fun x=>cs.length - x.1) (fun x=>.int (gcdL x.2 (cs.drop x.1))) (0,g) ?_ ?_;case refine_2=>exact ⟨rfl,Cl _,hg,rfl,rfl,rfl,rfl,rfl⟩
 rintro ⟨i,y⟩ ⟨T,S',tk',n'⟩ ⟨hl,hi,hy,e1,e8,e9,e10,rfl⟩ IH;obtain ⟨t,ht,hT⟩:=Ao hl;rw [ht] at e1 e8 e9 e10;subst hT;clear ht hl;simp only at hi hy e1 e10;by_cases hlt:i<cs.length
 ·have d1:decide ((i:Int)<(cs.length:Int))=true:=aH
  obtain ⟨c,hc⟩:=Ab hlt;have bp:nth (cs.map coefC) i=some (coefC c):=dI
  have hw:=Ar (i:=i) aA;have hcm:c ∈ cs:=Za2u
  have hG S tk k:=Au1 S tk k y c.2 (Yx hy) (Yx (hb c hcm).1);rw [Au hc];simp (maxSteps:=10^6)+contextual(disch:=try exact dqd)only[ev1,simprocAttr,Cc,Ca,Cd,results61,e1,e8,e9,e10,d1,Ag,bp,hw,coefC,hG];rw [IH (i+1,gcdS y c.2) _ aV ⟨rfl,hlt,?_,rfl,rfl,rfl,rfl,rfl⟩]
  ·simp [gcdL]
  ·exact Yw hy (hb c hcm).1 (hb c hcm).2
 ·have d1:decide ((i:Int)<(cs.length:Int))=false:=aH
  have he:i=cs.length:=aA
  simp (maxSteps:=10^6)+contextual(disch:=try exact dqd)only[ev1,simprocAttr,Cc,Ca,Cd,results61,e1,e8,e9,e10,d1,Ag];rw [he,C9]; rfl
theorem Aht (cs:List (ByteArray × Int)) (hlen:cs.length<=1048576):cL prog 98 [Ag cs] S tk k=some (Ag cs,S,tk,k):=by
 have hr cs:=D2 (f:=coefC) (sz:=2) (fun _=>rfl) cs;cases cs with
 | nil =>
  refine La func98 rfl rfl aR aR ntmps98 rfl rfl _ _ _ ?_ ?_ <;> rw [Apc]
  ·exact Ya1h
  ·exact Ya1h
 | cons c cs =>
  refine Kk func98 rfl rfl aR aR ntmps98 rfl rfl _ _ _ rfl ?_; rw [Apc];have b8:=hr (c :: cs);simp only [Cn] at b8;have hl:([]:List (List AV)).length+(coefC c :: cs.map coefC).length<=1048576:=by simp at hlen ⊢; omega
  simp (maxSteps:=10^6)+contextual(disch:=try exact dqd)only[ev1,simprocAttr,Cc,Ca,Cd,results98,Mh,Ag,b8]
theorem Y1 (cs:List (ByteArray × Int)) (n:Int) (hlen:cs.length<=1048576):cL prog 59 [linA cs n] S tk k=some (linA cs n,S,tk,k):=by
 refine opP func59 ntmps59 ?_;have hC S tk k:=Aht S tk k cs hlen;simp only [Ag] at hC;simp (maxSteps:=10^6)+contextual(disch:=try exact dqd)only[ev1,simprocAttr,Cc,Ca,Cd,results59,linA,Ag,hC]
def divC (g:Int) (c:ByteArray × Int):ByteArray × Int:=(c.1,c.2.tdiv g)
theorem Ao4 {a b:Int} (ha:inB a=true):Ce.wrap (a.tdiv b)=a.tdiv b:=by
 rw [D5] at ha;have:=Qy ha.1 ha.2 (b:=b);exact Aa aD
theorem P3 {α:Type} : ∀ {l:List α} {i:Nat} {x:α},nth l i=some x->l.take (i+1)=l.take i++[x]
 | y :: l,0,x,h=>dA
 | y :: l,i+1,x,h=>by simp only [F9,Cp,P3 (l:=l) (i:=i) h]
 | [],_,_,h=>bP
theorem Ah8 (g:Int) (c:ByteArray × Int) (id ep:Nat) (h:entAt S id ep=some [.int g]) (hg:g≠0) (hc:inB c.2=true):cL prog 102 [.agg (coefC c),.ref id ep 0] S tk k=some (.tup [.agg (coefC (divC g c)),.bool true],S,tk,k+2):=by
 refine opS func102 ntmps102 ?_;have hg':(g == 0)=false:=by simpa using hg
 simp (maxSteps:=10^6)+contextual(disch:=try exact dqd)only[evs1,simprocAttr,Cc,Ca,Cd,results102,coefC,h,hg'];exact ⟨hg,by rw [Ao4 hc]; rfl⟩
theorem Aa8 (g:Int) (cs:List (ByteArray × Int)) (id ep:Nat) (hlen:cs.length<=1048576) (h:entAt S id ep=some [.int g]) (hg:g≠0) (hb:∀ c ∈ cs,inB c.2=true) :
  cL prog 101 [Ag cs,.fn 102 [.ref id ep 0]] S tk k=some (.tup [.frz ((cs.map (divC g)).map coefC) (M9 2 cs.length (.nilc,tk)).1,.bool true],S,(M9 2 cs.length (.nilc,tk)).2,k+4*cs.length):=by
 refine opS func101 ntmps101 ?_;simp (maxSteps:=10^6)+contextual(disch:=try exact dqd)only[evs1,simprocAttr,Cc,Ca,Cd,results101,Ag];refine Pj (P:=prog) (fun x st=>st.T.length=31/\x.1<=cs.length/\Be x.2.1.2 x.2.1.1 2=true/\getT st.T 1=.fn 102 [.ref id ep 0]/\getT st.T 6=.frz (((cs.take x.1).map (divC g)).map coefC) x.2.1.1/\getT st.T 11=Ag cs/\getT st.T 12=.int cs.length/\getT st.T 13=.int (x.1:Nat)/\st.S=S/\st.tk=x.2.1.2/\st.n=x.2.2) (fun x=>cs.length - x.1)
  (fun x=>(.tup [.frz ((cs.map (divC g)).map coefC) (M9 2 (cs.length - x.1) x.2.1).1,.bool true],S,(M9 2 (cs.length - x.1) x.2.1).2,x.2.2+4*(cs.length - x.1))) (0,(.nilc,tk),k) ?_ ?_
 case refine_2=>exact ⟨rfl,Cl _,rfl,rfl,rfl,rfl,rfl,rfl,rfl,rfl,rfl⟩
 rintro ⟨i,⟨c,tk1⟩,m⟩ ⟨T,S',tk',n'⟩ ⟨hl,hi,ae,e1,e6,e11,e12,e13,eS,eT,eN⟩ IH;simp only at eS eT eN ae e6 e13 hi;subst eS eT eN;obtain ⟨t,ht,hT⟩:=Ao hl;rw [ht] at e1 e6 e11 e12 e13;subst hT;clear ht hl;by_cases hlt:i<cs.length
 ·have d1:decide ((i:Int)<(cs.length:Int))=true:=aH
  obtain ⟨x,hc⟩:=Ab hlt;have bp:nth (cs.map coefC) i=some (coefC x):=dI
  have hw:=Ar (i:=i) aA;have hcm:x ∈ cs:=Za2u
  have hf e tk k:=Ah8 (S'++[e]) tk k g x id ep (J5 h) hg (hb x hcm);have hr:=D2 (f:=coefC) (sz:=2) (fun _=>rfl) ((cs.take i).map (divC g));have hn:(((cs.take i).map (divC g)).map coefC).length+1<=1048576:=aC
  simp only [coefC] at hf bp;simp (maxSteps:=10^6)+contextual(disch:=try exact dqd)only[evs1,simprocAttr,Cc,Ca,Cd,results101,e1,e6,e11,e12,e13,d1,Ag,bp,hw,hf,coefC];rw [IH (i+1,(A4 tk' c 2,Gj tk' c),n'+4) _ aV ⟨rfl,hlt,Bw ae,rfl,?_,rfl,rfl,rfl,rfl,rfl,rfl⟩]
  ·have e:cs.length - i=(cs.length - (i+1))+1:=aA
   simp only [e,M9];congr 4; omega
  ·simp only [getT,P3 hc,F6,Cn,Ct,coefC,divC]
 ·have d1:decide ((i:Int)<(cs.length:Int))=false:=aH
  have he:i=cs.length:=aA
  simp (maxSteps:=10^6)+contextual(disch:=try exact dqd)only[evs1,simprocAttr,Cc,Ca,Cd,results101,e1,e6,e11,e12,e13,d1,Ag];rw [he]; simp [M9,F2]
theorem Wg (g:Int) (cs:List (ByteArray × Int)) (hlen:cs.length<=1048576) (hg:g≠0) (hb:∀ c ∈ cs,inB c.2=true):cL prog 63 [Ag cs,.int g] S tk k=some (Ag (cs.map (divC g)),S,tk,k):=by
 refine opP func63 ntmps63 ?_;have hE tk k:=Aa8 [⟨0,[.int g]⟩] tk k g cs 0 0 hlen rfl hg hb;simp only [Ag] at hE;simp (maxSteps:=10^6)+contextual(disch:=try exact dqd)only[ev1,simprocAttr,Cc,Ca,Cd,results63,Ag,hE,G5]
end
theorem Ww {n:Int} : ∀ {p:Option ByteArray} {cs:List (ByteArray × Int)},Bn n p cs=0->(∀ c ∈ cs,inB c.2=true/\c.2≠0)/\inB n=true
 | p,[],h=>by
  simp only [Bn] at h;refine ⟨by simp,?_⟩;cases hn:inB n with
  | true=>rfl
  | false=>rw [hn] at h; simp at h
 | p,c :: cs,h=>by
  simp only [Bn] at h;split at h
  ·simp at h
  ·split at h
   ·simp at h
   ·rename_i h1;split at h
    ·simp at h
    ·obtain ⟨g1,g2⟩:=Ww h;refine ⟨fun d hd=>?_,g2⟩;rcases C6.1 hd with rfl|hd
     ·simp at h1; exact ⟨h1.2,h1.1⟩
     ·exact g1 d hd
theorem Hj {cs:List (ByteArray × Int)} {n:Int} (h:Az cs n=0):(∀ c ∈ cs,inB c.2=true/\c.2≠0)/\inB n=true/\cs.length<=24:=by
 unfold Az at h;split at h
 ·simp at h
 ·obtain ⟨h1,h2⟩:=Ww h;exact ⟨h1,h2,aA⟩
theorem Al6:∀ {cs:List (ByteArray × Int)} {g:Int},(∀ c ∈ cs,inB c.2=true/\c.2≠0)->inB g=true->inB (gcdL g cs)=true
 | [],g,_,hg=>hg
 | c :: cs,g,h,hg=>Al6 (cs:=cs) (fun d hd=>h d (by simp [hd])) (Yw hg (h c (by simp)).1 (h c (by simp)).2)
theorem Yv:∀ {cs:List (ByteArray × Int)} {g:Int},(∀ c ∈ cs,inB c.2=true/\c.2≠0)->inB g=true->0<=g->(0<g\/cs≠[])->0<gcdL g cs
 | [],g,_,_,_,h=>by rcases h with h|h; exact h; simp at h
 | c :: cs,g,h,hg,h0,_=>by
  have hc:=h c (by simp);have hp:0<gcdS g c.2:=by
   unfold gcdS;rw [M7 hg,M7 hc.1];have:0<Int.gcd (g.natAbs:Int) (c.2.natAbs:Int):=I6 _ (by have:=hc.2; omega);omega
  exact Yv (cs:=cs) (fun d hd=>h d (by simp [hd])) (Yw hg hc.1 hc.2) aA (.inl hp)
def Gp (cs:List (ByteArray × Int)) (n:Int) (eq:Bool):List (ByteArray × Int) × Int × Bool :=
 if Az cs n=0 then
  if cs=[] then (if (n == 0 || (!eq && decide (n<0)))=true then ([],0,false) else ([],1,false))
  else if (eq && !(n.tmod (gcdL 0 cs) == 0))=true then ([],1,false)
  else (cs.map (divC (gcdL 0 cs)),-((-n) / gcdL 0 cs),eq)
 else (cs,n,eq)
section
variable (S:List Ent) (tk:List Nat) (k:Nat)
theorem Ab4 (cs:List (ByteArray × Int)) (n:Int) (eq:Bool) (hlen:cs.length<=1048576):cL prog 29 [rowA cs n eq] S tk k=some (rowA (Gp cs n eq).1 (Gp cs n eq).2.1 (Gp cs n eq).2.2,S,tk,k):=by
 have hC S tk k:=Ed S tk k cs n hlen;have tu S tk k:=Y1 S tk k cs n hlen;simp only [linA,Ag] at hC tu;by_cases h0:Az cs n=0
 ·have d0:(Az cs n != 0)=false:=by simp [h0]
  obtain ⟨hb,hn,-⟩:=Hj h0;cases cs with
  | nil =>
   have hvt S tk k:=Jy S tk k true;have hvf S tk k:=Jy S tk k false;simp only [rowA,Ag,Ct,if_true,C5,if_false,Ca,Cc] at hvt hvf hC;have hz:(((0:Nat):Int) == 0)=true:=rfl;have ht:∀ e,Gp [] n e=if (n == 0 || (!e && decide (n<0)))=true then ([],0,false) else ([],1,false):=fun e=>by
    unfold Gp; rw [if_pos h0,if_pos rfl]
   refine opP func29 ntmps29 ?_;by_cases hz0:n=0
   ·have d2:(n == 0)=true:=by simpa using hz0
    simp (maxSteps:=10^6)+contextual(disch:=try exact dqd)only[ev1,simprocAttr,Cc,Ca,Cd,results29,rowA,Ag,hC,d0,hvt,hvf,Ct,hz,d2];rw [ht,if_pos (by simp [hz0])]; simp [hz0]
   have d2:(n == 0)=false:=by simpa using hz0
   by_cases gy:n<0
   ·have d3:decide (n<0)=true:=dL
    exact Ya0m
   ·have d3:decide (n<0)=false:=dL
    exact Ya0m
  | cons c cs =>
   refine opP func29 ntmps29 ?_;generalize hl:c :: cs=l at *;have hne:l≠[]:=by rw [<- hl]; simp
   have hg:=Al6 hb (g:=0) rfl;have hp:=Yv hb (g:=0) rfl aA (.inr hne);have hD S tk k:=Wh S tk k l n 0 hlen hb rfl;have hQ S tk k:=Au0 S tk k (-n) (gcdL 0 l) (by rw [D5] at hn ⊢; omega) hp hg;have hV S tk k:=Wg S tk k (gcdL 0 l) l hlen aA (fun c hc=>(hb c hc).1);have hw:Ce.wrap (0 - n)=-n:=by rw [Aa (by rw [D5] at hn; unfold i64; omega)]; omega
   have d1:((l.length:Int) == 0)=false:=by rw [<- hl]; simp; omega
   have hv:=Jy;simp only [rowA,Ag,linA] at hv hD hV;simp (maxSteps:=10^6)+contextual(disch:=try exact dqd)only[ev1,simprocAttr,Cc,Ca,Cd,results29,rowA,Ag,hC,d0,hD,hQ,hV,hw,d1,hv];have hq:Ce.wrap (0 - -n / gcdL 0 l)=-(-n / gcdL 0 l):=by
    rw [D5] at hn;have:=Qy (a:=-n) (b:=gcdL 0 l) aA aA;have h1:=Int.natAbs_ediv_le_natAbs (-n) (gcdL 0 l);rw [Aa aD]; omega
   have ht:∀ e,Gp l n e=if (e && !(n.tmod (gcdL 0 l) == 0))=true then ([],1,false) else (l.map (divC (gcdL 0 l)),-((-n) / gcdL 0 l),e):=fun e=>by
    unfold Gp; rw [if_pos h0,if_neg hne]
   refine ⟨fun _=>⟨aA,fun h=>?_,fun h=>?_⟩,fun _=>?_⟩
   ·rw [ht,if_pos aI]; simp
   ·rw [ht,if_neg aI]; exact ⟨rfl,hq,rfl⟩
   ·rw [ht,if_neg (by simp)]; exact ⟨rfl,hq,rfl⟩
 ·have d0:(Az cs n != 0)=true:=aX
  refine opP func29 ntmps29 ?_;simp (maxSteps:=10^6)+contextual(disch:=try exact dqd)only[ev1,simprocAttr,Cc,Ca,Cd,results29,rowA,Ag,hC,d0,tu];simp [Gp,h0]
end
end
section
open Go Go.Proofs.Tryz
set_option maxHeartbeats 4000000
set_option maxRecDepth 100000
def Hv:List (ByteArray × Int)->List (ByteArray × Int)->List (ByteArray × Int)
 | [],b=>b
 | x :: a,[]=>x :: a
 | x :: a,y :: b=>if sLt x.1 y.1 then x :: Hv a (y :: b) else if sLt y.1 x.1 then y :: Hv (x :: a) b else if x.2+y.2=0 then Hv a b else (x.1,x.2+y.2) :: Hv a b
termination_by a b=>a.length+b.length
theorem Xc (b:List (ByteArray × Int)):Hv [] b=b:=by rw [Hv]
theorem Lh (a:List (ByteArray × Int)):Hv a []=a:=by cases a <;> rw [Hv]
def Lu (cs:List (ByteArray × Int)) (n:Int):(List (ByteArray × Int) × Int) × Bool:=if Az cs n=0 then ((cs,n),true) else (([],0),false)
def addL (a:List (ByteArray × Int)) (n:Int) (b:List (ByteArray × Int)) (m:Int):(List (ByteArray × Int) × Int) × Bool:=if Az a n=0/\Az b m=0 then Lu (Hv a b) (n+m) else (([],0),false)
section
variable (S:List Ent) (tk:List Nat) (k:Nat)
theorem Ab6 (cs:List (ByteArray × Int)) (n:Int) (c:Cap) (hlen:cs.length<=1048576):cL prog 107 [.agg [.frz (cs.map coefC) c,.int n]] S tk k=some (.tup [linA (Lu cs n).1.1 (Lu cs n).1.2,.bool (Lu cs n).2],S,tk,k):=by
 have hC S tk k:=Ed S tk k cs n hlen;simp only [linA,Ag] at hC;refine opP func107 ntmps107 ?_;by_cases h0:Az cs n=0
 ·have d0:(Az cs n != 0)=false:=by simp [h0]
  exact Ya1a
 ·have d0:(Az cs n != 0)=true:=aX
  exact Ya1a
theorem Ail (a b:List (ByteArray × Int)) (n m:Int) (ha:a.length<=100000) (hb:b.length<=100000):cL prog 72 [linA a n,linA b m] S tk k=some (.tup [linA (addL a n b m).1.1 (addL a n b m).1.2,.bool (addL a n b m).2],S,tk,k):=by
 have hCa S tk k:=Ed S tk k a n aA;have hCb S tk k:=Ed S tk k b m aA;simp only [linA,Ag] at hCa hCb;refine opP func72 ntmps72 ?_;by_cases ea:Az a n=0;case neg =>
  have da:(Az a n != 0)=true:=by simpa using ea
  simp (maxSteps:=10^6)+contextual(disch:=try exact dqd)only[ev1,simprocAttr,Cc,Ca,Cd,results72,linA,Ag,hCa,da]
  simp [addL,ea]
 have da:(Az a n != 0)=false:=by simp [ea]
 by_cases eb:Az b m=0;case neg =>
  have db:(Az b m != 0)=true:=by simpa using eb
  simp (maxSteps:=10^6)+contextual(disch:=try exact dqd)only[ev1,simprocAttr,Cc,Ca,Cd,results72,linA,Ag,hCa,da,hCb,db]
  simp [addL,eb]
 have db:(Az b m != 0)=false:=by simp [eb]
 have hw:=X8 (Hj ea).2.1 (Hj eb).2.1;simp (maxSteps:=10^6)+contextual(disch:=try exact dqd)only[ev1,simprocAttr,Cc,Ca,Cd,results72,linA,Ag,hCa,da,hCb,db,hw];have hba:=(Hj ea).1;have xy:=(Hj eb).1;have up:addL a n b m=Lu (Hv a b) (n+m):=by simp [addL,ea,eb]
 rw [up];clear up hCa hCb da db hw;refine loop1 (P:=prog) (fun x st=>st.T.length=146/\(x.1<=a.length)/\(x.2.1<=b.length)/\(x.2.2.1.length<=x.1+x.2.1)/\(Be st.tk x.2.2.2 2=true)/\(Hv a b=x.2.2.1++Hv (a.drop x.1) (b.drop x.2.1))/\getT st.T 2=.ref 0 0 0/\getT st.T 3=.ref 1 1 0/\getT st.T 4=.ref 2 2 0/\getT st.T 6=.ref 3 3 0/\getT st.T 7=.int (x.1:Nat)/\getT st.T 8=.int (x.2.1:Nat)/\st.S=[⟨0,[Ag a,.int n]⟩,⟨1,[Ag b,.int m]⟩,⟨2,[.frz [] .nilc,.int 0]⟩,⟨3,[.frz (x.2.2.1.map coefC) x.2.2.2,.int (n+m)]⟩]) (fun x=>a.length - x.1+(b.length - x.2.1)) (fun x=>.tup [linA (Lu (Hv a b) (n+m)).1.1 (Lu (Hv a b) (n+m)).1.2,.bool (Lu (Hv a b) (n+m)).2]) (0,0,[],.nilc) ?_ ?_;case refine_2=>exact ⟨rfl,Cl _,Cl _,Cf _,rfl,rfl,rfl,rfl,rfl,rfl,rfl,rfl,rfl⟩
 rintro ⟨i,j,o,c⟩ ⟨T,S',tk',n'⟩ ⟨hl,hi,hj,ho,ae,hm,e2,e3,e4,e6,e7,e8,eS⟩ IH;simp only at hi hj ho ae hm e2 e3 e4 e6 e7 e8 eS;subst eS;obtain ⟨g,hg,hT⟩:=Ao hl;rw [hg] at e2 e3 e4 e6 e7 e8;subst hT;clear hg hl;have hr:=D2 (f:=coefC) (sz:=2) (fun _=>rfl) o;have hn:(o.map coefC).length+1<=1048576:=aC
 have bu:=Bw ae;by_cases la:i<a.length
 ·have d1:decide ((i:Int)<(a.length:Int))=true:=bR
  have d1':((i:Int) == (a.length:Int))=false:=aC
  obtain ⟨x,hx⟩:=Ab la;have hx':nth (a.map coefC) i=some (coefC x):=by rw [Bj,hx]; rfl
  have zi:=Ar (i:=i) aA;rw [Au hx] at hm;by_cases lb:j<b.length
  ·have d2:decide ((j:Int)<(b.length:Int))=true:=fT
   have d2':((j:Int) == (b.length:Int))=false:=aC
   obtain ⟨y,hy⟩:=Ab lb;have i7:nth (b.map coefC) j=some (coefC y):=by rw [Bj,hy]; rfl
   have dd:=Ar (i:=j) aA;have hxm:x ∈ a:=eO
   have hym:y ∈ b:=Za2n
   have hws:=X8 (hba x hxm).1 (xy y hym).1;rw [Au hy,Hv] at hm;simp (maxSteps:=10^6)+contextual(disch:=try exact dqd)only[ev1,simprocAttr,Cc,Ca,Cd,results72,e2,e3,e4,e6,e7,e8,d1,d1',d2,d2',Ag,hx',i7,zi,dd,hws,coefC,hr];refine ⟨fun h1=>?_,fun h1=>⟨fun h2=>?_,fun h2=>⟨fun h3=>?_,fun h3=>?_⟩⟩⟩
   ·rw [if_pos h1] at hm;exact IH (i+1,j,o++[x],A4 tk' c 2) _ aF ⟨rfl,aE,hj,aC,bu,by simp only [hm,Au hy,Fh,Cp,Cz],aN,aN,aN,aN,aN,aN,aN⟩
   ·rw [if_neg (by rw [h1]; simp),if_pos h2] at hm;exact IH (i,j+1,o++[y],A4 tk' c 2) _ aF ⟨rfl,hi,aE,aC,bu,by simp only [hm,Au hx,Fh,Cp,Cz],aN,aN,aN,aN,aN,aN,aN⟩
   ·have h3':¬ x.2+y.2=0:=eF
    rw [if_neg (by rw [h1]; simp),if_neg (by rw [h2]; simp),if_neg h3'] at hm;exact IH (i+1,j+1,o++[(x.1,x.2+y.2)],A4 tk' c 2) _ aF ⟨rfl,aE,aE,aC,bu,by simp only [hm,Fh,Cp,Cz],aN,aN,aN,aN,aN,aN,aN⟩
   ·have h3':x.2+y.2=0:=eF
    rw [if_neg (by rw [h1]; simp),if_neg (by rw [h2]; simp),if_pos h3'] at hm;exact IH (i+1,j+1,o,c) _ aF ⟨rfl,aE,aE,aE,ae,hm,aN,aN,aN,aN,aN,aN,aN⟩
  ·have d2:decide ((j:Int)<(b.length:Int))=false:=fT
   have po:j=b.length:=aA
   have d2':((j:Int) == (b.length:Int))=true:=aC
   rw [po,C9,Lh] at hm;simp (maxSteps:=10^6)+contextual(disch:=try exact dqd)only[ev1,simprocAttr,Cc,Ca,Cd,results72,e2,e3,e4,e6,e7,e8,d1,d1',d2,d2',Ag,hx',zi,coefC,hr];exact IH (i+1,j,o++[x],A4 tk' c 2) _ aF ⟨rfl,aE,hj,aC,bu,by simp only [po,hm,C9,Lh,Fh,Cp,Cz],aN,aN,aN,aN,aN,aN,aN⟩
 ·have d1:decide ((i:Int)<(a.length:Int))=false:=bR
  have yi:i=a.length:=aA
  have d1':((i:Int) == (a.length:Int))=true:=aC
  rw [yi,C9,Xc] at hm;by_cases lb:j<b.length
  ·have d2:decide ((j:Int)<(b.length:Int))=true:=fT
   have d2':((j:Int) == (b.length:Int))=false:=aC
   obtain ⟨y,hy⟩:=Ab lb;have i7:nth (b.map coefC) j=some (coefC y):=by rw [Bj,hy]; rfl
   have dd:=Ar (i:=j) aA;rw [Au hy] at hm;simp (maxSteps:=10^6)+contextual(disch:=try exact dqd)only[ev1,simprocAttr,Cc,Ca,Cd,results72,e2,e3,e4,e6,e7,e8,d1,d1',d2,d2',Ag,i7,dd,coefC,hr];exact IH (i,j+1,o++[y],A4 tk' c 2) _ aF ⟨rfl,hi,aE,aC,bu,by simp only [yi,hm,C9,Xc,Fh,Cp,Cz],aN,aN,aN,aN,aN,aN,aN⟩
  ·have d2:decide ((j:Int)<(b.length:Int))=false:=fT
   have po:j=b.length:=aA
   rw [po,C9,Fp] at hm;have hR S tk k:=Ab6 S tk k o (n+m) c aA;simp (maxSteps:=10^6)+contextual(disch:=try exact dqd)only[ev1,simprocAttr,Cc,Ca,Cd,results72,e2,e3,e4,e6,e7,e8,d1,d2,Ag,linA,hR];rw [hm];simp [linA,Ag]
end
end
section
open Go Go.Proofs.Tryz
set_option maxHeartbeats 4000000
set_option maxRecDepth 100000
section
variable (S:List Ent) (tk:List Nat) (k:Nat)
def mulC (q:Int) (c:ByteArray × Int):ByteArray × Int:=(c.1,(mulS c.2 q).1)
def J8 (cs:List (ByteArray × Int)) (n q:Int):(List (ByteArray × Int) × Int) × Bool :=
 if Az cs n=0 then
  if q=0 then (([],0),true)
  else if inB q=true then (if (mulS n q).2=true/\(cs.all fun c=>(mulS c.2 q).2)=true then ((cs.map (mulC q),(mulS n q).1),true) else (([],0),false))
  else (([],0),decide (cs=[]) && (n == 0))
 else (([],0),false)
theorem Aru (q:Int) (c:ByteArray × Int) (id ep:Nat) (h:entAt S id ep=some [.int q]):cL prog 106 [.agg (coefC c),.ref id ep 0] S tk k=some (.tup [.agg (coefC (mulC q c)),.bool (mulS c.2 q).2],S,tk,k+2):=by
 refine opS func106 ntmps106 ?_;simp (maxSteps:=10^6)+contextual(disch:=try exact dqd)only[evs1,simprocAttr,Cc,Ca,Cd,results106,coefC,h,U6,mulC]
def Nc (q:Int):List (ByteArray × Int)->List (ByteArray × Int)->Cap->List Nat->Nat->AV × List Nat × Nat
 | [],acc,c,tk,n=>(.tup [.frz (acc.map coefC) c,.bool true],tk,n)
 | x :: r,acc,c,tk,n=>if (mulS x.2 q).2=true then Nc q r (acc++[mulC q x]) (A4 tk c 2) (Gj tk c) (n+4) else (.tup [.frz [] .nilc,.bool false],tk,n+4)
theorem Af2 (q:Int):∀ (l acc:List (ByteArray × Int)) (c:Cap) (tk:List Nat) (n:Nat),(l.all fun c=>(mulS c.2 q).2)=true->∃ c' tk' n',Nc q l acc c tk n=(.tup [.frz ((acc++l.map (mulC q)).map coefC) c',.bool true],tk',n')
 | [],acc,c,tk,n,_=>⟨c,tk,n,by simp [Nc]⟩
 | x :: r,acc,c,tk,n,h=>by
  simp only [Oh,Ci] at h;obtain ⟨c',tk',n',e⟩:=Af2 q r (acc++[mulC q x]) (A4 tk c 2) (Gj tk c) (n+4) h.2;exact ⟨c',tk',n',by rw [Nc,if_pos h.1,e]; simp⟩
theorem Af1 (q:Int):∀ (l acc:List (ByteArray × Int)) (c:Cap) (tk:List Nat) (n:Nat),(l.all fun c=>(mulS c.2 q).2)=false->∃ tk' n',Nc q l acc c tk n=(.tup [.frz [] .nilc,.bool false],tk',n')
 | [],acc,c,tk,n,h=>aO
 | x :: r,acc,c,tk,n,h=>by
  rw [Nc];by_cases hx:(mulS x.2 q).2=true
  ·rw [if_pos hx];exact Af1 q r _ _ _ _ (by simpa [hx] using h)
  ·rw [if_neg hx]; exact ⟨_,_,rfl⟩
theorem Ah9 (q:Int) (cs:List (ByteArray × Int)) (id ep:Nat) (hlen:cs.length<=1048576) (h:entAt S id ep=some [.int q]) :
  cL prog 101 [Ag cs,.fn 106 [.ref id ep 0]] S tk k=some ((Nc q cs [] .nilc tk k).1,S,(Nc q cs [] .nilc tk k).2.1,(Nc q cs [] .nilc tk k).2.2):=by
 refine opS func101 ntmps101 ?_;simp (maxSteps:=10^6)+contextual(disch:=try exact dqd)only[evs1,simprocAttr,Cc,Ca,Cd,results101,Ag];refine Pj (P:=prog) (fun x st=>st.T.length=31/\(x.1<=cs.length)/\(x.2.1.length<=x.1)/\(Be x.2.2.2.1 x.2.2.1 2=true)/\getT st.T 1=.fn 106 [.ref id ep 0]/\getT st.T 6=.frz (x.2.1.map coefC) x.2.2.1/\getT st.T 11=Ag cs/\getT st.T 12=.int cs.length/\getT st.T 13=.int (x.1:Nat)/\st.S=S/\st.tk=x.2.2.2.1/\st.n=x.2.2.2.2) (fun x=>cs.length - x.1) (fun x=>((Nc q (cs.drop x.1) x.2.1 x.2.2.1 x.2.2.2.1 x.2.2.2.2).1,S,(Nc q (cs.drop x.1) x.2.1 x.2.2.1 x.2.2.2.1 x.2.2.2.2).2.1,(Nc q (cs.drop x.1) x.2.1 x.2.2.1 x.2.2.2.1 x.2.2.2.2).2.2)) (0,[],.nilc,tk,k) ?_ ?_;case refine_2=>exact ⟨rfl,Cl _,Cf _,rfl,rfl,rfl,rfl,rfl,rfl,rfl,rfl,rfl⟩
 rintro ⟨i,o,c,t,m⟩ ⟨T,S',tk',n'⟩ ⟨hl,hi,ho,ae,e1,e6,e11,e12,e13,eS,eT,eN⟩ IH;simp only at hi ho ae e1 e6 e11 e12 e13 eS eT eN;subst eS eT eN;obtain ⟨g,hg,hT⟩:=Ao hl;rw [hg] at e1 e6 e11 e12 e13;subst hT;clear hg hl;by_cases hlt:i<cs.length
 ·have d1:decide ((i:Int)<(cs.length:Int))=true:=aH
  obtain ⟨x,hc⟩:=Ab hlt;have bp:nth (cs.map coefC) i=some (coefC x):=dI
  have hw:=Ar (i:=i) aA;have hf e tk k:=Aru (S'++[e]) tk k q x id ep (J5 h);have hr:=D2 (f:=coefC) (sz:=2) (fun _=>rfl) o;have hn:(o.map coefC).length+1<=1048576:=aC
  have bu:=Bw ae;simp only [coefC] at hf bp;rw [Au hc];by_cases hx:(mulS x.2 q).2=true
  ·rw [Nc,if_pos hx];simp (maxSteps:=10^6)+contextual(disch:=try exact dqd)only[evs1,simprocAttr,Cc,Ca,Cd,results101,e1,e6,e11,e12,e13,d1,Ag,bp,hw,hf,coefC,hx];exact IH (i+1,o++[mulC q x],A4 tk' c 2,Gj tk' c,n'+4) _ aF ⟨rfl,hlt,aC,bu,by and_intros <;> first|rfl|simp only [getT,F6,Cn,Ct,coefC,Ag]⟩
  ·rw [Nc,if_neg hx];have hx':(mulS x.2 q).2=false:=dG
   simp (maxSteps:=10^6)+contextual(disch:=try exact dqd)only[evs1,simprocAttr,Cc,Ca,Cd,results101,e1,e6,e11,e12,e13,d1,Ag,bp,hw,hf,coefC,hx']
 ·have d1:decide ((i:Int)<(cs.length:Int))=false:=aH
  have he:i=cs.length:=aA
  simp (maxSteps:=10^6)+contextual(disch:=try exact dqd)only[evs1,simprocAttr,Cc,Ca,Cd,results101,e1,e6,e11,e12,e13,d1,Ag];rw [he,C9]; simp [Nc]
end
end
section
open Go Go.Proofs.Tryz
set_option maxRecDepth 100000
section
variable (S:List Ent) (tk:List Nat) (k:Nat)
theorem Ab3 (cs:List (ByteArray × Int)) (n q:Int) (hlen:cs.length<=1048576):cL prog 71 [linA cs n,.int q] S tk k=some (.tup [linA (J8 cs n q).1.1 (J8 cs n q).1.2,.bool (J8 cs n q).2],S,tk,k):=by
 have hC S tk k:=Ed S tk k cs n hlen;simp only [linA,Ag] at hC;refine opP func71 ntmps71 ?_;by_cases h0:Az cs n=0;case neg =>
  have d0:(Az cs n != 0)=true:=aX
  simp (maxSteps:=10^6)+contextual(disch:=try exact dqd)only[ev1,simprocAttr,Cc,Ca,Cd,results71,linA,Ag,hC,d0]
  simp [J8,h0]
 have d0:(Az cs n != 0)=false:=by simp [h0]
 by_cases hq:q=0
 ·have d1:(q == 0)=true:=by simpa using hq
  simp (maxSteps:=10^6)+contextual(disch:=try exact dqd)only[ev1,simprocAttr,Cc,Ca,Cd,results71,linA,Ag,hC,d0,d1];simp [J8,h0,hq]
 have d1:(q == 0)=false:=by simpa using hq
 cases hb:inB q with
 | false =>
  by_cases gt:cs=[]
  ·subst gt;have hz:(((0:Nat):Int) == 0)=true:=rfl;simp only [Ct] at hC;simp (maxSteps:=10^6)+contextual(disch:=try exact dqd)only[ev1,simprocAttr,Cc,Ca,Cd,results71,linA,Ag,hC,d0,d1,hb,Lj,Ct,hz];simp [J8,h0,hq,hb]
  ·have hz:((cs.length:Int) == 0)=false:=by
    have:cs.length≠0:=fun h=>gt (Fc.1 h);simp; omega
   simp (maxSteps:=10^6)+contextual(disch:=try exact dqd)only[ev1,simprocAttr,Cc,Ca,Cd,results71,linA,Ag,hC,d0,d1,hb,Lj,hz];simp [J8,h0,hq,hb,gt]
 | true =>
  have hE tk k:=Ah9 [⟨0,[Ag cs,.int n]⟩,⟨1,[.int q]⟩,⟨2,[.frz [] .nilc,.int 0]⟩] tk k q cs 1 1 hlen rfl;simp only [Ag] at hE;cases aq:cs.all fun c=>(mulS c.2 q).2 with
  | true =>
   obtain ⟨c',tk',n',e⟩:=Af2 q cs [] .nilc [] 3 aq;simp only [Cz] at e;have hE':=hE [] 3;rw [e] at hE';simp (maxSteps:=10^6)+contextual(disch:=try exact dqd)only[ev1,simprocAttr,Cc,Ca,Cd,results71,linA,Ag,hC,d0,d1,hb,Lj,U6,hE',G5];refine ⟨fun h1=>?_,fun h1=>?_⟩
   ·simp [J8,h0,hq,hb,aq,h1]
   ·simp [J8,h0,hq,hb,aq,h1]
  | false =>
   obtain ⟨tk',n',e⟩:=Af1 q cs [] .nilc [] 3 aq;have hE':=hE [] 3;rw [e] at hE';have hs:J8 cs n q=(([],0),false):=by simp [J8,h0,hq,hb,aq]
   rw [hs];simp (maxSteps:=10^6)+contextual(disch:=try exact dqd)only[ev1,simprocAttr,Cc,Ca,Cd,results71,linA,Ag,hC,d0,d1,hb,Lj,U6,hE',G5];exact ⟨fun _=>trivial,fun _=>trivial⟩
end
end
section
open Go
theorem P0 {a b:ByteArray} : sEq a b=true↔a=b:=by
 rw [Pz];constructor
 ·intro h; simpa using h
 ·rintro rfl; simp
theorem Am3 {l:List RowT} {x:ByteArray} : x ∈ D7 l↔∃ r ∈ l,∃ c ∈ r.1,c.1=x:=by
 unfold D7;simp only [Se,Fg];constructor
 ·rintro ⟨_,⟨r,hr,rfl⟩,h⟩;obtain ⟨c,hc,e⟩:=Fg.1 h;exact ⟨r,hr,c,hc,e⟩
 ·rintro ⟨r,hr,c,hc,e⟩;exact ⟨_,⟨r,hr,rfl⟩,Fg.2 ⟨c,hc,e⟩⟩
theorem Agt {l:List RowT} {x:ByteArray} : x ∈ varsF l↔∃ r ∈ l,∃ c ∈ r.1,c.1=x:=((Ji (D7 l)).2.1 x).trans Am3
theorem Te (l:List RowT):Inc (varsF l):=(Ji (D7 l)).1
theorem Aun {l r:List ByteArray} (hl:Inc l) (hr:Inc r) (h:∀ x ∈ l,x ∈ r):l.length<=r.length:=by
 classical
 have e:l=r.filter fun x=>decide (x ∈ l):=Amh hl (jF.filter _ hr) fun x=>by
  simp only [List.mem_filter,decide_eq_true_eq];exact ⟨fun hx=>⟨h x hx,hx⟩,fun hx=>hx.2⟩
 rw [e];exact List.length_filter_le ..
theorem Aad:∀ {l:List RowT},(∀ r ∈ l,Az r.1 r.2.1=0)->G3 l=0
 | [],_=>rfl
 | r :: l,h=>by
  unfold G3;rw [h r (Cq ..)];simp only [bne_self_eq_false,C5,if_false];exact Aad fun x hx=>h x (Co _ hx)
theorem Ayj {l:List RowT} (h1:l.length<=64) (h2:∀ r ∈ l,Az r.1 r.2.1=0) (h3:(varsF l).length<=24):sysE l=0:=by
 unfold sysE;rw [if_neg aA,Aad h2,if_neg (by simp),if_neg aA]
def oneR (r:RowT) (k:Int):RowT:=(r.1.map (mulC k),r.2.1*k+1,false)
noncomputable def Kw (l:List RowT) (r:RowT) (k:Int):Bool:=inB (r.2.1*k+1) && infB (l++[oneR r k])
noncomputable def Hz (l:List RowT) (r:RowT):Bool:=(Az r.1 r.2.1 == 0) && (Kw l r (-1) && (!r.2.2 || Kw l r 1))
section
variable {k:Int} (hk:k=1\/k=-1)
include hk
theorem Amf {a:Int} (ha:inB a=true):inB (a*k)=true:=by
 rw [D5] at ha ⊢;rcases hk with rfl|rfl <;> omega
theorem Y4 {a:Int} (ha:inB a=true):mulS a k=(a*k,true):=by
 have h1:=Amf hk ha;have h2:inB k=true:=by rw [D5]; omega
 simp [mulS,chk,ha,h1,h2]
theorem Aso {m:Int} (hm:inB m=true) {n:Int} : ∀ {p:Option ByteArray} {cs:List (ByteArray × Int)},Bn n p cs=0->Bn m p (cs.map (mulC k))=0
 | p,[],_=>by simp only [Ct,Bn,hm,if_true]
 | p,c :: cs,h=>by
  unfold Bn at h;split at h
  ·cases h
  ·rename_i g1;split at h
   ·cases h
   ·rename_i g2;split at h
    ·cases h
    ·rename_i g3;simp only [Ht,beq_iff_eq,Gb,not_or,Bool.not_eq_false] at g2;have e:mulC k c=(c.1,c.2*k):=by unfold mulC; rw [Y4 hk g2.2]
     rw [Cn,e];unfold Bn;simp only;rw [if_neg g1,if_neg (by
      rw [Amf hk g2.2];simp only [F5,Fs,beq_iff_eq];intro e;have:=g2.1;rcases hk with rfl|rfl <;> omega),if_neg g3]
     exact Aso hm h
theorem Afk {m:Int} (hm:inB m=true) {cs:List (ByteArray × Int)} {n:Int} (h:Az cs n=0):Az (cs.map (mulC k)) m=0:=by
 unfold Az at h ⊢;rw [F8];split at h
 ·cases h
 ·rename_i g;rw [if_neg g]; exact Aso hk hm h
theorem Arv {cs:List (ByteArray × Int)} {n:Int} (h:Az cs n=0):J8 cs n k=((cs.map (mulC k),n*k),true):=by
 obtain ⟨hb,hn,-⟩:=Hj h;unfold J8;rw [if_pos h,if_neg aA,if_pos (by rw [D5]; omega),Y4 hk hn,if_pos ⟨rfl,C4.2 fun c hc=>by rw [Y4 hk (hb c hc).1]⟩]
theorem Awp {cs:List (ByteArray × Int)} {n:Int} (h:Az cs n=0):addL (cs.map (mulC k)) (n*k) [] 1=if inB (n*k+1)=true then ((cs.map (mulC k),n*k+1),true) else (([],0),false):=by
 obtain ⟨hb,hn,-⟩:=Hj h;have h1:Az [] 1=0:=aK
 unfold addL;rw [if_pos ⟨Afk hk (Amf hk hn) h,h1⟩,Lh];unfold Lu;split
 ·rename_i h2;rw [if_pos (Hj h2).2.1]
 ·rename_i h2;rw [if_neg fun h3=>h2 (Afk hk h3 h)]
theorem Amz {v:ByteArray->Rat} : ∀ {cs:List (ByteArray × Int)},(∀ c ∈ cs,inB c.2=true)->linV v (cs.map (mulC k))=(k:Rat)*linV v cs
 | [],_=>by simp only [Ct,linV]; grind
 | c :: cs,h=>by
  have e:mulC k c=(c.1,c.2*k):=by unfold mulC; rw [Y4 hk (h c (Cq ..))]
  rw [Cn,e,linV,linV,Amz fun c' hc=>h c' (Co _ hc),Cv]; grind
theorem Avh {v:ByteArray->Rat} {l:List RowT} {r:RowT} (h:Az r.1 r.2.1=0):Sat v (l++[oneR r k])↔Sat v l/\(k:Rat)*valR v r+1<=0:=by
 obtain ⟨hb,hn,-⟩:=Hj h;have e:valR v (oneR r k)=(k:Rat)*valR v r+1:=by
  unfold valR oneR;simp only;rw [Amz hk fun c hc=>(hb c hc).1,Ox,Cv];have:((1:Int):Rat)=1:=rfl;rw [this]; grind
 constructor
 ·intro hs;refine ⟨fun x hx=>hs x (Cw.2 (.inl hx)),?_⟩;rw [<- e];exact (hs _ (Cw.2 (.inr (F0.2 rfl)))).1
 ·rintro ⟨h1,h2⟩ x hx;rcases Cw.1 hx with hx|hx
  ·exact h1 x hx
  ·rw [F0.1 hx,e];exact ⟨h2,fun h=>(by simp [oneR] at h)⟩
theorem Aqd {l:List RowT} {r:RowT} (h:Az r.1 r.2.1=0) (hc:Kw l r k=true):inB (r.2.1*k+1)=true/\¬ ∃ v,Sat v l/\(k:Rat)*valR v r+1<=0:=by
 unfold Kw at hc;rw [Ci,Amj] at hc;exact ⟨hc.1,fun ⟨v,h3⟩=>hc.2.2 ⟨v,(Avh hk h).2 h3⟩⟩
end
theorem Pa {l:List RowT} {r:RowT} : Hz l r=true↔Az r.1 r.2.1=0/\Kw l r (-1)=true/\(r.2.2=true->Kw l r 1=true):=by
 unfold Hz;rw [Ci,Ci,beq_iff_eq,Ht,Gb];cases r.2.2 <;> simp
end
end Go.Proofs.YthelkgdmgihhiaaGreat
