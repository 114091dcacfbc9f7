/- Part 19. -/
import Derived.Test.YthelkgdmgihhiaaGreatZM18
open Bool renaming and_eq_true->Cf,or->Cj,false_eq_true->C4,or_eq_false_iff->El,or_false->Fk,or_assoc->Fx,or_eq_true->Fz,false_and->F2,not_eq_true'->F3,not_true->F6,true_and->G4,not_false->Ij,false_ne_true->K2,false_or->Mf,eq_iff_iff->X7,true_or->iI
open Go.IntKind renaming i64->Ce
open Go.Proofs.YthelkgdmgihhiaaGreat.AV renaming bool->Ca,int->Cg,str->Ch
open Go.Value renaming int->fO
open Int renaming tdiv_eq_ediv_of_nonneg->C9,natAbs_mul->Ik,mul_ne_zero->Io
open List renaming replicate->Cd,length_cons->Ck,map_cons->Cm,length_append->Cn,cons_append->Co,getElem?_append_left->Cp,mem_cons_of_mem->Cq,mem_append->Cr,nil_append->Ct,mem_cons_self->Cv,map_nil->Cw,mem_cons->Cy,all_eq_true->Cz,length_nil->C3,length_eq_zero_iff->C5,append_assoc->C7,getElem?_append_right->C8,getElem?_eq_none->E9,take_of_length_le->Fa,drop_eq_nil_of_le->Ff,drop_length->Fh,mem_singleton->Fj,flatten_cons->Fm,getElem?_eq_some_iff->Fq,map_append->Ft,append_nil->Fu,mem_map->Fy,pairwise_cons->F7,range->F9,length_map->Ib,mem_replicate->Ih,mem_of_getElem?->Il,take_length->Ir,getElem?_cons_zero->Iv,length_take->Iy,take_append_of_le_length->I6,take_append_drop->I9,take->Lv,length_replicate->Oa,all_cons->Oc,map_congr_left->O3,mem_flatten->O5,length_singleton->Sn,set_cons_succ->fJ,flatten_nil->gE,flatten_append->iE,map_map->iH,take_take->iP,lt_irrefl->iS
open List.cons renaming injEq->S9
open Nat renaming le_refl->Cb,zero_le->Cs,zero_add->Fo,le_trans->Fv,mul_le_mul_right->F0,lt_of_le_of_lt->Ix,sub_self->I3,succ_mul->Mi,le_add_right->Ob,mul_le_mul->Ot,div_le_self->Oz,lt_trichotomy->O0,succ_pos->Se,eq_zero_or_pos->fN,add_sub_cancel->iT
open Ne renaming symm->Od
open Option renaming map_some->Cu,bind_some->Lg
open Option.some renaming injEq->A0
open Prod.mk renaming injEq->Cc
open Rat renaming intCast_mul->C6,intCast_neg->Oh,le_refl->Sr,intCast_add->Xb,intCast_pos->Yc,intCast_inj->iB
namespace Go.Proofs.YthelkgdmgihhiaaGreat
section
open Go Tryz
open Go.Proofs.Tryz renaming f121->ga28,results121->ga29
open Go.Proofs.YthelkgdmgihhiaaGreat renaming ceW->ga0,Ao->ga1,Bc->ga5,Bj->ga6
set_option maxRecDepth 100000
namespace WW
abbrev ua13:Nat:=168
end WW
set_option maxHeartbeats 20000000
set_option maxRecDepth 100000
section
variable (S:List Ent) (l:List RowT) (vars:List ByteArray) (fl:Bool) (k iq eq c W nz:Nat) (z:Q)
namespace WW
theorem Apf:Ar21:=Ma21
end WW
end
end
section
open Go Tryz
open Go.Proofs.Tryz renaming f121->ga28,results121->ga29
open Go.Proofs.YthelkgdmgihhiaaGreat renaming ceW->ga0,Ao->ga1,Bc->ga5,Bj->ga6
set_option maxRecDepth 100000
set_option maxHeartbeats 20000000
set_option maxRecDepth 100000
section
variable (S:List Ent) (l:List RowT) (vars:List ByteArray) (fl:Bool) (k iq eq c W nz:Nat) (z:Q)
namespace WW
theorem Aph:Ar22:=Ma22
end WW
end
end
section
open Go Tryz
open Go.Proofs.Tryz renaming f121->ga28,results121->ga29,func121->ga30,ntmps121->ga31
open Go.Proofs.YthelkgdmgihhiaaGreat renaming ceW->ga0,Ao->ga1,Bc->ga5,Bj->ga6
set_option maxRecDepth 100000
namespace WW
abbrev ua14:Nat:=121
end WW
set_option maxHeartbeats 20000000
set_option maxRecDepth 100000
namespace WW
def Me (iq eq:Nat) (n real:Nat) (rows cost basis flip:AV):List AV:=[.ifc 123 (rcvQ iq eq),.int (n:Nat),.int (real:Nat),rows,cost,basis,flip]
theorem mk_Q {W:Nat} (h:W<=1048576):mkA prog 78 (.int (W:Nat)) (.int (W:Nat))=some (W,4,(Cd W zeroQ).flatten):=by
 have hz:(A7 prog 78).bind (Ar prog)=some zeroQ:=bH
 have hs:(A7 prog 78).bind (szOf prog)=some 4:=bH
 obtain ⟨bb,hb,yn⟩:∃ bb,(A7 prog 78).bind (H5 prog)=some bb/\bb<=1048576:=⟨64,aK,aA⟩;exact Ya1s
def Ai9 (S:List Ent) (iq eq:Nat) (t':Tb) (r:Rs):Prop :=
 ∃ S' k' tk' I cc,r=(.ref I.it I.et 0,S',tk',k')/\S.length<=S'.length/\Az S' iq eq I t' cc/\(∀ j,j<S.length->j≠iq->nth S' j=nth S j)/\(∀ j,j<S.length->j≠iq->OutQ I iq j)
end WW
section
variable (S:List Ent) (tk:List Nat) (k iq eq:Nat)
namespace WW
theorem Apj:Ar23:=Ma23
end WW
end
end
section
open Go
set_option maxRecDepth 100000
namespace WW
structure Aer (S SS:List Ent) (iq eq:Nat) (I:TI) (t:Tb) (cc:Cap) (k n8:Nat) (z:Q) (cf:AV) (n:Int):Prop where
 T:Az SS iq eq I t cc
 E4:entAt SS S.length k=some [cf,.prim (.int .i64 n)]
 E6:entAt SS (S.length+1) (k+1)=some ceW0Q
 E8:entAt SS (S.length+2) n8=some (ceW z)
 len:SS.length=S.length+3
 fr:∀ j,j<S.length->OutQ I iq j->nth SS j=nth S j
theorem An1:Ar24:=fun {S iq eq I t cc}=>Ma24
theorem Aer.step:Ar25:=fun {S SS S' iq eq I t t' cc k n8 z cf n}=>Ma25
end WW
namespace WW
theorem Az.junk:Ar26:=fun {S iq eq I t c}=>Ma26
def BegRQ (S:List Ent) (iq eq:Nat) (t':Tb) (r:Rs):Prop :=
 ∃ S' k' tk' I cc,r=(.ref I.it I.et 0,S',tk',k')/\S.length<=S'.length/\Az S' iq eq I t' cc/\(∀ j,j<S.length->j≠iq->nth S' j=nth S j)/\(∀ j,j<S.length->j≠iq->OutQ I iq j)/\(I.ib<S'.length\/S'.length+15<I.ib)
theorem Ai9.far:Ar27:=fun {S iq eq t' r}=>Ma27
end WW
end
section
open Go Tryz
open Go.Proofs.Tryz renaming func85->ga32,ntmps85->ga33,results85->ga34
set_option maxRecDepth 100000
namespace WW
abbrev ua15:Nat:=85
end WW
set_option maxHeartbeats 20000000
set_option maxRecDepth 100000
section
variable (S:List Ent) (tk:List Nat) (k iq eq:Nat)
namespace WW
theorem Aog:Ar28:=Ma28
end WW
end
end
section
open Go Tryz
set_option maxHeartbeats 4000000
set_option maxRecDepth 100000
def askN (K:Nat) (l:List RowT) (vars:List ByteArray):Option Ans :=
 match J6 QQ.qF K l vars false with
 | none=>none
 | some (a,true)=>some a
 | some (_,false)=>(J6 WW.qF K l vars false).map (·.1)
section
variable (S:List Ent) (tk:List Nat) (k:Nat)
theorem Ys (l:List RowT) (hl:l.length<=1000) (hn:(Hv l).length<=1000) (vars:List ByteArray) (mf:vars.length<=1000) (hv:∀ r ∈ l,∀ c ∈ r.1,c.1 ∈ vars) (hc:∀ r ∈ l,i64 r.2.1/\∀ c ∈ r.1,i64 c.2) (ei:fewC l) (K:Nat) (a:Ans) (hS:askN K l vars=some a) (ha:a.least=none) :
  cL prog 45 [Au l,B2 vars,.prim (.pointer none)] S tk k=some (.agg (ansC a.f a.pt a.nu .unk .unk (some (0,0)) false),S,tk,k):=by
 unfold askN at hS;cases h1:J6 QQ.qF K l vars false with
 | none=>rw [h1] at hS; simp at hS
 | some p =>
  obtain ⟨a1,ok1⟩:=p;rw [h1] at hS;obtain ⟨r1,cl,S1,tk1,k1,c1,c2,q1,b1,rfl,hl1,cj,j1,fh⟩:=QQ.Aog [(⟨0,ans0⟩:Ent),(⟨1,[.prim (.bool false)]⟩:Ent)] [] 2 1 1 l false hl hn vars mf hv hc ei (by simp) rfl K a1 ok1 h1;simp only [ans0,Au,B2] at cl;have hi1:Adi prog 118=false:=aK
  have wk:Adi prog 123=false:=aK
  have hN1:∀ e:Ent,nth (S1++[e]) S1.length=some e:=fun e=>by rw [Ae,C8 (Cb _),I3]; rfl
  have fw:over [AV.prim (.bool false),.frz [] .nilc,.frz [] .nilc,.prim (.bool false),.frz [] .nilc,.prim (.bool false),.frz [] .nilc,.prim (.bool false)] 0 (ansC a1.f a1.pt a1.nu c1 c2 q1 b1)=some (ansC a1.f a1.pt a1.nu c1 c2 q1 b1):=Rh (by rw [Jn]; rfl);have jx:∀ f p n c1 c2 q b,takeN 8 (ansC f p n c1 c2 q b)=some (ansC f p n c1 c2 q b):=fun f p n c1 c2 q b=>by
   have:=Yx (r:=[]) (Jn (f:=f) (p:=p) (n:=n) (c1:=c1) (c2:=c2) (q:=q) (b:=b));exact Ya17
  have h10:nth S1 0=some ⟨0,ans0⟩:=by rw [cj 0 (by simp) aA]; rfl
  have a2h:S1.length=2:=by rw [hl1]; rfl
  have hN0:∀ e:Ent,nth (S1++[e]) 0=some ⟨0,ans0⟩:=fun e=>by rw [Bq aA]; exact h10
  have hNP:∀ e x:Ent,nth (put (S1++[e]) 0 x) 0=some x:=fun e x=>Di (by simp);simp only [ans0] at hN0;cases ok1 with
  | true =>
   simp only [A0] at hS;subst hS;obtain ⟨rfl,rfl⟩:=fh ha;refine opP func45 ntmps45 (hp3:=rfl) ?_;simp (maxSteps:=10^6)+contextual(disch:=try exact dqd)only[ev1,simprocAttr,Cg,Ca,Ch,results45,Au,B2,cl,hi1,wk,ifcA,hN1,fw,Jn,Wv,jx,hN0,hNP];rfl
  | false =>
   cases h2:J6 WW.qF K l vars false with
   | none=>rw [h2] at hS; simp at hS
   | some p =>
    obtain ⟨a2,ok2⟩:=p;rw [h2] at hS;simp only [Cu,A0] at hS;subst hS;obtain ⟨r2,hc2,S2,tk2,k2,c3,c4,q2,b2,rfl,hl2,bc,mg,tq⟩:=WW.Aog (S1++[(⟨k1,ansC a1.f a1.pt a1.nu c1 c2 q1 b1⟩:Ent)]) tk1 (k1+1) 1 0 l false hl hn vars mf hv hc ei aB ⟨⟩ K a2 ok2 h2;obtain ⟨rfl,rfl⟩:=tq ha;simp only [Au,B2] at hc2;have hl22:S2.length=3:=by rw [hl2]; simp [a2h]
    have h20:nth S2 0=some ⟨0,ans0⟩:=by rw [bc 0 (by simp) aA,Bq aA]; exact h10
    have h2N:nth S2 S1.length=some ⟨k1,ansC a1.f a1.pt a1.nu c1 c2 q1 b1⟩:=by rw [bc _ (by simp) aA]; exact hN1 _
    have hP2:∀ x:Ent,nth (put S2 S1.length x) S1.length=some x:=fun x=>Di aA;have a1d:∀ x:Ent,nth (put S2 S1.length x) 0=some ⟨0,ans0⟩:=fun x=>by rw [Ad aA]; exact h20
    have a2i:∀ x y:Ent,nth (put (put S2 S1.length x) 0 y) 0=some y:=fun x y=>Di dL;have l9:over (ansC a1.f a1.pt a1.nu c1 c2 q1 b1) 0 (ansC a2.f a2.pt a2.nu c3 c4 none false)=some (ansC a2.f a2.pt a2.nu c3 c4 none false):=Rh (by rw [Jn,Jn]);have xv:over [AV.prim (.bool false),.frz [] .nilc,.frz [] .nilc,.prim (.bool false),.frz [] .nilc,.prim (.bool false),.frz [] .nilc,.prim (.bool false)] 0 (ansC a2.f a2.pt a2.nu c3 c4 none false)=some (ansC a2.f a2.pt a2.nu c3 c4 none false):=Rh (by rw [Jn]; rfl);simp only [ans0] at a1d;have yn:bldA (some []) (fieldsOf prog 123) []=some (.agg []):=aK
    refine opP func45 ntmps45 (hp3:=rfl) ?_;simp (maxSteps:=10^6)+contextual(disch:=try exact dqd)only[ev1,simprocAttr,Cg,Ca,Ch,results45,Au,B2,cl,hi1,wk,ifcA,hN1,fw,Jn,Wv,jx,hc2,h2N,hP2,a1d,a2i,l9,xv,yn];rfl
end
end
section
open Go Tryz
theorem Acx {l:List RowT} : ∀ r ∈ l,∀ c ∈ r.1,c.1 ∈ Hv l:=fun r hr c hc=>by
 refine ((Nk (D7 l)).2.1 c.1).2 ?_;unfold D7;refine O5.2 ⟨r.1.map (·.1),Fy.2 ⟨r,hr,rfl⟩,Fy.2 ⟨c,hc,rfl⟩⟩
def Aoo (l:List RowT) (a:Ans):Prop:=∀ S tk k,cL prog 45 [Au l,B2 (Hv l),.prim (.pointer none)] S tk k=some (.agg (ansC a.f a.pt a.nu .unk .unk (some (0,0)) false),S,tk,k)
section
variable (S:List Ent) (tk:List Nat) (k:Nat)
theorem N6 (l:List RowT) (dz:∀ r ∈ l,r.1.length<=1048576) (a:Ans) (hA:sysE l=0->Aoo l a) :
  cL prog 23 [Au l] S tk k=some (.tup [.bool (if sysE l=0 then a.f else false),.int (sysE l)],S,tk,k):=by
 have hC S tk k:=Jy S tk k l dz;by_cases h0:sysE l=0
 ·obtain ⟨h1,h2,h3,-⟩:=R5 h0;have hV S tk k:=Gt S tk k l h1 h2;have hA:=hA h0;unfold Aoo at hA;exact Yak
 ·exact Yaw
end
section
variable (S:List Ent) (tk:List Nat) (k:Nat)
theorem Ps (l:List RowT) (dz:∀ r ∈ l,r.1.length<=1048576) (hi:∀ r ∈ l,i64 r.2.1/\∀ c ∈ r.1,i64 c.2) (K:Nat) (a:Ans) (hS:sysE l=0->askN K l (Hv l)=some a/\a.least=none) :
  cL prog 23 [Au l] S tk k=some (.tup [.bool (if sysE l=0 then a.f else false),.int (sysE l)],S,tk,k):=by
 have hC S tk k:=Jy S tk k l dz;by_cases h0:sysE l=0
 ·obtain ⟨h1,h2,h3,-⟩:=R5 h0;have hV S tk k:=Gt S tk k l h1 h2;obtain ⟨de,bh⟩:=hS h0;have hA S tk k:=Ys S tk k l aA aA (Hv l) aA Acx hi h1 K a de bh;exact Yak
 ·exact Yaw
end
end
section
open Go
def qv (a:Q):Rat:=((a.1:Int):Rat) / ((a.2:Int):Rat)
theorem Gi {d:Int} (h:d≠0):((d:Int):Rat)≠0:=fun e=>h (iB.mp (e.trans rfl))
theorem Aqo {a:Q} {n d:Int} (ha:a.2≠0) (hd:d≠0) (h:a.1*d=n*a.2):qv a=((n:Int):Rat) / ((d:Int):Rat):=by
 have h1:=congrArg (fun z:Int=>(z:Rat)) h;simp only [C6] at h1;have h2:=Gi ha;have h3:=Gi hd;unfold qv;grind
theorem Aqq {a:Q} (h:0<a.2):qv a<0↔a.1<0:=by
 unfold qv;rw [Rat.div_lt_iff (Yc.2 h),Rat.zero_mul,Rat.intCast_neg_iff]
theorem Aqr {a:Q} (h:0<a.2):0<qv a↔0<a.1:=by
 unfold qv;rw [Rat.lt_div_iff (Yc.2 h),Rat.zero_mul,Yc]
theorem Aaj {a:Q} (h:0<a.2):sgn a<0↔qv a<0:=by
 rw [Aqq h]; unfold sgn; split
 ·omega
 ·split <;> omega
theorem R2 {a:Q} (h:0<a.2):0<sgn a↔0<qv a:=by
 rw [Aqr h]; unfold sgn; split
 ·omega
 ·split <;> omega
theorem Nf {a:Q} (h:0<a.2):sgn a=0↔qv a=0:=by
 have h1:=Aaj h;have h2:=R2 h;constructor
 ·intro h0;have a1:¬ qv a<0:=fun h'=>by have:=h1.2 h'; omega
  have a2:¬ 0<qv a:=fun h'=>by have:=h2.2 h'; omega
  grind
 ·intro h0;have a1:¬ sgn a<0:=fun h'=>by have:=h1.1 h'; grind
  have a2:¬ 0<sgn a:=fun h'=>by have:=h2.1 h'; grind
  omega
theorem Ad3:qv q0=0:=by unfold qv q0; grind
structure Fld.Exact (F:Fld) (G:Q->Prop):Prop where
 pos:∀ a,G a->0<a.2
 zero:G q0
 whole:∀ n,i64 n->(F.whole n).2=false->G (F.whole n).1/\qv (F.whole n).1=((n:Int):Rat)
 minus:∀ a b,G a->G b->(F.minus a b).2=false->G (F.minus a b).1/\qv (F.minus a b).1=qv a - qv b
 times:∀ a b,G a->G b->(F.times a b).2=false->G (F.times a b).1/\qv (F.times a b).1=qv a*qv b
 over:∀ a b,G a->G b->qv b≠0->(F.over a b).2=false->G (F.over a b).1/\qv (F.over a b).1=qv a / qv b
structure Fld.Total (F:Fld) (G:Q->Prop) (fit:Rat->Prop):Prop where
 whole:∀ n,i64 n->(F.whole n).2=false
 minus:∀ a b,G a->G b->fit (qv a - qv b)->(F.minus a b).2=false
 times:∀ a b,G a->G b->fit (qv a*qv b)->(F.times a b).2=false
 over:∀ a b,G a->G b->qv b≠0->fit (qv a / qv b)->(F.over a b).2=false
theorem Aqp {n d:Int} (hd:d≠0):qv (lowN n d,lowD n d)=((n:Int):Rat) / ((d:Int):Rat):=Aqo (a:=(lowN n d,lowD n d)) (by have:=M0 (n:=n) hd; simp only; omega) hd (Kj hd)
theorem V0 {n d:Int} (hd:d≠0) (h:(qn n d).2=false):okS (qn n d).1/\qv (qn n d).1=((n:Int):Rat) / ((d:Int):Rat):=by
 refine ⟨Ak5 n d,?_⟩;unfold qn at h ⊢;split
 ·rename_i hb; rw [if_pos hb] at h; simp at h
 ·exact Aqp hd
theorem Wh {n d:Int} (h:(wn n d).2=false):H4 (wn n d).1.1 (wn n d).1.2/\qv (wn n d).1=((n:Int):Rat) / ((d:Int):Rat):=by
 have hf:E3 n d=true:=by simpa [wn] using h
 have g:=Acf hf;exact ⟨g,Aqo (a:=(resN n d,resD n d)) (by have:=g.pos; simp only; omega) (Zo hf) (Ah9 hf)⟩
def Vd (x:Rat):Prop:=∃ n d:Int,d≠0/\x=((n:Int):Rat) / ((d:Int):Rat)/\n.natAbs<10000 ^ 200/\d.natAbs<10000 ^ 200
theorem Ahu {z:Int} (h:z.natAbs<10000 ^ 200):okZ z=true:=by
 have:=Bg.2 h;simp only [okZ,F3,decide_eq_false_iff_not];omega
theorem Wi {n d:Int} (hd:d≠0) (h:Vd (((n:Int):Rat) / ((d:Int):Rat))):(wn n d).2=false:=by
 obtain ⟨a,b,hb,he,pe,hb1⟩:=h;have e:n*b=a*d:=by
  have h2:=Gi hd;have h3:=Gi hb;have h4:((n*b:Int):Rat)=((a*d:Int):Rat):=by
   rw [C6,C6];grind
  exact iB.mp h4
 have hf:=(Anq hd hb e).1;have hg:E3 a b=true:=by
  unfold E3;have l1:(lowN a b).natAbs<10000 ^ 200:=by rw [Rf]; exact Ix (Oz _ _) pe
  have l2:(lowD a b).natAbs<10000 ^ 200:=Ix (Oz _ _) hb1;rw [Ahu l1,Ahu l2];simp [hb]
 unfold wn;rw [hf,hg]; rfl
theorem Ph {a b c d:Rat} (hb:b≠0) (hd:d≠0):(a*d - c*b) / (b*d)=a / b - c / d:=aJ
theorem Pg {a b c d:Rat} (hb:b≠0) (hd:d≠0):(a*d+-c*b) / (b*d)=a / b - c / d:=aJ
theorem H2 {a b c d:Rat} (hb:b≠0) (hd:d≠0):(a*c) / (b*d)=a / b*(c / d):=aJ
theorem Ku {a b c d:Rat} (hb:b≠0) (hd:d≠0) (hc:c≠0):(a*d) / (b*c)=a / b / (c / d):=aJ
theorem Ro {b:Q} (h:qv b≠0):b.1≠0:=fun h0=>h (by unfold qv; rw [h0]; show (0:Rat) / _=0; grind)
theorem Ab9:QQ.qF.Exact okS:=by
 refine ⟨fun a h=>h.2.2.1,⟨aL,aL,aL,aL⟩,fun n _ h=>?_,fun a b ha hb h=>?_,fun a b ha hb h=>?_,fun a b ha hb h0 h=>?_⟩
 ·simp only [QQ.qF] at h ⊢;split
  ·rename_i hb; rw [if_pos hb] at h; simp at h
  ·refine ⟨⟨?_,?_,?_,?_⟩,?_⟩
   ·simp only; omega
   ·simp only; omega
   ·simp only; omega
   ·simp only; omega
   ·unfold qv;exact Ya2x
 ·have h1:=ha.2.2.1;have h2:=hb.2.2.1;have e:=V0 (Io aA aA) h;refine ⟨e.1,e.2.trans ?_⟩;rw [Rat.intCast_sub,C6,C6,C6];exact Ph (Gi aA) (Gi aA)
 ·have h1:=ha.2.2.1;have h2:=hb.2.2.1;have e:=V0 (Io aA aA) h;exact Ya1t
 ·have h1:=ha.2.2.1;have h2:=hb.2.2.1;have h3:=Ro h0;simp only [QQ.qF] at h ⊢;rw [if_neg h3] at h ⊢;have e:=V0 (Io aA h3) h;exact Ya1a
def gW (a:Q):Prop:=H4 a.1 a.2
theorem Pr {a:Q} (h:gW a):qz a=a:=by
 have:=h.pos;unfold qz; rw [if_neg aA]
theorem Aki {n:Int} (h:i64 n):gW (n,1):=by
 have:=WW.Da.whole n h;rcases this with h1|h1
 ·exact h1
 ·simp [WW.qF] at h1
theorem Qb:WW.qF.Exact gW:=by
 refine ⟨fun a h=>h.pos,Xw,fun n hn h=>⟨Aki hn,?_⟩,fun a b ha hb h=>?_,fun a b ha hb h=>?_,fun a b ha hb h0 h=>?_⟩
 ·simp only [WW.qF]; unfold qv;exact Ya2x
 ·have h1:=ha.pos;have h2:=hb.pos;simp only [WW.qF,Pr ha,Pr hb] at h ⊢;have e:=Wh h;refine ⟨e.1,e.2.trans ?_⟩;rw [Xb,C6,C6,C6,Oh];exact Pg (Gi aA) (Gi aA)
 ·have h1:=ha.pos;have h2:=hb.pos;simp only [WW.qF,Pr ha,Pr hb] at h ⊢;have e:=Wh h;exact Ya1t
 ·have h1:=ha.pos;have h2:=hb.pos;have h3:=Ro h0;simp only [WW.qF,Pr ha,Pr hb] at h ⊢;have e:=Wh h;exact Ya1a
theorem Acy:WW.qF.Total gW Vd:=by
 refine ⟨fun n _=>rfl,fun a b ha hb h=>?_,fun a b ha hb h=>?_,fun a b ha hb h0 h=>?_⟩
 ·have h1:=ha.pos;have h2:=hb.pos;simp only [WW.qF,Pr ha,Pr hb];refine Wi (Io aA aA) ?_;rw [Xb,C6,C6,C6,Oh,Pg (Gi aA) (Gi aA)];exact h
 ·have h1:=ha.pos;have h2:=hb.pos;simp only [WW.qF,Pr ha,Pr hb];refine Wi (Io aA aA) ?_;rw [C6,C6,H2 (Gi aA) (Gi aA)];exact h
 ·have h1:=ha.pos;have h2:=hb.pos;have h3:=Ro h0;simp only [WW.qF,Pr ha,Pr hb];refine Wi (Io aA h3) ?_;rw [C6,C6,Ku (Gi aA) (Gi aA) (Gi h3)];exact h
theorem Zq {l:List ByteArray} {s:ByteArray} (h:s ∈ l):nth l (idxV l s)=some s:=by
 obtain ⟨j,h1,h2,h3⟩:=Qx (i:=0) h;unfold idxV;rw [h2];have:((0+j:Nat):Int).toNat=j:=aA
 rw [this]; exact h3
def tabV (t:Tb):Simp.Tab:=⟨fun i j=>qv (at_ q0 (B1 t i) j),fun j=>qv (at_ q0 t.cost j),fun i=>at_ 0 t.basis i⟩
structure TOk (G:Q->Prop) (m N:Nat) (t:Tb):Prop where
 rows:t.rows.length=m
 basis:t.basis.length=m
 cost:t.cost.length=N+1
 rowW:∀ r ∈ t.rows,r.length=N+1
 okr:∀ r ∈ t.rows,∀ q ∈ r,G q
 okc:∀ q ∈ t.cost,G q
section
variable {α:Type} {d x:α} {l:List α} {k:Nat}
theorem Wz:at_ d [] k=d:=rfl
theorem Wy (h:k<l.length):nth l k=some (at_ d l k):=by
 obtain ⟨y,hy⟩:=Ah h;unfold at_; rw [hy]; rfl
theorem Hk (h:k<l.length):at_ d l k ∈ l:=Aj (Wy h)
theorem Afe (h:l.length<=k):at_ d l k=d:=by
 unfold at_; rw [Ae,E9 h]; rfl
theorem N8 (h:k<l.length) {j:Nat} : at_ d (put l k x) j=if j=k then x else at_ d l j:=by
 unfold at_;by_cases e:j=k
 ·subst e; rw [if_pos rfl,Di h]; rfl
 ·rw [if_neg e,Ad (Od e)]
end
section
variable {F:Fld} {G:Q->Prop} {fit:Rat->Prop} {m N:Nat}
theorem Zi (hE:F.Exact G) {b:Q} (hb:G b) (h0:qv b≠0):∀ {l:List Q},(∀ q ∈ l,G q)->(divL F b l).2=false->(∀ q ∈ (divL F b l).1,G q)/\∀ j,qv (at_ q0 (divL F b l).1 j)=qv (at_ q0 l j) / qv b
 | [],_,_=>⟨fun q h=>aP,fun j=>by simp only [divL,Wz,Ad3]; grind⟩
 | x :: l,hl,hf=>by
  have hx:(dvS F b x).2=false/\(divL F b l).2=false:=by simpa [divL] using hf
  have ih:=Zi hE hb h0 (fun q h=>hl q (Cq _ h)) hx.2;have gx:=hl x (Cv ..);have hs:G (dvS F b x).1/\qv (dvS F b x).1=qv x / qv b:=by
   have h1:=hx.1;unfold dvS at h1 ⊢;split
   ·rename_i h;exact ⟨gx,by rw [(Nf (hE.pos x gx)).1 h]; grind⟩
   ·rename_i h;rw [if_neg h] at h1;exact hE.over x b gx hb h0 h1
  exact Ya33
theorem Abe (hT:F.Total G fit) {b:Q} (hb:G b) (h0:qv b≠0):∀ {l:List Q},(∀ q ∈ l,G q)->(∀ j,j<l.length->fit (qv (at_ q0 l j) / qv b))->(divL F b l).2=false
 | [],_,_=>rfl
 | x :: l,hl,hf=>by
  have ih:=Abe hT hb h0 (l:=l) (fun q h=>hl q (Cq _ h)) fun j hj=>hf (j+1) bI;have gx:=hl x (Cv ..);have hs:(dvS F b x).2=false:=by
   unfold dvS;split
   ·rfl
   ·exact hT.over x b gx hb h0 (hf 0 (by simp))
  show ((dvS F b x).2 || (divL F b l).2)=false;rw [hs,ih]; rfl
theorem Zj {b:Q} : ∀ {l:List Q},(divL F b l).1.length=l.length
 | []=>rfl
 | x :: l=>by simp only [divL,Ck,Zj]
theorem Alk (hE:F.Exact G) {b a r:Q} (hb:G b) (ha:G a) (hr:G r) (hf:(Jg F b a r).2=false):G (Jg F b a r).1/\qv (Jg F b a r).1=qv a - qv b*qv r:=by
 unfold Jg at hf ⊢;split
 ·rename_i h;exact ⟨ha,by rw [(Nf (hE.pos r hr)).1 h]; grind⟩
 ·rename_i h;rw [if_neg h] at hf;simp only [El] at hf;have h1:=hE.times b r hb hr hf.1;have h2:=hE.minus a _ ha h1.1 hf.2;exact ⟨h2.1,by rw [h2.2,h1.2]⟩
theorem Ab1 (hE:F.Exact G) {b:Q} (hb:G b):∀ {l r:List Q},l.length=r.length->(∀ q ∈ l,G q)->(∀ q ∈ r,G q)->(lessL F b l r).2=false->(∀ q ∈ (lessL F b l r).1,G q)/\∀ j,qv (at_ q0 (lessL F b l r).1 j)=qv (at_ q0 l j) - qv b*qv (at_ q0 r j)
 | [],[],_,_,_,_=>⟨fun q h=>aP,fun j=>by simp only [lessL,Wz,Ad3]; grind⟩
 | [],_ :: _,h,_,_,_=>aM
 | _ :: _,[],h,_,_,_=>aM
 | a :: l,r :: rs,h,hl,hr,hf=>by
  have hx:(Jg F b a r).2=false/\(lessL F b l rs).2=false:=by simpa [lessL] using hf
  have ih:=Ab1 hE hb aI (fun q h=>hl q (Cq _ h)) (fun q h=>hr q (Cq _ h)) hx.2;have hs:=Alk hE hb (hl a (Cv ..)) (hr r (Cv ..)) hx.1;exact Ya33
theorem X4 (hE:F.Exact G) (hT:F.Total G fit) {b:Q} (hb:G b):∀ {l r:List Q},l.length=r.length->(∀ q ∈ l,G q)->(∀ q ∈ r,G q)->(∀ j,j<r.length->fit (qv b*qv (at_ q0 r j))/\fit (qv (at_ q0 l j) - qv b*qv (at_ q0 r j)))->(lessL F b l r).2=false
 | [],[],_,_,_,_=>rfl
 | [],_ :: _,h,_,_,_=>aM
 | _ :: _,[],h,_,_,_=>aM
 | a :: l,r :: rs,h,hl,hr,hf=>by
  have ih:=X4 hE hT hb (l:=l) (r:=rs) aI (fun q h=>hl q (Cq _ h)) (fun q h=>hr q (Cq _ h)) fun j hj=>hf (j+1) bI;have ga:=hl a (Cv ..);have gr:=hr r (Cv ..);have h0:=hf 0 (by simp);have hs:(Jg F b a r).2=false:=by
   unfold Jg;split
   ·rfl
   ·have t1:=hT.times b r hb gr h0.1;have t2:=hE.times b r hb gr t1;have t3:=hT.minus a _ ga t2.1 (by rw [t2.2]; exact h0.2);simp only [t1,t3]; rfl
  show ((Jg F b a r).2 || (lessL F b l rs).2)=false;rw [hs,ih]; rfl
theorem Ab2 (hE:F.Exact G) {a r:List Q} {c:Nat} (hc:c<a.length) (hl:a.length=r.length) (ha:∀ q ∈ a,G q) (hr:∀ q ∈ r,G q) (hf:(lessT F a r c).2=false):(∀ q ∈ (lessT F a r c).1,G q)/\∀ j,qv (at_ q0 (lessT F a r c).1 j)=qv (at_ q0 a j) - qv (at_ q0 a c)*qv (at_ q0 r j):=by
 have hb:=ha _ (Hk (d:=q0) hc);unfold lessT at hf ⊢;rw [Wy (d:=q0) hc] at hf ⊢;simp only at hf ⊢;split
 ·rename_i h;exact ⟨ha,fun j=>by rw [(Nf (hE.pos _ hb)).1 h]; grind⟩
 ·rename_i h;rw [if_neg h] at hf;exact Ab1 hE hb hl ha hr hf
theorem X5 (hE:F.Exact G) (hT:F.Total G fit) {a r:List Q} {c:Nat} (hc:c<a.length) (hl:a.length=r.length) (ha:∀ q ∈ a,G q) (hr:∀ q ∈ r,G q) (hf:∀ j,j<r.length->fit (qv (at_ q0 a c)*qv (at_ q0 r j))/\fit (qv (at_ q0 a j) - qv (at_ q0 a c)*qv (at_ q0 r j))):(lessT F a r c).2=false:=by
 have hb:=ha _ (Hk (d:=q0) hc);unfold lessT;rw [Wy (d:=q0) hc];simp only;split
 ·rfl
 ·exact X4 hE hT hb hl ha hr hf
theorem Re (hE:F.Exact G) {row:List Q} {c i W:Nat} (hc:c<W) (hw:row.length=W) (hr:∀ q ∈ row,G q):∀ {l:List (List Q)} {k:Nat},(∀ r ∈ l,r.length=W)->(∀ r ∈ l,∀ q ∈ r,G q)->(lessRows F row c i k l).2=false ->
  (∀ r ∈ (lessRows F row c i k l).1,r.length=W)/\(∀ r ∈ (lessRows F row c i k l).1,∀ q ∈ r,G q)/\∀ n j,n<l.length->qv (at_ q0 (at_ [] (lessRows F row c i k l).1 n) j)=if k+n=i then qv (at_ q0 (at_ [] l n) j) else qv (at_ q0 (at_ [] l n) j) - qv (at_ q0 (at_ [] l n) c)*qv (at_ q0 row j)
 | [],k,_,_,_=>⟨fun r h=>aP,fun r h=>aP,fun n j hn=>by simp at hn⟩
 | r :: l,k,hl,hg,hf=>by
  have hx:(lessK F row c i k r).2=false/\(lessRows F row c i (k+1) l).2=false:=by simpa [lessRows] using hf
  have ih:=Re hE hc hw hr (fun r h=>hl r (Cq _ h)) (fun r h=>hg r (Cq _ h)) hx.2;have hlr:=hl r (Cv ..);have hgr:=hg r (Cv ..);have hs:(lessK F row c i k r).1.length=W/\(∀ q ∈ (lessK F row c i k r).1,G q)/\∀ j,qv (at_ q0 (lessK F row c i k r).1 j)=if k=i then qv (at_ q0 r j) else qv (at_ q0 r j) - qv (at_ q0 r c)*qv (at_ q0 row j):=by
   have h1:=hx.1;unfold lessK at h1 ⊢;by_cases e:k=i
   ·simp only [if_pos e]; exact ⟨hlr,hgr,fun j=>trivial⟩
   ·simp only [if_neg e] at h1 ⊢;have h2:=Ab2 hE aA (by rw [hlr,hw]) hgr hr h1;exact ⟨by rw [Vk]; exact hlr,h2.1,h2.2⟩
  refine ⟨fun q h=>?_,fun q h=>?_,fun n j hn=>?_⟩
  ·exact Ya08
  ·rcases Cy.1 h with rfl|h
   ·exact hs.2.1
   ·exact ih.2.1 q h
  ·cases n with
   | zero=>exact hs.2.2 j
   | succ n =>
    have:=ih.2.2 n j dK;rw [show k+1+n=k+(n+1) by omega] at this;exact this
theorem Pe (hE:F.Exact G) (hT:F.Total G fit) {row:List Q} {c i W:Nat} (hc:c<W) (hw:row.length=W) (hr:∀ q ∈ row,G q):∀ {l:List (List Q)} {k:Nat},(∀ r ∈ l,r.length=W)->(∀ r ∈ l,∀ q ∈ r,G q) ->
  (∀ n j,n<l.length->k+n≠i->j<W->fit (qv (at_ q0 (at_ [] l n) c)*qv (at_ q0 row j))/\fit (qv (at_ q0 (at_ [] l n) j) - qv (at_ q0 (at_ [] l n) c)*qv (at_ q0 row j)))->(lessRows F row c i k l).2=false
 | [],k,_,_,_=>rfl
 | r :: l,k,hl,hg,hf=>by
  have ih:=Pe hE hT hc hw hr (l:=l) (k:=k+1) (i:=i) (fun r h=>hl r (Cq _ h)) (fun r h=>hg r (Cq _ h)) fun n j hn hk hj=>hf (n+1) j dK aA hj;have hlr:=hl r (Cv ..);have hgr:=hg r (Cv ..);have hs:(lessK F row c i k r).2=false:=by
   unfold lessK;by_cases e:k=i
   ·rw [if_pos e]
   ·rw [if_neg e];exact X5 hE hT aA (by rw [hlr,hw]) hgr hr fun j hj=>hf 0 j (by simp) aA aA
  show ((lessK F row c i k r).2 || (lessRows F row c i (k+1) l).2)=false;rw [hs,ih]; rfl
structure Aax (fit:Rat->Prop) (m N:Nat) (t:Simp.Tab) (r s:Nat):Prop where
 row:∀ j,j<N+1->fit (t.T r j / t.T r s)
 mul:∀ i j,i<m->j<N+1->fit (t.T i s*(t.T r j / t.T r s))
 sub:∀ i j,i<m->j<N+1->i≠r->fit (t.T i j - t.T i s*(t.T r j / t.T r s))
 cmul:∀ j,j<N+1->fit (t.c s*(t.T r j / t.T r s))
 csub:∀ j,j<N+1->fit (t.c j - t.c s*(t.T r j / t.T r s))
theorem Nb {t:Tb} (h:TOk G m N t) {i:Nat} (hi:i<m):B1 t i ∈ t.rows:=Hk Za3t
theorem Adz (hE:F.Exact G) (hT:F.Total G fit) {t:Tb} (h:TOk G m N t) {i c:Nat} (hi:i<m) (hc:c<N+1) (h0:(tabV t).T i c≠0) (ez:t.fl=false) (hp:Aax fit m N (tabV t) i c):(Dz F t i c).fl=false:=by
 have dd:=Nb h hi;have hb:=h.okr _ dd _ (Hk (d:=q0) (k:=c) (by rw [h.rowW _ dd]; exact hc));have d1:=Abe hT hb h0 (h.okr _ dd) fun j hj=>hp.row j (by rw [h.rowW _ dd] at hj; exact hj);have d2:=Zi hE hb h0 (h.okr _ dd) d1;have dl:=Zj (F:=F) (b:=at_ q0 (B1 t i) c) (l:=B1 t i);rw [h.rowW _ dd] at dl;have r1:(lessRows F (divL F (at_ q0 (B1 t i) c) (B1 t i)).1 c i 0 (put t.rows i (divL F (at_ q0 (B1 t i) c) (B1 t i)).1)).2=false:=by
  refine Pe hE hT (W:=N+1) hc dl d2.1 (fun r hr=>?_) (fun r hr=>?_) fun n j hn hk hj=>?_
  ·rcases H8 hr with rfl|hr
   ·exact dl
   ·exact h.rowW r hr
  ·rcases H8 hr with rfl|hr
   ·exact d2.1
   ·exact h.okr r hr
  ·rw [Ai,h.rows] at hn;rw [N8 Za3t,if_neg aA,d2.2];exact ⟨hp.mul n j hn hj,hp.sub n j hn hj aA⟩
 have k1:(lessT F t.cost (divL F (at_ q0 (B1 t i) c) (B1 t i)).1 c).2=false:=by
  refine X5 hE hT (by rw [h.cost]; exact hc) (by rw [h.cost,dl]) h.okc d2.1 fun j hj=>?_;rw [dl] at hj;rw [d2.2];exact ⟨hp.cmul j hj,hp.csub j hj⟩
 show (((t.fl || _) || _) || _)=false;rw [ez,d1,r1,k1]; rfl
theorem Ah0 (hE:F.Exact G) {t:Tb} (h:TOk G m N t) {i c:Nat} (hi:i<m) (hc:c<N+1) (h0:(tabV t).T i c≠0) (ez:(Dz F t i c).fl=false):TOk G m N (Dz F t i c)/\tabV (Dz F t i c)=Simp.piv (tabV t) i c:=by
 have dd:=Nb h hi;have hb:=h.okr _ dd _ (Hk (d:=q0) (k:=c) (by rw [h.rowW _ dd]; exact hc));have a1e:(((t.fl || (divL F (at_ q0 (B1 t i) c) (B1 t i)).2) || (lessRows F (divL F (at_ q0 (B1 t i) c) (B1 t i)).1 c i 0 (put t.rows i (divL F (at_ q0 (B1 t i) c) (B1 t i)).1)).2) || (lessT F t.cost (divL F (at_ q0 (B1 t i) c) (B1 t i)).1 c).2)=false:=ez;simp only [El] at a1e;obtain ⟨⟨⟨-,d1⟩,r1⟩,k1⟩:=a1e;have d2:=Zi hE hb h0 (h.okr _ dd) d1;have dl:=Zj (F:=F) (b:=at_ q0 (B1 t i) c) (l:=B1 t i);rw [h.rowW _ dd] at dl;have r2:=Re hE (W:=N+1) hc dl d2.1 (fun r hr=>by
  rcases H8 hr with rfl|hr
  ·exact dl
  ·exact h.rowW r hr) (fun r hr=>by
  rcases H8 hr with rfl|hr
  ·exact d2.1
  ·exact h.okr r hr) r1
 have k2:=Ab2 hE (by rw [h.cost]; exact hc) (by rw [h.cost,dl]) h.okc d2.1 k1;refine ⟨⟨?_,?_,?_,r2.1,r2.2.1,k2.1⟩,?_⟩
 ·show (lessRows _ _ _ _ _ _).1.length=m;rw [Jt,Ai]; exact h.rows
 ·show (put _ _ _).length=m;rw [Ai]; exact h.basis
 ·show (lessT _ _ _ _).1.length=N+1;rw [Vk]; exact h.cost
 ·have eT:(tabV (Dz F t i c)).T=(Simp.piv (tabV t) i c).T:=by
   funext i' j;show qv (at_ q0 (at_ [] (lessRows F (divL F (at_ q0 (B1 t i) c) (B1 t i)).1 c i 0 (put t.rows i (divL F (at_ q0 (B1 t i) c) (B1 t i)).1)).1 i') j)=Simp.pivT (tabV t) i c i' j;by_cases ar:i'<m
   ·rw [r2.2.2 i' j (by rw [Ai,h.rows]; exact ar),N8 Za3t,d2.2];unfold Simp.pivT;by_cases e:i'=i
    ·subst e;rw [if_pos aA,if_pos rfl,if_pos rfl,d2.2]; rfl
    ·rw [if_neg aA,if_neg e,if_neg e]; rfl
   ·have hn:at_ [] t.rows i'=[]:=Afe (by rw [h.rows]; omega);have z:∀ j,(tabV t).T i' j=0:=fun j=>by
     show qv (at_ q0 (at_ [] t.rows i') j)=0;rw [hn,Wz,Ad3]
    have e2:at_ [] (lessRows F (divL F (at_ q0 (B1 t i) c) (B1 t i)).1 c i 0 (put t.rows i (divL F (at_ q0 (B1 t i) c) (B1 t i)).1)).1 i'=[]:=Afe (by rw [Jt,Ai,h.rows]; omega);rw [e2,Wz,Ad3];unfold Simp.pivT;rw [if_neg aA,z,z]; grind
  have eC:(tabV (Dz F t i c)).c=(Simp.piv (tabV t) i c).c:=by
   funext j;show qv (at_ q0 (lessT F t.cost (divL F (at_ q0 (B1 t i) c) (B1 t i)).1 c).1 j)=_;rw [k2.2,d2.2]; rfl
  have eB:(tabV (Dz F t i c)).B=(Simp.piv (tabV t) i c).B:=by
   funext k;show at_ 0 (put t.basis i c) k=if k=i then c else at_ 0 t.basis k
   exact N8 (by rw [h.basis]; exact hi)
  show Simp.Tab.mk _ _ _=Simp.Tab.mk _ _ _;exact congr (congr (congrArg Simp.Tab.mk eT) eC) eB
end
def J8 (G:Q->Prop) (N c:Nat) (T:Simp.Tab) (k:Nat):Option (Nat × Q)->Prop
 | none=>∀ i,i<k->T.T i c<=0
 | some (i,q)=>i<k/\0<T.T i c/\G q/\qv q=T.T i N / T.T i c/\∀ i',i'<k->0<T.T i' c->T.T i N / T.T i c<=T.T i' N / T.T i' c/\(T.T i N / T.T i c=T.T i' N / T.T i' c->T.B i<=T.B i')
structure Pt (fit:Rat->Prop) (m N c:Nat) (T:Simp.Tab):Prop where
 quo:∀ i,i<m->0<T.T i c->fit (T.T i N / T.T i c)
 sub:∀ i k,i<m->k<m->0<T.T i c->0<T.T k c->fit (T.T i N / T.T i c - T.T k N / T.T k c)
def Mw (F:Fld) (basis:List Nat) (c W k:Nat) (r:List Q) (b:Option (Nat × Q)):Option (Nat × Q) × Bool :=
 if sgn (at_ q0 r c)<=0 then (b,false) else
  match b with
  | none=>(some (k,(F.over (at_ q0 r (W - 1)) (at_ q0 r c)).1),(F.over (at_ q0 r (W - 1)) (at_ q0 r c)).2)
  | some (bi,least)=>(if worse basis (sgn (F.minus (F.over (at_ q0 r (W - 1)) (at_ q0 r c)).1 least).1) k bi=true then some (bi,least) else some (k,(F.over (at_ q0 r (W - 1)) (at_ q0 r c)).1),(F.over (at_ q0 r (W - 1)) (at_ q0 r c)).2 || (F.minus (F.over (at_ q0 r (W - 1)) (at_ q0 r c)).1 least).2)
theorem Rc {F:Fld} {basis:List Nat} {c W k:Nat} {r:List Q} {l:List (List Q)} {b:Option (Nat × Q)} : Bw F basis c W k (r :: l) b=((Bw F basis c W (k+1) l (Mw F basis c W k r b).1).1,(Mw F basis c W k r b).2 || (Bw F basis c W (k+1) l (Mw F basis c W k r b).1).2):=by
 rw [Bw];unfold Mw;split
 ·simp
 ·cases b with
  | none=>rfl
  | some p=>obtain ⟨bi,least⟩:=p; rfl
section
variable {F:Fld} {G:Q->Prop} {fit:Rat->Prop} {m N L:Nat}
theorem X3 (hE:F.Exact G) {t:Tb} (h:TOk G m N t) {c k:Nat} (hc:c<N+1) (hk:k<m) {b:Option (Nat × Q)} (hb:J8 G N c (tabV t) k b) (hf:(Mw F t.basis c (N+1) k (B1 t k) b).2=false):J8 G N c (tabV t) (k+1) (Mw F t.basis c (N+1) k (B1 t k) b).1:=by
 have dd:=Nb h hk;have hw:=h.rowW _ dd;have g1:=h.okr _ dd _ (Hk (d:=q0) (k:=c) (by rw [hw]; exact hc));have g2:=h.okr _ dd _ (Hk (d:=q0) (k:=N) (by rw [hw]; omega));have p1:=hE.pos _ g1;have e1:qv (at_ q0 (B1 t k) c)=(tabV t).T k c:=rfl;have e2:qv (at_ q0 (B1 t k) N)=(tabV t).T k N:=rfl;unfold Mw at hf ⊢;rw [iT] at hf ⊢;split
 ·rename_i hs;have hn:(tabV t).T k c<=0:=by
   have:¬ 0<qv (at_ q0 (B1 t k) c):=fun h'=>by have:=(R2 p1).2 h'; omega
   rw [e1] at this; grind
  cases b with
  | none =>
   intro i hi;by_cases e:i=k
   ·subst e; exact hn
   ·exact hb i aA
  | some p =>
   obtain ⟨bi,least⟩:=p;obtain ⟨b1,b2,b3,b4,b5⟩:=hb;refine ⟨aA,b2,b3,b4,fun i' ar hp=>?_⟩;by_cases e:i'=k
   ·subst e; grind
   ·exact b5 i' aA hp
 ·rename_i hs;rw [if_neg hs] at hf;have hp:0<(tabV t).T k c:=by
   rw [<- e1]; exact (R2 p1).1 aA
  have h0:qv (at_ q0 (B1 t k) c)≠0:=by rw [e1]; grind
  cases b with
  | none =>
   simp only at hf ⊢;have hq:=hE.over _ _ g2 g1 h0 hf;refine ⟨aA,hp,hq.1,by rw [hq.2,e1,e2],fun i' ar fc=>?_⟩;by_cases e:i'=k
   ·exact Ya1c
   ·have:=hb i' aA; grind
  | some p =>
   obtain ⟨bi,least⟩:=p;obtain ⟨b1,b2,b3,b4,b5⟩:=hb;simp only [El] at hf ⊢;have hq:=hE.over _ _ g2 g1 h0 hf.1;have hd:=hE.minus _ _ hq.1 b3 hf.2;have pd:=hE.pos _ hd.1;have hdv:qv (F.minus (F.over (at_ q0 (B1 t k) N) (at_ q0 (B1 t k) c)).1 least).1=(tabV t).T k N / (tabV t).T k c - (tabV t).T bi N / (tabV t).T bi c:=by rw [hd.2,hq.2,b4,e1,e2]
   have s1:=R2 pd;have s2:=Nf pd;have s3:=Aaj pd;rw [hdv] at s1 s2 s3;generalize sgn (F.minus (F.over (at_ q0 (B1 t k) N) (at_ q0 (B1 t k) c)).1 least).1=s at s1 s2 s3 ⊢;have eB:∀ i,at_ 0 t.basis i=(tabV t).B i:=fun _=>rfl;unfold worse;rw [eB,eB];by_cases c1:0<s
   ·have hw1:(decide (0<s) || (s == 0 && decide ((tabV t).B bi<(tabV t).B k)))=true:=by simp [c1]
    rw [if_pos hw1];have:=s1.1 c1;refine ⟨aA,b2,b3,b4,fun i' ar fc=>?_⟩;by_cases e:i'=k
    ·subst e; exact ⟨aJ,fun h'=>aJ⟩
    ·exact b5 i' aA fc
   ·by_cases c2:s=0
    ·have hz:=s2.1 c2;have lw:(tabV t).T k N / (tabV t).T k c=(tabV t).T bi N / (tabV t).T bi c:=aJ
     by_cases c3:(tabV t).B bi<(tabV t).B k
     ·have hw1:(decide (0<s) || (s == 0 && decide ((tabV t).B bi<(tabV t).B k)))=true:=by simp [c2,c3]
      rw [if_pos hw1];refine ⟨aA,b2,b3,b4,fun i' ar fc=>?_⟩;by_cases e:i'=k
      ·subst e; exact ⟨aJ,fun _=>aA⟩
      ·exact b5 i' aA fc
     ·have hw1:¬ (decide (0<s) || (s == 0 && decide ((tabV t).B bi<(tabV t).B k)))=true:=by simp [c2,c3]
      rw [if_neg hw1];refine ⟨aA,hp,hq.1,by rw [hq.2,e1,e2],fun i' ar fc=>?_⟩;by_cases e:i'=k
      ·exact Ya1c
      ·have h5:=b5 i' aA fc;refine ⟨by rw [lw]; exact h5.1,fun h'=>?_⟩;have:=h5.2 (by rw [<- lw]; exact h');omega
    ·have hw1:¬ (decide (0<s) || (s == 0 && decide ((tabV t).B bi<(tabV t).B k)))=true:=by simp [c1,c2]
     rw [if_neg hw1];have:=s3.1 aA;refine ⟨aA,hp,hq.1,by rw [hq.2,e1,e2],fun i' ar fc=>?_⟩;by_cases e:i'=k
     ·exact Ya1c
     ·have h5:=b5 i' aA fc;exact ⟨aJ,fun h'=>by have:=h5.1; grind⟩
theorem Adk (hE:F.Exact G) (hT:F.Total G fit) {t:Tb} (h:TOk G m N t) {c k:Nat} (hc:c<N+1) (hk:k<m) (hF:Pt fit m N c (tabV t)) {b:Option (Nat × Q)} (hb:J8 G N c (tabV t) k b):(Mw F t.basis c (N+1) k (B1 t k) b).2=false:=by
 have dd:=Nb h hk;have hw:=h.rowW _ dd;have g1:=h.okr _ dd _ (Hk (d:=q0) (k:=c) (by rw [hw]; exact hc));have g2:=h.okr _ dd _ (Hk (d:=q0) (k:=N) (by rw [hw]; omega));have p1:=hE.pos _ g1;have e1:qv (at_ q0 (B1 t k) c)=(tabV t).T k c:=rfl;have e2:qv (at_ q0 (B1 t k) N)=(tabV t).T k N:=rfl;unfold Mw;rw [iT];split
 ·rfl
 ·rename_i hs;have hp:0<(tabV t).T k c:=by
   rw [<- e1]; exact (R2 p1).1 aA
  have h0:qv (at_ q0 (B1 t k) c)≠0:=by rw [e1]; grind
  have f1:=hT.over _ _ g2 g1 h0 (hF.quo k hk hp);cases b with
  | none=>exact f1
  | some p =>
   obtain ⟨bi,least⟩:=p;obtain ⟨b1,b2,b3,b4,b5⟩:=hb;have hq:=hE.over _ _ g2 g1 h0 f1;have f2:=hT.minus _ _ hq.1 b3 (by rw [hq.2,b4,e1,e2]; exact hF.sub k bi hk aA hp b2);simp only [f1,f2]; rfl
theorem X2 (hE:F.Exact G) {t:Tb} (h:TOk G m N t) {c:Nat} (hc:c<N+1):∀ {l:List (List Q)} {k:Nat} {b:Option (Nat × Q)},t.rows.drop k=l->k<=m->J8 G N c (tabV t) k b->(Bw F t.basis c (N+1) k l b).2=false->J8 G N c (tabV t) m (Bw F t.basis c (N+1) k l b).1
 | [],k,b,hl,hk,hb,_=>by
  have:t.rows.length<=k:=List.drop_eq_nil_iff.1 hl;rw [h.rows] at this;have e:k=m:=aA
  subst e;exact hb
 | r :: l,k,b,hl,hk,hb,hf=>by
  have o7:k<m:=by
   exact Ya1f
  have hd:=Av (Wy (d:=[]) (l:=t.rows) (k:=k) (by rw [h.rows]; exact o7));rw [hl] at hd;obtain ⟨hr,hl2⟩:=List.cons.inj hd;have er:r=B1 t k:=hr;rw [Rc] at hf ⊢;simp only [El] at hf ⊢;rw [er] at hf ⊢;exact X2 hE h hc hl2.symm o7 (X3 hE h hc o7 hb hf.1) hf.2
theorem T7 (hE:F.Exact G) (hT:F.Total G fit) {t:Tb} (h:TOk G m N t) {c:Nat} (hc:c<N+1) (hF:Pt fit m N c (tabV t)):∀ {l:List (List Q)} {k:Nat} {b:Option (Nat × Q)},t.rows.drop k=l->k<=m->J8 G N c (tabV t) k b->(Bw F t.basis c (N+1) k l b).2=false
 | [],k,b,hl,hk,hb=>rfl
 | r :: l,k,b,hl,hk,hb=>by
  have o7:k<m:=by
   exact Ya1f
  have hd:=Av (Wy (d:=[]) (l:=t.rows) (k:=k) (by rw [h.rows]; exact o7));rw [hl] at hd;obtain ⟨hr,hl2⟩:=List.cons.inj hd;have er:r=B1 t k:=hr;have s1:=Adk hE hT h hc o7 hF hb;rw [Rc,er];simp only [El];exact ⟨s1,T7 hE hT h hc hF hl2.symm o7 (X3 hE h hc o7 hb s1)⟩
theorem Afz (hE:F.Exact G) {cost:List Q} (hg:∀ q ∈ cost,G q):∀ {n k:Nat},k+n<=cost.length->match colF cost n k with
  | none=>∀ j,k<=j->j<k+n->0<=qv (at_ q0 cost j)
  | some c=>k<=c/\c<k+n/\qv (at_ q0 cost c)<0/\∀ j,k<=j->j<c->0<=qv (at_ q0 cost j)
 | 0,k,_=>fun j h1 h2=>aA
 | n+1,k,hn=>by
  have gk:=hg _ (Hk (d:=q0) (k:=k) (l:=cost) aA);have hs:=Aaj (hE.pos _ gk);unfold colF;by_cases c1:sgn (at_ q0 cost k)<0
  ·rw [if_pos c1];exact ⟨Cb _,aA,hs.1 c1,fun j h1 h2=>aA⟩
  ·rw [if_neg c1];have hk:0<=qv (at_ q0 cost k):=by
    have:¬ qv (at_ q0 cost k)<0:=fun h'=>c1 (hs.2 h');grind
   have ih:=Afz hE hg (n:=n) (k:=k+1) aA;cases ed:colF cost n (k+1) with
   | none =>
    rw [ed] at ih;intro j h1 h2;by_cases e:j=k
    ·subst e; exact hk
    ·exact ih j aA aA
   | some c =>
    rw [ed] at ih;obtain ⟨i1,i2,i3,i4⟩:=ih;refine ⟨aA,aA,i3,fun j h1 h2=>?_⟩;by_cases e:j=k
    ·subst e; exact hk
    ·exact i4 j aA h2
def Safe (F:Fld) (G:Q->Prop) (m N L:Nat) (t0:Simp.Tab):Prop :=
 F.stop=true\/∃ fit,F.Total G fit/\∀ K (R:Simp.Run m N L K),R.t 0=t0->(∀ c,c<L->Pt fit m N c (R.t K))/\∀ r s,r<m->s<N->(R.t K).T r s≠0->Aax fit m N (R.t K) r s
def Aen (F:Fld) (G:Q->Prop) (m N L:Nat) (t0:Simp.Tab) (b:Bool) (t':Tb):Prop :=
 (F.stop=true/\t'.fl=true)\/(t'.fl=false/\TOk G m N t'/\∃ K,∃ R:Simp.Run m N L K,R.t 0=t0/\R.t K=tabV t'/\(b=true->∀ j,j<L->0<=(tabV t').c j)/\(b=false->∃ s,s<L/\(tabV t').c s<0/\∀ i,i<m->(tabV t').T i s<=0))
theorem TOk.flag {t:Tb} (h:TOk G m N t) (f:Bool):TOk G m N { t with fl:=f }:=⟨h.rows,h.basis,h.cost,h.rowW,h.okr,h.okc⟩
theorem Tz {n:Nat} {t:Tb} (h1:F.stop=true) (h2:t.fl=true):Ht F (n+1) t=some (true,t):=by
 rw [Ht,h1,h2]; rfl
theorem Abd (hE:F.Exact G) {t0:Simp.Tab} (hs:Safe F G m N L t0):∀ (n:Nat) {K:Nat} (R:Simp.Run m N L K) {t:Tb},R.t 0=t0->R.t K=tabV t->TOk G m N t->t.real=L->t.fl=false->N ^ m+1<=n+K->∃ b t',Ht F n t=some (b,t')/\Aen F G m N L t0 b t'
 | 0,K,R,t,h0,hK,ht,hL,ez,hn=>by have:=R.short; omega
 | n+1,K,R,t,h0,hK,ht,hL,ez,hn=>by
  have a2j:=R.short;have hLN:=R.LN;have ed:=Afz hE ht.okc (n:=t.real) (k:=0) (by rw [ht.cost]; omega);have e0:¬ (F.stop && t.fl)=true:=by rw [ez]; simp
  rw [Ht,if_neg e0];cases hc:colF t.cost t.real 0 with
  | none =>
   rw [hc] at ed;refine ⟨true,t,rfl,.inr ⟨ez,ht,K,R,h0,hK,fun _ j hj=>ed j (Cs _) aA,fun h=>aP⟩⟩
  | some c =>
   rw [hc] at ed;obtain ⟨-,hcL,hneg,a00⟩:=ed;simp only;have hcN:c<N+1:=aA
   have mr:Bl F t c=Bw F t.basis c (N+1) 0 t.rows none:=by unfold Bl; rw [ht.cost]
   have dz:J8 G N c (tabV t) 0 none:=fun i hi=>aA
   cases hle:Bl F t c with
   | mk o f =>
   have hlx:f=false->J8 G N c (tabV t) m o:=fun hf=>by
    have:=X2 hE ht hcN (l:=t.rows) (k:=0) (b:=none) rfl (Cs _) dz (by rw [<- mr,hle]; exact hf);rw [<- mr,hle] at this;exact this
   have hlf:F.stop=false->f=false:=fun ah=>by
    rcases hs with hs|⟨fit,hT,hs⟩
    ·rw [hs] at ah; cases ah
    ·have:=T7 hE hT ht hcN (by rw [<- hK]; exact (hs K R h0).1 c aA) (l:=t.rows) (k:=0) (b:=none) rfl (Cs _) dz;rw [<- mr,hle] at this;exact this
   cases o with
   | none =>
    simp only;refine ⟨false,_,rfl,?_⟩;cases f with
    | true =>
     cases ah:F.stop with
     | true=>exact .inl ⟨ah,by simp⟩
     | false=>have:=hlf ah; cases this
    | false =>
     refine .inr ⟨by simp [ez],ht.flag _,K,R,h0,hK,fun h=>aP,fun _=>⟨c,aA,hneg,hlx rfl⟩⟩
   | some p =>
    obtain ⟨i,q⟩:=p;simp only;have zb:F.stop=true->(Dz F { t with fl:=t.fl || f } i c).fl=true->∃ b t',Ht F n (Dz F { t with fl:=t.fl || f } i c)=some (b,t')/\Aen F G m N L t0 b t':=fun h1 h2=>by
     obtain ⟨n',rfl⟩:∃ n',n=n'+1:=⟨n - 1,aA⟩;exact ⟨true,_,Tz h1 h2,.inl ⟨h1,h2⟩⟩
    cases f with
    | true =>
     cases ah:F.stop with
     | true=>exact zb ah (by simp [Dz])
     | false=>have:=hlf ah; cases this
    | false =>
     obtain ⟨l1,l2,l3,l4,l5⟩:=hlx rfl;have xg:=ht.flag (t.fl || false);have h0':(tabV { t with fl:=t.fl || false }).T i c≠0:=by
      show (tabV t).T i c≠0;grind
     have ny:Simp.Step m N L (R.t K) i c:=by
      rw [hK];exact ⟨l1,aA,hneg,fun j hj=>a00 j (Cs _) hj,l2,fun i' ar hp=>(l5 i' ar hp).1,fun i' ar hp=>(l5 i' ar hp).2⟩
     cases hpf:(Dz F { t with fl:=t.fl || false } i c).fl with
     | true =>
      cases ah:F.stop with
      | true=>exact zb ah hpf
      | false =>
       rcases hs with hs|⟨fit,hT,hs⟩
       ·rw [hs] at ah; cases ah
       ·have:=Adz hE hT xg l1 hcN h0' (by simp [ez]) (by
         show Aax fit m N (tabV t) i c;rw [<- hK];exact (hs K R h0).2 i c l1 aA (by rw [hK]; exact h0'))
        rw [hpf] at this; cases this
     | false =>
      obtain ⟨x1,x2⟩:=Ah0 hE xg l1 hcN h0' hpf;refine Abd hE hs n (R.more ny) (t:=Dz F { t with fl:=t.fl || false } i c) ?_ ?_ x1 hL hpf aA
      ·rw [R.more_old ny (Cs _)]; exact h0
      ·rw [R.more_last ny,x2,hK]; rfl
end
def Ints (m N M Mc:Nat) (t0:Simp.Tab):Prop:=(∀ i j,i<m->j<N+1->∃ z:Int,t0.T i j=((z:Int):Rat)/\z.natAbs<=M)/\∀ j,j<N+1->∃ z:Int,t0.c j=((z:Int):Rat)/\z.natAbs<=Mc
structure Reach (m N:Nat) (t0 t:Simp.Tab):Prop where
 fit:Simp.Fit m N t
 ker:∀ x,Simp.Ker m N t0 x->Simp.Ker m N t x
 cost:∀ x,Simp.Ker m N t0 x->Simp.dot N t.c x=Simp.dot N t0.c x
def bndX (m M Mc:Nat):Nat:=(2*((m+1)*M)) ^ m+(m+1)*(Mc*(2*((m+1)*M)) ^ m)
section
variable {m N L M Mc X:Nat} {t0 t:Simp.Tab}
theorem Reach.piv (h:Reach m N t0 t) {r s:Nat} (hr:r<m) (hs:s<N) (hp:t.T r s≠0):Reach m N t0 (Simp.piv t r s) :=
 ⟨Simp.piv_fit h.fit hr hs hp,fun x hx=>(Simp.piv_ker hr hp x).2 (h.ker x hx),fun x hx=>by rw [Simp.piv_cost hr (h.ker x hx)]; exact h.cost x hx⟩
theorem Reach.run {K:Nat} (R:Simp.Run m N L K):Reach m N (R.t 0) (R.t K) :=
 ⟨R.fits K (Cb _),fun x hx=>(R.ker (Cs _) (Cb _) x).2 hx,fun x hx=>R.cost (Cs _) (Cb _) hx⟩
theorem Ma (hM:1<=M) (hI:Ints m N M Mc t0) (h:Reach m N t0 t) {j:Nat} (hj:j<N+1) :
  ∃ y0:Int,y0≠0/\y0.natAbs<=bndX m M Mc/\(∀ i,i<m->∃ y:Int,t.T i j=((y:Int):Rat) / ((y0:Int):Rat)/\y.natAbs<=bndX m M Mc)/\∃ w:Int,t.c j=((w:Int):Rat) / ((y0:Int):Rat)/\w.natAbs<=bndX m M Mc:=by
 obtain ⟨hI1,hI2⟩:=hI;obtain ⟨a,ha⟩:∃ a:Nat->Nat->Int,∀ i j,i<m->j<N+1->t0.T i j=((a i j:Int):Rat)/\(a i j).natAbs<=M :=
  ⟨fun i j=>if h:i<m/\j<N+1 then Classical.choose (hI1 i j h.1 h.2) else 0,fun i j hi hj=>by
   dsimp only; rw [dif_pos ⟨hi,hj⟩]; exact Classical.choose_spec (hI1 i j hi hj)⟩
 obtain ⟨a0,se⟩:∃ a0:Nat->Int,∀ j,j<N+1->t0.c j=((a0 j:Int):Rat)/\(a0 j).natAbs<=Mc :=
  ⟨fun j=>if h:j<N+1 then Classical.choose (hI2 j h) else 0,fun j hj=>by
   dsimp only; rw [dif_pos hj]; exact Classical.choose_spec (hI2 j hj)⟩
 obtain ⟨y0,h1,h2,h3,w,h4,h5⟩:=Simp.small hM ha se h.fit h.ker h.cost hj;refine ⟨y0,h1,Fv h2 (Ob _ _),fun i hi=>?_,w,h4,Fv h5 (Nat.le_add_left _ _)⟩;obtain ⟨y,e1,e2⟩:=h3 i hi;exact ⟨y,e1,Fv e2 (Ob _ _)⟩
theorem Ahb {a b:Nat} (h:a<=X) (hb:b<=X):a*b<=X*X:=Ot h hb
theorem Ve {n d:Int} (hd:d≠0) (h1:n.natAbs<=X) (h2:d.natAbs<=X) (hX:2*(X*X)<10000 ^ 200):Vd (((n:Int):Rat) / ((d:Int):Rat)):=by
 have h3:X<=X*X:=Nat.le_mul_self X;exact ⟨n,d,hd,rfl,aA,aA⟩
theorem Ags {n d n' d':Int} (hd:d≠0) (d8:d'≠0) (h1:n.natAbs<=X) (h2:d.natAbs<=X) (h3:n'.natAbs<=X) (h4:d'.natAbs<=X) (hX:2*(X*X)<10000 ^ 200):Vd (((n:Int):Rat) / ((d:Int):Rat)*(((n':Int):Rat) / ((d':Int):Rat))):=by
 have k1:=Ahb h1 h3;have k2:=Ahb h2 h4;refine ⟨n*n',d*d',Io hd d8,?_,?_,?_⟩
 ·rw [C6,C6]; exact (H2 (Gi hd) (Gi d8)).symm
 ·rw [Ik]; omega
 ·rw [Ik]; omega
theorem Anp {n d n' d':Int} (hd:d≠0) (d8:d'≠0) (h1:n.natAbs<=X) (h2:d.natAbs<=X) (h3:n'.natAbs<=X) (h4:d'.natAbs<=X) (hX:2*(X*X)<10000 ^ 200):Vd (((n:Int):Rat) / ((d:Int):Rat) - ((n':Int):Rat) / ((d':Int):Rat)):=by
 have k1:=Ahb h1 h4;have k2:=Ahb h3 h2;have k3:=Ahb h2 h4;refine ⟨n*d' - n'*d,d*d',Io hd d8,?_,?_,?_⟩
 ·rw [Rat.intCast_sub,C6,C6,C6]; exact (Ph (Gi hd) (Gi d8)).symm
 ·have:=Int.natAbs_sub_le (n*d') (n'*d);rw [Ik,Ik] at this;omega
 ·rw [Ik]; omega
theorem V3 (hM:1<=M) (hI:Ints m N M Mc t0) (hX:2*(bndX m M Mc*bndX m M Mc)<10000 ^ 200) (h:Reach m N t0 t) {r s:Nat} (hr:r<m) (hs:s<N) (hp:t.T r s≠0):Aax Vd m N t r s:=by
 have hq:=h.piv hr hs hp;have e1:∀ j,(Simp.piv t r s).T r j=t.T r j / t.T r s:=fun j=>if_pos rfl;have e2:∀ i j,i≠r->(Simp.piv t r s).T i j=t.T i j - t.T i s*(t.T r j / t.T r s):=fun i j hi=>if_neg hi;have e3:∀ j,(Simp.piv t r s).c j=t.c j - t.c s*(t.T r j / t.T r s):=fun j=>rfl;obtain ⟨z0,c1,c2,c3,w,c4,c5⟩:=Ma hM hI h (j:=s) aA;refine ⟨fun j hj=>?_,fun i j hi hj=>?_,fun i j hi hj xm=>?_,fun j hj=>?_,fun j hj=>?_⟩;all_goals obtain ⟨y0,b1,b2,b3,u,b4,b5⟩:=Ma hM hI hq hj
 ·obtain ⟨y,y1,y2⟩:=b3 r hr;rw [e1] at y1;rw [y1]; exact Ve b1 y2 b2 hX
 ·obtain ⟨y,y1,y2⟩:=b3 r hr;obtain ⟨z,z1,z2⟩:=c3 i hi;rw [e1] at y1;rw [y1,z1]; exact Ags c1 b1 z2 c2 y2 b2 hX
 ·obtain ⟨y,y1,y2⟩:=b3 i hi;rw [e2 i j xm] at y1;rw [y1]; exact Ve b1 y2 b2 hX
 ·obtain ⟨y,y1,y2⟩:=b3 r hr;rw [e1] at y1;rw [y1,c4]; exact Ags c1 b1 c5 c2 y2 b2 hX
 ·rw [e3] at b4;rw [b4]; exact Ve b1 b5 b2 hX
theorem Rw (hM:1<=M) (hI:Ints m N M Mc t0) (hX:2*(bndX m M Mc*bndX m M Mc)<10000 ^ 200) (h:Reach m N t0 t) {c:Nat} (hc:c<N):Pt Vd m N c t:=by
 have key:∀ i,i<m->0<t.T i c->∃ y y0:Int,y0≠0/\y.natAbs<=bndX m M Mc/\y0.natAbs<=bndX m M Mc/\t.T i N / t.T i c=((y:Int):Rat) / ((y0:Int):Rat):=fun i hi hp=>by
  have hq:=h.piv hi hc aJ;obtain ⟨y0,b1,b2,b3,-⟩:=Ma hM hI hq (j:=N) aA;obtain ⟨y,y1,y2⟩:=b3 i hi;have e1:(Simp.piv t i c).T i N=t.T i N / t.T i c:=if_pos rfl;exact ⟨y,y0,b1,y2,b2,by rw [<- e1,y1]⟩
 refine ⟨fun i hi hp=>?_,fun i k hi hk hp hq=>?_⟩
 ·obtain ⟨y,y0,a1,a2,a3,a4⟩:=key i hi hp;rw [a4]; exact Ve a1 a2 a3 hX
 ·obtain ⟨y,y0,a1,a2,a3,a4⟩:=key i hi hp;obtain ⟨z,z0,b1,b2,b3,b4⟩:=key k hk hq;rw [a4,b4]; exact Anp a1 b1 a2 a3 b2 b3 hX
theorem Aoa (hM:1<=M) (hI:Ints m N M Mc t0) (hX:2*(bndX m M Mc*bndX m M Mc)<10000 ^ 200):Safe WW.qF gW m N L t0:=by
 refine .inr ⟨Vd,Acy,fun K R h0=>?_⟩;have hr:=Reach.run R;rw [h0] at hr;exact ⟨fun c hc=>Rw hM hI hX hr (by have:=R.LN; omega),fun r s h1 h2 h3=>V3 hM hI hX hr h1 h2 h3⟩
theorem An9:Safe QQ.qF okS m N L t0:=.inl rfl
end
def Ml (u:Rat) (vars:List ByteArray):List (ByteArray × Int)->(Nat->Rat)->Nat->Rat
 | [],f=>f
 | c :: cs,f=>Ml u vars cs fun j=>if j=2*idxV vars c.1+1 then -(u*((c.2:Int):Rat)) else if j=2*idxV vars c.1 then u*((c.2:Int):Rat) else f j
theorem K8 {u:Rat} {vars:List ByteArray} {k:Nat} : ∀ {cs:List (ByteArray × Int)} {f:Nat->Rat},(∀ c ∈ cs,idxV vars c.1≠k)->Ml u vars cs f (2*k)=f (2*k)/\Ml u vars cs f (2*k+1)=f (2*k+1)
 | [],_,_=>⟨rfl,rfl⟩
 | c :: cs,f,h=>by
  have h1:=h c (Cv ..);have ih:=K8 (u:=u) (cs:=cs) (f:=fun j=>if j=2*idxV vars c.1+1 then -(u*((c.2:Int):Rat)) else if j=2*idxV vars c.1 then u*((c.2:Int):Rat) else f j) fun c' hc=>h c' (Cq _ hc);rw [Ml,ih.1,ih.2];exact ⟨by rw [if_neg aA,if_neg aA],by rw [if_neg aA,if_neg aA]⟩
theorem Ty {u:Rat} {vars:List ByteArray} {c:ByteArray × Int} : ∀ {cs:List (ByteArray × Int)} {f:Nat->Rat},(cs.map fun c=>idxV vars c.1).Pairwise (·≠·)->c ∈ cs->Ml u vars cs f (2*idxV vars c.1)=u*((c.2:Int):Rat)/\Ml u vars cs f (2*idxV vars c.1+1)=-(u*((c.2:Int):Rat))
 | [],_,_,h=>aP
 | c' :: cs,f,hp,h=>by
  rw [Cm,F7] at hp;rw [Ml];rcases Cy.1 h with rfl|h
  ·have:=K8 (u:=u) (vars:=vars) (k:=idxV vars c.1) (cs:=cs) (f:=fun j=>if j=2*idxV vars c.1+1 then -(u*((c.2:Int):Rat)) else if j=2*idxV vars c.1 then u*((c.2:Int):Rat) else f j) fun c' hc=>(hp.1 _ (Fy.2 ⟨c',hc,rfl⟩)).symm;rw [this.1,this.2];exact ⟨by rw [if_neg aA,if_pos rfl],by rw [if_pos rfl]⟩
  ·exact Ty hp.2 h
theorem Qq {u:Rat} {vars:List ByteArray} {j:Nat} : ∀ {cs:List (ByteArray × Int)} {f:Nat->Rat},(∀ c ∈ cs,c.1 ∈ vars)->2*vars.length<=j->Ml u vars cs f j=f j
 | [],_,_,_=>rfl
 | c :: cs,f,h,hj=>by
  have h1:=(Mt (h c (Cv ..))).2;rw [Ml,Qq (fun c' hc=>h c' (Cq _ hc)) hj,if_neg aA,if_neg aA]
def cofI (vars:List ByteArray):List (ByteArray × Int)->Nat->Int
 | [],_=>0
 | c :: cs,k=>if idxV vars c.1=k then c.2 else cofI vars cs k
theorem Qp {vars:List ByteArray} {k:Nat} : ∀ {cs:List (ByteArray × Int)},(∀ c ∈ cs,idxV vars c.1≠k)->cofI vars cs k=0
 | [],_=>rfl
 | c :: cs,h=>by rw [cofI,if_neg (h c (Cv ..))]; exact Qp fun c' hc=>h c' (Cq _ hc)
theorem W9 {vars:List ByteArray} {c:ByteArray × Int} : ∀ {cs:List (ByteArray × Int)},(cs.map fun c=>idxV vars c.1).Pairwise (·≠·)->c ∈ cs->cofI vars cs (idxV vars c.1)=c.2
 | [],_,h=>aP
 | c' :: cs,hp,h=>by
  rw [Cm,F7] at hp;rcases Cy.1 h with rfl|h
  ·rw [cofI,if_pos rfl]
  ·rw [cofI,if_neg (hp.1 _ (Fy.2 ⟨c,h,rfl⟩))];exact W9 hp.2 h
theorem Aa9 {vars:List ByteArray} {k:Nat} : ∀ {cs:List (ByteArray × Int)},cofI vars cs k=0\/∃ c ∈ cs,c.2=cofI vars cs k/\idxV vars c.1=k
 | []=>.inl rfl
 | c :: cs=>by
  rw [cofI];split
  ·rename_i h; exact .inr ⟨c,Cv ..,rfl,h⟩
  ·rcases Aa9 (vars:=vars) (k:=k) (cs:=cs) with h|⟨c',h1,h2,h3⟩
   ·exact .inl h
   ·exact .inr ⟨c',Cq _ h1,h2,h3⟩
theorem Mm {u:Rat} {vars:List ByteArray} {cs:List (ByteArray × Int)} (hp:(cs.map fun c=>idxV vars c.1).Pairwise (·≠·)) (k:Nat):Ml u vars cs (fun _=>0) (2*k)=u*((cofI vars cs k:Int):Rat)/\Ml u vars cs (fun _=>0) (2*k+1)=-(u*((cofI vars cs k:Int):Rat)):=by
 by_cases h:∃ c ∈ cs,idxV vars c.1=k
 ·obtain ⟨c,hc,rfl⟩:=h;rw [W9 hp hc];exact Ty hp hc
 ·have h':∀ c ∈ cs,idxV vars c.1≠k:=fun c hc e=>h ⟨c,hc,e⟩;rw [Qp h',(K8 h').1,(K8 h').2,Rat.intCast_zero];exact ⟨aJ,aJ⟩
section
variable {F:Fld} {G:Q->Prop} {fit:Rat->Prop}
theorem Ab7 {l:List Q} {i j:Nat} {x y q:Q} (hl:∀ q ∈ l,G q) (hx:G x) (hy:G y) (h:q ∈ put (put l i x) j y):G q:=by
 rcases H8 h with rfl|h
 ·exact hy
 ·rcases H8 h with rfl|h
  ·exact hx
  ·exact hl q h
theorem W8 (hE:F.Exact G) {u z:Q} {vars:List ByteArray} (hu:G u) (hz:G z) (hz0:qv z=0):∀ {cs:List (ByteArray × Int)} {row:List Q} {f:Nat->Rat},(∀ c ∈ cs,i64 c.2/\c.1 ∈ vars)->2*vars.length<=row.length->(∀ q ∈ row,G q)->(∀ j,qv (at_ q0 row j)=f j)->(coefsC F u z vars cs row).2=false ->
  (coefsC F u z vars cs row).1.length=row.length/\(∀ q ∈ (coefsC F u z vars cs row).1,G q)/\∀ j,qv (at_ q0 (coefsC F u z vars cs row).1 j)=Ml (qv u) vars cs f j
 | [],row,f,_,_,hg,hf,_=>⟨rfl,hg,hf⟩
 | c :: cs,row,f,hc,hl,hg,hf,ez=>by
  obtain ⟨hi,hm⟩:=hc c (Cv ..);have nv:=(Mt hm).2;simp only [coefsC,setC,El] at ez;obtain ⟨⟨⟨f1,f2⟩,f3⟩,f4⟩:=ez;have w:=hE.whole c.2 hi f1;have t:=hE.times u _ hu w.1 f2;have d:=hE.minus z _ hz t.1 f3;have ih:=W8 hE hu hz hz0 (cs:=cs) (row:=put (put row (2*idxV vars c.1) (F.times u (F.whole c.2).1).1) (2*idxV vars c.1+1) (F.minus z (F.times u (F.whole c.2).1).1).1)
   (f:=fun j=>if j=2*idxV vars c.1+1 then -(qv u*((c.2:Int):Rat)) else if j=2*idxV vars c.1 then qv u*((c.2:Int):Rat) else f j)
   (fun c' h=>hc c' (Cq _ h)) (by rw [Ai,Ai]; exact hl) (fun q h=>Ab7 hg t.1 d.1 h) (fun j=>by
    rw [N8 (by rw [Ai]; omega),N8 aA];split
    ·rw [d.2,t.2,w.2,hz0]; grind
    ·split
     ·rw [t.2,w.2]
     ·exact hf j) f4
  rw [Ai,Ai] at ih;exact ih
theorem Tx (hE:F.Exact G) (hT:F.Total G fit) {u z:Q} {vars:List ByteArray} (hu:G u) (hz:G z) (hz0:qv z=0):∀ {cs:List (ByteArray × Int)} {row:List Q},(∀ c ∈ cs,i64 c.2/\fit (qv u*((c.2:Int):Rat))/\fit (0 - qv u*((c.2:Int):Rat)))->(coefsC F u z vars cs row).2=false
 | [],_,_=>rfl
 | c :: cs,row,hc=>by
  obtain ⟨hi,h1,h2⟩:=hc c (Cv ..);have f1:=hT.whole c.2 hi;have w:=hE.whole c.2 hi f1;have f2:=hT.times u _ hu w.1 (by rw [w.2]; exact h1);have t:=hE.times u _ hu w.1 f2;have f3:=hT.minus z _ hz t.1 (by rw [t.2,w.2,hz0]; exact h2);simp only [coefsC,setC,El];exact ⟨⟨⟨f1,f2⟩,f3⟩,Tx hE hT hu hz hz0 fun c' h=>hc c' (Cq _ h)⟩
def sgR (r:RowT):Rat:=if 0<r.2.1 then -1 else 1
def rowR (vars:List ByteArray) (real W i slack:Nat) (r:RowT) (j:Nat):Rat :=
 if j=W - 1 then -(sgR r*((r.2.1:Int):Rat)) else if j=real+i then 1 else if r.2.2=false/\j=slack then sgR r else Ml (sgR r) vars r.1 (fun _=>0) j
theorem Aff {z:Q} (hz:qv z=0) {n j:Nat} : qv (at_ q0 (Cd n z) j)=0:=by
 by_cases h:j<n
 ·have:at_ q0 (Cd n z) j=z:=by
   unfold at_;rw [Ae,List.getElem?_replicate,if_pos h]; rfl
  rw [this,hz]
 ·rw [Afe Za3s,Ad3]
theorem Acu (hE:F.Exact G) {r:RowT} (hf:(Jj F (Dt r)).2=false):G (Jj F (Dt r)).1/\qv (Jj F (Dt r)).1=sgR r:=by
 unfold Jj Dt sgR at *;by_cases h:0<r.2.1
 ·simp only [decide_eq_true_eq,h,if_true,El] at hf ⊢;have:=hE.whole (-1) aD hf.2;exact ⟨this.1,this.2.trans rfl⟩
 ·simp only [decide_eq_true_eq,h,if_false] at hf ⊢;have:=hE.whole 1 aD hf;exact ⟨this.1,this.2.trans rfl⟩
theorem Ai5 (hT:F.Total G fit) {b:Bool} : (Jj F b).2=false:=by
 unfold Jj;split
 ·simp only [hT.whole 1 aD,hT.whole (-1) aD]; rfl
 ·exact hT.whole 1 aD
theorem Aie (hE:F.Exact G) {z:Q} {vars:List ByteArray} (hz:G z) (hz0:qv z=0) {real W i slack:Nat} {r:RowT} (hi:i64 r.2.1) (hc:∀ c ∈ r.1,i64 c.2/\c.1 ∈ vars) (hv:2*vars.length<=real) (dd:real+i<W - 1) (hs:r.2.2=false->slack<W) (hf:(rowF F z vars real W i slack r).2=false) :
  (rowF F z vars real W i slack r).1.length=W/\(∀ q ∈ (rowF F z vars real W i slack r).1,G q)/\∀ j,qv (at_ q0 (rowF F z vars real W i slack r).1 j)=rowR vars real W i slack r j:=by
 simp only [rowF,Rb,El] at hf;obtain ⟨⟨⟨f1,f2⟩,f3⟩,⟨f4,f5⟩,f6⟩:=hf;obtain ⟨gu,eu⟩:=Acu hE f1;obtain ⟨a1,a2,a3⟩:=W8 hE gu hz hz0 (f:=fun _=>0) hc Za3s (fun q h=>by rw [(Ih.1 h).2]; exact hz) (fun j=>Aff hz0) f2;rw [Oa] at a1;have o:=hE.whole 1 aD f3;have w:=hE.whole _ hi f4;have t:=hE.times _ _ gu w.1 f5;have d:=hE.minus z _ hz t.1 f6;have hsl:(Ng r.2.2 (coefsC F (Jj F (Dt r)).1 z vars r.1 (Cd W z)).1 slack (Jj F (Dt r)).1).length=W/\(∀ q ∈ Ng r.2.2 (coefsC F (Jj F (Dt r)).1 z vars r.1 (Cd W z)).1 slack (Jj F (Dt r)).1,G q)/\∀ j,qv (at_ q0 (Ng r.2.2 (coefsC F (Jj F (Dt r)).1 z vars r.1 (Cd W z)).1 slack (Jj F (Dt r)).1) j)=if r.2.2=false/\j=slack then sgR r else Ml (sgR r) vars r.1 (fun _=>0) j:=by
  unfold Ng;cases he:r.2.2 with
  | true =>
   rw [if_pos rfl];exact ⟨a1,a2,fun j=>by rw [if_neg (by simp),a3,eu]⟩
  | false =>
   rw [if_neg (by simp)];refine ⟨by rw [Ai]; exact a1,fun q h=>?_,fun j=>?_⟩
   ·rcases H8 h with rfl|h
    ·exact gu
    ·exact a2 q h
   ·rw [N8 (by rw [a1]; exact hs he)];by_cases e:j=slack
    ·rw [if_pos e,if_pos ⟨rfl,e⟩,eu]
    ·rw [if_neg e,if_neg (fun h=>e h.2),a3,eu]
 obtain ⟨b1,b2,b3⟩:=hsl;refine ⟨?_,fun q h=>Ab7 b2 o.1 d.1 h,fun j=>?_⟩
 ·show (put (put _ _ _) _ _).length=W;rw [Ai,Ai]; exact b1
 ·show qv (at_ q0 (put (put _ _ _) _ _) j)=_;rw [N8 (by rw [Ai,b1]; omega),N8 (by rw [b1]; omega)];unfold rowR;by_cases e1:j=W - 1
  ·rw [if_pos e1,if_pos e1];show qv (F.minus z (F.times (Jj F (Dt r)).1 (F.whole r.2.1).1).1).1=_;rw [d.2,t.2,w.2,eu,hz0]; grind
  ·rw [if_neg e1,if_neg e1];by_cases e2:j=real+i
   ·rw [if_pos e2,if_pos e2,o.2]; rfl
   ·rw [if_neg e2,if_neg e2,b3]
theorem Ald (hE:F.Exact G) (hT:F.Total G fit) {z:Q} {vars:List ByteArray} (hz:G z) (hz0:qv z=0) {real W i slack:Nat} {r:RowT} (hi:i64 r.2.1) (hc:∀ c ∈ r.1,i64 c.2/\fit (sgR r*((c.2:Int):Rat))/\fit (0 - sgR r*((c.2:Int):Rat))) (hn:fit (sgR r*((r.2.1:Int):Rat))/\fit (0 - sgR r*((r.2.1:Int):Rat))):(rowF F z vars real W i slack r).2=false:=by
 have f1:=Ai5 hT (b:=Dt r);obtain ⟨gu,eu⟩:=Acu hE f1;have f2:=Tx hE hT gu hz hz0 (vars:=vars) (cs:=r.1) (row:=Cd W z) (by rw [eu]; exact hc);have f3:=hT.whole 1 aD;have f4:=hT.whole _ hi;have w:=hE.whole _ hi f4;have f5:=hT.times _ _ gu w.1 (by rw [w.2,eu]; exact hn.1);have t:=hE.times _ _ gu w.1 f5;have f6:=hT.minus z _ hz t.1 (by rw [t.2,w.2,eu,hz0]; exact hn.2);simp only [rowF,Rb,El];exact ⟨⟨⟨f1,f2⟩,f3⟩,⟨f4,f5⟩,f6⟩
theorem Abb (hE:F.Exact G) {real W:Nat} : ∀ {c r:List Q} {k:Nat},c.length=r.length->(∀ q ∈ c,G q)->(∀ q ∈ r,G q)->(costL F real W k c r).2=false->(∀ q ∈ (costL F real W k c r).1,G q)/\∀ j,qv (at_ q0 (costL F real W k c r).1 j)=if k+j<real\/k+j=W - 1 then qv (at_ q0 c j) - qv (at_ q0 r j) else qv (at_ q0 c j)
 | [],[],_,_,_,_,_=>⟨fun q h=>aP,fun j=>by simp only [costL,Wz,Ad3]; split <;> grind⟩
 | [],_ :: _,_,h,_,_,_=>aM
 | _ :: _,[],_,h,_,_,_=>aM
 | a :: c,b :: r,k,h,hc,hr,hf=>by
  have hx:(H6 F real W k a b).2=false/\(costL F real W (k+1) c r).2=false:=by simpa [costL] using hf
  have ih:=Abb hE aI (fun q h=>hc q (Cq _ h)) (fun q h=>hr q (Cq _ h)) hx.2;have hs:G (H6 F real W k a b).1/\qv (H6 F real W k a b).1=if k<real\/k=W - 1 then qv a - qv b else qv a:=by
   have h1:=hx.1;unfold H6 at h1 ⊢;split
   ·rename_i hk;rw [if_pos hk] at h1;exact hE.minus a b (hc a (Cv ..)) (hr b (Cv ..)) h1
   ·exact ⟨hc a (Cv ..),rfl⟩
  refine ⟨fun q h=>?_,fun j=>?_⟩
  ·exact Ya08
  ·cases j with
   | zero=>exact hs.2
   | succ j =>
    have:=ih.2 j;rw [show k+1+j=k+(j+1) by omega] at this;exact this
theorem Xd (hT:F.Total G fit) {real W:Nat} : ∀ {c r:List Q} {k:Nat},(∀ q ∈ c,G q)->(∀ q ∈ r,G q)->(∀ j,fit (qv (at_ q0 c j) - qv (at_ q0 r j)))->(costL F real W k c r).2=false
 | [],_,_,_,_,_=>by simp [costL]
 | _ :: _,[],_,_,_,_=>rfl
 | a :: c,b :: r,k,hc,hr,hf=>by
  have ih:=Xd hT (c:=c) (r:=r) (k:=k+1) (real:=real) (W:=W) (fun q h=>hc q (Cq _ h)) (fun q h=>hr q (Cq _ h)) fun j=>hf (j+1);have hs:(H6 F real W k a b).2=false:=by
   unfold H6;split
   ·exact hT.minus a b (hc a (Cv ..)) (hr b (Cv ..)) (hf 0)
   ·rfl
  show ((H6 F real W k a b).2 || (costL F real W (k+1) c r).2)=false;rw [hs,ih]; rfl
end
def rowX (vars:List ByteArray) (real W:Nat) (l:List RowT) (i j:Nat):Rat :=
 match nth l i with
 | some r=>rowR vars real W i (2*vars.length+neqs (l.take i)) r j
 | none=>0
theorem Aci {vars:List ByteArray} {real W:Nat} {l:List RowT} {r:RowT} {i j:Nat} (h:i<l.length):rowX vars real W (l++[r]) i j=rowX vars real W l i j:=by
 unfold rowX;rw [Ae,Ae,Cp h,I6 aA]
theorem Ach {vars:List ByteArray} {real W:Nat} {l:List RowT} {r:RowT} {j:Nat} : rowX vars real W (l++[r]) l.length j=rowR vars real W l.length (2*vars.length+neqs l) r j:=by
 unfold rowX;rw [Ae,C8 (Cb _),I3,I6 (Cb _),Ir]; rfl
theorem Hb:∀ {l l':List RowT},neqs (l++l')=neqs l+neqs l'
 | [],l'=>by simp [neqs]
 | r :: l,l'=>by rw [Co,neqs,neqs,Hb]; omega
theorem Afg {α:Type} {d x:α} {l:List α} {i:Nat} : at_ d (l++[x]) i=if i=l.length then x else at_ d l i:=by
 unfold at_;by_cases e:i=l.length
 ·subst e; rw [if_pos rfl,Ae,C8 (Cb _),I3]; rfl
 ·rw [if_neg e];by_cases h:i<l.length
  ·rw [Ae,Ae,Cp h]
  ·rw [Ae,Ae,E9 aB,E9 aA]
structure BInv (G:Q->Prop) (vars:List ByteArray) (real W:Nat) (done:List RowT) (t:Tb):Prop where
 nr:t.rows.length=done.length
 nb:t.basis.length=done.length
 nc:t.cost.length=W
 rowW:∀ r ∈ t.rows,r.length=W
 okr:∀ r ∈ t.rows,∀ q ∈ r,G q
 okc:∀ q ∈ t.cost,G q
 vals:∀ i,i<done.length->∀ j,qv (at_ q0 (B1 t i) j)=rowX vars real W done i j
 costs:∀ j,qv (at_ q0 t.cost j)=if j<real\/j=W - 1 then - Simp.sum done.length (fun i=>rowX vars real W done i j) else 0
 bas:∀ i,i<done.length->at_ 0 t.basis i=real+i
 flips:t.flip=done.map Dt
structure Gx (vars:List ByteArray) (r:RowT):Prop where
 c64:i64 r.2.1
 n64:∀ c ∈ r.1,i64 c.2
 mem:∀ c ∈ r.1,c.1 ∈ vars
 dis:(r.1.map fun c=>idxV vars c.1).Pairwise (·≠·)
section
variable {F:Fld} {G:Q->Prop} {fit:Rat->Prop} {vars:List ByteArray} {real W:Nat} {z:Q}
theorem BInv.step (hE:F.Exact G) (hz:G z) (hz0:qv z=0) {done:List RowT} {t:Tb} (h:BInv G vars real W done t) {r:RowT} (hr:Gx vars r) (hv:2*vars.length<=real) (dd:real+done.length<W - 1) (hs:r.2.2=false->2*vars.length+neqs done<real)
  (ha:(rowF F z vars real W done.length (2*vars.length+neqs done) r).2=false) (zr:(costL F real W 0 t.cost (rowF F z vars real W done.length (2*vars.length+neqs done) r).1).2=false) (fl:Bool) :
  BInv G vars real W (done++[r]) { t with rows:=t.rows++[(rowF F z vars real W done.length (2*vars.length+neqs done) r).1],cost:=(costL F real W 0 t.cost (rowF F z vars real W done.length (2*vars.length+neqs done) r).1).1,basis:=t.basis++[real+done.length],flip:=t.flip++[Dt r],fl:=fl }:=by
 obtain ⟨a1,a2,a3⟩:=Aie hE hz hz0 hr.c64 (fun c hc=>⟨hr.n64 c hc,hr.mem c hc⟩) hv dd (fun e=>by have:=hs e; omega) ha;obtain ⟨c1,c2⟩:=Abb hE (by rw [h.nc,a1]) h.okc a2 zr;refine ⟨by simp [h.nr],by simp [h.nb],by rw [U5]; exact h.nc,fun q hq=>?_,fun q hq=>?_,c1,fun i hi j=>?_,fun j=>?_,fun i hi=>?_,by simp [h.flips]⟩
 ·rcases Cr.1 hq with hq|hq
  ·exact h.rowW q hq
  ·rw [Fj.1 hq]; exact a1
 ·rcases Cr.1 hq with hq|hq
  ·exact h.okr q hq
  ·rw [Fj.1 hq]; exact a2
 ·show qv (at_ q0 (at_ [] (t.rows++[_]) i) j)=_;rw [Afg,h.nr];by_cases e:i=done.length
  ·subst e; rw [if_pos rfl,a3,Ach]
  ·rw [if_neg e,Aci cB];exact h.vals i cB j
 ·rw [c2,a3,h.costs,Fo];by_cases e:j<real\/j=W - 1
  ·rw [if_pos e,if_pos e,if_pos e,Cn,Sn,Simp.sum,Ach];rw [Simp.sum_congr (g:=fun i=>rowX vars real W done i j) fun i hi=>Aci hi];grind
  ·rw [if_neg e,if_neg e,if_neg e]
 ·rw [Afg,h.nb];by_cases e:i=done.length
  ·subst e; rw [if_pos rfl]
  ·rw [if_neg e];exact h.bas i cB
theorem Zc:∀ {l:List RowT} {i sl:Nat} {t:Tb},(begS F z vars real W l i sl t).fl=false->t.fl=false
 | [],_,_,_,h=>h
 | r :: l,i,sl,t,h=>by
  rw [begS] at h;have h1:=Zc h;simp only [El] at h1;exact h1.1.1
theorem Afi (hE:F.Exact G) (hz:G z) (hz0:qv z=0) (hv:2*vars.length<=real):∀ {rest done:List RowT} {t:Tb},(∀ r ∈ rest,Gx vars r)->2*vars.length+neqs (done++rest)<=real->real+(done++rest).length<W->BInv G vars real W done t->(begS F z vars real W rest done.length (2*vars.length+neqs done) t).fl=false ->
  BInv G vars real W (done++rest) (begS F z vars real W rest done.length (2*vars.length+neqs done) t)
 | [],done,t,_,_,_,h,_=>by rw [Fu]; exact h
 | r :: rest,done,t,hr,hq,hw,h,hf=>by
  rw [begS] at hf ⊢;have h1:=Zc hf;simp only [El] at h1;have me:2*vars.length+neqs done+((if r.2.2=true then 0 else 1)+neqs rest)<=real:=by rw [Hb,neqs] at hq; omega
  have hw':real+done.length+(rest.length+1)<W:=by simp at hw; omega
  have st:=h.step hE hz hz0 (hr r (Cv ..)) hv aA (fun e=>Za25) h1.1.2 h1.2 ((t.fl || (rowF F z vars real W done.length (2*vars.length+neqs done) r).2) || (costL F real W 0 t.cost (rowF F z vars real W done.length (2*vars.length+neqs done) r).1).2);have e1:(if r.2.2=true then 2*vars.length+neqs done else 2*vars.length+neqs done+1)=2*vars.length+neqs (done++[r]):=by
   rw [Hb,neqs,neqs]; split <;> omega
  have e2:done.length+1=(done++[r]).length:=by simp
  have e3:done++r :: rest=(done++[r])++rest:=by simp
  rw [e1,e2] at hf ⊢;rw [e3] at hq hw ⊢;exact Afi hE hz hz0 hv (fun r' h'=>hr r' (Cq _ h')) hq hw st hf
structure G7 (M:Nat) (r:RowT):Prop where
 one:1<=M
 con:r.2.1.natAbs<=M
 cof:∀ c ∈ r.1,c.2.natAbs<=M
theorem Jc {M:Nat} (r:RowT) {n:Int} (h:n.natAbs<=M):(∃ w:Int,sgR r*((n:Int):Rat)=((w:Int):Rat)/\w.natAbs<=M)/\∃ w:Int,-(sgR r*((n:Int):Rat))=((w:Int):Rat)/\w.natAbs<=M:=by
 unfold sgR;split
 ·exact ⟨⟨-n,by rw [Oh]; grind,aA⟩,⟨n,aJ,h⟩⟩
 ·exact ⟨⟨n,aJ,h⟩,⟨-n,by rw [Oh]; grind,aA⟩⟩
theorem Acg {M i slack:Nat} {r:RowT} (hr:Gx vars r) (hs:G7 M r) (j:Nat):∃ w:Int,rowR vars real W i slack r j=((w:Int):Rat)/\w.natAbs<=M:=by
 have h1:=hs.one;unfold rowR;split
 ·exact (Jc r hs.con).2
 ·split
  ·exact ⟨1,rfl,aU⟩
  ·split
   ·obtain ⟨w,e,h⟩:=(Jc (M:=M) r (n:=1) aU).1;exact ⟨w,by rw [<- e,Rat.intCast_one]; grind,h⟩
   ·have hc:∀ k,(cofI vars r.1 k).natAbs<=M:=fun k=>by
     rcases Aa9 (vars:=vars) (k:=k) (cs:=r.1) with h|⟨c,h2,h3,-⟩
     ·rw [h]; simp
     ·rw [<- h3]; exact hs.cof c h2
    rcases Nat.mod_two_eq_zero_or_one j with h|h
    ·have e:j=2*(j / 2):=aA
     rw [e,(Mm hr.dis _).1];exact (Jc r (hc _)).1
    ·have e:j=2*(j / 2)+1:=aA
     rw [e,(Mm hr.dis _).2];exact (Jc r (hc _)).2
theorem Aam {M:Nat} {f:Nat->Rat} : ∀ {n:Nat},(∀ i,i<n->∃ w:Int,f i=((w:Int):Rat)/\w.natAbs<=M)->∃ w:Int,Simp.sum n f=((w:Int):Rat)/\w.natAbs<=n*M
 | 0,_=>⟨0,rfl,by simp⟩
 | n+1,h=>by
  obtain ⟨w,e,hw⟩:=Aam (n:=n) fun i hi=>h i aA;obtain ⟨u,e2,hu⟩:=h n aA;exact ⟨w+u,by rw [Simp.sum,e,e2,Xb],by rw [Mi]; omega⟩
theorem V5 {M:Nat} {l:List RowT} (hl:∀ r ∈ l,Gx vars r/\G7 M r) (i j:Nat):∃ w:Int,rowX vars real W l i j=((w:Int):Rat)/\w.natAbs<=M:=by
 unfold rowX;cases h:nth l i with
 | none=>exact ⟨0,rfl,by simp⟩
 | some r =>
  have:=hl r (Aj h);exact Acg this.1 this.2 j
theorem Aa8 (hE:F.Exact G) (hT:F.Total G fit) (hz:G z) (hz0:qv z=0) (hv:2*vars.length<=real) {M B:Nat} (eo:∀ w:Int,w.natAbs<=B->fit ((w:Int):Rat)):∀ {rest done:List RowT} {t:Tb},(∀ r ∈ done++rest,Gx vars r/\G7 M r)->((done++rest).length+1)*M<=B->2*vars.length+neqs (done++rest)<=real->real+(done++rest).length<W->BInv G vars real W done t->t.fl=false ->
  (begS F z vars real W rest done.length (2*vars.length+neqs done) t).fl=false
 | [],done,t,_,_,_,_,_,hf=>hf
 | r :: rest,done,t,hr,hB,hq,hw,h,hf=>by
  obtain ⟨r1,r2⟩:=hr r (by simp);have hM:M<=B:=Fv (Nat.le_mul_of_pos_left M (Se _)) hB;have hw':real+done.length+(rest.length+1)<W:=by simp at hw; omega
  have me:2*vars.length+neqs done+((if r.2.2=true then 0 else 1)+neqs rest)<=real:=by rw [Hb,neqs] at hq; omega
  have fz:∀ n:Int,n.natAbs<=M->fit (sgR r*((n:Int):Rat))/\fit (0 - sgR r*((n:Int):Rat)):=fun n hn=>by
   obtain ⟨⟨w,e,hw⟩,u,e2,hu⟩:=Jc r hn;refine ⟨by rw [e]; exact eo w aA,?_⟩;rw [show (0:Rat) - sgR r*((n:Int):Rat)=-(sgR r*((n:Int):Rat)) by grind,e2];exact eo u aA
  have f1:=Ald hE hT hz hz0 (vars:=vars) (real:=real) (W:=W) (i:=done.length) (slack:=2*vars.length+neqs done) r1.c64 (fun c hc=>⟨r1.n64 c hc,fz c.2 (r2.cof c hc)⟩) (fz _ r2.con);obtain ⟨a1,a2,a3⟩:=Aie hE hz hz0 r1.c64 (fun c hc=>⟨r1.n64 c hc,r1.mem c hc⟩) hv aA (fun e=>Za25) f1;have sf:(done.length+1)*M<=B:=Fv (F0 M (by simp)) hB;have f2:(costL F real W 0 t.cost (rowF F z vars real W done.length (2*vars.length+neqs done) r).1).2=false:=by
   refine Xd hT h.okc a2 fun j=>?_;rw [a3,h.costs];obtain ⟨u,e2,hu⟩:=Acg (real:=real) (W:=W) (i:=done.length) (slack:=2*vars.length+neqs done) r1 r2 j;split
   ·obtain ⟨w,e,hw⟩:=Aam (M:=M) (n:=done.length) (f:=fun i=>rowX vars real W done i j) fun i _=>V5 (fun r dc=>hr r (by simp [dc])) i j;rw [e,e2];rw [show -((w:Int):Rat) - ((u:Int):Rat)=((-w - u:Int):Rat) by rw [Rat.intCast_sub,Oh]];refine eo _ ?_;rw [Mi] at sf;omega
   ·rw [e2,show (0:Rat) - ((u:Int):Rat)=((-u:Int):Rat) by rw [Oh]; grind];exact eo _ aA
  have st:=h.step hE hz hz0 r1 hv aA (fun e=>Za25) f1 f2 ((t.fl || (rowF F z vars real W done.length (2*vars.length+neqs done) r).2) || (costL F real W 0 t.cost (rowF F z vars real W done.length (2*vars.length+neqs done) r).1).2);have e1:(if r.2.2=true then 2*vars.length+neqs done else 2*vars.length+neqs done+1)=2*vars.length+neqs (done++[r]):=by
   rw [Hb,neqs,neqs]; split <;> omega
  have e2:done.length+1=(done++[r]).length:=by simp
  have e3:done++r :: rest=(done++[r])++rest:=by simp
  rw [begS,e1,e2];rw [e3] at hq hw hr hB;exact Aa8 hE hT hz hz0 hv eo hr hB hq hw st (by simp only [hf,f1,f2]; rfl)
theorem W1 (hE:F.Exact G) {l:List RowT} (hr:∀ r ∈ l,Gx vars r) (hf:(Bp F l vars false).fl=false):BInv G vars (2*vars.length+neqs l) (2*vars.length+neqs l+l.length+1) l (Bp F l vars false):=by
 unfold Bp at hf ⊢;have h0:=Zc hf;simp only [Mf] at h0;have w:=hE.whole 0 aD h0;refine Afi hE w.1 w.2 (Ob _ _) (rest:=l) (done:=[]) hr (by simp) (by simp) ?_ hf;exact Ya01
theorem Ac6 (hE:F.Exact G) (hT:F.Total G fit) {l:List RowT} {M B:Nat} (eo:∀ w:Int,w.natAbs<=B->fit ((w:Int):Rat)) (hr:∀ r ∈ l,Gx vars r/\G7 M r) (hB:(l.length+1)*M<=B):(Bp F l vars false).fl=false:=by
 have h0:=hT.whole 0 aD;have w:=hE.whole 0 aD h0;unfold Bp;refine Aa8 hE hT w.1 w.2 (Ob _ _) eo (rest:=l) (done:=[]) hr hB (by simp) (by simp) ?_ (by simp only [h0]; rfl);exact Ya01
end
def linV (v:ByteArray->Rat):List (ByteArray × Int)->Rat
 | []=>0
 | c :: cs=>((c.2:Int):Rat)*v c.1+linV v cs
def valR (v:ByteArray->Rat) (r:RowT):Rat:=linV v r.1+((r.2.1:Int):Rat)
def Sat (v:ByteArray->Rat) (l:List RowT):Prop:=∀ r ∈ l,valR v r<=0/\(r.2.2=true->valR v r=0)
def rwA (l:List RowT) (i:Nat):RowT:=at_ ([],0,true) l i
def sysY (vars:List ByteArray) (l:List RowT):Simp.Sys:=⟨l.length,vars.length,fun i k=>((cofI vars (rwA l i).1 k:Int):Rat),fun i=>(((rwA l i).2.1:Int):Rat),fun i=>(rwA l i).2.2⟩
theorem Ait {vars:List ByteArray} (v:Nat->Rat):∀ {cs:List (ByteArray × Int)},(∀ c ∈ cs,c.1 ∈ vars)->(cs.map fun c=>idxV vars c.1).Pairwise (·≠·)->(Simp.sum vars.length fun k=>((cofI vars cs k:Int):Rat)*v k)=linV (fun s=>v (idxV vars s)) cs
 | [],_,_=>by
  rw [Simp.sum_zero fun k _=>by show ((0:Int):Rat)*_=0; rw [Rat.intCast_zero]; grind]; rfl
 | c :: cs,hm,hp=>by
  have nv:=(Mt (hm c (Cv ..))).2;rw [Cm,F7] at hp;have ih:=Ait v (fun c' h=>hm c' (Cq _ h)) hp.2;have hz:cofI vars cs (idxV vars c.1)=0:=Qp fun c' h=>(hp.1 _ (Fy.2 ⟨c',h,rfl⟩)).symm;have e:∀ k,((cofI vars (c :: cs) k:Int):Rat)*v k=(if k=idxV vars c.1 then ((c.2:Int):Rat)*v k else 0)+((cofI vars cs k:Int):Rat)*v k:=fun k=>by
   rw [cofI];by_cases h:idxV vars c.1=k
   ·rw [if_pos h,if_pos h.symm,<- h,hz,Rat.intCast_zero]; grind
   ·rw [if_neg h,if_neg fun h'=>h h'.symm]; grind
  rw [Simp.sum_congr fun k _=>e k,Simp.sum_add,ih,Simp.sum_one nv]; rfl
theorem T9 {v v':ByteArray->Rat} : ∀ {cs:List (ByteArray × Int)},(∀ c ∈ cs,v c.1=v' c.1)->linV v cs=linV v' cs
 | [],_=>rfl
 | c :: cs,h=>by rw [linV,linV,h c (Cv ..),T9 fun c' h'=>h c' (Cq _ h')]
theorem Aek {v v':ByteArray->Rat} {r:RowT} (h:∀ c ∈ r.1,v c.1=v' c.1):valR v r=valR v' r:=by unfold valR; rw [T9 h]
theorem Aiu {vars:List ByteArray} {l:List RowT} (hr:∀ r ∈ l,Gx vars r) {i:Nat} (hi:i<l.length) (v:Nat->Rat):(sysY vars l).val v i=valR (fun s=>v (idxV vars s)) (rwA l i):=by
 have h:Gx vars (rwA l i):=hr _ (Hk (d:=([],0,true)) hi);unfold Simp.Sys.val valR;show Simp.sum vars.length _+_=_;rw [<- Ait v h.mem h.dis]; rfl
theorem Aob {vars:List ByteArray} {l:List RowT} (hr:∀ r ∈ l,Gx vars r):(∃ v,(sysY vars l).holds v)↔∃ v,Sat v l:=by
 constructor
 ·rintro ⟨v,hv⟩;refine ⟨fun s=>v (idxV vars s),fun r h=>?_⟩;obtain ⟨i,hi⟩:=List.getElem?_of_mem h;have bj:=(Fq.1 hi).1;have hx:=hv i bj;have e:rwA l i=r:=by unfold rwA at_; rw [Ae,hi]; rfl
  rw [Aiu hr bj,e] at hx;refine ⟨hx.1,fun he=>hx.2 ?_⟩;show (rwA l i).2.2=true;rw [e]; exact he
 ·rintro ⟨v,hv⟩;refine ⟨fun k=>v (at_ ⟨#[]⟩ vars k),fun i hi=>?_⟩;have hm:rwA l i ∈ l:=Hk hi;have hx:=hv _ hm;rw [Aiu hr hi];have e:valR (fun s=>v (at_ ⟨#[]⟩ vars (idxV vars s))) (rwA l i)=valR v (rwA l i):=Aek fun c hc=>by
   have:=Zq ((hr _ hm).mem c hc);unfold at_; rw [this]; rfl
  rw [e]; exact hx
structure Agree (m N:Nat) (t u:Simp.Tab):Prop where
 T:∀ i j,i<m->j<N+1->t.T i j=u.T i j
 c:∀ j,j<N+1->t.c j=u.c j
 B:∀ i,i<m->t.B i=u.B i
section
variable {m N L:Nat} {t u:Simp.Tab}
theorem Agree.dotT (h:Agree m N t u) {i:Nat} (hi:i<m) (x:Nat->Rat):Simp.dot N (t.T i) x=Simp.dot N (u.T i) x:=Simp.sum_congr fun j hj=>by rw [h.T i j hi hj]
theorem Agree.dotC (h:Agree m N t u) (x:Nat->Rat):Simp.dot N t.c x=Simp.dot N u.c x:=Simp.sum_congr fun j hj=>by rw [h.c j hj]
theorem Agree.ker (h:Agree m N t u) (x:Nat->Rat):Simp.Ker m N t x↔Simp.Ker m N u x:=by
 constructor <;> intro hk i hi
 ·rw [<- h.dotT hi]; exact hk i hi
 ·rw [h.dotT hi]; exact hk i hi
theorem Agree.fit (h:Agree m N t u) (hu:Simp.Fit m N u):Simp.Fit m N t:=by
 refine ⟨fun i hi=>by rw [h.B i hi]; exact hu.lt i hi,fun i k hi hk=>?_,fun k hk=>?_⟩
 ·rw [h.B k hk,h.T i _ hi (by have:=hu.lt k hk; omega)]; exact hu.unit i k hi hk
 ·rw [h.B k hk,h.c _ (by have:=hu.lt k hk; omega)]; exact hu.free k hk
theorem Ale {L' K:Nat} {R:Nat->Nat->Rat} {b:Nat->Rat} (Rn:Simp.Run m (L+m) L' K) (ha:Agree m (L+m) (Rn.t 0) (Simp.first m L R b)) (hL:L<=L')
  (yw:(∀ j,j<L'->0<=(Rn.t K).c j)\/∃ s,s<L'/\(Rn.t K).c s<0/\∀ i,i<m->(Rn.t K).T i s<=0) :
  (Rn.t K).c (L+m)=0↔∃ x:Nat->Rat,(∀ j,j<L->0<=x j)/\∀ i,i<m->Simp.sum L (fun j=>R i j*x j)=b i:=by
 have hf:=Rn.fits K (Cb _);have hr:=Rn.rights K (Cb _);have hk:∀ x,Simp.Ker m (L+m) (Rn.t K) x↔Simp.Ker m (L+m) (Simp.first m L R b) x:=fun x=>(Rn.ker (Cs _) (Cb _) x).trans (ha.ker x);have hc:∀ x,Simp.Ker m (L+m) (Simp.first m L R b) x->Simp.dot (L+m) (Rn.t K).c x=Simp.dot (L+m) (Simp.first m L R b).c x:=fun x hx=>by
  rw [Rn.cost (Cs _) (Cb _) ((ha.ker x).2 hx),ha.dotC]
 refine Simp.phase hf hr hk hc ?_;rcases yw with h|⟨s,hs,hn,hp⟩
 ·exact fun j hj=>h j aA
 ·exfalso;have hLN:=Rn.LN;obtain ⟨x,hx,hlt⟩:=Simp.least_none (L:=L+m) (f:=(Rn.t K).c) hf (Cb _) hr (fun i hi hB=>by have:=hf.lt i hi; omega) aA hn hp (fun i hi hB=>by have:=hf.lt i hi; omega) (fun _ _=>rfl) 0;have hkx:=(hk x).1 hx.sol.ker;rw [hc x hkx,Simp.first_cost hkx] at hlt;have:=Simp.sum_nonneg (f:=fun i=>x (L+i)) (n:=m) fun i hi=>hx.sol.pos _ aA;grind
end
theorem Yf {l:List RowT} {i:Nat} (hi:i<l.length) (he:(rwA l i).2.2=false):neqs (l.take i)<neqs l:=by
 have h1:=Hi (Wy (d:=([],0,true)) hi);have h2:l=l.take (i+1)++l.drop (i+1):=(I9 _ _).symm;have h3:neqs l=neqs (l.take (i+1))+neqs (l.drop (i+1)):=by rw [<- Hb,<- h2]
 have po:(at_ ([],0,true) l i:RowT).2.2=false:=he;rw [h1,Hb,neqs,neqs,po] at h3;simp at h3;omega
theorem Aho {l:List RowT} {i k:Nat} (h:i<=k):neqs (l.take i)<=neqs (l.take k):=by
 have h2:l.take k=(l.take k).take i++(l.take k).drop i:=(I9 _ _).symm;rw [h2,Hb,iP,Nat.min_eq_left h];omega
theorem Akv {l:List RowT} {i k:Nat} (hi:i<l.length) (hk:k<l.length) (h1:(rwA l i).2.2=false) (h2:(rwA l k).2.2=false) (h:neqs (l.take i)=neqs (l.take k)):i=k:=by
 have key:∀ i k,i<l.length->(rwA l i).2.2=false->i<k->neqs (l.take i)<neqs (l.take k):=fun i k hi he yc=>by
  have s1:=Hi (Wy (d:=([],0,true)) hi);have h3:neqs (l.take (i+1))=neqs (l.take i)+1:=by
   have po:(at_ ([],0,true) l i:RowT).2.2=false:=he;rw [s1,Hb,neqs,neqs,po]; simp
  have:=Aho (l:=l) (show i+1<=k by omega);omega
 rcases O0 i k with h'|h'|h'
 ·have:=key i k hi h1 h'; omega
 ·exact h'
 ·have:=key k i hk h2 h'; omega
section
variable {vars:List ByteArray} {l:List RowT}
theorem N4 {real W i j:Nat} (hi:i<l.length):rowX vars real W l i j=rowR vars real W i (2*vars.length+neqs (l.take i)) (rwA l i) j:=by
 unfold rowX;rw [Wy (d:=([],0,true)) hi]; rfl
theorem Qy {G:Q->Prop} {t:Tb} (hr:∀ r ∈ l,Gx vars r) (h:BInv G vars (2*vars.length+neqs l) (2*vars.length+neqs l+l.length+1) l t) :
  Agree l.length (2*vars.length+neqs l+l.length) (tabV t) (Simp.first l.length (2*vars.length+neqs l) (rowX vars (2*vars.length+neqs l) (2*vars.length+neqs l+l.length+1) l) fun i=>rowX vars (2*vars.length+neqs l) (2*vars.length+neqs l+l.length+1) l i (2*vars.length+neqs l+l.length)):=by
 refine ⟨fun i j hi hj=>?_,fun j hj=>?_,fun i hi=>?_⟩
 ·show qv (at_ q0 (B1 t i) j)=if j<2*vars.length+neqs l then _ else if j<2*vars.length+neqs l+l.length then (if j=2*vars.length+neqs l+i then 1 else 0) else _
  rw [h.vals i hi];split
  ·rfl
  ·rename_i h1;have ho:=hr _ (Hk (d:=([],0,true)) hi);split
   ·rename_i h2;rw [N4 hi];unfold rowR;rw [if_neg aA];split
    ·rfl
    ·rw [if_neg (fun h'=>by have:=Yf hi h'.1; omega)];exact Qq ho.mem aA
   ·have:j=2*vars.length+neqs l+l.length:=aA
    rw [this]
 ·show qv (at_ q0 t.cost j)=if j<2*vars.length+neqs l then _ else if j<2*vars.length+neqs l+l.length then 0 else _
  rw [h.costs];split
  ·split
   ·rfl
   ·rw [if_neg aA];have:j=2*vars.length+neqs l+l.length:=aA
    rw [this]
  ·rw [if_neg aA,if_pos aA]
 ·exact h.bas i hi
theorem Anc (hr:∀ r ∈ l,Gx vars r):Simp.Cols (sysY vars l) (2*vars.length+neqs l) (fun i=>sgR (rwA l i)) (fun i=>2*vars.length+neqs (l.take i)) (rowX vars (2*vars.length+neqs l) (2*vars.length+neqs l+l.length+1) l) fun i=>rowX vars (2*vars.length+neqs l) (2*vars.length+neqs l+l.length+1) l i (2*vars.length+neqs l+l.length):=by
 have ho:∀ i,i<l.length->Gx vars (rwA l i):=fun i hi=>hr _ (Hk (d:=([],0,true)) hi);refine ⟨fun i hi=>?_,Ob _ _,fun i k hi hk=>?_,fun i k hi hk=>?_,fun i j hi h1 h2=>?_,fun i hi he=>?_,fun i k hi hk h1 h2 h3=>?_,fun i hi=>?_⟩
 ·unfold sgR; split <;> grind
 ·have hk':k<vars.length:=hk;rw [N4 hi];unfold rowR;rw [if_neg aA,if_neg aA,if_neg (fun h'=>aA)];exact (Mm (ho i hi).dis k).1
 ·have hk':k<vars.length:=hk;rw [N4 hi];unfold rowR;rw [if_neg aA,if_neg aA,if_neg (fun h'=>aA)];exact (Mm (ho i hi).dis k).2
 ·have x5:2*vars.length<=j:=h1;rw [N4 hi];unfold rowR;rw [if_neg aA,if_neg aA];show _=if (rwA l i).2.2=false/\j=2*vars.length+neqs (l.take i) then _ else 0
  split
  ·rfl
  ·exact Qq (ho i hi).mem x5
 ·have:=Yf hi he;exact ⟨Ob _ _,aA⟩
 ·exact Akv hi hk h1 h2 aA
 ·rw [N4 hi];unfold rowR;rw [if_pos aA]; rfl
theorem Yp {i:Nat} (hi:i<l.length):0<=rowX vars (2*vars.length+neqs l) (2*vars.length+neqs l+l.length+1) l i (2*vars.length+neqs l+l.length):=by
 rw [N4 hi];unfold rowR;rw [if_pos aA];unfold sgR;split
 ·rename_i h;have:(0:Rat)<(((rwA l i).2.1:Int):Rat):=Yc.2 h;grind
 ·rename_i h;have:¬ (0:Rat)<(((rwA l i).2.1:Int):Rat):=fun h'=>h (Yc.1 h');grind
variable {F:Fld} {G:Q->Prop}
theorem BInv.tok {real W N:Nat} {t:Tb} (h:BInv G vars real W l t) (hW:W=N+1):TOk G l.length N t:=⟨h.nr,h.nb,by rw [h.nc,hW],fun r hr=>by rw [h.rowW r hr,hW],h.okr,h.okc⟩
theorem Zd:(Bp F l vars false).real=2*vars.length+neqs l:=Qj.1
theorem Afl {t:Tb} (hr:∀ r ∈ l,Gx vars r) (h:BInv G vars (2*vars.length+neqs l) (2*vars.length+neqs l+l.length+1) l t):∃ R:Simp.Run l.length (2*vars.length+neqs l+l.length) (2*vars.length+neqs l) 0,R.t 0=tabV t:=by
 have ha:=Qy hr h;exact ⟨Simp.Run.none (ha.fit (Simp.first_fit _ _ _ _)) (Ob _ _) (fun i hi=>by
  rw [ha.T i _ hi aA];show 0<=if 2*vars.length+neqs l+l.length<2*vars.length+neqs l then _ else if 2*vars.length+neqs l+l.length<2*vars.length+neqs l+l.length then _ else _
  rw [if_neg aA,if_neg aA];exact Yp hi),rfl⟩
theorem Afk (hE:F.Exact G) (hr:∀ r ∈ l,Gx vars r) (hb0:F.stop=true\/(Bp F l vars false).fl=false) (hs:Safe F G l.length (2*vars.length+neqs l+l.length) (2*vars.length+neqs l) (tabV (Bp F l vars false))) {n:Nat} (hn:(2*vars.length+neqs l+l.length) ^ l.length+1<=n) :
  ∃ b t',Ht F n (Bp F l vars false)=some (b,t')/\((F.stop=true/\t'.fl=true)\/(t'.fl=false/\TOk G l.length (2*vars.length+neqs l+l.length) t'/\∃ K,∃ R:Simp.Run l.length (2*vars.length+neqs l+l.length) (2*vars.length+neqs l) K,R.t 0=tabV (Bp F l vars false)/\R.t K=tabV t' /\
   Agree l.length (2*vars.length+neqs l+l.length) (R.t 0) (Simp.first l.length (2*vars.length+neqs l) (rowX vars (2*vars.length+neqs l) (2*vars.length+neqs l+l.length+1) l) fun i=>rowX vars (2*vars.length+neqs l) (2*vars.length+neqs l+l.length+1) l i (2*vars.length+neqs l+l.length)) /\
   ((∀ j,j<2*vars.length+neqs l->0<=(tabV t').c j)\/∃ s,s<2*vars.length+neqs l/\(tabV t').c s<0/\∀ i,i<l.length->(tabV t').T i s<=0))):=by
 cases hf:(Bp F l vars false).fl with
 | true =>
  rcases hb0 with ah|h
  ·obtain ⟨n',rfl⟩:∃ n',n=n'+1:=⟨n - 1,aA⟩;exact ⟨_,_,Tz ah hf,.inl ⟨ah,hf⟩⟩
  ·rw [hf] at h; cases h
 | false =>
  have hb:=W1 hE hr hf;obtain ⟨R,h0⟩:=Afl hr hb;obtain ⟨b,t',h1,h2⟩:=Abd hE hs n R h0 h0 (hb.tok rfl) Zd hf aA;refine ⟨b,t',h1,?_⟩;rcases h2 with h2|⟨h3,h4,K,R',h5,h6,h7,h8⟩
  ·exact .inl h2
  ·refine .inr ⟨h3,h4,K,R',h5,h6,by rw [h5]; exact Qy hr hb,?_⟩;cases b with
   | true=>exact .inl (h7 rfl)
   | false=>exact .inr (h8 rfl)
theorem Ago (hE:F.Exact G) {m N:Nat} {t:Tb} (h:TOk G m N t):Jq t=true↔(tabV t).c N=0:=by
 have g:=h.okc _ (Hk (d:=q0) (k:=N) (l:=t.cost) (by rw [h.cost]; omega));unfold Jq;rw [h.cost,iT,beq_iff_eq,Nf (hE.pos _ g)]; rfl
theorem Ady (hE:F.Exact G) (hr:∀ r ∈ l,Gx vars r) {t':Tb} {K:Nat} (ht:TOk G l.length (2*vars.length+neqs l+l.length) t') (R:Simp.Run l.length (2*vars.length+neqs l+l.length) (2*vars.length+neqs l) K) (hK:R.t K=tabV t')
  (ha:Agree l.length (2*vars.length+neqs l+l.length) (R.t 0) (Simp.first l.length (2*vars.length+neqs l) (rowX vars (2*vars.length+neqs l) (2*vars.length+neqs l+l.length+1) l) fun i=>rowX vars (2*vars.length+neqs l) (2*vars.length+neqs l+l.length+1) l i (2*vars.length+neqs l+l.length)))
  (yw:(∀ j,j<2*vars.length+neqs l->0<=(tabV t').c j)\/∃ s,s<2*vars.length+neqs l/\(tabV t').c s<0/\∀ i,i<l.length->(tabV t').T i s<=0):Jq t'=true↔∃ v,Sat v l:=by
 rw [Ago hE ht,<- Aob hr,<- (Anc hr).solve,<- hK];rw [<- hK] at yw;exact Ale R ha (Cb _) yw
end
theorem Aia {vars:List ByteArray} {r:RowT} (h:A6 r.1 r.2.1=0) (hm:∀ c ∈ r.1,c.1 ∈ vars):Gx vars r/\G7 1000000000000 r:=by
 obtain ⟨h1,h2⟩:=Afs h;have h3:=Afr h;refine ⟨⟨aD,fun c hc=>by have:=(h2 c hc).1; unfold i64; omega,hm,?_⟩,⟨aA,h1,fun c hc=>(h2 c hc).1⟩⟩;have key:∀ (cs:List (ByteArray × Int)),IncC cs->(∀ c ∈ cs,c.1 ∈ vars)->(cs.map fun c=>idxV vars c.1).Pairwise (·≠·):=by
  intro cs;induction cs with
  | nil=>intro _ _; exact List.Pairwise.nil
  | cons c cs ih =>
   intro hi hm;have hp:=F7.1 (show (c.1 :: cs.map (·.1)).Pairwise (fun a b=>nm a<nm b) from hi);rw [Cm];refine F7.2 ⟨fun x hx e=>?_,ih hp.2 fun c' h=>hm c' (Cq _ h)⟩;obtain ⟨c',ek,rfl⟩:=Fy.1 hx;have e1:=Zq (hm c (Cv ..));have e2:=Zq (hm c' (Cq _ ek));rw [e,e2] at e1;simp only [A0] at e1;have:=hp.1 c'.1 (Fy.2 ⟨c',ek,rfl⟩);rw [e1] at this;exact iS _ this
 exact key _ h3 hm
theorem Ad7 {l:List RowT} {vars:List ByteArray} (h:Gk l=0) (hm:∀ r ∈ l,∀ c ∈ r.1,c.1 ∈ vars):∀ r ∈ l,Gx vars r/\G7 1000000000000 r:=fun r hr=>Aia (Kf h r hr) (hm r hr)
theorem Ada {G:Q->Prop} {vars:List ByteArray} {M:Nat} {l:List RowT} {t:Tb} (hr:∀ r ∈ l,Gx vars r/\G7 M r) (h:BInv G vars (2*vars.length+neqs l) (2*vars.length+neqs l+l.length+1) l t):Ints l.length (2*vars.length+neqs l+l.length) M (l.length*M) (tabV t):=by
 refine ⟨fun i j hi hj=>?_,fun j hj=>?_⟩
 ·obtain ⟨w,e,hw⟩:=V5 (real:=2*vars.length+neqs l) (W:=2*vars.length+neqs l+l.length+1) hr i j;exact ⟨w,by rw [<- e]; exact h.vals i hi j,hw⟩
 ·show ∃ z:Int,qv (at_ q0 t.cost j)=_/\_;rw [h.costs];split
  ·obtain ⟨w,e,hw⟩:=Aam (M:=M) (n:=l.length) (f:=fun i=>rowX vars (2*vars.length+neqs l) (2*vars.length+neqs l+l.length+1) l i j) fun i _=>V5 hr i j;exact ⟨-w,by rw [e,Oh],aA⟩
  ·exact ⟨0,rfl,by simp⟩
theorem Afm {m M:Nat} (hm:m<=13) (hM:M=1000000000000):2*(bndX m M (m*M)*bndX m M (m*M))<10000 ^ 200:=by
 subst hM;have:∀ m,m<14->2*(bndX m 1000000000000 (m*1000000000000)*bndX m 1000000000000 (m*1000000000000))<10000 ^ 200:=aO
 exact this m aA
theorem Agr {w:Int} (h:w.natAbs<=14000000000000):Vd ((w:Int):Rat):=by
 refine ⟨w,1,aA,by rw [Rat.intCast_one]; grind,?_,?_⟩
 ·have:14000000000000<10000 ^ 200:=aO
  omega
 ·decide +kernel
theorem Aim {l:List RowT} {vars:List ByteArray} (hl:l.length<=13) (hr:∀ r ∈ l,Gx vars r/\G7 1000000000000 r):(Bp WW.qF l vars false).fl=false/\Safe WW.qF gW l.length (2*vars.length+neqs l+l.length) (2*vars.length+neqs l) (tabV (Bp WW.qF l vars false)):=by
 have hf:=Ac6 Qb Acy (fun w hw=>Agr hw) hr (F0 1000000000000 (show l.length+1<=14 by omega));exact ⟨hf,Aoa (M:=1000000000000) (Mc:=l.length*1000000000000) aA (Ada hr (W1 Qb (fun r h=>(hr r h).1) hf)) (Afm hl rfl)⟩
structure Aje (G:Q->Prop) (vars:List ByteArray) (l:List RowT) (t':Tb):Prop where
 fl:t'.fl=false
 ok:TOk G l.length (2*vars.length+neqs l+l.length) t'
 run:∃ K,∃ R:Simp.Run l.length (2*vars.length+neqs l+l.length) (2*vars.length+neqs l) K,R.t K=tabV t' /\
   Agree l.length (2*vars.length+neqs l+l.length) (R.t 0) (Simp.first l.length (2*vars.length+neqs l) (rowX vars (2*vars.length+neqs l) (2*vars.length+neqs l+l.length+1) l) fun i=>rowX vars (2*vars.length+neqs l) (2*vars.length+neqs l+l.length+1) l i (2*vars.length+neqs l+l.length))
 stop:(∀ j,j<2*vars.length+neqs l->0<=(tabV t').c j)\/∃ s,s<2*vars.length+neqs l/\(tabV t').c s<0/\∀ i,i<l.length->(tabV t').T i s<=0
def kMax (vars:List ByteArray) (l:List RowT):Nat:=(2*vars.length+neqs l+l.length) ^ l.length+1
theorem Ahx {F:Fld} {G:Q->Prop} (hE:F.Exact G) {l:List RowT} {vars:List ByteArray} (hr:∀ r ∈ l,Gx vars r) (hb0:F.stop=true\/(Bp F l vars false).fl=false) (hs:Safe F G l.length (2*vars.length+neqs l+l.length) (2*vars.length+neqs l) (tabV (Bp F l vars false))) {K:Nat} (hK:kMax vars l<=K) :
  ∃ b t',Ht F K (Bp F l vars false)=some (b,t')/\((F.stop=true/\t'.fl=true)\/Aje G vars l t'):=by
 obtain ⟨b,t',h1,h2⟩:=Afk hE hr hb0 hs hK;refine ⟨b,t',h1,?_⟩;rcases h2 with h2|⟨h3,h4,K',R,-,h5,h6,h7⟩
 ·exact .inl h2
 ·exact .inr ⟨h3,h4,⟨K',R,h5,h6⟩,h7⟩
theorem Aje.feas {F:Fld} {G:Q->Prop} (hE:F.Exact G) {l:List RowT} {vars:List ByteArray} (hr:∀ r ∈ l,Gx vars r) {t':Tb} (h:Aje G vars l t'):Jq t'=true↔∃ v,Sat v l:=by
 obtain ⟨K,R,h1,h2⟩:=h.run;exact Ady hE hr h.ok R h1 h2 h.stop
def Aem (F:Fld) (G:Q->Prop) (vars:List ByteArray) (l:List RowT) (a:Ans):Prop :=
 ∃ t',Aje G vars l t'/\a.f=Jq t'/\a.pt=(if Jq t'=true then (Ep F t').1.map F.rat else [])/\a.nu=(if Jq t'=true then [] else (Hu F t').1.map F.rat)/\(F.stop=true->Jq t'=true->(Ep F t').2=false)/\(F.stop=true->Jq t'=false->(Hu F t').2=false)
theorem Uj {F:Fld} {G:Q->Prop} (hE:F.Exact G) {l:List RowT} {vars:List ByteArray} (hr:∀ r ∈ l,Gx vars r) (hb0:F.stop=true\/(Bp F l vars false).fl=false) (hs:Safe F G l.length (2*vars.length+neqs l+l.length) (2*vars.length+neqs l) (tabV (Bp F l vars false))) {K:Nat} (hK:kMax vars l<=K) :
  ∃ a ok,J6 F K l vars false=some (a,ok)/\a.least=none/\(F.stop=false->ok=true)/\(ok=true->Aem F G vars l a):=by
 obtain ⟨b,t',h1,h2⟩:=Ahx hE hr hb0 hs hK;unfold J6;rw [h1];simp only;rcases h2 with ⟨s1,s2⟩|h2
 ·rw [if_pos (by rw [s1,s2]; rfl)];exact ⟨_,_,rfl,rfl,fun h=>(by rw [s1] at h; cases h),fun h=>aP⟩
 ·rw [if_neg (by rw [h2.fl]; simp)];cases hf:Jq t' with
  | true =>
   rw [if_pos rfl];refine ⟨_,_,rfl,rfl,fun h=>by rw [h]; rfl,fun h=>⟨t',h2,hf.symm,by rw [if_pos hf],by rw [if_pos hf],fun h' _=>?_,fun _ h'=>(by rw [hf] at h'; cases h')⟩⟩;rw [h'] at h;simpa [h2.fl] using h
  | false =>
   rw [if_neg (by simp)];refine ⟨_,_,rfl,rfl,fun h=>by rw [h]; rfl,fun h=>⟨t',h2,hf.symm,by rw [hf]; rfl,by rw [hf]; rfl,fun _ h'=>(by rw [hf] at h'; cases h'),fun h' _=>?_⟩⟩;rw [h'] at h;simpa [h2.fl] using h
theorem Ajy {l:List RowT} {vars:List ByteArray} (hl:l.length<=13) (hr:∀ r ∈ l,Gx vars r/\G7 1000000000000 r) {K:Nat} (hK:kMax vars l<=K) :
  ∃ a,askN K l vars=some a/\a.least=none/\(Aem QQ.qF okS vars l a\/Aem WW.qF gW vars l a):=by
 have bo:∀ r ∈ l,Gx vars r:=fun r h=>(hr r h).1;obtain ⟨a,ok,h1,h2,h3,h4⟩:=Uj Ab9 bo (.inl rfl) An9 hK;unfold askN;rw [h1];cases ok with
 | true=>exact ⟨a,rfl,h2,.inl (h4 rfl)⟩
 | false =>
  obtain ⟨s1,s2⟩:=Aim hl hr;obtain ⟨a',ok',k1,k2,k3,k4⟩:=Uj Qb bo (.inr s1) s2 hK;simp only [k1,Cu];exact ⟨a',rfl,k2,.inr (k4 (k3 rfl))⟩
theorem Ajv {l:List RowT} {vars:List ByteArray} (hr:∀ r ∈ l,Gx vars r) {a:Ans} (h:Aem QQ.qF okS vars l a\/Aem WW.qF gW vars l a):a.f=true↔∃ v,Sat v l:=by
 rcases h with ⟨t',h1,h2,-⟩|⟨t',h1,h2,-⟩
 ·rw [h2]; exact h1.feas Ab9 hr
 ·rw [h2]; exact h1.feas Qb hr
end
section
open Go Tryz
theorem Ank {l:List RowT} (hl:l.length<=13) (h0:sysE l=0):∃ b:Bool,(b=true↔∃ v,Sat v l)/\∀ S tk k,cL prog 23 [Au l] S tk k=some (.tup [.bool b,.int 0],S,tk,k):=by
 obtain ⟨f1,f2,f3,f4⟩:=R5 h0;have hr:=Ad7 (vars:=Hv l) f4 Acx;obtain ⟨a,h1,h2,h3⟩:=Ajy hl hr (Cb _);refine ⟨a.f,Ajv (fun r h=>(hr r h).1) h3,fun S tk k=>?_⟩;have:=Ps S tk k l (fun r h=>by have:=Qn (Kf f4 r h); omega) (Abq f4) _ a (fun _=>⟨h1,h2⟩);rw [h0,if_pos rfl] at this;exact this
end
section
open Go
def tS (a:Q):Bool:=smB a.1 && smB a.2
def tN (a:Q):Int:=if tS a=true then a.1 else 0
def tD (a:Q):Int:=if tS a=true then a.2 else 0
structure Tiny (a:Q):Prop where
 n:tN a=a.1
 d:tD a=a.2
 l1:a.1.natAbs<100000000
 l2:a.2.natAbs<100000000
 pos:0<a.2
def sgI (r:RowT):Int:=if -r.2.1<0 then -1 else 1
def iQ (n:Int):Q:=(n,1)
def Anb:List (ByteArray × Int)->ByteArray->Int
 | [],_=>0
 | c :: cs,s=>if sEq c.1 s=true then c.2 else Anb cs s
def Ap6 (s:Int) (cs:List (ByteArray × Int)):List ByteArray->List Q
 | []=>[]
 | v :: vs=>iQ (s*Anb cs v) :: iQ (-s*Anb cs v) :: Ap6 s cs vs
def lineN (m i:Nat) (r:RowT) (k:Nat):Int:=if k=m+i then 1 else if k=i/\r.2.2=false then sgI r else 0
def lineR (vars:List ByteArray) (m i:Nat) (r:RowT):List Q:=Ap6 (sgI r) r.1 vars++(F9 (2*m)).map (fun k=>iQ (lineN m i r k))++[iQ (sgI r*-r.2.1)]
def Amc (vars:List ByteArray) (m:Nat):Nat->List RowT->List (List Q)
 | _,[]=>[]
 | i,r :: l=>lineR vars m i r :: Amc vars m (i+1) l
end
section
open Go
end
section
open Go
structure AptR (I:TI):Prop where
 tr:I.it≠I.ir
 tc:I.it≠I.ic
 tb:I.it≠I.ib
 rc:I.ir≠I.ic
 rb:I.ir≠I.ib
 cb:I.ic≠I.ib
 row:∀ p ∈ I.ids,p.1≠I.it/\p.1≠I.ir/\p.1≠I.ic/\p.1≠I.ib
 rows:∀ i j p q,nth I.ids i=some p->nth I.ids j=some q->i≠j->p.1≠q.1
structure RTab (S:List Ent) (I:TI) (t:Tb) (vars:List ByteArray) (m:Nat) (c:Cap):Prop where
 top:entAt S I.it I.et=some [.sref I.ir I.er 0 t.rows.length 1,.sref I.ib I.eb 0 t.rows.length 1,.sref I.ic I.ec 0 t.cost.length 4,.frz (vars.map strC) .unk,.frz (t.flip.map Dn) c,intA m]
 nids:I.ids.length=t.rows.length
 rowsE:entAt S I.ir I.er=some (I.ids.map (f7 t.cost.length 4))
 rowE:∀ i p r,nth I.ids i=some p->nth t.rows i=some r->entAt S p.1 p.2=some (flat ceW r)
 rowW:∀ r ∈ t.rows,r.length=t.cost.length
 costE:entAt S I.ic I.ec=some (flat ceW t.cost)
 basisE:entAt S I.ib I.eb=some (t.basis.map intA)
 nb:t.basis.length=t.rows.length
 ap:AptR I
 okr:∀ r ∈ t.rows,okL WW.qF r
 okc:okL WW.qF t.cost
 bigW:t.cost.length<=1000000
 bigM:t.rows.length<=1000000
 posM:0<t.rows.length
 posW:0<t.cost.length
def OutR (I:TI) (j:Nat):Prop:=j≠I.it/\j≠I.ir/\j≠I.ic/\j≠I.ib/\∀ p ∈ I.ids,j≠p.1
section
variable {S S':List Ent} {I:TI} {t:Tb} {vars:List ByteArray} {m:Nat} {c:Cap}
theorem RTab.lt (h:RTab S I t vars m c):I.it<S.length/\I.ir<S.length/\I.ic<S.length/\I.ib<S.length/\∀ p ∈ I.ids,p.1<S.length:=by
 refine ⟨A5 h.top,A5 h.rowsE,A5 h.costE,A5 h.basisE,fun p hp=>?_⟩;exact Yai
theorem RTab.out (h:RTab S I t vars m c) {j:Nat} (hj:S.length<=j):OutR I j:=by
 obtain ⟨h1,h2,h3,h4,h5⟩:=h.lt;exact ⟨aA,aA,aA,aA,fun p hp=>by have:=h5 p hp; omega⟩
theorem RTab.frame (h:RTab S I t vars m c) (hS:∀ j,j<S.length->¬ OutR I j->nth S' j=nth S j):RTab S' I t vars m c:=by
 obtain ⟨h1,h2,h3,h4,h5⟩:=h.lt;have k1:=hS I.it h1 fun h=>h.1 rfl;have k2:=hS I.ir h2 fun h=>h.2.1 rfl;have k3:=hS I.ic h3 fun h=>h.2.2.1 rfl;have k4:=hS I.ib h4 fun h=>h.2.2.2.1 rfl;have k5:∀ p ∈ I.ids,nth S' p.1=nth S p.1:=fun p hp=>hS p.1 (h5 p hp) fun h=>h.2.2.2.2 p hp rfl;exact ⟨by rw [Aa k1]; exact h.top,h.nids,by rw [Aa k2]; exact h.rowsE,fun i p r hp hr=>by rw [Aa (k5 p (Aj hp))]; exact h.rowE i p r hp hr,h.rowW,by rw [Aa k3]; exact h.costE,by rw [Aa k4]; exact h.basisE,h.nb,h.ap,h.okr,h.okc,h.bigW,h.bigM,h.posM,h.posW⟩
theorem RTab.app (h:RTab S I t vars m c) (L:List Ent):RTab (S++L) I t vars m c:=h.frame fun j hj _=>Bq hj
theorem RTab.row (h:RTab S I t vars m c) {i:Nat} {p:Nat × Nat} {r':List Q} (hp:nth I.ids i=some p) (hi:i<t.rows.length) (hl:r'.length=t.cost.length) (ho:okL WW.qF r') (hS:∀ j,j≠p.1->j<S.length->nth S' j=nth S j) (he:entAt S' p.1 p.2=some (flat ceW r')) :
  RTab S' I { t with rows:=put t.rows i r' } vars m c:=by
 obtain ⟨h1,h2,h3,h4,h5⟩:=h.lt;have jj:=h.ap.row p (Aj hp);have key:∀ j e,j≠p.1->j<S.length->entAt S' j e=entAt S j e:=fun j e a b=>Aa (hS j a b);refine ⟨?_,by rw [Ai]; exact h.nids,?_,fun j q r hq ab=>?_,fun r ab=>?_,?_,?_,Za4h,h.ap,fun r ab=>?_,h.okc,h.bigW,by rw [Ai]; exact h.bigM,by rw [Ai]; exact h.posM,h.posW⟩
 ·rw [key _ _ jj.1.symm h1,Ai]; exact h.top
 ·rw [key _ _ jj.2.1.symm h2]; exact h.rowsE
 ·rw [Kl hi] at ab;by_cases e:j=i
  ·exact Ya10
  ·rw [if_neg e] at ab;rw [key _ _ (h.ap.rows j i q p hq hp e) (h5 q (Aj hq))];exact Ya1u
 ·exact Ya19
 ·rw [key _ _ jj.2.2.1.symm h3]; exact h.costE
 ·rw [key _ _ jj.2.2.2.symm h4]; exact h.basisE
 ·rcases Bo ab with rfl|ab
  ·exact ho
  ·exact h.okr r ab
theorem RTab.setRow (h:RTab S I t vars m c) {i:Nat} {q:Nat × Nat} {r':List Q} (hi:i<t.rows.length) (hl:r'.length=t.cost.length) (ho:okL WW.qF r') (hq:nth I.ids i=some q\/OutR I q.1) (he:entAt S q.1 q.2=some (flat ceW r')) :
  RTab (put S I.ir ⟨I.er,put (I.ids.map (f7 t.cost.length 4)) i (f7 t.cost.length 4 q)⟩) { I with ids:=put I.ids i q } { t with rows:=put t.rows i r' } vars m c:=by
 obtain ⟨h1,h2,h3,h4,h5⟩:=h.lt;have hii:i<I.ids.length:=by rw [h.nids]; exact hi
 have zc:q.1≠I.it/\q.1≠I.ir/\q.1≠I.ic/\q.1≠I.ib:=by
  rcases hq with hq|hq
  ·exact h.ap.row q (Aj hq)
  ·exact ⟨hq.1,hq.2.1,hq.2.2.1,hq.2.2.2.1⟩
 have hqd:∀ j p,j≠i->nth I.ids j=some p->p.1≠q.1:=fun j p hj hp=>by
  rcases hq with hq|hq
  ·exact h.ap.rows j i p q hp hq hj
  ·exact (hq.2.2.2.2 p (Aj hp)).symm
 refine ⟨?_,by simp only [Ai]; exact h.nids,?_,fun j p r hp ab=>?_,fun r ab=>?_,?_,?_,by simp only [Ai]; exact h.nb,⟨h.ap.tr,h.ap.tc,h.ap.tb,h.ap.rc,h.ap.rb,h.ap.cb,fun p hp=>?_,fun a b p p' ha hb hab=>?_⟩,fun r ab=>?_,h.okc,h.bigW,by simp only [Ai]; exact h.bigM,by simp only [Ai]; exact h.posM,h.posW⟩
 ·rw [Af h.ap.tr.symm]; simp only [Ai]; exact h.top
 ·rw [Ag h2,<- N1]
 ·have fc:nth (put I.ids i q) j=some p:=hp;rw [Kl hii] at fc;rw [Kl hi] at ab;by_cases e:j=i
  ·rw [if_pos e] at fc ab;simp only [A0] at fc ab;subst fc; subst ab;rw [Af zc.2.1.symm]; exact he
  ·rw [if_neg e] at fc ab;rw [Af (h.ap.row p (Aj fc)).2.1.symm]; exact h.rowE j p r fc ab
 ·exact Ya19
 ·rw [Af h.ap.rc]; exact h.costE
 ·rw [Af h.ap.rb]; exact h.basisE
 ·rcases Bo hp with rfl|hp
  ·exact zc
  ·exact h.ap.row p hp
 ·have ha':nth (put I.ids i q) a=some p:=ha;have xy:nth (put I.ids i q) b=some p':=hb;rw [Kl hii] at ha' xy;by_cases e:a=i
  ·rw [if_pos e] at ha';rw [if_neg (fun e2=>hab (e.trans e2.symm))] at xy;simp only [A0] at ha';subst ha';exact (hqd b p' (fun e2=>hab (e.trans e2.symm)) xy).symm
  ·rw [if_neg e] at ha';by_cases e2:b=i
   ·rw [if_pos e2] at xy;simp only [A0] at xy;subst xy;exact hqd a p e ha'
   ·rw [if_neg e2] at xy;exact h.ap.rows a b p p' ha' xy hab
 ·rcases Bo ab with rfl|ab
  ·exact ho
  ·exact h.okr r ab
theorem RTab.setCost (h:RTab S I t vars m c) {q:Nat × Nat} {k':List Q} (hl:k'.length=t.cost.length) (ho:okL WW.qF k') (hq:q=(I.ic,I.ec)\/OutR I q.1) (he:entAt S q.1 q.2=some (flat ceW k')) :
  RTab (put S I.it ⟨I.et,[.sref I.ir I.er 0 t.rows.length 1,.sref I.ib I.eb 0 t.rows.length 1,.sref q.1 q.2 0 t.cost.length 4,.frz (vars.map strC) .unk,.frz (t.flip.map Dn) c,intA m]⟩) { I with ic:=q.1,ec:=q.2 } { t with cost:=k' } vars m c:=by
 obtain ⟨h1,h2,h3,h4,h5⟩:=h.lt;have zc:q.1≠I.it/\I.ir≠q.1/\q.1≠I.ib/\∀ p ∈ I.ids,p.1≠q.1:=by
  rcases hq with rfl|hq
  ·exact ⟨h.ap.tc.symm,h.ap.rc,h.ap.cb,fun p hp=>(h.ap.row p hp).2.2.1⟩
  ·exact ⟨hq.1,hq.2.1.symm,hq.2.2.2.1,fun p hp=>(hq.2.2.2.2 p hp).symm⟩
 refine ⟨?_,h.nids,?_,fun j p r hp hr=>?_,fun r hr=>by rw [hl]; exact h.rowW r hr,?_,?_,h.nb,⟨h.ap.tr,zc.1.symm,h.ap.tb,zc.2.1,h.ap.rb,zc.2.2.1,fun p hp=>?_,h.ap.rows⟩,h.okr,ho,by rw [hl]; exact h.bigW,h.bigM,h.posM,by rw [hl]; exact h.posW⟩
 ·rw [Ag h1,hl]
 ·rw [Af h.ap.tr,hl]; exact h.rowsE
 ·rw [Af (h.ap.row p (Aj hp)).1.symm]; exact h.rowE j p r hp hr
 ·rw [Af zc.1.symm]; exact he
 ·rw [Af h.ap.tb]; exact h.basisE
 ·have:=h.ap.row p hp;exact ⟨this.1,this.2.1,zc.2.2.2 p hp,this.2.2.2⟩
theorem RTab.setBasis (h:RTab S I t vars m c) {i b:Nat} : RTab (put S I.ib ⟨I.eb,(put t.basis i b).map intA⟩) I { t with basis:=put t.basis i b } vars m c:=by
 obtain ⟨h1,h2,h3,h4,h5⟩:=h.lt;refine ⟨?_,h.nids,?_,fun j p r hp hr=>?_,h.rowW,?_,Ag h4,by simp only [Ai]; exact h.nb,h.ap,h.okr,h.okc,h.bigW,h.bigM,h.posM,h.posW⟩
 ·rw [Af h.ap.tb.symm]; exact h.top
 ·rw [Af h.ap.rb.symm]; exact h.rowsE
 ·rw [Af (h.ap.row p (Aj hp)).2.2.2.symm]; exact h.rowE j p r hp hr
 ·rw [Af h.ap.cb.symm]; exact h.costE
end
end
section
open Go
end
section
open Go
end
section
open Go
end
section
open Go
end
section
open Go
def OwnL (SS:List Ent) (id e:Nat) (l:List Q):Prop:=if l=[] then SS.length=id else SS.length=id+1/\entAt SS id e=some (flat ceW l)
def Amh (S:List Ent) (id n:Nat) (l:List Q) (cs:List AV):List Ent:=if l=[] then S++[⟨n,cs⟩] else put S id ⟨n,cs⟩
section
variable {P:Program} {t:TypeId} {S:List Ent} {id e n:Nat} {l zs:List Q} {cs:List AV} {c:Cap}
theorem OwnL.put (hO:OwnL S id e l) (hz:zs≠[]):OwnL (Amh S id n l (flat ceW (l++zs))) id n (l++zs):=by
 unfold OwnL Amh at *;rw [if_neg (show l++zs≠[] by simp [hz])];by_cases hn:l=[]
 ·rw [if_pos hn] at hO ⊢;subst hO;exact ⟨by simp,Bz⟩
 ·rw [if_neg hn] at hO ⊢;exact ⟨by rw [Am]; exact hO.1,Ag aA⟩
theorem OwnL.le (hO:OwnL S id e l):id<=S.length:=by unfold OwnL at hO; split at hO <;> omega
end
section
variable (S:List Ent) (tk:List Nat) (k:Nat)
structure LineC (S:List Ent) (tk:List Nat) (it et:Nat) (vars:List ByteArray) (m:Nat) (fl:List Bool) (cc:Cap) (i:Nat) (r:RowT):Prop where
 tw:it<S.length
 hcap:Ba tk cc 1=true
 ez:fl.length<=1000000
 hi:i<m
 hv:vars.length<=100000
 hm:m<=100000
 hcl:r.1.length<=1048576
 hc:∀ c ∈ r.1,inB c.2=true
 hn:inB r.2.1=true
end
def shd (id e:Nat):Nat->AV
 | 0=>.frz [] .nilc
 | k+1=>.sref id e 0 (k+1) 1
structure PTab (S:List Ent) (I:TI) (R:List (List Q)) (B:List Nat) (F:List Bool) (vars:List ByteArray) (m W:Nat) (cc:Cap) (x:AV):Prop where
 top:entAt S I.it I.et=some [shd I.ir I.er R.length,shd I.ib I.eb B.length,x,.frz (vars.map strC) .unk,.frz (F.map Dn) cc,.prim (.int .i64 (m:Int))]
 nids:I.ids.length=R.length
 nb:B.length=R.length
 rowsE:R≠[]->entAt S I.ir I.er=some (I.ids.map (f7 W 4))
 basisE:R≠[]->entAt S I.ib I.eb=some (B.map intA)
 rowE:∀ i p r,nth I.ids i=some p->nth R i=some r->entAt S p.1 p.2=some (flat ceW r)
 rowW:∀ r ∈ R,r.length=W
 okr:∀ r ∈ R,okL WW.qF r
 tr:I.it≠I.ir
 tb:I.it≠I.ib
 rb:I.ir≠I.ib
 row:∀ p ∈ I.ids,p.1≠I.it/\p.1≠I.ir/\p.1≠I.ib
 lt:I.it<S.length/\∀ p ∈ I.ids,p.1<S.length
 rows:∀ i j p q,nth I.ids i=some p->nth I.ids j=some q->i≠j->p.1≠q.1
theorem Rg {α:Type} {l:List α} {x y:α} {i:Nat} (h:nth (l++[x]) i=some y):nth l i=some y\/i=l.length/\y=x:=by
 rw [Ae] at h ⊢;by_cases hi:i<l.length
 ·rw [Cp hi] at h; exact .inl h
 ·have:=(Fq.1 h).1;simp at this;have e:i=l.length:=aA
  rw [e,C8 (Cb _),I3] at h;simp at h; exact .inr ⟨e,h.symm⟩
theorem PTab.add {S S':List Ent} {I:TI} {R:List (List Q)} {B:List Nat} {F:List Bool} {vars:List ByteArray} {m W:Nat} {cc cc':Cap} {x:AV} (h:PTab S I R B F vars m W cc x) {er eb id ep b:Nat} {f:Bool} {row:List Q}
  (ht:entAt S' I.it I.et=some [.sref I.ir er 0 (R.length+1) 1,.sref I.ib eb 0 (R.length+1) 1,x,.frz (vars.map strC) .unk,.frz ((F++[f]).map Dn) cc',.prim (.int .i64 (m:Int))])
  (hr:entAt S' I.ir er=some ((I.ids++[(id,ep)]).map (f7 W 4))) (hb:entAt S' I.ib eb=some ((B++[b]).map intA)) (bz:entAt S' id ep=some (flat ceW row)) (hW:row.length=W) (ho:okL WW.qF row) (fd:∀ p ∈ I.ids,nth S' p.1=nth S p.1) (hlen:S.length<=S'.length)
  (hid:id≠I.it/\id≠I.ir/\id≠I.ib) (ig:S.length<=id) (dt:id<S'.length) :
  PTab S' { I with er:=er,eb:=eb,ids:=I.ids++[(id,ep)] } (R++[row]) (B++[b]) (F++[f]) vars m W cc' x:=by
 have hl1:=h.lt;refine ⟨?_,by simp [h.nids],by simp [h.nb],fun _=>hr,fun _=>hb,fun i p r hp hr=>?_,fun r hr=>?_,fun r hr=>?_,h.tr,h.tb,h.rb,fun p hp=>?_,⟨by show I.it<_; omega,fun p hp=>?_⟩,fun i j p q hp hq hij=>?_⟩
 ·simp only [Cn,Sn,h.nb]; exact ht
 ·rcases Rg hp with hp|⟨e1,rfl⟩
  ·have hi:i<R.length:=by rw [<- h.nids]; have:=Bb hp; exact this
   rcases Rg hr with hr|⟨e2,-⟩
   ·rw [Aa (fd p (Aj hp))]; exact h.rowE i p r hp hr
   ·omega
  ·rcases Rg hr with hr|⟨e2,rfl⟩
   ·have:=Bb hr; rw [<- h.nids] at this; omega
   ·exact bz
 ·rcases Cr.1 hr with hr|hr
  ·exact h.rowW r hr
  ·rw [Fj.1 hr]; exact hW
 ·rcases Cr.1 hr with hr|hr
  ·exact h.okr r hr
  ·rw [Fj.1 hr]; exact ho
 ·rcases Cr.1 hp with hp|hp
  ·exact h.row p hp
  ·rw [Fj.1 hp]; exact hid
 ·rcases Cr.1 hp with hp|hp
  ·have:=hl1.2 p hp; omega
  ·rw [Fj.1 hp]; exact dt
 ·rcases Rg hp with hp|⟨e1,rfl⟩ <;> rcases Rg hq with hq|⟨e2,rfl⟩
  ·exact h.rows i j p q hp hq hij
  ·have:=hl1.2 p (Aj hp); show p.1≠id; omega
  ·have:=hl1.2 q (Aj hq); show id≠q.1; omega
  ·omega
end
section
open Go
end
section
open Go
end
section
open Go
def flipB (r:RowT):Bool:=decide (sgI r<0)
structure RightL (l:List RowT) (vars:List ByteArray):Prop where
 hm:l.length<=1000
 hv:vars.length<=1000
 hcl:∀ r ∈ l,r.1.length<=1048576
 hc:∀ r ∈ l,∀ c ∈ r.1,inB c.2=true
 hn:∀ r ∈ l,inB r.2.1=true
structure RowsI (S:List Ent) (k:Nat) (l:List RowT) (vars:List ByteArray) (SS:List Ent) (tk1:List Nat) (cc:Cap) (q:Nat) (I:TI):Prop where
 hq:q<=l.length
 P:PTab SS I (Amc vars l.length 0 (l.take q)) ((F9 q).map (2*vars.length+l.length+·)) ((l.take q).map flipB) vars l.length (2*vars.length+l.length+l.length+1) cc (.frz [] .nilc)
 it:I.it=S.length
 et:I.et=k
 ir:I.ir=S.length+4
 ib:I.ib=S.length+5
 len:SS.length=S.length+1+(if q=0 then 0 else 3*q+2)
 cap:Ba tk1 cc 1=true
 fr:∀ j,j<S.length->nth SS j=nth S j
 ge:∀ p ∈ I.ids,S.length<=p.1
section
variable {S S':List Ent} {I:TI} {R:List (List Q)} {B:List Nat} {F:List Bool} {vars:List ByteArray} {m W:Nat} {cc:Cap} {x:AV}
theorem PTab.frame (h:PTab S I R B F vars m W cc x) {L:Nat} (h1:I.it<L/\I.ir<L/\I.ib<L/\∀ p ∈ I.ids,p.1<L) (hl:L<=S'.length) (hS:∀ j,j<L->nth S' j=nth S j):PTab S' I R B F vars m W cc x :=
 ⟨by rw [Aa (hS _ h1.1)]; exact h.top,h.nids,h.nb,fun e=>by rw [Aa (hS _ h1.2.1)]; exact h.rowsE e,fun e=>by rw [Aa (hS _ h1.2.2.1)]; exact h.basisE e,fun i p r hp hr=>by rw [Aa (hS _ (h1.2.2.2 p (Aj hp)))]; exact h.rowE i p r hp hr,h.rowW,h.okr,h.tr,h.tb,h.rb,h.row,⟨aA,fun p hp=>by have:=h1.2.2.2 p hp; omega⟩,h.rows⟩
end
end
section
open Go
end
section
open Go
end
section
open Go Tryz
open Classical in
noncomputable def Td (l:List RowT):Bool:=decide (sysE l=0/\∃ v,Sat v l)
open Classical in
theorem Akf {l:List RowT} (h:sysE l≠0):Td l=false:=by
 unfold Td;exact decide_eq_false fun h'=>h h'.1
open Classical in
theorem Ake {l:List RowT} (h:sysE l=0) {b:Bool} (hb:b=true↔∃ v,Sat v l):Td l=b:=by
 refine X7.2 ?_;unfold Td;rw [decide_eq_true_iff];exact ⟨fun h'=>hb.2 h'.2,fun h'=>⟨h,hb.1 h'⟩⟩
section
variable (S:List Ent) (tk:List Nat) (k:Nat)
theorem Yr (l:List RowT) (hl:l.length<=13) (dz:∀ r ∈ l,r.1.length<=1048576):cL prog 23 [Au l] S tk k=some (.tup [.bool (Td l),.int (sysE l)],S,tk,k):=by
 by_cases h0:sysE l=0
 ·obtain ⟨b,i1,e1⟩:=Ank hl h0;rw [e1,Ake h0 i1,h0]
 ·have:=N6 S tk k l dz ⟨false,[],[],none⟩ fun h=>absurd h h0;rw [if_neg h0] at this;rw [this,Akf h0]
end
noncomputable def infB (l:List RowT):Bool:=(sysE l == 0) && !Td l
open Classical in
theorem Xx {l:List RowT} : infB l=true↔sysE l=0/\¬ ∃ v,Sat v l:=by
 unfold infB;rw [Cf,beq_iff_eq,F3];constructor
 ·rintro ⟨h1,h2⟩;refine ⟨h1,fun h3=>?_⟩;unfold Td at h2;exact of_decide_eq_false h2 ⟨h1,h3⟩
 ·rintro ⟨h1,h2⟩;refine ⟨h1,?_⟩;unfold Td;exact decide_eq_false fun h3=>h2 h3.2
end
section
open Go Tryz
theorem Akj {n:Int} (h:inB n=true):i64 n:=by rw [G9] at h; unfold i64; omega
section
variable (S:List Ent) (tk:List Nat) (k:Nat)
theorem Nz (n:Int):cL prog 58 [.int n] S tk k=some (.bool (inB n),S,tk,k):=by
 refine opP func58 ntmps58 ?_;simp (maxSteps:=10^6)+contextual(disch:=try exact dqd)only[ev1,simprocAttr,Cg,Ca,Ch,results58];unfold inB;exact ⟨fun h=>eK,fun h=>eK⟩
theorem Z6 (n:Int) (ok:Bool):cL prog 104 [.int n,.bool ok] S tk k=some (.tup [.int (chk ok n).1,.bool (chk ok n).2],S,tk,k):=by
 refine opP func104 ntmps104 ?_;simp (maxSteps:=10^6)+contextual(disch:=try exact dqd)only[ev1,simprocAttr,Cg,Ca,Ch,results104,Nz];simp +contextual [chk]
theorem Aa2 {a b:Int} (ha:inB a=true) (hb:inB b=true):Ce.wrap (a+b)=a+b:=by
 rw [G9] at ha hb; exact Ac aD
theorem Anz (n:Int) (h:i64 n):cL prog 103 [.int n] S tk k=some (.int (absS n),S,tk,k):=by
 refine opP func103 ntmps103 ?_;simp (maxSteps:=10^6)+contextual(disch:=try exact dqd)only[ev1,simprocAttr,Cg,Ca,Ch,results103];simp only [IntKind.wrap_i64,absS,AV.prim.injEq,fO.injEq,A0,true_and,decide_eq_true_eq,decide_eq_false_iff_not];unfold i64 at h;refine ⟨fun h1=>?_,fun h1=>⟨fun h2=>?_,fun h2=>?_⟩⟩ <;> (split <;> try split) <;> omega
theorem Aky {n:Int} (h:inB n=true):cL prog 103 [.int n] S tk k=some (.int n.natAbs,S,tk,k):=by rw [Anz S tk k n (Akj h),Am4 h]
theorem Akt {a b:Int} (ha:inB a=true) (hb:inB b=true) (h0:¬ a=0) (v:Int) (hv:v=(a.natAbs:Int)) :
  (decide ((b.natAbs:Int) > Ce.wrap (Int.tdiv 1000000000000 v))=false->Ce.wrap (a*b)=a*b/\inB (a*b)=true)/\(decide ((b.natAbs:Int) > Ce.wrap (Int.tdiv 1000000000000 v))=true->inB (a*b)=false):=by
 subst hv;have hp:0<(a.natAbs:Int):=aA
 have e:Int.tdiv 1000000000000 (a.natAbs:Int)=1000000000000 / (a.natAbs:Int):=C9 aA;have h1:0<=1000000000000 / (a.natAbs:Int):=Int.ediv_nonneg aA aA;have h2:1000000000000 / (a.natAbs:Int)<=1000000000000:=Int.ediv_le_self _ aA;rw [e,Ac aD];rcases Aku a b h0 with ⟨h3,h4,h5,h6⟩|⟨h3,h4⟩
 ·exact ⟨fun _=>⟨Ac aD,h6⟩,fun h=>Za1w⟩
 ·exact ⟨fun h=>Za1w,fun _=>h4⟩
theorem Z5 (a b:Int):cL prog 66 [.int a,.int b] S tk k=some (.tup [.int (mulS a b).1,.bool (mulS a b).2],S,tk,k):=by
 refine opP func66 ntmps66 ?_;simp (maxSteps:=10^6)+contextual(disch:=try exact dqd)only[ev1,simprocAttr,Cg,Ca,Ch,results66,Nz,Z6,Aky];refine ⟨fun ha=>⟨fun hb=>⟨fun h0=>?_,fun h0=>⟨fun h1=>?_,fun h1=>?_⟩⟩,fun hb=>?_⟩,fun ha=>?_⟩
 ·simp at h0; subst h0; simp [mulS,chk,hb]; decide
 ·simp at h1; subst h1; simp [mulS,chk,ha]; decide
 ·have h0':¬ a=0:=aS
  obtain ⟨c1,c2⟩:=Akt ha hb h0' _ rfl;refine ⟨aA,fun h=>?_,fun h=>?_⟩
  ·simp [mulS,chk,ha,hb,c2 h]
  ·simp [mulS,chk,ha,hb,(c1 h).1,(c1 h).2]
 ·simp [mulS,chk,hb]
 ·simp [mulS,chk,ha]
end
end
section
open Go
end
section
open Go
end
section
open Go
theorem Tw {n:Int} : ∀ {p:Option ByteArray} {cs:List (ByteArray × Int)},Bi n p cs=0->(∀ c ∈ cs,inB c.2=true/\c.2≠0)/\inB n=true
 | p,[],h=>by
  simp only [Bi] at h;refine ⟨by simp,?_⟩;cases hn:inB n with
  | true=>rfl
  | false=>rw [hn] at h; simp at h
 | p,c :: cs,h=>by
  simp only [Bi] at h;split at h
  ·simp at h
  ·split at h
   ·simp at h
   ·rename_i h1;split at h
    ·simp at h
    ·obtain ⟨g1,g2⟩:=Tw h;refine ⟨fun d hd=>?_,g2⟩;rcases Cy.1 hd with rfl|hd
     ·simp at h1; exact ⟨h1.2,h1.1⟩
     ·exact g1 d hd
theorem Hx {cs:List (ByteArray × Int)} {n:Int} (h:A6 cs n=0):(∀ c ∈ cs,inB c.2=true/\c.2≠0)/\inB n=true/\cs.length<=24:=by
 unfold A6 at h;split at h
 ·simp at h
 ·obtain ⟨h1,h2⟩:=Tw h;exact ⟨h1,h2,aA⟩
end
section
open Go Tryz
set_option maxHeartbeats 4000000
set_option maxRecDepth 100000
def G5:List (ByteArray × Int)->List (ByteArray × Int)->List (ByteArray × Int)
 | [],b=>b
 | x :: a,[]=>x :: a
 | x :: a,y :: b=>if sLt x.1 y.1 then x :: G5 a (y :: b) else if sLt y.1 x.1 then y :: G5 (x :: a) b else if x.2+y.2=0 then G5 a b else (x.1,x.2+y.2) :: G5 a b
termination_by a b=>a.length+b.length
theorem Ua (b:List (ByteArray × Int)):G5 [] b=b:=by rw [G5]
theorem Kk (a:List (ByteArray × Int)):G5 a []=a:=by cases a <;> rw [G5]
def Kx (cs:List (ByteArray × Int)) (n:Int):(List (ByteArray × Int) × Int) × Bool:=if A6 cs n=0 then ((cs,n),true) else (([],0),false)
def addL (a:List (ByteArray × Int)) (n:Int) (b:List (ByteArray × Int)) (m:Int):(List (ByteArray × Int) × Int) × Bool:=if A6 a n=0/\A6 b m=0 then Kx (G5 a b) (n+m) else (([],0),false)
section
variable (S:List Ent) (tk:List Nat) (k:Nat)
theorem X9 (cs:List (ByteArray × Int)) (n:Int) (c:Cap) (hlen:cs.length<=1048576):cL prog 107 [.agg [.frz (cs.map A2) c,.int n]] S tk k=some (.tup [linA (Kx cs n).1.1 (Kx cs n).1.2,.bool (Kx cs n).2],S,tk,k):=by
 have hC S tk k:=Ga S tk k cs n hlen;simp only [linA,Ak] at hC;refine opP func107 ntmps107 ?_;by_cases h0:A6 cs n=0
 ·have d0:(A6 cs n != 0)=false:=by simp [h0]
  exact Ya0t
 ·have d0:(A6 cs n != 0)=true:=aS
  exact Ya0t
theorem Adl (a b:List (ByteArray × Int)) (n m:Int) (ha:a.length<=100000) (hb:b.length<=100000):cL prog 72 [linA a n,linA b m] S tk k=some (.tup [linA (addL a n b m).1.1 (addL a n b m).1.2,.bool (addL a n b m).2],S,tk,k):=by
 have hCa S tk k:=Ga S tk k a n aA;have hCb S tk k:=Ga S tk k b m aA;simp only [linA,Ak] at hCa hCb;refine opP func72 ntmps72 ?_;by_cases ea:A6 a n=0;case neg =>
  have da:(A6 a n != 0)=true:=by simpa using ea
  simp (maxSteps:=10^6)+contextual(disch:=try exact dqd)only[ev1,simprocAttr,Cg,Ca,Ch,results72,linA,Ak,hCa,da]
  simp [addL,ea]
 have da:(A6 a n != 0)=false:=by simp [ea]
 by_cases eb:A6 b m=0;case neg =>
  have db:(A6 b m != 0)=true:=by simpa using eb
  simp (maxSteps:=10^6)+contextual(disch:=try exact dqd)only[ev1,simprocAttr,Cg,Ca,Ch,results72,linA,Ak,hCa,da,hCb,db]
  simp [addL,eb]
 have db:(A6 b m != 0)=false:=by simp [eb]
 have hw:=Aa2 (Hx ea).2.1 (Hx eb).2.1;simp (maxSteps:=10^6)+contextual(disch:=try exact dqd)only[ev1,simprocAttr,Cg,Ca,Ch,results72,linA,Ak,hCa,da,hCb,db,hw];have hba:=(Hx ea).1;have yg:=(Hx eb).1;have sn:addL a n b m=Kx (G5 a b) (n+m):=by simp [addL,ea,eb]
 rw [sn];clear sn hCa hCb da db hw;refine loop1 (P:=prog) (fun x st=>st.T.length=146/\(x.1<=a.length)/\(x.2.1<=b.length)/\(x.2.2.1.length<=x.1+x.2.1)/\(Ba st.tk x.2.2.2 2=true)/\(G5 a b=x.2.2.1++G5 (a.drop x.1) (b.drop x.2.1))/\getT st.T 2=.ref 0 0 0/\getT st.T 3=.ref 1 1 0/\getT st.T 4=.ref 2 2 0/\getT st.T 6=.ref 3 3 0/\getT st.T 7=.int (x.1:Nat)/\getT st.T 8=.int (x.2.1:Nat)/\st.S=[⟨0,[Ak a,.int n]⟩,⟨1,[Ak b,.int m]⟩,⟨2,[.frz [] .nilc,.int 0]⟩,⟨3,[.frz (x.2.2.1.map A2) x.2.2.2,.int (n+m)]⟩]) (fun x=>a.length - x.1+(b.length - x.2.1)) (fun x=>.tup [linA (Kx (G5 a b) (n+m)).1.1 (Kx (G5 a b) (n+m)).1.2,.bool (Kx (G5 a b) (n+m)).2]) (0,0,[],.nilc) ?_ ?_;case refine_2=>exact ⟨rfl,Cs _,Cs _,Cb _,rfl,rfl,rfl,rfl,rfl,rfl,rfl,rfl,rfl⟩
 rintro ⟨i,j,o,c⟩ ⟨T,S',tk',n'⟩ ⟨hl,hi,hj,ho,ae,hm,e2,e3,e4,e6,e7,e8,eS⟩ IH;simp only at hi hj ho ae hm e2 e3 e4 e6 e7 e8 eS;subst eS;obtain ⟨g,hg,hT⟩:=Aw hl;rw [hg] at e2 e3 e4 e6 e7 e8;subst hT;clear hg hl;have hr:=Gb (f:=A2) (sz:=2) (fun _=>rfl) o;have hn:(o.map A2).length+1<=1048576:=aB
 have cg:=B0 ae;by_cases la:i<a.length
 ·have d1:decide ((i:Int)<(a.length:Int))=true:=bP
  have d1':((i:Int) == (a.length:Int))=false:=aB
  obtain ⟨x,hx⟩:=Ah la;have hx':nth (a.map A2) i=some (A2 x):=by rw [Er,hx]; rfl
  have xp:=Db (i:=i) aA;rw [Av hx] at hm;by_cases lb:j<b.length
  ·have d2:decide ((j:Int)<(b.length:Int))=true:=fH
   have d2':((j:Int) == (b.length:Int))=false:=aB
   obtain ⟨y,hy⟩:=Ah lb;have mn:nth (b.map A2) j=some (A2 y):=by rw [Er,hy]; rfl
   have ck:=Db (i:=j) aA;have hxm:x ∈ a:=dW
   have hym:y ∈ b:=Za2a
   have hws:=Aa2 (hba x hxm).1 (yg y hym).1;rw [Av hy,G5] at hm;simp (maxSteps:=10^6)+contextual(disch:=try exact dqd)only[ev1,simprocAttr,Cg,Ca,Ch,results72,e2,e3,e4,e6,e7,e8,d1,d1',d2,d2',Ak,hx',mn,xp,ck,hws,A2,hr];refine ⟨fun h1=>?_,fun h1=>⟨fun h2=>?_,fun h2=>⟨fun h3=>?_,fun h3=>?_⟩⟩⟩
   ·rw [if_pos h1] at hm;exact IH (i+1,j,o++[x],A4 tk' c 2) _ aF ⟨rfl,aE,hj,aB,cg,by simp only [hm,Av hy,C7,Co,Ct],aH,aH,aH,aH,aH,aH,aH⟩
   ·rw [if_neg (by rw [h1]; simp),if_pos h2] at hm;exact IH (i,j+1,o++[y],A4 tk' c 2) _ aF ⟨rfl,hi,aE,aB,cg,by simp only [hm,Av hx,C7,Co,Ct],aH,aH,aH,aH,aH,aH,aH⟩
   ·have zn:¬ x.2+y.2=0:=dN
    rw [if_neg (by rw [h1]; simp),if_neg (by rw [h2]; simp),if_neg zn] at hm;exact IH (i+1,j+1,o++[(x.1,x.2+y.2)],A4 tk' c 2) _ aF ⟨rfl,aE,aE,aB,cg,by simp only [hm,C7,Co,Ct],aH,aH,aH,aH,aH,aH,aH⟩
   ·have zn:x.2+y.2=0:=dN
    rw [if_neg (by rw [h1]; simp),if_neg (by rw [h2]; simp),if_pos zn] at hm;exact IH (i+1,j+1,o,c) _ aF ⟨rfl,aE,aE,aE,ae,hm,aH,aH,aH,aH,aH,aH,aH⟩
  ·have d2:decide ((j:Int)<(b.length:Int))=false:=fH
   have nj:j=b.length:=aA
   have d2':((j:Int) == (b.length:Int))=true:=aB
   rw [nj,Fh,Kk] at hm;simp (maxSteps:=10^6)+contextual(disch:=try exact dqd)only[ev1,simprocAttr,Cg,Ca,Ch,results72,e2,e3,e4,e6,e7,e8,d1,d1',d2,d2',Ak,hx',xp,A2,hr];exact IH (i+1,j,o++[x],A4 tk' c 2) _ aF ⟨rfl,aE,hj,aB,cg,by simp only [nj,hm,Fh,Kk,C7,Co,Ct],aH,aH,aH,aH,aH,aH,aH⟩
 ·have d1:decide ((i:Int)<(a.length:Int))=false:=bP
  have wk:i=a.length:=aA
  have d1':((i:Int) == (a.length:Int))=true:=aB
  rw [wk,Fh,Ua] at hm;by_cases lb:j<b.length
  ·have d2:decide ((j:Int)<(b.length:Int))=true:=fH
   have d2':((j:Int) == (b.length:Int))=false:=aB
   obtain ⟨y,hy⟩:=Ah lb;have mn:nth (b.map A2) j=some (A2 y):=by rw [Er,hy]; rfl
   have ck:=Db (i:=j) aA;rw [Av hy] at hm;simp (maxSteps:=10^6)+contextual(disch:=try exact dqd)only[ev1,simprocAttr,Cg,Ca,Ch,results72,e2,e3,e4,e6,e7,e8,d1,d1',d2,d2',Ak,mn,ck,A2,hr];exact IH (i,j+1,o++[y],A4 tk' c 2) _ aF ⟨rfl,hi,aE,aB,cg,by simp only [wk,hm,Fh,Ua,C7,Co,Ct],aH,aH,aH,aH,aH,aH,aH⟩
  ·have d2:decide ((j:Int)<(b.length:Int))=false:=fH
   have nj:j=b.length:=aA
   rw [nj,Fh,Fu] at hm;have hR S tk k:=X9 S tk k o (n+m) c aA;simp (maxSteps:=10^6)+contextual(disch:=try exact dqd)only[ev1,simprocAttr,Cg,Ca,Ch,results72,e2,e3,e4,e6,e7,e8,d1,d2,Ak,linA,hR];rw [hm];simp [linA,Ak]
end
end
section
open Go Tryz
set_option maxHeartbeats 4000000
set_option maxRecDepth 100000
section
variable (S:List Ent) (tk:List Nat) (k:Nat)
def mulC (q:Int) (c:ByteArray × Int):ByteArray × Int:=(c.1,(mulS c.2 q).1)
def Jf (cs:List (ByteArray × Int)) (n q:Int):(List (ByteArray × Int) × Int) × Bool :=
 if A6 cs n=0 then
  if q=0 then (([],0),true)
  else if inB q=true then (if (mulS n q).2=true/\(cs.all fun c=>(mulS c.2 q).2)=true then ((cs.map (mulC q),(mulS n q).1),true) else (([],0),false))
  else (([],0),decide (cs=[]) && (n == 0))
 else (([],0),false)
theorem Alg (q:Int) (c:ByteArray × Int) (id ep:Nat) (h:entAt S id ep=some [.int q]):cL prog 106 [.agg (A2 c),.ref id ep 0] S tk k=some (.tup [.agg (A2 (mulC q c)),.bool (mulS c.2 q).2],S,tk,k+2):=by
 refine opS func106 ntmps106 ?_;simp (maxSteps:=10^6)+contextual(disch:=try exact dqd)only[evs1,simprocAttr,Cg,Ca,Ch,results106,A2,h,Z5,mulC]
def L0 (q:Int):List (ByteArray × Int)->List (ByteArray × Int)->Cap->List Nat->Nat->AV × List Nat × Nat
 | [],acc,c,tk,n=>(.tup [.frz (acc.map A2) c,.bool true],tk,n)
 | x :: r,acc,c,tk,n=>if (mulS x.2 q).2=true then L0 q r (acc++[mulC q x]) (A4 tk c 2) (Eo tk c) (n+4) else (.tup [.frz [] .nilc,.bool false],tk,n+4)
theorem Abl (q:Int):∀ (l acc:List (ByteArray × Int)) (c:Cap) (tk:List Nat) (n:Nat),(l.all fun c=>(mulS c.2 q).2)=true->∃ c' tk' n',L0 q l acc c tk n=(.tup [.frz ((acc++l.map (mulC q)).map A2) c',.bool true],tk',n')
 | [],acc,c,tk,n,_=>⟨c,tk,n,by simp [L0]⟩
 | x :: r,acc,c,tk,n,h=>by
  simp only [Oc,Cf] at h;obtain ⟨c',tk',n',e⟩:=Abl q r (acc++[mulC q x]) (A4 tk c 2) (Eo tk c) (n+4) h.2;exact ⟨c',tk',n',by rw [L0,if_pos h.1,e]; simp⟩
theorem Abk (q:Int):∀ (l acc:List (ByteArray × Int)) (c:Cap) (tk:List Nat) (n:Nat),(l.all fun c=>(mulS c.2 q).2)=false->∃ tk' n',L0 q l acc c tk n=(.tup [.frz [] .nilc,.bool false],tk',n')
 | [],acc,c,tk,n,h=>aM
 | x :: r,acc,c,tk,n,h=>by
  rw [L0];by_cases hx:(mulS x.2 q).2=true
  ·rw [if_pos hx];exact Abk q r _ _ _ _ (by simpa [hx] using h)
  ·rw [if_neg hx]; exact ⟨_,_,rfl⟩
theorem Ac8 (q:Int) (cs:List (ByteArray × Int)) (id ep:Nat) (hlen:cs.length<=1048576) (h:entAt S id ep=some [.int q]) :
  cL prog 101 [Ak cs,.fn 106 [.ref id ep 0]] S tk k=some ((L0 q cs [] .nilc tk k).1,S,(L0 q cs [] .nilc tk k).2.1,(L0 q cs [] .nilc tk k).2.2):=by
 refine opS func101 ntmps101 ?_;simp (maxSteps:=10^6)+contextual(disch:=try exact dqd)only[evs1,simprocAttr,Cg,Ca,Ch,results101,Ak];refine Adp (P:=prog) (fun x st=>st.T.length=31/\(x.1<=cs.length)/\(x.2.1.length<=x.1)/\(Ba x.2.2.2.1 x.2.2.1 2=true)/\getT st.T 1=.fn 106 [.ref id ep 0]/\getT st.T 6=.frz (x.2.1.map A2) x.2.2.1/\getT st.T 11=Ak cs/\getT st.T 12=.int cs.length/\getT st.T 13=.int (x.1:Nat)/\st.S=S/\st.tk=x.2.2.2.1/\st.n=x.2.2.2.2) (fun x=>cs.length - x.1) (fun x=>((L0 q (cs.drop x.1) x.2.1 x.2.2.1 x.2.2.2.1 x.2.2.2.2).1,S,(L0 q (cs.drop x.1) x.2.1 x.2.2.1 x.2.2.2.1 x.2.2.2.2).2.1,(L0 q (cs.drop x.1) x.2.1 x.2.2.1 x.2.2.2.1 x.2.2.2.2).2.2)) (0,[],.nilc,tk,k) ?_ ?_;case refine_2=>exact ⟨rfl,Cs _,Cb _,rfl,rfl,rfl,rfl,rfl,rfl,rfl,rfl,rfl⟩
 rintro ⟨i,o,c,t,m⟩ ⟨T,S',tk',n'⟩ ⟨hl,hi,ho,ae,e1,e6,e11,e12,e13,eS,eT,eN⟩ IH;simp only at hi ho ae e1 e6 e11 e12 e13 eS eT eN;subst eS eT eN;obtain ⟨g,hg,hT⟩:=Aw hl;rw [hg] at e1 e6 e11 e12 e13;subst hT;clear hg hl;by_cases hlt:i<cs.length
 ·have d1:decide ((i:Int)<(cs.length:Int))=true:=aQ
  obtain ⟨x,hc⟩:=Ah hlt;have ek:nth (cs.map A2) i=some (A2 x):=by rw [Er,hc]; rfl
  have hw:=Db (i:=i) aA;have hf e tk k:=Alg (S'++[e]) tk k q x id ep (Ke h);have hr:=Gb (f:=A2) (sz:=2) (fun _=>rfl) o;have hn:(o.map A2).length+1<=1048576:=aB
  have cg:=B0 ae;simp only [A2] at hf ek;rw [Av hc];by_cases hx:(mulS x.2 q).2=true
  ·rw [L0,if_pos hx];simp (maxSteps:=10^6)+contextual(disch:=try exact dqd)only[evs1,simprocAttr,Cg,Ca,Ch,results101,e1,e6,e11,e12,e13,d1,Ak,ek,hw,hf,A2,hx];exact IH (i+1,o++[mulC q x],A4 tk' c 2,Eo tk' c,n'+4) _ aF ⟨rfl,hlt,aB,cg,by and_intros <;> first|rfl|simp only [getT,Ft,Cm,Cw,A2,Ak]⟩
  ·rw [L0,if_neg hx];have hx':(mulS x.2 q).2=false:=cV
   simp (maxSteps:=10^6)+contextual(disch:=try exact dqd)only[evs1,simprocAttr,Cg,Ca,Ch,results101,e1,e6,e11,e12,e13,d1,Ak,ek,hw,hf,A2,hx']
 ·have d1:decide ((i:Int)<(cs.length:Int))=false:=aQ
  have he:i=cs.length:=aA
  simp (maxSteps:=10^6)+contextual(disch:=try exact dqd)only[evs1,simprocAttr,Cg,Ca,Ch,results101,e1,e6,e11,e12,e13,d1,Ak];rw [he,Fh]; simp [L0]
end
end
section
open Go Tryz
set_option maxRecDepth 100000
section
variable (S:List Ent) (tk:List Nat) (k:Nat)
theorem X8 (cs:List (ByteArray × Int)) (n q:Int) (hlen:cs.length<=1048576):cL prog 71 [linA cs n,.int q] S tk k=some (.tup [linA (Jf cs n q).1.1 (Jf cs n q).1.2,.bool (Jf cs n q).2],S,tk,k):=by
 have hC S tk k:=Ga S tk k cs n hlen;simp only [linA,Ak] at hC;refine opP func71 ntmps71 ?_;by_cases h0:A6 cs n=0;case neg =>
  have d0:(A6 cs n != 0)=true:=aS
  simp (maxSteps:=10^6)+contextual(disch:=try exact dqd)only[ev1,simprocAttr,Cg,Ca,Ch,results71,linA,Ak,hC,d0]
  simp [Jf,h0]
 have d0:(A6 cs n != 0)=false:=by simp [h0]
 by_cases hq:q=0
 ·have d1:(q == 0)=true:=by simpa using hq
  simp (maxSteps:=10^6)+contextual(disch:=try exact dqd)only[ev1,simprocAttr,Cg,Ca,Ch,results71,linA,Ak,hC,d0,d1];simp [Jf,h0,hq]
 have d1:(q == 0)=false:=by simpa using hq
 cases hb:inB q with
 | false =>
  by_cases ip:cs=[]
  ·subst ip;have hz:(((0:Nat):Int) == 0)=true:=rfl;simp only [Cw] at hC;simp (maxSteps:=10^6)+contextual(disch:=try exact dqd)only[ev1,simprocAttr,Cg,Ca,Ch,results71,linA,Ak,hC,d0,d1,hb,Nz,Cw,hz];simp [Jf,h0,hq,hb]
  ·have hz:((cs.length:Int) == 0)=false:=by
    have:cs.length≠0:=fun h=>ip (C5.1 h);simp; omega
   simp (maxSteps:=10^6)+contextual(disch:=try exact dqd)only[ev1,simprocAttr,Cg,Ca,Ch,results71,linA,Ak,hC,d0,d1,hb,Nz,hz];simp [Jf,h0,hq,hb,ip]
 | true =>
  have hE tk k:=Ac8 [⟨0,[Ak cs,.int n]⟩,⟨1,[.int q]⟩,⟨2,[.frz [] .nilc,.int 0]⟩] tk k q cs 1 1 hlen rfl;simp only [Ak] at hE;cases bm:cs.all fun c=>(mulS c.2 q).2 with
  | true =>
   obtain ⟨c',tk',n',e⟩:=Abl q cs [] .nilc [] 3 bm;simp only [Ct] at e;have zq:=hE [] 3;rw [e] at zq;simp (maxSteps:=10^6)+contextual(disch:=try exact dqd)only[ev1,simprocAttr,Cg,Ca,Ch,results71,linA,Ak,hC,d0,d1,hb,Nz,Z5,zq,Kd];refine ⟨fun h1=>?_,fun h1=>?_⟩
   ·simp [Jf,h0,hq,hb,bm,h1]
   ·simp [Jf,h0,hq,hb,bm,h1]
  | false =>
   obtain ⟨tk',n',e⟩:=Abk q cs [] .nilc [] 3 bm;have zq:=hE [] 3;rw [e] at zq;have hs:Jf cs n q=(([],0),false):=by simp [Jf,h0,hq,hb,bm]
   rw [hs];simp (maxSteps:=10^6)+contextual(disch:=try exact dqd)only[ev1,simprocAttr,Cg,Ca,Ch,results71,linA,Ak,hC,d0,d1,hb,Nz,Z5,zq,Kd];exact ⟨fun _=>trivial,fun _=>trivial⟩
end
end
section
open Go
theorem Ahk {l:List RowT} {x:ByteArray} : x ∈ D7 l↔∃ r ∈ l,∃ c ∈ r.1,c.1=x:=by
 unfold D7;simp only [O5,Fy];constructor
 ·rintro ⟨_,⟨r,hr,rfl⟩,h⟩;obtain ⟨c,hc,e⟩:=Fy.1 h;exact ⟨r,hr,c,hc,e⟩
 ·rintro ⟨r,hr,c,hc,e⟩;exact ⟨_,⟨r,hr,rfl⟩,Fy.2 ⟨c,hc,e⟩⟩
theorem Vn {l:List RowT} {x:ByteArray} : x ∈ Hv l↔∃ r ∈ l,∃ c ∈ r.1,c.1=x:=((Nk (D7 l)).2.1 x).trans Ahk
theorem Acw (l:List RowT):Inc (Hv l):=(Nk (D7 l)).1
theorem Anr {l r:List ByteArray} (hl:Inc l) (hr:Inc r) (h:∀ x ∈ l,x ∈ r):l.length<=r.length:=by
 classical
 have e:l=r.filter fun x=>decide (x ∈ l):=Ag1 hl (List.Pairwise.filter _ hr) fun x=>by
  simp only [List.mem_filter,decide_eq_true_eq];exact ⟨fun hx=>⟨h x hx,hx⟩,fun hx=>hx.2⟩
 rw [e];exact List.length_filter_le ..
theorem Wu:∀ {l:List RowT},(∀ r ∈ l,A6 r.1 r.2.1=0)->Gk l=0
 | [],_=>rfl
 | r :: l,h=>by
  unfold Gk;rw [h r (Cv ..)];simp only [bne_self_eq_false,C4,if_false];exact Wu fun x hx=>h x (Cq _ hx)
theorem Aqz {l:List RowT} (h1:l.length<=64) (h2:∀ r ∈ l,A6 r.1 r.2.1=0) (h3:(Hv l).length<=24):sysE l=0:=by
 unfold sysE;rw [if_neg aA,Wu h2,if_neg (by simp),if_neg aA]
def oneR (r:RowT) (k:Int):RowT:=(r.1.map (mulC k),r.2.1*k+1,false)
noncomputable def Hy (l:List RowT) (r:RowT) (k:Int):Bool:=inB (r.2.1*k+1) && infB (l++[oneR r k])
noncomputable def Ej (l:List RowT) (r:RowT):Bool:=(A6 r.1 r.2.1 == 0) && (Hy l r (-1) && (!r.2.2 || Hy l r 1))
section
variable {k:Int} (hk:k=1\/k=-1)
include hk
theorem Agz {a:Int} (ha:inB a=true):inB (a*k)=true:=by
 rw [G9] at ha ⊢;rcases hk with rfl|rfl <;> omega
theorem Vo {a:Int} (ha:inB a=true):mulS a k=(a*k,true):=by
 have h1:=Agz hk ha;have h2:inB k=true:=eZ
 simp [mulS,chk,ha,h1,h2]
theorem Al5 {m:Int} (hm:inB m=true) {n:Int} : ∀ {p:Option ByteArray} {cs:List (ByteArray × Int)},Bi n p cs=0->Bi m p (cs.map (mulC k))=0
 | p,[],_=>by simp only [Cw,Bi,hm,if_true]
 | p,c :: cs,h=>by
  unfold Bi at h;split at h
  ·cases h
  ·rename_i g1;split at h
   ·cases h
   ·rename_i g2;split at h
    ·cases h
    ·rename_i g3;simp only [Fz,beq_iff_eq,F3,not_or,Bool.not_eq_false] at g2;have e:mulC k c=(c.1,c.2*k):=by unfold mulC; rw [Vo hk g2.2]
     rw [Cm,e];unfold Bi;simp only;rw [if_neg g1,if_neg (by
      rw [Agz hk g2.2];simp only [F6,Fk,beq_iff_eq];intro e;have:=g2.1;rcases hk with rfl|rfl <;> omega),if_neg g3]
     exact Al5 hm h
theorem Uy {m:Int} (hm:inB m=true) {cs:List (ByteArray × Int)} {n:Int} (h:A6 cs n=0):A6 (cs.map (mulC k)) m=0:=by
 unfold A6 at h ⊢;rw [Ib];split at h
 ·cases h
 ·rename_i g;rw [if_neg g]; exact Al5 hk hm h
theorem Alh {cs:List (ByteArray × Int)} {n:Int} (h:A6 cs n=0):Jf cs n k=((cs.map (mulC k),n*k),true):=by
 obtain ⟨hb,hn,-⟩:=Hx h;unfold Jf;rw [if_pos h,if_neg aA,if_pos eZ,Vo hk hn,if_pos ⟨rfl,Cz.2 fun c hc=>by rw [Vo hk (hb c hc).1]⟩]
theorem Apd {cs:List (ByteArray × Int)} {n:Int} (h:A6 cs n=0):addL (cs.map (mulC k)) (n*k) [] 1=if inB (n*k+1)=true then ((cs.map (mulC k),n*k+1),true) else (([],0),false):=by
 obtain ⟨hb,hn,-⟩:=Hx h;have h1:A6 [] 1=0:=aL
 unfold addL;rw [if_pos ⟨Uy hk (Agz hk hn) h,h1⟩,Kk];unfold Kx;split
 ·rename_i h2;rw [if_pos (Hx h2).2.1]
 ·rename_i h2;rw [if_neg fun h3=>h2 (Uy hk h3 h)]
theorem Ahg {v:ByteArray->Rat} : ∀ {cs:List (ByteArray × Int)},(∀ c ∈ cs,inB c.2=true)->linV v (cs.map (mulC k))=(k:Rat)*linV v cs
 | [],_=>by simp only [Cw,linV]; grind
 | c :: cs,h=>by
  have e:mulC k c=(c.1,c.2*k):=by unfold mulC; rw [Vo hk (h c (Cv ..))]
  rw [Cm,e,linV,linV,Ahg fun c' hc=>h c' (Cq _ hc),C6]; grind
theorem Aah {v:ByteArray->Rat} {l:List RowT} {r:RowT} (h:A6 r.1 r.2.1=0):Sat v (l++[oneR r k])↔Sat v l/\(k:Rat)*valR v r+1<=0:=by
 obtain ⟨hb,hn,-⟩:=Hx h;have e:valR v (oneR r k)=(k:Rat)*valR v r+1:=by
  unfold valR oneR;simp only;rw [Ahg hk fun c hc=>(hb c hc).1,Xb,C6];have:((1:Int):Rat)=1:=rfl;rw [this]; grind
 constructor
 ·intro hs;refine ⟨fun x hx=>hs x (Cr.2 (.inl hx)),?_⟩;rw [<- e];exact (hs _ (Cr.2 (.inr (Fj.2 rfl)))).1
 ·rintro ⟨h1,h2⟩ x hx;rcases Cr.1 hx with hx|hx
  ·exact h1 x hx
  ·rw [Fj.1 hx,e];exact ⟨h2,fun h=>(by simp [oneR] at h)⟩
theorem Wc {l m:List RowT} {r:RowT} (hm:sysE m=0) (hl:l.length<=63) (h1:∀ x ∈ l,x ∈ m) (h2:r ∈ m) (hb:inB (r.2.1*k+1)=true):sysE (l++[oneR r k])=0:=by
 obtain ⟨-,-,f3,f4⟩:=R5 hm;have ha:=Kf f4;refine Aqz aB (fun x hx=>?_) ?_
 ·rcases Cr.1 hx with hx|hx
  ·exact ha x (h1 x hx)
  ·rw [Fj.1 hx];exact Uy hk hb (ha r h2)
 ·refine Fv (Anr (Acw _) (Acw m) fun x hx=>?_) f3;obtain ⟨r',hr,c,hc,e⟩:=Vn.1 hx;rcases Cr.1 hr with hr|hr
  ·exact Vn.2 ⟨r',h1 r' hr,c,hc,e⟩
  ·rw [Fj.1 hr] at hc;obtain ⟨c',ek,rfl⟩:=Fy.1 (show c ∈ r.1.map (mulC k) from hc);exact Vn.2 ⟨r,h2,c',ek,e⟩
theorem K9 {l:List RowT} {r:RowT} (h:A6 r.1 r.2.1=0) (hs:sysE (l++[oneR r k])=0) (hb:inB (r.2.1*k+1)=true):Hy l r k=true↔¬ ∃ v,Sat v l/\(k:Rat)*valR v r+1<=0:=by
 unfold Hy;rw [hb,G4,Xx];exact ⟨fun ⟨_,h2⟩ ⟨v,h3⟩=>h2 ⟨v,(Aah hk h).2 h3⟩,fun h2=>⟨hs,fun ⟨v,h3⟩=>h2 ⟨v,(Aah hk h).1 h3⟩⟩⟩
theorem Aba {l:List RowT} {r:RowT} (h:A6 r.1 r.2.1=0) (hc:Hy l r k=true):inB (r.2.1*k+1)=true/\¬ ∃ v,Sat v l/\(k:Rat)*valR v r+1<=0:=by
 unfold Hy at hc;rw [Cf,Xx] at hc;exact ⟨hc.1,fun ⟨v,h3⟩=>hc.2.2 ⟨v,(Aah hk h).2 h3⟩⟩
end
theorem Jr {l:List RowT} {r:RowT} : Ej l r=true↔A6 r.1 r.2.1=0/\Hy l r (-1)=true/\(r.2.2=true->Hy l r 1=true):=by
 unfold Ej;rw [Cf,Cf,beq_iff_eq,Fz,F3];cases r.2.2 <;> simp
theorem Xr {a m:List RowT} {r:RowT} (hm:sysE m=0) (hl:a.length<=63) (h1:∀ x ∈ a,x ∈ m) (hr:r ∈ a) (c1 : -1000000000000<r.2.1) (c2:r.2.1<1000000000000):Ej a r=true:=by
 have hc:=Kf (R5 hm).2.2.2 r (h1 r hr);have b1:inB (r.2.1*-1+1)=true:=eZ
 have b2:inB (r.2.1*1+1)=true:=eZ
 refine Jr.2 ⟨hc,(K9 (.inr rfl) hc (Wc (.inr rfl) hm hl h1 (h1 r hr) b1) b1).2 ?_,fun he=>(K9 (.inl rfl) hc (Wc (.inl rfl) hm hl h1 (h1 r hr) b2) b2).2 ?_⟩
 ·rintro ⟨v,h2,h3⟩;have h4:=(h2 r hr).1;have e:(((-1:Int)):Rat)=-1:=rfl;rw [e] at h3;grind
 ·rintro ⟨v,h2,h3⟩;have h4:=(h2 r hr).2 he;have e:(((1:Int)):Rat)=1:=rfl;rw [e,h4] at h3;grind
theorem Xq {a b m:List RowT} {r:RowT} (hm:sysE m=0) (hl:b.length<=63) (h0:∀ x ∈ a,x ∈ b) (h1:∀ x ∈ b,x ∈ m) (hr:r ∈ m) (hf:Ej a r=true):Ej b r=true:=by
 obtain ⟨hc,f1,f2⟩:=Jr.1 hf;refine Jr.2 ⟨hc,?_,fun he=>?_⟩
 ·obtain ⟨b1,g⟩:=Aba (.inr rfl) hc f1;exact (K9 (.inr rfl) hc (Wc (.inr rfl) hm hl h1 hr b1) b1).2 fun ⟨v,h2,h3⟩=>g ⟨v,fun x hx=>h2 x (h0 x hx),h3⟩
 ·obtain ⟨b1,g⟩:=Aba (.inl rfl) hc (f2 he);exact (K9 (.inl rfl) hc (Wc (.inl rfl) hm hl h1 hr b1) b1).2 fun ⟨v,h2,h3⟩=>g ⟨v,fun x hx=>h2 x (h0 x hx),h3⟩
end
section
open Go
end
section
open Go
abbrev BigT:=Bool × List Int
def vB (b:BigT):Int:=V b.1 b.2
end
section
open Go
end
section
open Go
structure RatCert (vars:List ByteArray) (l:List RowT) (y:Nat->Rat):Prop where
 zero:∀ k,k<vars.length->(Simp.sum l.length fun i=>y i*((cofI vars (rwA l i).1 k:Int):Rat))=0
 nn:∀ i,i<l.length->(rwA l i).2.2=false->0<=y i
 pos:0<Simp.sum l.length fun i=>y i*(((rwA l i).2.1:Int):Rat)
structure IntCert (vars:List ByteArray) (l:List RowT) (zs:List Int):Prop where
 len:zs.length=l.length
 zero:∀ k,k<vars.length->Simp.isum l.length (fun i=>at_ 0 zs i*cofI vars (rwA l i).1 k)=0
 nn:∀ i,i<l.length->(rwA l i).2.2=false->0<=at_ 0 zs i
 pos:0<Simp.isum l.length fun i=>at_ 0 zs i*(rwA l i).2.1
def Apr:List (ByteArray × Int)->ByteArray->Int
 | [],_=>0
 | c :: cs,s=>if sEq c.1 s=true then c.2 else Apr cs s
def dotN (f:RowT->Int) (l:List RowT) (ms:List BigT):Nat->Int
 | 0=>0
 | i+1=>dotN f l ms i+(match nth l i,nth ms i with|some r,some m=>vB m*f r|_,_=>0)
def constD (l:List RowT) (ms:List BigT) (i:Nat):Int:=dotN (fun r=>r.2.1) l ms i
end
section
open Go
end
section
open Go
end
section
open Go
def dotZ (f:RowT->Int):List RowT->List Int->Int
 | r :: l,z :: zs=>z*f r+dotZ f l zs
 | _,_=>0
structure CertZ (l:List RowT) (zs:List Int):Prop where
 len:zs.length=l.length
 zero:∀ v,dotZ (fun r=>Apr r.1 v) l zs=0
 nn:∀ i,i<l.length->(rwA l i).2.2=false->0<=at_ 0 zs i
 pos:0<dotZ (fun r=>r.2.1) l zs
end
section
open Go
end
section
open Go
end
section
open Go
end
section
open Go
end
section
open Go
end
section
open Go
theorem map_set {g g':ByteArray->Int} {s:ByteArray} (hg:∀ v,v≠s->g' v=g v):∀ {vs:List ByteArray} {q:Nat},Inc vs->nth vs q=some s->(vs.map g).set q (g' s)=vs.map g'
 | [],_,_,h=>bU
 | a :: vs,0,hi,h=>by
  simp only [nth,A0] at h;subst h;have h1:=F7.1 hi;simp only [Cm,List.set_cons_zero,S9,true_and];refine O3 fun v hv=>(hg v fun he=>?_).symm;have:=h1.1 v hv;rw [he] at this;exact iS _ this
 | a :: vs,q+1,hi,h=>by
  have h1:=F7.1 hi;have hs:s ∈ vs:=Z0 (i:=q) h;have ha:a≠s:=fun he=>by
   have:=h1.1 s hs;rw [he] at this;exact iS _ this
  simp only [Cm,fJ,hg a ha,map_set hg h1.2 (show nth vs q=some s from h)]
end
section
open Go
end
section
open Go
end
section
open Go
end
section
open Go Tryz
set_option maxRecDepth 100000
theorem Gs (l:List RowT):Dv 3 (l.map rowC)=true:=Gb (f:=rowC) (sz:=3) (fun _=>rfl) l
def Ad9 (l:List RowT):List AV:=[Au l]
section
variable (S:List Ent) (tk:List Nat) (k:Nat)
theorem Zr (ls:List (List RowT)) (h1:ls.length<=1000) (h2:ls.flatten.length<=100000):cL prog 22 [.frz (ls.map Ad9) .unk] S tk k=some (Au ls.flatten,S,tk,k):=by
 refine opP func22 ntmps22 (hp3:=rfl) ?_;simp (maxSteps:=10^6)+contextual(disch:=try exact dqd)only[ev1,simprocAttr,Cg,Ca,Ch,results22];refine loop1 (P:=prog) (fun x st=>st.T.length=17/\(x.1<=ls.length)/\(Ba st.tk x.2 3=true)/\getT st.T 3=.frz ((ls.take x.1).flatten.map rowC) x.2/\getT st.T 6=.frz (ls.map Ad9) .unk/\getT st.T 7=.int (ls.length:Nat)/\getT st.T 8=.int (x.1:Nat)/\st.S=[]) (fun x=>ls.length - x.1) (fun x=>Au ls.flatten) (0,.nilc) ?_ ?_;case refine_2=>exact ⟨rfl,Cs _,rfl,rfl,rfl,rfl,rfl,rfl⟩
 rintro ⟨i,c⟩ ⟨T,S',tk',n'⟩ ⟨hl,hi,ae,e3,e6,e7,e8,eS⟩ IH;simp only at hi ae e3 e6 e7 e8 eS;subst eS;obtain ⟨g,hg,hT⟩:=Aw hl;rw [hg] at e3 e6 e7 e8;subst hT;clear hg hl;have jp:=Db (i:=i) aA;by_cases la:i<ls.length
 ·have d1:decide ((i:Int)<(ls.length:Int))=true:=bP
  obtain ⟨x,hx⟩:=Ah la;have hx':nth (ls.map Ad9) i=some (Ad9 x):=by rw [Er,hx]; rfl
  have hts:=Hi hx;have ez:(ls.take (i+1)).flatten=(ls.take i).flatten++x:=by rw [hts]; simp
  have hle:(ls.take (i+1)).flatten.length<=ls.flatten.length:=by
   have e:ls.flatten=(ls.take (i+1)).flatten++(ls.drop (i+1)).flatten:=by rw [<- iE,I9]
   rw [e,Cn]; omega
  rw [ez,Cn] at hle;have bo:=Gs (ls.take i).flatten;have ab:=Gs x;have cg:=B0 ae;have hn:((ls.take i).flatten.map rowC).length+(x.map rowC).length<=1048576:=by simp only [Ib]; omega
  simp only [Ad9,Au] at hx';simp (maxSteps:=10^6)+contextual(disch:=try exact dqd)only[ev1,simprocAttr,Cg,Ca,Ch,results22,e3,e6,e7,e8,d1,hx',jp,bo,ab];exact IH (i+1,A4 tk' c 3) _ aF ⟨rfl,aE,cg,dC,dC,dC,dC,dC⟩
 ·have d1:decide ((i:Int)<(ls.length:Int))=false:=bP
  have mb:i=ls.length:=aA
  subst mb;rw [Ir] at e3;simp (maxSteps:=10^6)+contextual(disch:=try exact dqd)only[ev1,simprocAttr,Cg,Ca,Ch,results22,e3,e6,e7,e8,d1,Au]
theorem Ap1 {A B:List (List AV)} : cL prog 22 [.frz [[.frz A .unk],[.frz B .unk]] .tight] S tk k=cL prog 22 [.frz [[.frz A .unk],[.frz B .unk]] .unk] S tk k:=Am8 rfl rfl rfl
theorem add_n {A:List (List AV)} {n:Int} : cL prog 72 [.agg [.frz A .unk,.int n],.agg [.frz [] .nilc,.int 1]] S tk k=cL prog 72 [.agg [.frz A .unk,.int n],.agg [.frz [] .unk,.int 1]] S tk k:=Am8 rfl rfl rfl
theorem Ak0 {l:List RowT} {r:RowT} {q:Int} (h1:l.length<=12) (h2:∀ r ∈ l,r.1.length<=1048576) (h3:r.1.length<=1048576):(l++[oneR r q]).length<=13/\∀ x ∈ l++[oneR r q],x.1.length<=1048576:=by
 refine ⟨aB,fun x hx=>?_⟩;rcases Cr.1 hx with hx|hx
 ·exact h2 x hx
 ·rw [Fj.1 hx]; simpa [oneR] using h3
theorem H0 (l:List RowT) (r:RowT) (q:Int) (hq:q=1\/q=-1) (h0:A6 r.1 r.2.1=0) (hl:l.length<=12) (dz:∀ r ∈ l,r.1.length<=1048576):cL prog 34 [Au l,linA r.1 r.2.1,.int q] S tk k=some (.bool (Hy l r q),S,tk,k):=by
 have jr:=Qn h0;have hS S tk k:=X8 S tk k r.1 r.2.1 q aA;have hA S tk k:=(add_n S tk k).trans (Adl S tk k (r.1.map (mulC q)) [] (r.2.1*q) 1 aB (by simp));rw [Alh hq h0] at hS;rw [Apd hq h0] at hA;obtain ⟨o1,o2⟩:=Ak0 (q:=q) hl dz (show r.1.length<=1048576 by omega);have hJ S tk k:=(Ap1 S tk k).trans (Zr S tk k [l,[oneR r q]] (by simp) aB);have hF S tk k:=Yr S tk k (l++[oneR r q]) o1 o2;have hc:Hy l r q=(inB (r.2.1*q+1) && ((sysE (l++[oneR r q]) == 0) && !Td (l++[oneR r q]))):=rfl;rw [hc];simp only [Fm,gE,Fu,Au] at hJ;simp only [linA,Ak,Cw] at hS hA;simp only [Au] at hF;cases hb:inB (r.2.1*q+1) with
 | true =>
  rw [hb,if_pos rfl] at hA;simp only [oneR,Cm,Cw,Ft,Ad9,Au,rowC,Ak] at hJ hF ⊢;refine opP func34 ntmps34 (hp3:=rfl) ?_;cases il:Td (l++[(r.1.map (mulC q),r.2.1*q+1,false)]) <;> rw [il] at hF <;>
  simp (maxSteps:=10^6)+contextual(disch:=try exact dqd)only[ev1,simprocAttr,Cg,Ca,Ch,results34,Au,linA,Ak,hS,hA,hJ,hF,G4,Bool.and_true,Bool.and_false,F6,Ij]
 | false =>
  rw [hb,if_neg (by simp)] at hA;refine opP func34 ntmps34 (hp3:=rfl) ?_;simp (maxSteps:=10^6)+contextual(disch:=try exact dqd)only[ev1,simprocAttr,Cg,Ca,Ch,results34,Au,linA,Ak,hS,hA,F2]
end
end
section
open Go Tryz
set_option maxRecDepth 100000
section
variable (S:List Ent) (tk:List Nat) (k:Nat)
theorem Tf (l:List RowT) (r:RowT) (hl:l.length<=12) (dz:∀ r ∈ l,r.1.length<=1048576) (hr:r.1.length<=1048576):cL prog 13 [Au l,.agg (rowC r)] S tk k=some (.bool (Ej l r),S,tk,k):=by
 have hC S tk k:=Ga S tk k r.1 r.2.1 hr;have hc:Ej l r=((A6 r.1 r.2.1 == 0) && (Hy l r (-1) && (!r.2.2 || Hy l r 1))):=rfl;rw [hc];simp only [linA,Ak] at hC;by_cases h0:A6 r.1 r.2.1=0
 ·have h1 S tk k:=H0 S tk k l r 1 (.inl rfl) h0 hl dz;have h2 S tk k:=H0 S tk k l r (-1) (.inr rfl) h0 hl dz;have c1:(A6 r.1 r.2.1 != 0)=false:=by simp [h0]
  have c2:(A6 r.1 r.2.1 == 0)=true:=by simp [h0]
  simp only [linA,Ak,Au] at h1 h2;rw [c2,G4];refine opP func13 ntmps13 (hp3:=rfl) ?_;cases ha:Hy l r (-1) <;> rw [ha] at h2 <;> cases hb:Hy l r 1 <;> rw [hb] at h1 <;> cases he:r.2.2 <;>
  simp (maxSteps:=10^6)+contextual(disch:=try exact dqd)only[ev1,simprocAttr,Cg,Ca,Ch,results13,Au,rowC,Ak,hC,c1,h1,h2,he,G4,F2,F6,Ij,iI,Mf]
 ·have c1:(A6 r.1 r.2.1 != 0)=true:=aS
  have c2:(A6 r.1 r.2.1 == 0)=false:=aS
  rw [c2,F2];refine opP func13 ntmps13 (hp3:=rfl) ?_;simp (maxSteps:=10^6)+contextual(disch:=try exact dqd)only[ev1,simprocAttr,Cg,Ca,Ch,results13,Au,rowC,Ak,hC,c1]
end
end
section
open Go
end
section
open Go
end
section
open Go
inductive PT where
 | node (op:Int) (name:ByteArray) (n:Int) (kids:List PT)
def PT.op:PT->Int|.node o _ _ _=>o
def PT.name:PT->ByteArray|.node _ s _ _=>s
def PT.n:PT->Int|.node _ _ n _=>n
end
section
open Go
end
section
open Go
end
section
open Go
end
section
open Go Tryz
def J3 (l:List RowT):Bool:=decide (l.length<=6) && l.all fun r=>decide (r.1.length<=6)
theorem Vl {l:List RowT} (h:J3 l=true):l.length<=6/\∀ r ∈ l,r.1.length<=6:=by
 unfold J3 at h;rw [Cf,decide_eq_true_iff,Cz] at h;exact ⟨h.1,fun r hr=>by simpa using h.2 r hr⟩
section
variable (S:List Ent) (tk:List Nat) (k:Nat)
theorem Aeq (l:List RowT):cL prog 7 [Au l] S tk k=some (.bool (J3 l),S,tk,k):=by
 refine opP func7 ntmps7 (hp3:=rfl) ?_;by_cases h6:l.length<=6;case neg =>
  have d0:decide ((l.length:Int) > 6)=true:=aB
  have hr:J3 l=false:=by unfold J3; rw [decide_eq_false h6]; rfl
  rw [hr]
  simp (maxSteps:=10^6)+contextual(disch:=try exact dqd)only[ev1,simprocAttr,Cg,Ca,Ch,results7,Au,d0]
 have d0:decide ((l.length:Int) > 6)=false:=aB
 simp (maxSteps:=10^6)+contextual(disch:=try exact dqd)only[ev1,simprocAttr,Cg,Ca,Ch,results7,Au,d0];refine loop1 (P:=prog) (fun x st=>st.T.length=21/\(x<=l.length)/\(J3 l=(l.drop x).all fun r=>decide (r.1.length<=6))/\getT st.T 0=Au l/\getT st.T 3=.int (x:Nat)/\st.S=[]) (fun x=>l.length - x) (fun x=>.bool (J3 l)) (0) ?_ ?_;case refine_2=>exact ⟨rfl,Cs _,by unfold J3; rw [decide_eq_true h6]; rfl,rfl,rfl,rfl⟩
 rintro i ⟨T,S',tk',n'⟩ ⟨hl,hi,hE,e0,e3,eS⟩ IH;subst eS;obtain ⟨g,hg,hT⟩:=Aw hl;rw [hg] at e0 e3;subst hT;clear hg hl;have jp:=Db (i:=i) aA;by_cases la:i<l.length
 ·have d1:decide ((i:Int)<(l.length:Int))=true:=bP
  obtain ⟨r,hx⟩:=Ah la;have hx':=Km hx;rw [Av hx,Oc] at hE;simp only [rowC,Ak] at hx';by_cases hc:r.1.length<=6
  ·have d2:decide ((r.1.length:Int) > 6)=false:=aB
   rw [decide_eq_true hc,G4] at hE;simp (maxSteps:=10^6)+contextual(disch:=try exact dqd)only[ev1,simprocAttr,Cg,Ca,Ch,results7,e0,e3,Au,Ak,d1,d2,hx',jp];exact IH (i+1) _ aF ⟨rfl,aE,hE,aW,aW,aW⟩
  ·have d2:decide ((r.1.length:Int) > 6)=true:=aB
   rw [decide_eq_false hc,F2] at hE;simp (maxSteps:=10^6)+contextual(disch:=try exact dqd)only[ev1,simprocAttr,Cg,Ca,Ch,results7,e0,e3,Au,Ak,d1,d2,hx',hE]
 ·have d1:decide ((i:Int)<(l.length:Int))=false:=bP
  have mb:i=l.length:=aA
  rw [mb,Fh] at hE;simp (maxSteps:=10^6)+contextual(disch:=try exact dqd)only[ev1,simprocAttr,Cg,Ca,Ch,results7,e0,e3,Au,d1,hE,List.all_nil]
end
def nX:ByteArray:=⟨#[120]⟩
def nY:ByteArray:=⟨#[121]⟩
def lA:List RowT:=[([(nX,1),(nY,-1)],0,false),([(nX,-1)],1,false)]
def lB:List RowT:=[([(nY,1)],0,false)]
def rIt:RowT:=([(nY,-1)],1,false)
def kzB (n:Int):List AV:=[.prim (.bool (decide (n<0))),if n=0 then .frz [] .unk else .frz [[Cg n.natAbs]] .unk]
def kzA (l:List Int):AV:=.frz (l.map kzB) .unk
def kqA (n:Int):AV:=.agg (kzB n++kzB 1)
def kq2 (x y z:Int):List AV × AV:=([kqA x,kqA y],kqA z)
def kq1 (x y:Int):List AV × AV:=([kqA x],.int y)
abbrev TabL:=List (Nat × List (List AV × AV))
def tblR:TabL:=[(139,[kq2 (-2) (-2) 0,kq2 (-2) 0 (-2),kq2 (-1) (-2) 1,kq2 (-1) (-1) 0,kq2 (-1) 0 (-1),kq2 (-1) 1 (-2),kq2 0 (-2) 2,kq2 0 (-1) 1,kq2 0 0 0,kq2 0 1 (-1),kq2 0 2 (-2),kq2 1 (-1) 2,kq2 1 0 1,kq2 1 1 0,kq2 2 0 2,kq2 2 2 0]),
 (141,[kq1 (-2) (-1),kq1 (-1) (-1),kq1 0 0,kq1 1 1,kq1 2 1]),(179,[kq2 (-1) 1 (-1),kq2 0 1 0,kq2 1 1 1]),
 (188,[kq2 (-2) (-1) 2,kq2 (-2) 0 0,kq2 (-2) 1 (-2),kq2 (-1) (-1) 1,kq2 (-1) 0 0,kq2 (-1) 1 (-1),kq2 1 (-1) (-1),kq2 1 0 0,kq2 1 1 1]),
 (178,[([kqA 0,kqA 1],.int (-1)),([kqA 1,kqA 0],.int 1)]),(138,[([.int 0],kqA 0),([.int 1],kqA 1),([.int (-1)],kqA (-1))])]
theorem Aoj:Tab prog (tbT (tblR++[])):=R6 Pk Pk aK
def rI (b:Bool):AV:=.tup [.bool b,.int 0]
end
end Go.Proofs.YthelkgdmgihhiaaGreat
