/- Part 24. -/
import Derived.Test.YtcjffhadclngmaaGreatZC23
import Derived.SizedLaws
import Derived.ChangeArms
open Bool renaming or->Cj,or_eq_false_iff->Ff,or_false->Fk,or_assoc->Fo,false_ne_true->F6,not_eq_true'->Ob,false_or->Oi
open Classical renaming choose_spec->jS
open Go.DataW renaming Trod->jY
open Go.IntKind renaming i64->Ca
open Go.Proofs.YtcjffhadclngmaaGreat.AV renaming bool->Bg,int->Cb,str->Cc
open Go.Value renaming okWide->jL
open Int renaming natAbs_mul->Ii,mul_ne_zero->Il
open List renaming replicate->Cf,length_cons->Ch,length_append->Cm,cons_append->Cn,length_nil->Co,mem_cons_of_mem->Cp,nil_append->Cq,mem_cons_self->Cs,map_cons->Ct,getElem?_eq_none->Cu,mem_cons->Cv,getElem?_map->Cw,getElem?_append_left->C3,length_eq_zero_iff->C4,mem_append->C5,take_of_length_le->C6,map_nil->Ei,append_assoc->Fa,getElem?_append_right->Fc,length_map->Fj,take_length->Fm,mem_map->Ft,mem_singleton->Fu,getElem?_eq_some_iff->Fx,append_nil->Fy,map_append->F4,length_pos_iff->F8,take->Ib,pairwise_cons->Ie,length_take->Iu,mem_replicate->Ix,length_replicate->I1,drop->I7,mem_of_getElem?->I8,getElem?_cons_zero->Oc,take_append_of_le_length->Oo,take_append_drop->Oq,singleton_append->O2,length_singleton->O3,getElem?_replicate->jD,getElem?_of_mem->kG,take_take->kU
open Nat renaming le_refl->Ce,zero_le->Cl,mul_one->C9,zero_add->El,le_trans->Fs,mul_le_mul_right->F2,le_add_right->Ia,mul_le_mul->Iv,add_zero->I5,lt_of_le_of_lt->J9,succ_mul->Oa,add_sub_cancel->Oh,sub_self->Ol,div_le_self->Sn,lt_trichotomy->So,succ_pos->Sx,mod_two_eq_zero_or_one->iF,le_mul_of_pos_left->jK
open Ne renaming symm->Ih
open Option.some renaming injEq->A8
open Prod.mk renaming injEq->Cg
open Rat renaming intCast_mul->C7,intCast_neg->K9,intCast_pos->Oz,intCast_zero->Sv,le_refl->Sw,intCast_sub->Tm,intCast_inj->iV,intCast_add->kJ,intCast_one->kL
namespace Go.Proofs.YtcjffhadclngmaaGreat
section
open Go Go.ChangeShapes Go.WideShapes Go.ChangeAt Go.RowKit
end
section
open Go Go.Proofs.Tryz Go.ChangeShapes Go.WideShapes Go.ChangeAt Go.RowKit
set_option maxRecDepth 100000
section
variable {H:Type} {enc:TypeId × Value->H} {w:World} {r:Reach} {b0:Nat} {sp:Nat->Bool} {lp:Bool} {v:Value} {d:DataW H} {p:List MemPlace}
theorem Aqk (hv:jL prog w r b0 25 v) (h:jY enc prog w 0 sp lp 25 v d p):∃ (cs:List (ByteArray × Int)) (n:Int),VR (C0 w) (linA cs n) v/\cs.length<=maxLen:=by
 obtain ⟨xs,rfl,-⟩:=okWide_struct underlying25 hv;obtain ⟨avs,h1,h2⟩:=read (by simp [types]) h;obtain ⟨q0,q1,rfl,g0,g1⟩:=Nt underlying25 h1;obtain ⟨es,rfl,h3,h5⟩:=Aaf underlying23 g0;obtain ⟨cs,rfl,h4⟩:=Ahe (f:=D2) (Q:=fun c=>i64 c.2) fun x hx=>Anv (h3 x hx);obtain ⟨n,rfl,hn⟩:=Anw underlying3 g1;exact ⟨cs,n,Au1 h2,by simpa using h5⟩
end
end
section
open Go
def qv (a:Q):Rat:=((a.1:Int):Rat) / ((a.2:Int):Rat)
theorem Gk {d:Int} (h:d≠0):((d:Int):Rat)≠0:=fun e=>h (iV.mp (e.trans rfl))
theorem Av2 {a:Q} {n d:Int} (ha:a.2≠0) (hd:d≠0) (h:a.1*d=n*a.2):qv a=((n:Int):Rat) / ((d:Int):Rat):=by
 have h1:=congrArg (fun z:Int=>(z:Rat)) h;simp only [C7] at h1;have h2:=Gk ha;have h3:=Gk hd;unfold qv;grind
theorem Av4 {a:Q} (h:0<a.2):qv a<0↔a.1<0:=by
 unfold qv;rw [Rat.div_lt_iff (Oz.2 h),Rat.zero_mul,Rat.intCast_neg_iff]
theorem Av5 {a:Q} (h:0<a.2):0<qv a↔0<a.1:=by
 unfold qv;rw [Rat.lt_div_iff (Oz.2 h),Rat.zero_mul,Oz]
theorem Afl {a:Q} (h:0<a.2):sgn a<0↔qv a<0:=by
 rw [Av4 h]; unfold sgn; split
 ·omega
 ·split <;> omega
theorem Pl {a:Q} (h:0<a.2):0<sgn a↔0<qv a:=by
 rw [Av5 h]; unfold sgn; split
 ·omega
 ·split <;> omega
theorem Lu {a:Q} (h:0<a.2):sgn a=0↔qv a=0:=by
 have h1:=Afl h;have h2:=Pl h;constructor
 ·intro h0;have a1:¬ qv a<0:=fun h'=>by have:=h1.2 h'; omega
  have a2:¬ 0<qv a:=fun h'=>by have:=h2.2 h'; omega
  grind
 ·intro h0;have a1:¬ sgn a<0:=fun h'=>by have:=h1.1 h'; grind
  have a2:¬ 0<sgn a:=fun h'=>by have:=h2.1 h'; grind
  omega
theorem Tx:qv q0=0:=by unfold qv q0; grind
structure Fld.Exact (F:Fld) (G:Q->Prop):Prop where
 pos:∀ a,G a->0<a.2
 zero:G q0
 whole:∀ n,i64 n->(F.whole n).2=false->G (F.whole n).1/\qv (F.whole n).1=((n:Int):Rat)
 minus:∀ a b,G a->G b->(F.minus a b).2=false->G (F.minus a b).1/\qv (F.minus a b).1=qv a - qv b
 times:∀ a b,G a->G b->(F.times a b).2=false->G (F.times a b).1/\qv (F.times a b).1=qv a*qv b
 over:∀ a b,G a->G b->qv b≠0->(F.over a b).2=false->G (F.over a b).1/\qv (F.over a b).1=qv a / qv b
structure Fld.Total (F:Fld) (G:Q->Prop) (fit:Rat->Prop):Prop where
 whole:∀ n,i64 n->(F.whole n).2=false
 minus:∀ a b,G a->G b->fit (qv a - qv b)->(F.minus a b).2=false
 times:∀ a b,G a->G b->fit (qv a*qv b)->(F.times a b).2=false
 over:∀ a b,G a->G b->qv b≠0->fit (qv a / qv b)->(F.over a b).2=false
theorem Av3 {n d:Int} (hd:d≠0):qv (lowN n d,lowD n d)=((n:Int):Rat) / ((d:Int):Rat):=Av2 (a:=(lowN n d,lowD n d)) (by have:=Qu (n:=n) hd; simp only; omega) hd (Mn hd)
theorem Z6 {n d:Int} (hd:d≠0) (h:(qn n d).2=false):okS (qn n d).1/\qv (qn n d).1=((n:Int):Rat) / ((d:Int):Rat):=by
 refine ⟨Aqo n d,?_⟩;unfold qn at h ⊢;split
 ·rename_i hb; rw [if_pos hb] at h; simp at h
 ·exact Av3 hd
theorem Ui {n d:Int} (h:(wn n d).2=false):H1 (wn n d).1.1 (wn n d).1.2/\qv (wn n d).1=((n:Int):Rat) / ((d:Int):Rat):=by
 have hf:E3 n d=true:=by simpa [wn] using h
 have g:=Ahu hf;exact ⟨g,Av2 (a:=(resN n d,resD n d)) (by have:=g.pos; simp only; omega) (Aeq hf) (Ann hf)⟩
def Hc (x:Rat):Prop:=∃ n d:Int,d≠0/\x=((n:Int):Rat) / ((d:Int):Rat)/\n.natAbs<10000 ^ 200/\d.natAbs<10000 ^ 200
theorem Ar0 {z:Int} (h:z.natAbs<10000 ^ 200):okZ z=true:=by
 have:=Bp.2 h;simp only [okZ,Ob,decide_eq_false_iff_not];omega
theorem Uj {n d:Int} (hd:d≠0) (h:Hc (((n:Int):Rat) / ((d:Int):Rat))):(wn n d).2=false:=by
 obtain ⟨a,b,hb,he,vg,hb1⟩:=h;have e:n*b=a*d:=by
  have h2:=Gk hd;have h3:=Gk hb;have h4:((n*b:Int):Rat)=((a*d:Int):Rat):=by
   rw [C7,C7];grind
  exact iV.mp h4
 have hf:=(Alw hd hb e).1;have hg:E3 a b=true:=by
  unfold E3;have l1:(lowN a b).natAbs<10000 ^ 200:=by rw [Rx]; exact J9 (Sn _ _) vg
  have l2:(lowD a b).natAbs<10000 ^ 200:=J9 (Sn _ _) hb1;rw [Ar0 l1,Ar0 l2];simp [hb]
 unfold wn;rw [hf,hg]; rfl
theorem Tq {a b c d:Rat} (hb:b≠0) (hd:d≠0):(a*d - c*b) / (b*d)=a / b - c / d:=aL
theorem Tp {a b c d:Rat} (hb:b≠0) (hd:d≠0):(a*d+-c*b) / (b*d)=a / b - c / d:=aL
theorem Kk {a b c d:Rat} (hb:b≠0) (hd:d≠0):(a*c) / (b*d)=a / b*(c / d):=aL
theorem Mw {a b c d:Rat} (hb:b≠0) (hd:d≠0) (hc:c≠0):(a*d) / (b*c)=a / b / (c / d):=aL
theorem Wj {b:Q} (h:qv b≠0):b.1≠0:=fun h0=>h (by unfold qv; rw [h0]; show (0:Rat) / _=0; grind)
theorem Z5:QQ.qF.Exact okS:=by
 refine ⟨fun a h=>h.2.2.1,⟨aO,aO,aO,aO⟩,fun n _ h=>?_,fun a b ha hb h=>?_,fun a b ha hb h=>?_,fun a b ha hb h0 h=>?_⟩
 ·simp only [QQ.qF] at h ⊢;split
  ·rename_i hb; rw [if_pos hb] at h; simp at h
  ·refine ⟨⟨?_,?_,?_,?_⟩,?_⟩
   ·simp only; omega
   ·simp only; omega
   ·simp only; omega
   ·simp only; omega
   ·unfold qv;exact Ya43
 ·have h1:=ha.2.2.1;have h2:=hb.2.2.1;have e:=Z6 (Il aA aA) h;refine ⟨e.1,e.2.trans ?_⟩;rw [Tm,C7,C7,C7];exact Tq (Gk aA) (Gk aA)
 ·have h1:=ha.2.2.1;have h2:=hb.2.2.1;have e:=Z6 (Il aA aA) h;exact Ya2o
 ·have h1:=ha.2.2.1;have h2:=hb.2.2.1;have h3:=Wj h0;simp only [QQ.qF] at h ⊢;rw [if_neg h3] at h ⊢;have e:=Z6 (Il aA h3) h;exact Ya25
def gW (a:Q):Prop:=H1 a.1 a.2
theorem Q3 {a:Q} (h:gW a):qz a=a:=by
 have:=h.pos;unfold qz; rw [if_neg aA]
theorem Hy {n:Int} (h:i64 n):gW (n,1):=by
 have:=WW.Dj.whole n h;rcases this with h1|h1
 ·exact h1
 ·simp [WW.qF] at h1
theorem Em:WW.qF.Exact gW:=by
 refine ⟨fun a h=>h.pos,Ack,fun n hn h=>⟨Hy hn,?_⟩,fun a b ha hb h=>?_,fun a b ha hb h=>?_,fun a b ha hb h0 h=>?_⟩
 ·simp only [WW.qF]; unfold qv;exact Ya43
 ·have h1:=ha.pos;have h2:=hb.pos;simp only [WW.qF,Q3 ha,Q3 hb] at h ⊢;have e:=Ui h;refine ⟨e.1,e.2.trans ?_⟩;rw [kJ,C7,C7,C7,K9];exact Tp (Gk aA) (Gk aA)
 ·have h1:=ha.pos;have h2:=hb.pos;simp only [WW.qF,Q3 ha,Q3 hb] at h ⊢;have e:=Ui h;exact Ya2o
 ·have h1:=ha.pos;have h2:=hb.pos;have h3:=Wj h0;simp only [WW.qF,Q3 ha,Q3 hb] at h ⊢;have e:=Ui h;exact Ya25
theorem H0:WW.qF.Total gW Hc:=by
 refine ⟨fun n _=>rfl,fun a b ha hb h=>?_,fun a b ha hb h=>?_,fun a b ha hb h0 h=>?_⟩
 ·have h1:=ha.pos;have h2:=hb.pos;simp only [WW.qF,Q3 ha,Q3 hb];refine Uj (Il aA aA) ?_;rw [kJ,C7,C7,C7,K9,Tp (Gk aA) (Gk aA)];exact h
 ·have h1:=ha.pos;have h2:=hb.pos;simp only [WW.qF,Q3 ha,Q3 hb];refine Uj (Il aA aA) ?_;rw [C7,C7,Kk (Gk aA) (Gk aA)];exact h
 ·have h1:=ha.pos;have h2:=hb.pos;have h3:=Wj h0;simp only [WW.qF,Q3 ha,Q3 hb];refine Uj (Il aA h3) ?_;rw [C7,C7,Mw (Gk aA) (Gk aA) (Gk h3)];exact h
theorem Vs {l:List ByteArray} {s:ByteArray} (h:s ∈ l):nth l (idxV l s)=some s:=by
 obtain ⟨j,h1,h2,h3⟩:=Vl (i:=0) h;unfold idxV;rw [h2];have:((0+j:Nat):Int).toNat=j:=aA
 rw [this]; exact h3
def tabV (t:Tb):Simp.Tab:=⟨fun i j=>qv (at_ q0 (Ba t i) j),fun j=>qv (at_ q0 t.cost j),fun i=>at_ 0 t.basis i⟩
structure TOk (G:Q->Prop) (m N:Nat) (t:Tb):Prop where
 rows:t.rows.length=m
 basis:t.basis.length=m
 cost:t.cost.length=N+1
 rowW:∀ r ∈ t.rows,r.length=N+1
 okr:∀ r ∈ t.rows,∀ q ∈ r,G q
 okc:∀ q ∈ t.cost,G q
section
variable {α:Type} {d x:α} {l:List α} {k:Nat}
theorem Pw:at_ d [] k=d:=rfl
theorem Aky:at_ d (x :: l) 0=x:=rfl
theorem Asz:at_ d (x :: l) (k+1)=at_ d l k:=rfl
theorem L5 (h:k<l.length):nth l k=some (at_ d l k):=by
 obtain ⟨y,hy⟩:=Af h;unfold at_; rw [hy]; rfl
theorem Dy (h:k<l.length):at_ d l k ∈ l:=Ak (L5 h)
theorem Abh (h:l.length<=k):at_ d l k=d:=by
 unfold at_; rw [Ag,Cu h]; rfl
theorem Kz (h:k<l.length) {j:Nat} : at_ d (put l k x) j=if j=k then x else at_ d l j:=by
 unfold at_;by_cases e:j=k
 ·subst e; rw [if_pos rfl,Bw h]; rfl
 ·rw [if_neg e,Ab (Ih e)]
end
section
variable {F:Fld} {G:Q->Prop} {fit:Rat->Prop} {m N:Nat}
theorem Aek (hE:F.Exact G) {b:Q} (hb:G b) (h0:qv b≠0):∀ {l:List Q},(∀ q ∈ l,G q)->(divL F b l).2=false->(∀ q ∈ (divL F b l).1,G q)/\∀ j,qv (at_ q0 (divL F b l).1 j)=qv (at_ q0 l j) / qv b
 | [],_,_=>⟨fun q h=>aR,fun j=>by simp only [divL,Pw,Tx]; grind⟩
 | x :: l,hl,hf=>by
  have hx:(dvS F b x).2=false/\(divL F b l).2=false:=by simpa [divL] using hf
  have ih:=Aek hE hb h0 (fun q h=>hl q (Cp _ h)) hx.2;have gx:=hl x (Cs ..);have hs:G (dvS F b x).1/\qv (dvS F b x).1=qv x / qv b:=by
   have h1:=hx.1;unfold dvS at h1 ⊢;split
   ·rename_i h;exact ⟨gx,by rw [(Lu (hE.pos x gx)).1 h]; grind⟩
   ·rename_i h;rw [if_neg h] at h1;exact hE.over x b gx hb h0 h1
  exact Yaz
theorem Agn (hT:F.Total G fit) {b:Q} (hb:G b) (h0:qv b≠0):∀ {l:List Q},(∀ q ∈ l,G q)->(∀ j,j<l.length->fit (qv (at_ q0 l j) / qv b))->(divL F b l).2=false
 | [],_,_=>rfl
 | x :: l,hl,hf=>by
  have ih:=Agn hT hb h0 (l:=l) (fun q h=>hl q (Cp _ h)) fun j hj=>hf (j+1) bH;have gx:=hl x (Cs ..);have hs:(dvS F b x).2=false:=by
   unfold dvS;split
   ·rfl
   ·exact hT.over x b gx hb h0 (hf 0 (by simp))
  show ((dvS F b x).2 || (divL F b l).2)=false;rw [hs,ih]; rfl
theorem Ael {b:Q} : ∀ {l:List Q},(divL F b l).1.length=l.length
 | []=>rfl
 | x :: l=>by simp only [divL,Ch,Ael]
theorem Aq1 (hE:F.Exact G) {b a r:Q} (hb:G b) (ha:G a) (hr:G r) (hf:(Lc F b a r).2=false):G (Lc F b a r).1/\qv (Lc F b a r).1=qv a - qv b*qv r:=by
 unfold Lc at hf ⊢;split
 ·rename_i h;exact ⟨ha,by rw [(Lu (hE.pos r hr)).1 h]; grind⟩
 ·rename_i h;rw [if_neg h] at hf;simp only [Ff] at hf;have h1:=hE.times b r hb hr hf.1;have h2:=hE.minus a _ ha h1.1 hf.2;exact ⟨h2.1,by rw [h2.2,h1.2]⟩
theorem Ag8 (hE:F.Exact G) {b:Q} (hb:G b):∀ {l r:List Q},l.length=r.length->(∀ q ∈ l,G q)->(∀ q ∈ r,G q)->(lessL F b l r).2=false->(∀ q ∈ (lessL F b l r).1,G q)/\∀ j,qv (at_ q0 (lessL F b l r).1 j)=qv (at_ q0 l j) - qv b*qv (at_ q0 r j)
 | [],[],_,_,_,_=>⟨fun q h=>aR,fun j=>by simp only [lessL,Pw,Tx]; grind⟩
 | [],_ :: _,h,_,_,_=>aN
 | _ :: _,[],h,_,_,_=>aN
 | a :: l,r :: rs,h,hl,hr,hf=>by
  have hx:(Lc F b a r).2=false/\(lessL F b l rs).2=false:=by simpa [lessL] using hf
  have ih:=Ag8 hE hb aM (fun q h=>hl q (Cp _ h)) (fun q h=>hr q (Cp _ h)) hx.2;have hs:=Aq1 hE hb (hl a (Cs ..)) (hr r (Cs ..)) hx.1;exact Yaz
theorem Acv (hE:F.Exact G) (hT:F.Total G fit) {b:Q} (hb:G b):∀ {l r:List Q},l.length=r.length->(∀ q ∈ l,G q)->(∀ q ∈ r,G q)->(∀ j,j<r.length->fit (qv b*qv (at_ q0 r j))/\fit (qv (at_ q0 l j) - qv b*qv (at_ q0 r j)))->(lessL F b l r).2=false
 | [],[],_,_,_,_=>rfl
 | [],_ :: _,h,_,_,_=>aN
 | _ :: _,[],h,_,_,_=>aN
 | a :: l,r :: rs,h,hl,hr,hf=>by
  have ih:=Acv hE hT hb (l:=l) (r:=rs) aM (fun q h=>hl q (Cp _ h)) (fun q h=>hr q (Cp _ h)) fun j hj=>hf (j+1) bH;have ga:=hl a (Cs ..);have gr:=hr r (Cs ..);have h0:=hf 0 (by simp);have hs:(Lc F b a r).2=false:=by
   unfold Lc;split
   ·rfl
   ·have t1:=hT.times b r hb gr h0.1;have t2:=hE.times b r hb gr t1;have t3:=hT.minus a _ ga t2.1 (by rw [t2.2]; exact h0.2);simp only [t1,t3]; rfl
  show ((Lc F b a r).2 || (lessL F b l rs).2)=false;rw [hs,ih]; rfl
theorem T9 (hE:F.Exact G) {a r:List Q} {c:Nat} (hc:c<a.length) (hl:a.length=r.length) (ha:∀ q ∈ a,G q) (hr:∀ q ∈ r,G q) (hf:(lessT F a r c).2=false):(∀ q ∈ (lessT F a r c).1,G q)/\∀ j,qv (at_ q0 (lessT F a r c).1 j)=qv (at_ q0 a j) - qv (at_ q0 a c)*qv (at_ q0 r j):=by
 have hb:=ha _ (Dy (d:=q0) hc);unfold lessT at hf ⊢;rw [L5 (d:=q0) hc] at hf ⊢;simp only at hf ⊢;split
 ·rename_i h;exact ⟨ha,fun j=>by rw [(Lu (hE.pos _ hb)).1 h]; grind⟩
 ·rename_i h;rw [if_neg h] at hf;exact Ag8 hE hb hl ha hr hf
theorem V5 (hE:F.Exact G) (hT:F.Total G fit) {a r:List Q} {c:Nat} (hc:c<a.length) (hl:a.length=r.length) (ha:∀ q ∈ a,G q) (hr:∀ q ∈ r,G q) (hf:∀ j,j<r.length->fit (qv (at_ q0 a c)*qv (at_ q0 r j))/\fit (qv (at_ q0 a j) - qv (at_ q0 a c)*qv (at_ q0 r j))):(lessT F a r c).2=false:=by
 have hb:=ha _ (Dy (d:=q0) hc);unfold lessT;rw [L5 (d:=q0) hc];simp only;split
 ·rfl
 ·exact Acv hE hT hb hl ha hr hf
theorem V4 (hE:F.Exact G) {row:List Q} {c i W:Nat} (hc:c<W) (hw:row.length=W) (hr:∀ q ∈ row,G q):∀ {l:List (List Q)} {k:Nat},(∀ r ∈ l,r.length=W)->(∀ r ∈ l,∀ q ∈ r,G q)->(lessRows F row c i k l).2=false ->
  (∀ r ∈ (lessRows F row c i k l).1,r.length=W)/\(∀ r ∈ (lessRows F row c i k l).1,∀ q ∈ r,G q)/\∀ n j,n<l.length->qv (at_ q0 (at_ [] (lessRows F row c i k l).1 n) j)=if k+n=i then qv (at_ q0 (at_ [] l n) j) else qv (at_ q0 (at_ [] l n) j) - qv (at_ q0 (at_ [] l n) c)*qv (at_ q0 row j)
 | [],k,_,_,_=>⟨fun r h=>aR,fun r h=>aR,fun n j hn=>by simp at hn⟩
 | r :: l,k,hl,hg,hf=>by
  have hx:(lessK F row c i k r).2=false/\(lessRows F row c i (k+1) l).2=false:=by simpa [lessRows] using hf
  have ih:=V4 hE hc hw hr (fun r h=>hl r (Cp _ h)) (fun r h=>hg r (Cp _ h)) hx.2;have uv:=hl r (Cs ..);have hgr:=hg r (Cs ..);have hs:(lessK F row c i k r).1.length=W/\(∀ q ∈ (lessK F row c i k r).1,G q)/\∀ j,qv (at_ q0 (lessK F row c i k r).1 j)=if k=i then qv (at_ q0 r j) else qv (at_ q0 r j) - qv (at_ q0 r c)*qv (at_ q0 row j):=by
   have h1:=hx.1;unfold lessK at h1 ⊢;by_cases e:k=i
   ·simp only [if_pos e]; exact ⟨uv,hgr,fun j=>trivial⟩
   ·simp only [if_neg e] at h1 ⊢;have h2:=T9 hE aA gZ hgr hr h1;exact ⟨by rw [Qo]; exact uv,h2.1,h2.2⟩
  exact Ya00
theorem Tk (hE:F.Exact G) (hT:F.Total G fit) {row:List Q} {c i W:Nat} (hc:c<W) (hw:row.length=W) (hr:∀ q ∈ row,G q):∀ {l:List (List Q)} {k:Nat},(∀ r ∈ l,r.length=W)->(∀ r ∈ l,∀ q ∈ r,G q) ->
  (∀ n j,n<l.length->k+n≠i->j<W->fit (qv (at_ q0 (at_ [] l n) c)*qv (at_ q0 row j))/\fit (qv (at_ q0 (at_ [] l n) j) - qv (at_ q0 (at_ [] l n) c)*qv (at_ q0 row j)))->(lessRows F row c i k l).2=false
 | [],k,_,_,_=>rfl
 | r :: l,k,hl,hg,hf=>by
  have ih:=Tk hE hT hc hw hr (l:=l) (k:=k+1) (i:=i) (fun r h=>hl r (Cp _ h)) (fun r h=>hg r (Cp _ h)) fun n j hn hk hj=>hf (n+1) j cW aA hj;have uv:=hl r (Cs ..);have hgr:=hg r (Cs ..);have hs:(lessK F row c i k r).2=false:=by
   unfold lessK;by_cases e:k=i
   ·rw [if_pos e]
   ·rw [if_neg e];exact V5 hE hT aA gZ hgr hr fun j hj=>hf 0 j (by simp) aA aA
  show ((lessK F row c i k r).2 || (lessRows F row c i (k+1) l).2)=false;rw [hs,ih]; rfl
structure Td (fit:Rat->Prop) (m N:Nat) (t:Simp.Tab) (r s:Nat):Prop where
 row:∀ j,j<N+1->fit (t.T r j / t.T r s)
 mul:∀ i j,i<m->j<N+1->fit (t.T i s*(t.T r j / t.T r s))
 sub:∀ i j,i<m->j<N+1->i≠r->fit (t.T i j - t.T i s*(t.T r j / t.T r s))
 cmul:∀ j,j<N+1->fit (t.c s*(t.T r j / t.T r s))
 csub:∀ j,j<N+1->fit (t.c j - t.c s*(t.T r j / t.T r s))
theorem Ep {t:Tb} (h:TOk G m N t) {i:Nat} (hi:i<m):Ba t i ∈ t.rows:=Dy dV
theorem Yb (hE:F.Exact G) (hT:F.Total G fit) {t:Tb} (h:TOk G m N t) {i c:Nat} (hi:i<m) (hc:c<N+1) (h0:(tabV t).T i c≠0) (hfl:t.fl=false) (hp:Td fit m N (tabV t) i c):(Dm F t i c).fl=false:=by
 have bl:=Ep h hi;have hb:=h.okr _ bl _ (Dy (d:=q0) (k:=c) (by rw [h.rowW _ bl]; exact hc));have d1:=Agn hT hb h0 (h.okr _ bl) fun j hj=>hp.row j (by rw [h.rowW _ bl] at hj; exact hj);have d2:=Aek hE hb h0 (h.okr _ bl) d1;have dl:=Ael (F:=F) (b:=at_ q0 (Ba t i) c) (l:=Ba t i);rw [h.rowW _ bl] at dl;have r1:(lessRows F (divL F (at_ q0 (Ba t i) c) (Ba t i)).1 c i 0 (put t.rows i (divL F (at_ q0 (Ba t i) c) (Ba t i)).1)).2=false:=by
  refine Tk hE hT (W:=N+1) hc dl d2.1 (fun r hr=>?_) (fun r hr=>?_) fun n j hn hk hj=>?_
  ·rcases Jc hr with rfl|hr
   ·exact dl
   ·exact h.rowW r hr
  ·rcases Jc hr with rfl|hr
   ·exact d2.1
   ·exact h.okr r hr
  ·rw [Aj,h.rows] at hn;rw [Kz dV,if_neg aA,d2.2];exact ⟨hp.mul n j hn hj,hp.sub n j hn hj aA⟩
 have k1:(lessT F t.cost (divL F (at_ q0 (Ba t i) c) (Ba t i)).1 c).2=false:=by
  refine V5 hE hT Za5a fV h.okc d2.1 fun j hj=>?_;rw [dl] at hj;rw [d2.2];exact ⟨hp.cmul j hj,hp.csub j hj⟩
 show (((t.fl || _) || _) || _)=false;rw [hfl,d1,r1,k1]; rfl
theorem Ac9 (hE:F.Exact G) {t:Tb} (h:TOk G m N t) {i c:Nat} (hi:i<m) (hc:c<N+1) (h0:(tabV t).T i c≠0) (hfl:(Dm F t i c).fl=false):TOk G m N (Dm F t i c)/\tabV (Dm F t i c)=Simp.piv (tabV t) i c:=by
 have bl:=Ep h hi;have hb:=h.okr _ bl _ (Dy (d:=q0) (k:=c) (by rw [h.rowW _ bl]; exact hc));have a4k:(((t.fl || (divL F (at_ q0 (Ba t i) c) (Ba t i)).2) || (lessRows F (divL F (at_ q0 (Ba t i) c) (Ba t i)).1 c i 0 (put t.rows i (divL F (at_ q0 (Ba t i) c) (Ba t i)).1)).2) || (lessT F t.cost (divL F (at_ q0 (Ba t i) c) (Ba t i)).1 c).2)=false:=hfl;simp only [Ff] at a4k;obtain ⟨⟨⟨-,d1⟩,r1⟩,k1⟩:=a4k;have d2:=Aek hE hb h0 (h.okr _ bl) d1;have dl:=Ael (F:=F) (b:=at_ q0 (Ba t i) c) (l:=Ba t i);rw [h.rowW _ bl] at dl;have r2:=V4 hE (W:=N+1) hc dl d2.1 (fun r hr=>by
  rcases Jc hr with rfl|hr
  ·exact dl
  ·exact h.rowW r hr) (fun r hr=>by
  rcases Jc hr with rfl|hr
  ·exact d2.1
  ·exact h.okr r hr) r1
 have k2:=T9 hE Za5a fV h.okc d2.1 k1;refine ⟨⟨?_,?_,?_,r2.1,r2.2.1,k2.1⟩,?_⟩
 ·show (lessRows _ _ _ _ _ _).1.length=m;rw [Lp,Aj]; exact h.rows
 ·show (put _ _ _).length=m;rw [Aj]; exact h.basis
 ·show (lessT _ _ _ _).1.length=N+1;rw [Qo]; exact h.cost
 ·have eT:(tabV (Dm F t i c)).T=(Simp.piv (tabV t) i c).T:=by
   funext i' j;show qv (at_ q0 (at_ [] (lessRows F (divL F (at_ q0 (Ba t i) c) (Ba t i)).1 c i 0 (put t.rows i (divL F (at_ q0 (Ba t i) c) (Ba t i)).1)).1 i') j)=Simp.pivT (tabV t) i c i' j;by_cases bc:i'<m
   ·exact Ya0l
   ·have hn:at_ [] t.rows i'=[]:=Abh (by rw [h.rows]; omega);have z:∀ j,(tabV t).T i' j=0:=fun j=>by
     show qv (at_ q0 (at_ [] t.rows i') j)=0;rw [hn,Pw,Tx]
    have e2:at_ [] (lessRows F (divL F (at_ q0 (Ba t i) c) (Ba t i)).1 c i 0 (put t.rows i (divL F (at_ q0 (Ba t i) c) (Ba t i)).1)).1 i'=[]:=Abh (by rw [Lp,Aj,h.rows]; omega);rw [e2,Pw,Tx];unfold Simp.pivT;rw [if_neg aA,z,z]; grind
  have eC:(tabV (Dm F t i c)).c=(Simp.piv (tabV t) i c).c:=by
   funext j;show qv (at_ q0 (lessT F t.cost (divL F (at_ q0 (Ba t i) c) (Ba t i)).1 c).1 j)=_;rw [k2.2,d2.2]; rfl
  have eB:(tabV (Dm F t i c)).B=(Simp.piv (tabV t) i c).B:=by
   exact Ya1u
  exact Ya2n
end
def L6 (G:Q->Prop) (N c:Nat) (T:Simp.Tab) (k:Nat):Option (Nat × Q)->Prop
 | none=>∀ i,i<k->T.T i c<=0
 | some (i,q)=>i<k/\0<T.T i c/\G q/\qv q=T.T i N / T.T i c/\∀ i',i'<k->0<T.T i' c->T.T i N / T.T i c<=T.T i' N / T.T i' c/\(T.T i N / T.T i c=T.T i' N / T.T i' c->T.B i<=T.B i')
structure Ji (fit:Rat->Prop) (m N c:Nat) (T:Simp.Tab):Prop where
 quo:∀ i,i<m->0<T.T i c->fit (T.T i N / T.T i c)
 sub:∀ i k,i<m->k<m->0<T.T i c->0<T.T k c->fit (T.T i N / T.T i c - T.T k N / T.T k c)
def Qi (F:Fld) (basis:List Nat) (c W k:Nat) (r:List Q) (b:Option (Nat × Q)):Option (Nat × Q) × Bool :=
 if sgn (at_ q0 r c)<=0 then (b,false) else
  match b with
  | none=>(some (k,(F.over (at_ q0 r (W - 1)) (at_ q0 r c)).1),(F.over (at_ q0 r (W - 1)) (at_ q0 r c)).2)
  | some (bi,least)=>(if worse basis (sgn (F.minus (F.over (at_ q0 r (W - 1)) (at_ q0 r c)).1 least).1) k bi=true then some (bi,least) else some (k,(F.over (at_ q0 r (W - 1)) (at_ q0 r c)).1),(F.over (at_ q0 r (W - 1)) (at_ q0 r c)).2 || (F.minus (F.over (at_ q0 r (W - 1)) (at_ q0 r c)).1 least).2)
theorem V0 {F:Fld} {basis:List Nat} {c W k:Nat} {r:List Q} {l:List (List Q)} {b:Option (Nat × Q)} : Dd F basis c W k (r :: l) b=((Dd F basis c W (k+1) l (Qi F basis c W k r b).1).1,(Qi F basis c W k r b).2 || (Dd F basis c W (k+1) l (Qi F basis c W k r b).1).2):=by
 rw [Dd];unfold Qi;split
 ·simp
 ·cases b with
  | none=>rfl
  | some p=>obtain ⟨bi,least⟩:=p; rfl
section
variable {F:Fld} {G:Q->Prop} {fit:Rat->Prop} {m N L:Nat}
theorem Acs (hE:F.Exact G) {t:Tb} (h:TOk G m N t) {c k:Nat} (hc:c<N+1) (hk:k<m) {b:Option (Nat × Q)} (hb:L6 G N c (tabV t) k b) (hf:(Qi F t.basis c (N+1) k (Ba t k) b).2=false):L6 G N c (tabV t) (k+1) (Qi F t.basis c (N+1) k (Ba t k) b).1:=by
 have bl:=Ep h hk;have hw:=h.rowW _ bl;have g1:=h.okr _ bl _ (Dy (d:=q0) (k:=c) fK);have g2:=h.okr _ bl _ (Dy (d:=q0) (k:=N) (by rw [hw]; omega));have p1:=hE.pos _ g1;have e1:qv (at_ q0 (Ba t k) c)=(tabV t).T k c:=rfl;have e2:qv (at_ q0 (Ba t k) N)=(tabV t).T k N:=rfl;unfold Qi at hf ⊢;rw [Oh] at hf ⊢;split
 ·rename_i hs;have hn:(tabV t).T k c<=0:=by
   have:¬ 0<qv (at_ q0 (Ba t k) c):=fun h'=>by have:=(Pl p1).2 h'; omega
   rw [e1] at this; grind
  cases b with
  | none =>
   intro i hi;by_cases e:i=k
   ·subst e; exact hn
   ·exact hb i aA
  | some p =>
   obtain ⟨bi,least⟩:=p;obtain ⟨b1,b2,b3,b4,b5⟩:=hb;refine ⟨aA,b2,b3,b4,fun i' bc hp=>?_⟩;by_cases e:i'=k
   ·subst e; grind
   ·exact b5 i' aA hp
 ·rename_i hs;rw [if_neg hs] at hf;have hp:0<(tabV t).T k c:=by
   rw [<- e1]; exact (Pl p1).1 aA
  have h0:qv (at_ q0 (Ba t k) c)≠0:=by rw [e1]; grind
  cases b with
  | none =>
   simp only at hf ⊢;have hq:=hE.over _ _ g2 g1 h0 hf;refine ⟨aA,hp,hq.1,by rw [hq.2,e1,e2],fun i' bc fv=>?_⟩;by_cases e:i'=k
   ·exact Ya0b
   ·have:=hb i' aA; grind
  | some p =>
   obtain ⟨bi,least⟩:=p;obtain ⟨b1,b2,b3,b4,b5⟩:=hb;simp only [Ff] at hf ⊢;have hq:=hE.over _ _ g2 g1 h0 hf.1;have hd:=hE.minus _ _ hq.1 b3 hf.2;have pd:=hE.pos _ hd.1;have hdv:qv (F.minus (F.over (at_ q0 (Ba t k) N) (at_ q0 (Ba t k) c)).1 least).1=(tabV t).T k N / (tabV t).T k c - (tabV t).T bi N / (tabV t).T bi c:=by rw [hd.2,hq.2,b4,e1,e2]
   have s1:=Pl pd;have s2:=Lu pd;have s3:=Afl pd;rw [hdv] at s1 s2 s3;generalize sgn (F.minus (F.over (at_ q0 (Ba t k) N) (at_ q0 (Ba t k) c)).1 least).1=s at s1 s2 s3 ⊢;have eB:∀ i,at_ 0 t.basis i=(tabV t).B i:=fun _=>rfl;unfold worse;rw [eB,eB];by_cases c1:0<s
   ·have hw1:(decide (0<s) || (s == 0 && decide ((tabV t).B bi<(tabV t).B k)))=true:=by simp [c1]
    rw [if_pos hw1];have:=s1.1 c1;refine ⟨aA,b2,b3,b4,fun i' bc fv=>?_⟩;exact Ya3o
   ·by_cases c2:s=0
    ·have hz:=s2.1 c2;have iv:(tabV t).T k N / (tabV t).T k c=(tabV t).T bi N / (tabV t).T bi c:=aL
     by_cases c3:(tabV t).B bi<(tabV t).B k
     ·have hw1:(decide (0<s) || (s == 0 && decide ((tabV t).B bi<(tabV t).B k)))=true:=by simp [c2,c3]
      rw [if_pos hw1];refine ⟨aA,b2,b3,b4,fun i' bc fv=>?_⟩;exact Ya3s
     ·have hw1:¬ (decide (0<s) || (s == 0 && decide ((tabV t).B bi<(tabV t).B k)))=true:=by simp [c2,c3]
      rw [if_neg hw1];refine ⟨aA,hp,hq.1,by rw [hq.2,e1,e2],fun i' bc fv=>?_⟩;by_cases e:i'=k
      ·exact Ya0b
      ·have h5:=b5 i' aA fv;refine ⟨by rw [iv]; exact h5.1,fun h'=>?_⟩;have:=h5.2 (by rw [<- iv]; exact h');omega
    ·have hw1:¬ (decide (0<s) || (s == 0 && decide ((tabV t).B bi<(tabV t).B k)))=true:=by simp [c1,c2]
     rw [if_neg hw1];have:=s3.1 aA;refine ⟨aA,hp,hq.1,by rw [hq.2,e1,e2],fun i' bc fv=>?_⟩;by_cases e:i'=k
     ·exact Ya0b
     ·exact Ya47
theorem Ai0 (hE:F.Exact G) (hT:F.Total G fit) {t:Tb} (h:TOk G m N t) {c k:Nat} (hc:c<N+1) (hk:k<m) (hF:Ji fit m N c (tabV t)) {b:Option (Nat × Q)} (hb:L6 G N c (tabV t) k b):(Qi F t.basis c (N+1) k (Ba t k) b).2=false:=by
 have bl:=Ep h hk;have hw:=h.rowW _ bl;have g1:=h.okr _ bl _ (Dy (d:=q0) (k:=c) fK);have g2:=h.okr _ bl _ (Dy (d:=q0) (k:=N) (by rw [hw]; omega));have p1:=hE.pos _ g1;have e1:qv (at_ q0 (Ba t k) c)=(tabV t).T k c:=rfl;have e2:qv (at_ q0 (Ba t k) N)=(tabV t).T k N:=rfl;unfold Qi;rw [Oh];split
 ·rfl
 ·rename_i hs;have hp:0<(tabV t).T k c:=by
   rw [<- e1]; exact (Pl p1).1 aA
  have h0:qv (at_ q0 (Ba t k) c)≠0:=by rw [e1]; grind
  have f1:=hT.over _ _ g2 g1 h0 (hF.quo k hk hp);cases b with
  | none=>exact f1
  | some p =>
   obtain ⟨bi,least⟩:=p;obtain ⟨b1,b2,b3,b4,b5⟩:=hb;have hq:=hE.over _ _ g2 g1 h0 f1;have f2:=hT.minus _ _ hq.1 b3 (by rw [hq.2,b4,e1,e2]; exact hF.sub k bi hk aA hp b2);simp only [f1,f2]; rfl
theorem Acr (hE:F.Exact G) {t:Tb} (h:TOk G m N t) {c:Nat} (hc:c<N+1):∀ {l:List (List Q)} {k:Nat} {b:Option (Nat × Q)},t.rows.drop k=l->k<=m->L6 G N c (tabV t) k b->(Dd F t.basis c (N+1) k l b).2=false->L6 G N c (tabV t) m (Dd F t.basis c (N+1) k l b).1
 | [],k,b,hl,hk,hb,_=>by
  exact Ya26
 | r :: l,k,b,hl,hk,hb,hf=>by
  have c9:k<m:=by
   exact Ya0m
  have hd:=A1 (L5 (d:=[]) (l:=t.rows) (k:=k) Za5b);rw [hl] at hd;obtain ⟨hr,hl2⟩:=List.cons.inj hd;have er:r=Ba t k:=hr;rw [V0] at hf ⊢;simp only [Ff] at hf ⊢;rw [er] at hf ⊢;exact Acr hE h hc hl2.symm c9 (Acs hE h hc c9 hb hf.1) hf.2
theorem X2 (hE:F.Exact G) (hT:F.Total G fit) {t:Tb} (h:TOk G m N t) {c:Nat} (hc:c<N+1) (hF:Ji fit m N c (tabV t)):∀ {l:List (List Q)} {k:Nat} {b:Option (Nat × Q)},t.rows.drop k=l->k<=m->L6 G N c (tabV t) k b->(Dd F t.basis c (N+1) k l b).2=false
 | [],k,b,hl,hk,hb=>rfl
 | r :: l,k,b,hl,hk,hb=>by
  have c9:k<m:=by
   exact Ya0m
  have hd:=A1 (L5 (d:=[]) (l:=t.rows) (k:=k) Za5b);rw [hl] at hd;obtain ⟨hr,hl2⟩:=List.cons.inj hd;have er:r=Ba t k:=hr;have s1:=Ai0 hE hT h hc c9 hF hb;rw [V0,er];simp only [Ff];exact ⟨s1,X2 hE hT h hc hF hl2.symm c9 (Acs hE h hc c9 hb s1)⟩
theorem Aei (hE:F.Exact G) {cost:List Q} (hg:∀ q ∈ cost,G q):∀ {n k:Nat},k+n<=cost.length->match colF cost n k with
  | none=>∀ j,k<=j->j<k+n->0<=qv (at_ q0 cost j)
  | some c=>k<=c/\c<k+n/\qv (at_ q0 cost c)<0/\∀ j,k<=j->j<c->0<=qv (at_ q0 cost j)
 | 0,k,_=>fun j h1 h2=>aA
 | n+1,k,hn=>by
  have gk:=hg _ (Dy (d:=q0) (k:=k) (l:=cost) aA);have hs:=Afl (hE.pos _ gk);unfold colF;by_cases c1:sgn (at_ q0 cost k)<0
  ·rw [if_pos c1];exact ⟨Ce _,aA,hs.1 c1,fun j h1 h2=>aA⟩
  ·rw [if_neg c1];have hk:0<=qv (at_ q0 cost k):=by
    have:¬ qv (at_ q0 cost k)<0:=fun h'=>c1 (hs.2 h');grind
   have ih:=Aei hE hg (n:=n) (k:=k+1) aA;cases fe:colF cost n (k+1) with
   | none =>
    rw [fe] at ih;intro j h1 h2;by_cases e:j=k
    ·subst e; exact hk
    ·exact ih j aA aA
   | some c =>
    rw [fe] at ih;obtain ⟨i1,i2,i3,i4⟩:=ih;refine ⟨aA,aA,i3,fun j h1 h2=>?_⟩;by_cases e:j=k
    ·subst e; exact hk
    ·exact i4 j aA h2
def Safe (F:Fld) (G:Q->Prop) (m N L:Nat) (t0:Simp.Tab):Prop :=
 F.stop=true\/∃ fit,F.Total G fit/\∀ K (R:Simp.Run m N L K),R.t 0=t0->(∀ c,c<L->Ji fit m N c (R.t K))/\∀ r s,r<m->s<N->(R.t K).T r s≠0->Td fit m N (R.t K) r s
def Aju (F:Fld) (G:Q->Prop) (m N L:Nat) (t0:Simp.Tab) (b:Bool) (t':Tb):Prop :=
 (F.stop=true/\t'.fl=true)\/(t'.fl=false/\TOk G m N t'/\∃ K,∃ R:Simp.Run m N L K,R.t 0=t0/\R.t K=tabV t'/\(b=true->∀ j,j<L->0<=(tabV t').c j)/\(b=false->∃ s,s<L/\(tabV t').c s<0/\∀ i,i<m->(tabV t').T i s<=0))
theorem TOk.flag {t:Tb} (h:TOk G m N t) (f:Bool):TOk G m N { t with fl:=f }:=⟨h.rows,h.basis,h.cost,h.rowW,h.okr,h.okc⟩
theorem Nf {n:Nat} {t:Tb} (h1:F.stop=true) (h2:t.fl=true):Gp F (n+1) t=some (true,t):=by
 rw [Gp,h1,h2]; rfl
theorem Zi (hE:F.Exact G) {t0:Simp.Tab} (hs:Safe F G m N L t0):∀ (n:Nat) {K:Nat} (R:Simp.Run m N L K) {t:Tb},R.t 0=t0->R.t K=tabV t->TOk G m N t->t.real=L->t.fl=false->N ^ m+1<=n+K->∃ b t',Gp F n t=some (b,t')/\Aju F G m N L t0 b t'
 | 0,K,R,t,h0,hK,ht,hL,hfl,hn=>by have:=R.short; omega
 | n+1,K,R,t,h0,hK,ht,hL,hfl,hn=>by
  have a3n:=R.short;have hLN:=R.LN;have fe:=Aei hE ht.okc (n:=t.real) (k:=0) fF;have e0:¬ (F.stop && t.fl)=true:=by rw [hfl]; simp
  rw [Gp,if_neg e0];cases hc:colF t.cost t.real 0 with
  | none =>
   rw [hc] at fe;refine ⟨true,t,rfl,.inr ⟨hfl,ht,K,R,h0,hK,fun _ j hj=>fe j (Cl _) aA,fun h=>aR⟩⟩
  | some c =>
   rw [hc] at fe;obtain ⟨-,hcL,hneg,x5⟩:=fe;simp only;have hcN:c<N+1:=aA
   have i8:B0 F t c=Dd F t.basis c (N+1) 0 t.rows none:=by unfold B0; rw [ht.cost]
   have c8:L6 G N c (tabV t) 0 none:=fun i hi=>aA
   cases hle:B0 F t c with
   | mk o f =>
   have hlx:f=false->L6 G N c (tabV t) m o:=fun hf=>by
    have:=Acr hE ht hcN (l:=t.rows) (k:=0) (b:=none) rfl (Cl _) c8 (by rw [<- i8,hle]; exact hf);rw [<- i8,hle] at this;exact this
   have hlf:F.stop=false->f=false:=fun aj=>by
    rcases hs with hs|⟨fit,hT,hs⟩
    ·rw [hs] at aj; cases aj
    ·have:=X2 hE hT ht hcN (by rw [<- hK]; exact (hs K R h0).1 c aA) (l:=t.rows) (k:=0) (b:=none) rfl (Cl _) c8;rw [<- i8,hle] at this;exact this
   cases o with
   | none =>
    simp only;refine ⟨false,_,rfl,?_⟩;cases f with
    | true =>
     cases aj:F.stop with
     | true=>exact .inl ⟨aj,by simp⟩
     | false=>have:=hlf aj; cases this
    | false =>
     refine .inr ⟨by simp [hfl],ht.flag _,K,R,h0,hK,fun h=>aR,fun _=>⟨c,aA,hneg,hlx rfl⟩⟩
   | some p =>
    obtain ⟨i,q⟩:=p;simp only;have a2e:F.stop=true->(Dm F { t with fl:=t.fl || f } i c).fl=true->∃ b t',Gp F n (Dm F { t with fl:=t.fl || f } i c)=some (b,t')/\Aju F G m N L t0 b t':=fun h1 h2=>by
     obtain ⟨n',rfl⟩:∃ n',n=n'+1:=⟨n - 1,aA⟩;exact ⟨true,_,Nf h1 h2,.inl ⟨h1,h2⟩⟩
    cases f with
    | true =>
     cases aj:F.stop with
     | true=>exact a2e aj (by simp [Dm])
     | false=>have:=hlf aj; cases this
    | false =>
     obtain ⟨l1,l2,l3,l4,l5⟩:=hlx rfl;have ht':=ht.flag (t.fl || false);have h0':(tabV { t with fl:=t.fl || false }).T i c≠0:=by
      show (tabV t).T i c≠0;grind
     have ll:Simp.Step m N L (R.t K) i c:=by
      exact Ya1g
     cases hpf:(Dm F { t with fl:=t.fl || false } i c).fl with
     | true =>
      cases aj:F.stop with
      | true=>exact a2e aj hpf
      | false =>
       rcases hs with hs|⟨fit,hT,hs⟩
       ·rw [hs] at aj; cases aj
       ·have:=Yb hE hT ht' l1 hcN h0' (by simp [hfl]) (by
         show Td fit m N (tabV t) i c;rw [<- hK];exact (hs K R h0).2 i c l1 aA (by rw [hK]; exact h0'))
        rw [hpf] at this; cases this
     | false =>
      obtain ⟨x1,x2⟩:=Ac9 hE ht' l1 hcN h0' hpf;refine Zi hE hs n (R.more ll) (t:=Dm F { t with fl:=t.fl || false } i c) ?_ ?_ x1 hL hpf aA
      ·rw [R.more_old ll (Cl _)]; exact h0
      ·rw [R.more_last ll,x2,hK]; rfl
end
def Ints (m N M Mc:Nat) (t0:Simp.Tab):Prop:=(∀ i j,i<m->j<N+1->∃ z:Int,t0.T i j=((z:Int):Rat)/\z.natAbs<=M)/\∀ j,j<N+1->∃ z:Int,t0.c j=((z:Int):Rat)/\z.natAbs<=Mc
structure Reach (m N:Nat) (t0 t:Simp.Tab):Prop where
 fit:Simp.Fit m N t
 ker:∀ x,Simp.Ker m N t0 x->Simp.Ker m N t x
 cost:∀ x,Simp.Ker m N t0 x->Simp.dot N t.c x=Simp.dot N t0.c x
def bndX (m M Mc:Nat):Nat:=(2*((m+1)*M)) ^ m+(m+1)*(Mc*(2*((m+1)*M)) ^ m)
section
variable {m N L M Mc X:Nat} {t0 t:Simp.Tab}
theorem Reach.self (h:Simp.Fit m N t):Reach m N t t:=⟨h,fun _ h=>h,fun _ _=>rfl⟩
theorem Reach.piv (h:Reach m N t0 t) {r s:Nat} (hr:r<m) (hs:s<N) (hp:t.T r s≠0):Reach m N t0 (Simp.piv t r s) :=
 ⟨Simp.piv_fit h.fit hr hs hp,fun x hx=>(Simp.piv_ker hr hp x).2 (h.ker x hx),fun x hx=>by rw [Simp.piv_cost hr (h.ker x hx)]; exact h.cost x hx⟩
theorem Reach.run {K:Nat} (R:Simp.Run m N L K):Reach m N (R.t 0) (R.t K) :=
 ⟨R.fits K (Ce _),fun x hx=>(R.ker (Cl _) (Ce _) x).2 hx,fun x hx=>R.cost (Cl _) (Ce _) hx⟩
theorem Hv (hM:1<=M) (hI:Ints m N M Mc t0) (h:Reach m N t0 t) {j:Nat} (hj:j<N+1) :
  ∃ y0:Int,y0≠0/\y0.natAbs<=bndX m M Mc/\(∀ i,i<m->∃ y:Int,t.T i j=((y:Int):Rat) / ((y0:Int):Rat)/\y.natAbs<=bndX m M Mc)/\∃ w:Int,t.c j=((w:Int):Rat) / ((y0:Int):Rat)/\w.natAbs<=bndX m M Mc:=by
 obtain ⟨hI1,zu⟩:=hI;obtain ⟨a,ha⟩:∃ a:Nat->Nat->Int,∀ i j,i<m->j<N+1->t0.T i j=((a i j:Int):Rat)/\(a i j).natAbs<=M :=
  ⟨fun i j=>if h:i<m/\j<N+1 then Classical.choose (hI1 i j h.1 h.2) else 0,fun i j hi hj=>by
   dsimp only; rw [dif_pos ⟨hi,hj⟩]; exact jS (hI1 i j hi hj)⟩
 obtain ⟨a0,ui⟩:∃ a0:Nat->Int,∀ j,j<N+1->t0.c j=((a0 j:Int):Rat)/\(a0 j).natAbs<=Mc :=
  ⟨fun j=>if h:j<N+1 then Classical.choose (zu j h) else 0,fun j hj=>by
   dsimp only; rw [dif_pos hj]; exact jS (zu j hj)⟩
 obtain ⟨y0,h1,h2,h3,w,h4,h5⟩:=Simp.small hM ha ui h.fit h.ker h.cost hj;refine ⟨y0,h1,Fs h2 (Ia _ _),fun i hi=>?_,w,h4,Fs h5 (Nat.le_add_left _ _)⟩;obtain ⟨y,e1,e2⟩:=h3 i hi;exact ⟨y,e1,Fs e2 (Ia _ _)⟩
theorem Amd {a b:Nat} (h:a<=X) (hb:b<=X):a*b<=X*X:=Iv h hb
theorem Pc {n d:Int} (hd:d≠0) (h1:n.natAbs<=X) (h2:d.natAbs<=X) (hX:2*(X*X)<10000 ^ 200):Hc (((n:Int):Rat) / ((d:Int):Rat)):=by
 have h3:X<=X*X:=Nat.le_mul_self X;exact ⟨n,d,hd,rfl,aA,aA⟩
theorem Alu {n d n' d':Int} (hd:d≠0) (ip:d'≠0) (h1:n.natAbs<=X) (h2:d.natAbs<=X) (h3:n'.natAbs<=X) (h4:d'.natAbs<=X) (hX:2*(X*X)<10000 ^ 200):Hc (((n:Int):Rat) / ((d:Int):Rat)*(((n':Int):Rat) / ((d':Int):Rat))):=by
 have k1:=Amd h1 h3;have k2:=Amd h2 h4;refine ⟨n*n',d*d',Il hd ip,?_,?_,?_⟩
 ·rw [C7,C7]; exact (Kk (Gk hd) (Gk ip)).symm
 ·rw [Ii]; omega
 ·rw [Ii]; omega
theorem Alv {n d n' d':Int} (hd:d≠0) (ip:d'≠0) (h1:n.natAbs<=X) (h2:d.natAbs<=X) (h3:n'.natAbs<=X) (h4:d'.natAbs<=X) (hX:2*(X*X)<10000 ^ 200):Hc (((n:Int):Rat) / ((d:Int):Rat) - ((n':Int):Rat) / ((d':Int):Rat)):=by
 have k1:=Amd h1 h4;have k2:=Amd h3 h2;have k3:=Amd h2 h4;refine ⟨n*d' - n'*d,d*d',Il hd ip,?_,?_,?_⟩
 ·rw [Tm,C7,C7,C7]; exact (Tq (Gk hd) (Gk ip)).symm
 ·have:=Int.natAbs_sub_le (n*d') (n'*d);rw [Ii,Ii] at this;omega
 ·rw [Ii]; omega
theorem Jm (hM:1<=M) (hI:Ints m N M Mc t0) (hX:2*(bndX m M Mc*bndX m M Mc)<10000 ^ 200) (h:Reach m N t0 t) {r s:Nat} (hr:r<m) (hs:s<N) (hp:t.T r s≠0):Td Hc m N t r s:=by
 have hq:=h.piv hr hs hp;have e1:∀ j,(Simp.piv t r s).T r j=t.T r j / t.T r s:=fun j=>if_pos rfl;have e2:∀ i j,i≠r->(Simp.piv t r s).T i j=t.T i j - t.T i s*(t.T r j / t.T r s):=fun i j hi=>if_neg hi;have e3:∀ j,(Simp.piv t r s).c j=t.c j - t.c s*(t.T r j / t.T r s):=fun j=>rfl;obtain ⟨z0,c1,c2,c3,w,c4,c5⟩:=Hv hM hI h (j:=s) aA;refine ⟨fun j hj=>?_,fun i j hi hj=>?_,fun i j hi hj yx=>?_,fun j hj=>?_,fun j hj=>?_⟩;all_goals obtain ⟨y0,b1,b2,b3,u,b4,b5⟩:=Hv hM hI hq hj
 ·obtain ⟨y,y1,y2⟩:=b3 r hr;rw [e1] at y1;rw [y1]; exact Pc b1 y2 b2 hX
 ·obtain ⟨y,y1,y2⟩:=b3 r hr;obtain ⟨z,z1,z2⟩:=c3 i hi;rw [e1] at y1;rw [y1,z1]; exact Alu c1 b1 z2 c2 y2 b2 hX
 ·obtain ⟨y,y1,y2⟩:=b3 i hi;rw [e2 i j yx] at y1;rw [y1]; exact Pc b1 y2 b2 hX
 ·obtain ⟨y,y1,y2⟩:=b3 r hr;rw [e1] at y1;rw [y1,c4]; exact Alu c1 b1 c5 c2 y2 b2 hX
 ·rw [e3] at b4;rw [b4]; exact Pc b1 b5 b2 hX
theorem Hm (hM:1<=M) (hI:Ints m N M Mc t0) (hX:2*(bndX m M Mc*bndX m M Mc)<10000 ^ 200) (h:Reach m N t0 t) {c:Nat} (hc:c<N):Ji Hc m N c t:=by
 have key:∀ i,i<m->0<t.T i c->∃ y y0:Int,y0≠0/\y.natAbs<=bndX m M Mc/\y0.natAbs<=bndX m M Mc/\t.T i N / t.T i c=((y:Int):Rat) / ((y0:Int):Rat):=fun i hi hp=>by
  have hq:=h.piv hi hc aL;obtain ⟨y0,b1,b2,b3,-⟩:=Hv hM hI hq (j:=N) aA;obtain ⟨y,y1,y2⟩:=b3 i hi;have e1:(Simp.piv t i c).T i N=t.T i N / t.T i c:=if_pos rfl;exact ⟨y,y0,b1,y2,b2,by rw [<- e1,y1]⟩
 refine ⟨fun i hi hp=>?_,fun i k hi hk hp hq=>?_⟩
 ·obtain ⟨y,y0,a1,a2,a3,a4⟩:=key i hi hp;rw [a4]; exact Pc a1 a2 a3 hX
 ·obtain ⟨y,y0,a1,a2,a3,a4⟩:=key i hi hp;obtain ⟨z,z0,b1,b2,b3,b4⟩:=key k hk hq;rw [a4,b4]; exact Alv a1 b1 a2 a3 b2 b3 hX
theorem Aty (hM:1<=M) (hI:Ints m N M Mc t0) (hX:2*(bndX m M Mc*bndX m M Mc)<10000 ^ 200):Safe WW.qF gW m N L t0:=by
 refine .inr ⟨Hc,H0,fun K R h0=>?_⟩;exact Ya1k
theorem Atx:Safe QQ.qF okS m N L t0:=.inl rfl
end
def Mh (u:Rat) (vars:List ByteArray):List (ByteArray × Int)->(Nat->Rat)->Nat->Rat
 | [],f=>f
 | c :: cs,f=>Mh u vars cs fun j=>if j=2*idxV vars c.1+1 then -(u*((c.2:Int):Rat)) else if j=2*idxV vars c.1 then u*((c.2:Int):Rat) else f j
theorem Nc {u:Rat} {vars:List ByteArray} {k:Nat} : ∀ {cs:List (ByteArray × Int)} {f:Nat->Rat},(∀ c ∈ cs,idxV vars c.1≠k)->Mh u vars cs f (2*k)=f (2*k)/\Mh u vars cs f (2*k+1)=f (2*k+1)
 | [],_,_=>⟨rfl,rfl⟩
 | c :: cs,f,h=>by
  have h1:=h c (Cs ..);have ih:=Nc (u:=u) (cs:=cs) (f:=fun j=>if j=2*idxV vars c.1+1 then -(u*((c.2:Int):Rat)) else if j=2*idxV vars c.1 then u*((c.2:Int):Rat) else f j) fun c' hc=>h c' (Cp _ hc);rw [Mh,ih.1,ih.2];exact ⟨Za75,Za75⟩
theorem Xs {u:Rat} {vars:List ByteArray} {c:ByteArray × Int} : ∀ {cs:List (ByteArray × Int)} {f:Nat->Rat},(cs.map fun c=>idxV vars c.1).Pairwise (·≠·)->c ∈ cs->Mh u vars cs f (2*idxV vars c.1)=u*((c.2:Int):Rat)/\Mh u vars cs f (2*idxV vars c.1+1)=-(u*((c.2:Int):Rat))
 | [],_,_,h=>aR
 | c' :: cs,f,hp,h=>by
  rw [Ct,Ie] at hp;rw [Mh];rcases Cv.1 h with rfl|h
  ·have:=Nc (u:=u) (vars:=vars) (k:=idxV vars c.1) (cs:=cs) (f:=fun j=>if j=2*idxV vars c.1+1 then -(u*((c.2:Int):Rat)) else if j=2*idxV vars c.1 then u*((c.2:Int):Rat) else f j) fun c' hc=>(hp.1 _ (Ft.2 ⟨c',hc,rfl⟩)).symm;rw [this.1,this.2];exact ⟨by rw [if_neg aA,if_pos rfl],by rw [if_pos rfl]⟩
  ·exact Xs hp.2 h
theorem P4 {u:Rat} {vars:List ByteArray} {j:Nat} : ∀ {cs:List (ByteArray × Int)} {f:Nat->Rat},(∀ c ∈ cs,c.1 ∈ vars)->2*vars.length<=j->Mh u vars cs f j=f j
 | [],_,_,_=>rfl
 | c :: cs,f,h,hj=>by
  have h1:=(Kf (h c (Cs ..))).2;rw [Mh,P4 (fun c' hc=>h c' (Cp _ hc)) hj,if_neg aA,if_neg aA]
def cofI (vars:List ByteArray):List (ByteArray × Int)->Nat->Int
 | [],_=>0
 | c :: cs,k=>if idxV vars c.1=k then c.2 else cofI vars cs k
theorem Vb {vars:List ByteArray} {k:Nat} : ∀ {cs:List (ByteArray × Int)},(∀ c ∈ cs,idxV vars c.1≠k)->cofI vars cs k=0
 | [],_=>rfl
 | c :: cs,h=>by rw [cofI,if_neg (h c (Cs ..))]; exact Vb fun c' hc=>h c' (Cp _ hc)
theorem Abu {vars:List ByteArray} {c:ByteArray × Int} : ∀ {cs:List (ByteArray × Int)},(cs.map fun c=>idxV vars c.1).Pairwise (·≠·)->c ∈ cs->cofI vars cs (idxV vars c.1)=c.2
 | [],_,h=>aR
 | c' :: cs,hp,h=>by
  rw [Ct,Ie] at hp;rcases Cv.1 h with rfl|h
  ·rw [cofI,if_pos rfl]
  ·rw [cofI,if_neg (hp.1 _ (Ft.2 ⟨c,h,rfl⟩))];exact Abu hp.2 h
theorem Zf {vars:List ByteArray} {k:Nat} : ∀ {cs:List (ByteArray × Int)},cofI vars cs k=0\/∃ c ∈ cs,c.2=cofI vars cs k/\idxV vars c.1=k
 | []=>.inl rfl
 | c :: cs=>by
  rw [cofI];split
  ·rename_i h; exact .inr ⟨c,Cs ..,rfl,h⟩
  ·rcases Zf (vars:=vars) (k:=k) (cs:=cs) with h|⟨c',h1,h2,h3⟩
   ·exact .inl h
   ·exact .inr ⟨c',Cp _ h1,h2,h3⟩
theorem Hh {u:Rat} {vars:List ByteArray} {cs:List (ByteArray × Int)} (hp:(cs.map fun c=>idxV vars c.1).Pairwise (·≠·)) (k:Nat):Mh u vars cs (fun _=>0) (2*k)=u*((cofI vars cs k:Int):Rat)/\Mh u vars cs (fun _=>0) (2*k+1)=-(u*((cofI vars cs k:Int):Rat)):=by
 by_cases h:∃ c ∈ cs,idxV vars c.1=k
 ·obtain ⟨c,hc,rfl⟩:=h;rw [Abu hp hc];exact Xs hp hc
 ·have h':∀ c ∈ cs,idxV vars c.1≠k:=fun c hc e=>h ⟨c,hc,e⟩;rw [Vb h',(Nc h').1,(Nc h').2,Sv];exact ⟨aL,aL⟩
section
variable {F:Fld} {G:Q->Prop} {fit:Rat->Prop}
theorem Z4 {l:List Q} {i j:Nat} {x y q:Q} (hl:∀ q ∈ l,G q) (hx:G x) (hy:G y) (h:q ∈ put (put l i x) j y):G q:=by
 rcases Jc h with rfl|h
 ·exact hy
 ·rcases Jc h with rfl|h
  ·exact hx
  ·exact hl q h
theorem Abt (hE:F.Exact G) {u z:Q} {vars:List ByteArray} (hu:G u) (hz:G z) (hz0:qv z=0):∀ {cs:List (ByteArray × Int)} {row:List Q} {f:Nat->Rat},(∀ c ∈ cs,i64 c.2/\c.1 ∈ vars)->2*vars.length<=row.length->(∀ q ∈ row,G q)->(∀ j,qv (at_ q0 row j)=f j)->(coefsC F u z vars cs row).2=false ->
  (coefsC F u z vars cs row).1.length=row.length/\(∀ q ∈ (coefsC F u z vars cs row).1,G q)/\∀ j,qv (at_ q0 (coefsC F u z vars cs row).1 j)=Mh (qv u) vars cs f j
 | [],row,f,_,_,hg,hf,_=>⟨rfl,hg,hf⟩
 | c :: cs,row,f,hc,hl,hg,hf,hfl=>by
  obtain ⟨hi,hm⟩:=hc c (Cs ..);have j4:=(Kf hm).2;simp only [coefsC,setC,Ff] at hfl;obtain ⟨⟨⟨f1,f2⟩,f3⟩,f4⟩:=hfl;have w:=hE.whole c.2 hi f1;have t:=hE.times u _ hu w.1 f2;have d:=hE.minus z _ hz t.1 f3;have ih:=Abt hE hu hz hz0 (cs:=cs) (row:=put (put row (2*idxV vars c.1) (F.times u (F.whole c.2).1).1) (2*idxV vars c.1+1) (F.minus z (F.times u (F.whole c.2).1).1).1)
   (f:=fun j=>if j=2*idxV vars c.1+1 then -(qv u*((c.2:Int):Rat)) else if j=2*idxV vars c.1 then qv u*((c.2:Int):Rat) else f j)
   (fun c' h=>hc c' (Cp _ h)) (by rw [Aj,Aj]; exact hl) (fun q h=>Z4 hg t.1 d.1 h) (fun j=>by
    rw [Kz fT,Kz aA];split
    ·rw [d.2,t.2,w.2,hz0]; grind
    ·split
     ·rw [t.2,w.2]
     ·exact hf j) f4
  rw [Aj,Aj] at ih;exact ih
theorem Xr (hE:F.Exact G) (hT:F.Total G fit) {u z:Q} {vars:List ByteArray} (hu:G u) (hz:G z) (hz0:qv z=0):∀ {cs:List (ByteArray × Int)} {row:List Q},(∀ c ∈ cs,i64 c.2/\fit (qv u*((c.2:Int):Rat))/\fit (0 - qv u*((c.2:Int):Rat)))->(coefsC F u z vars cs row).2=false
 | [],_,_=>rfl
 | c :: cs,row,hc=>by
  obtain ⟨hi,h1,h2⟩:=hc c (Cs ..);have f1:=hT.whole c.2 hi;have w:=hE.whole c.2 hi f1;have f2:=hT.times u _ hu w.1 (by rw [w.2]; exact h1);have t:=hE.times u _ hu w.1 f2;have f3:=hT.minus z _ hz t.1 (by rw [t.2,w.2,hz0]; exact h2);simp only [coefsC,setC,Ff];exact ⟨⟨⟨f1,f2⟩,f3⟩,Xr hE hT hu hz hz0 fun c' h=>hc c' (Cp _ h)⟩
def sgR (r:RowT):Rat:=if 0<r.2.1 then -1 else 1
def rowR (vars:List ByteArray) (real W i slack:Nat) (r:RowT) (j:Nat):Rat :=
 if j=W - 1 then -(sgR r*((r.2.1:Int):Rat)) else if j=real+i then 1 else if r.2.2=false/\j=slack then sgR r else Mh (sgR r) vars r.1 (fun _=>0) j
theorem Akw {z:Q} (hz:qv z=0) {n j:Nat} : qv (at_ q0 (Cf n z) j)=0:=by
 by_cases h:j<n
 ·have:at_ q0 (Cf n z) j=z:=by
   unfold at_;rw [Ag,jD,if_pos h]; rfl
  rw [this,hz]
 ·rw [Abh Za59,Tx]
theorem Aic (hE:F.Exact G) {r:RowT} (hf:(Lg F (Eg r)).2=false):G (Lg F (Eg r)).1/\qv (Lg F (Eg r)).1=sgR r:=by
 unfold Lg Eg sgR at *;by_cases h:0<r.2.1
 ·simp only [decide_eq_true_eq,h,if_true,Ff] at hf ⊢;have:=hE.whole (-1) aC hf.2;exact ⟨this.1,this.2.trans rfl⟩
 ·simp only [decide_eq_true_eq,h,if_false] at hf ⊢;have:=hE.whole 1 aC hf;exact ⟨this.1,this.2.trans rfl⟩
theorem Aoj (hT:F.Total G fit) {b:Bool} : (Lg F b).2=false:=by
 unfold Lg;split
 ·simp only [hT.whole 1 aC,hT.whole (-1) aC]; rfl
 ·exact hT.whole 1 aC
theorem Anp (hE:F.Exact G) {z:Q} {vars:List ByteArray} (hz:G z) (hz0:qv z=0) {real W i slack:Nat} {r:RowT} (hi:i64 r.2.1) (hc:∀ c ∈ r.1,i64 c.2/\c.1 ∈ vars) (hv:2*vars.length<=real) (bl:real+i<W - 1) (hs:r.2.2=false->slack<W) (hf:(rowF F z vars real W i slack r).2=false) :
  (rowF F z vars real W i slack r).1.length=W/\(∀ q ∈ (rowF F z vars real W i slack r).1,G q)/\∀ j,qv (at_ q0 (rowF F z vars real W i slack r).1 j)=rowR vars real W i slack r j:=by
 simp only [rowF,Vy,Ff] at hf;obtain ⟨⟨⟨f1,f2⟩,f3⟩,⟨f4,f5⟩,f6⟩:=hf;obtain ⟨gu,eu⟩:=Aic hE f1;obtain ⟨a1,a2,a3⟩:=Abt hE gu hz hz0 (f:=fun _=>0) hc Za59 (fun q h=>by rw [(Ix.1 h).2]; exact hz) (fun j=>Akw hz0) f2;rw [I1] at a1;have o:=hE.whole 1 aC f3;have w:=hE.whole _ hi f4;have t:=hE.times _ _ gu w.1 f5;have d:=hE.minus z _ hz t.1 f6;have hsl:(Rc r.2.2 (coefsC F (Lg F (Eg r)).1 z vars r.1 (Cf W z)).1 slack (Lg F (Eg r)).1).length=W/\(∀ q ∈ Rc r.2.2 (coefsC F (Lg F (Eg r)).1 z vars r.1 (Cf W z)).1 slack (Lg F (Eg r)).1,G q)/\∀ j,qv (at_ q0 (Rc r.2.2 (coefsC F (Lg F (Eg r)).1 z vars r.1 (Cf W z)).1 slack (Lg F (Eg r)).1) j)=if r.2.2=false/\j=slack then sgR r else Mh (sgR r) vars r.1 (fun _=>0) j:=by
  unfold Rc;cases he:r.2.2 with
  | true =>
   rw [if_pos rfl];exact ⟨a1,a2,fun j=>by rw [if_neg (by simp),a3,eu]⟩
  | false =>
   rw [if_neg (by simp)];refine ⟨by rw [Aj]; exact a1,fun q h=>?_,fun j=>?_⟩
   ·rcases Jc h with rfl|h
    ·exact gu
    ·exact a2 q h
   ·rw [Kz (by rw [a1]; exact hs he)];by_cases e:j=slack
    ·rw [if_pos e,if_pos ⟨rfl,e⟩,eu]
    ·rw [if_neg e,if_neg (fun h=>e h.2),a3,eu]
 obtain ⟨b1,b2,b3⟩:=hsl;refine ⟨?_,fun q h=>Z4 b2 o.1 d.1 h,fun j=>?_⟩
 ·show (put (put _ _ _) _ _).length=W;rw [Aj,Aj]; exact b1
 ·show qv (at_ q0 (put (put _ _ _) _ _) j)=_;rw [Kz (by rw [Aj,b1]; omega),Kz (by rw [b1]; omega)];unfold rowR;by_cases e1:j=W - 1
  ·rw [if_pos e1,if_pos e1];show qv (F.minus z (F.times (Lg F (Eg r)).1 (F.whole r.2.1).1).1).1=_;rw [d.2,t.2,w.2,eu,hz0]; grind
  ·rw [if_neg e1,if_neg e1];by_cases e2:j=real+i
   ·rw [if_pos e2,if_pos e2,o.2]; rfl
   ·rw [if_neg e2,if_neg e2,b3]
theorem Aqv (hE:F.Exact G) (hT:F.Total G fit) {z:Q} {vars:List ByteArray} (hz:G z) (hz0:qv z=0) {real W i slack:Nat} {r:RowT} (hi:i64 r.2.1) (hc:∀ c ∈ r.1,i64 c.2/\fit (sgR r*((c.2:Int):Rat))/\fit (0 - sgR r*((c.2:Int):Rat))) (hn:fit (sgR r*((r.2.1:Int):Rat))/\fit (0 - sgR r*((r.2.1:Int):Rat))):(rowF F z vars real W i slack r).2=false:=by
 have f1:=Aoj hT (b:=Eg r);obtain ⟨gu,eu⟩:=Aic hE f1;have f2:=Xr hE hT gu hz hz0 (vars:=vars) (cs:=r.1) (row:=Cf W z) (by rw [eu]; exact hc);have f3:=hT.whole 1 aC;have f4:=hT.whole _ hi;have w:=hE.whole _ hi f4;have f5:=hT.times _ _ gu w.1 (by rw [w.2,eu]; exact hn.1);have t:=hE.times _ _ gu w.1 f5;have f6:=hT.minus z _ hz t.1 (by rw [t.2,w.2,eu,hz0]; exact hn.2);simp only [rowF,Vy,Ff];exact ⟨⟨⟨f1,f2⟩,f3⟩,⟨f4,f5⟩,f6⟩
theorem Agl (hE:F.Exact G) {real W:Nat} : ∀ {c r:List Q} {k:Nat},c.length=r.length->(∀ q ∈ c,G q)->(∀ q ∈ r,G q)->(costL F real W k c r).2=false->(∀ q ∈ (costL F real W k c r).1,G q)/\∀ j,qv (at_ q0 (costL F real W k c r).1 j)=if k+j<real\/k+j=W - 1 then qv (at_ q0 c j) - qv (at_ q0 r j) else qv (at_ q0 c j)
 | [],[],_,_,_,_,_=>⟨fun q h=>aR,fun j=>by simp only [costL,Pw,Tx]; split <;> grind⟩
 | [],_ :: _,_,h,_,_,_=>aN
 | _ :: _,[],_,h,_,_,_=>aN
 | a :: c,b :: r,k,h,hc,hr,hf=>by
  have hx:(Kq F real W k a b).2=false/\(costL F real W (k+1) c r).2=false:=by simpa [costL] using hf
  have ih:=Agl hE aM (fun q h=>hc q (Cp _ h)) (fun q h=>hr q (Cp _ h)) hx.2;have hs:G (Kq F real W k a b).1/\qv (Kq F real W k a b).1=if k<real\/k=W - 1 then qv a - qv b else qv a:=by
   have h1:=hx.1;unfold Kq at h1 ⊢;split
   ·rename_i hk;rw [if_pos hk] at h1;exact hE.minus a b (hc a (Cs ..)) (hr b (Cs ..)) h1
   ·exact ⟨hc a (Cs ..),rfl⟩
  refine ⟨fun q h=>?_,fun j=>?_⟩
  ·rcases Cv.1 h with rfl|h
   ·exact hs.1
   ·exact ih.1 q h
  ·cases j with
   | zero=>exact hs.2
   | succ j =>
    have:=ih.2 j;rw [show k+1+j=k+(j+1) by omega] at this;exact this
theorem Aby (hT:F.Total G fit) {real W:Nat} : ∀ {c r:List Q} {k:Nat},(∀ q ∈ c,G q)->(∀ q ∈ r,G q)->(∀ j,fit (qv (at_ q0 c j) - qv (at_ q0 r j)))->(costL F real W k c r).2=false
 | [],_,_,_,_,_=>by simp [costL]
 | _ :: _,[],_,_,_,_=>rfl
 | a :: c,b :: r,k,hc,hr,hf=>by
  have ih:=Aby hT (c:=c) (r:=r) (k:=k+1) (real:=real) (W:=W) (fun q h=>hc q (Cp _ h)) (fun q h=>hr q (Cp _ h)) fun j=>hf (j+1);have hs:(Kq F real W k a b).2=false:=by
   unfold Kq;split
   ·exact hT.minus a b (hc a (Cs ..)) (hr b (Cs ..)) (hf 0)
   ·rfl
  show ((Kq F real W k a b).2 || (costL F real W (k+1) c r).2)=false;rw [hs,ih]; rfl
end
def rowX (vars:List ByteArray) (real W:Nat) (l:List RowT) (i j:Nat):Rat :=
 match nth l i with
 | some r=>rowR vars real W i (2*vars.length+neqs (l.take i)) r j
 | none=>0
theorem Ahx {vars:List ByteArray} {real W:Nat} {l:List RowT} {r:RowT} {i j:Nat} (h:i<l.length):rowX vars real W (l++[r]) i j=rowX vars real W l i j:=by
 unfold rowX;rw [Ag,Ag,C3 h,Oo aA]
theorem Ahw {vars:List ByteArray} {real W:Nat} {l:List RowT} {r:RowT} {j:Nat} : rowX vars real W (l++[r]) l.length j=rowR vars real W l.length (2*vars.length+neqs l) r j:=by
 unfold rowX;rw [Ag,Fc (Ce _),Ol,Oo (Ce _),Fm]; rfl
theorem Jl:∀ {l l':List RowT},neqs (l++l')=neqs l+neqs l'
 | [],l'=>by simp [neqs]
 | r :: l,l'=>by rw [Cn,neqs,neqs,Jl]; omega
theorem Akx {α:Type} {d x:α} {l:List α} {i:Nat} : at_ d (l++[x]) i=if i=l.length then x else at_ d l i:=by
 unfold at_;by_cases e:i=l.length
 ·subst e; rw [if_pos rfl,Ag,Fc (Ce _),Ol]; rfl
 ·rw [if_neg e];by_cases h:i<l.length
  ·rw [Ag,Ag,C3 h]
  ·rw [Ag,Ag,Cu aD,Cu aA]
structure BInv (G:Q->Prop) (vars:List ByteArray) (real W:Nat) (done:List RowT) (t:Tb):Prop where
 nr:t.rows.length=done.length
 nb:t.basis.length=done.length
 nc:t.cost.length=W
 rowW:∀ r ∈ t.rows,r.length=W
 okr:∀ r ∈ t.rows,∀ q ∈ r,G q
 okc:∀ q ∈ t.cost,G q
 vals:∀ i,i<done.length->∀ j,qv (at_ q0 (Ba t i) j)=rowX vars real W done i j
 costs:∀ j,qv (at_ q0 t.cost j)=if j<real\/j=W - 1 then - Simp.sum done.length (fun i=>rowX vars real W done i j) else 0
 bas:∀ i,i<done.length->at_ 0 t.basis i=real+i
 flips:t.flip=done.map Eg
structure En (vars:List ByteArray) (r:RowT):Prop where
 c64:i64 r.2.1
 n64:∀ c ∈ r.1,i64 c.2
 mem:∀ c ∈ r.1,c.1 ∈ vars
 dis:(r.1.map fun c=>idxV vars c.1).Pairwise (·≠·)
section
variable {F:Fld} {G:Q->Prop} {fit:Rat->Prop} {vars:List ByteArray} {real W:Nat} {z:Q}
theorem BInv.step (hE:F.Exact G) (hz:G z) (hz0:qv z=0) {done:List RowT} {t:Tb} (h:BInv G vars real W done t) {r:RowT} (hr:En vars r) (hv:2*vars.length<=real) (bl:real+done.length<W - 1) (hs:r.2.2=false->2*vars.length+neqs done<real)
  (ha:(rowF F z vars real W done.length (2*vars.length+neqs done) r).2=false) (hcf:(costL F real W 0 t.cost (rowF F z vars real W done.length (2*vars.length+neqs done) r).1).2=false) (fl:Bool) :
  BInv G vars real W (done++[r]) { t with rows:=t.rows++[(rowF F z vars real W done.length (2*vars.length+neqs done) r).1],cost:=(costL F real W 0 t.cost (rowF F z vars real W done.length (2*vars.length+neqs done) r).1).1,basis:=t.basis++[real+done.length],flip:=t.flip++[Eg r],fl:=fl }:=by
 obtain ⟨a1,a2,a3⟩:=Anp hE hz hz0 hr.c64 (fun c hc=>⟨hr.n64 c hc,hr.mem c hc⟩) hv bl (fun e=>by have:=hs e; omega) ha;obtain ⟨c1,c2⟩:=Agl hE (by rw [h.nc,a1]) h.okc a2 hcf;refine ⟨by simp [h.nr],by simp [h.nb],by rw [Zh]; exact h.nc,fun q hq=>?_,fun q hq=>?_,c1,fun i hi j=>?_,fun j=>?_,fun i hi=>?_,by simp [h.flips]⟩
 ·rcases C5.1 hq with hq|hq
  ·exact h.rowW q hq
  ·rw [Fu.1 hq]; exact a1
 ·rcases C5.1 hq with hq|hq
  ·exact h.okr q hq
  ·rw [Fu.1 hq]; exact a2
 ·show qv (at_ q0 (at_ [] (t.rows++[_]) i) j)=_;rw [Akx,h.nr];by_cases e:i=done.length
  ·subst e; rw [if_pos rfl,a3,Ahw]
  ·rw [if_neg e,Ahx cG];exact h.vals i cG j
 ·rw [c2,a3,h.costs,El];by_cases e:j<real\/j=W - 1
  ·rw [if_pos e,if_pos e,if_pos e,Cm,O3,Simp.sum,Ahw];rw [Simp.sum_congr (g:=fun i=>rowX vars real W done i j) fun i hi=>Ahx hi];grind
  ·rw [if_neg e,if_neg e,if_neg e]
 ·rw [Akx,h.nb];by_cases e:i=done.length
  ·subst e; rw [if_pos rfl]
  ·rw [if_neg e];exact h.bas i cG
theorem Aea:∀ {l:List RowT} {i sl:Nat} {t:Tb},(begS F z vars real W l i sl t).fl=false->t.fl=false
 | [],_,_,_,h=>h
 | r :: l,i,sl,t,h=>by
  rw [begS] at h;have h1:=Aea h;simp only [Ff] at h1;exact h1.1.1
theorem Akz (hE:F.Exact G) (hz:G z) (hz0:qv z=0) (hv:2*vars.length<=real):∀ {rest done:List RowT} {t:Tb},(∀ r ∈ rest,En vars r)->2*vars.length+neqs (done++rest)<=real->real+(done++rest).length<W->BInv G vars real W done t->(begS F z vars real W rest done.length (2*vars.length+neqs done) t).fl=false ->
  BInv G vars real W (done++rest) (begS F z vars real W rest done.length (2*vars.length+neqs done) t)
 | [],done,t,_,_,_,h,_=>by rw [Fy]; exact h
 | r :: rest,done,t,hr,hq,hw,h,hf=>by
  rw [begS] at hf ⊢;have h1:=Aea hf;simp only [Ff] at h1;have o5:2*vars.length+neqs done+((if r.2.2=true then 0 else 1)+neqs rest)<=real:=by rw [Jl,neqs] at hq; omega
  have hw':real+done.length+(rest.length+1)<W:=by simp at hw; omega
  have st:=h.step hE hz hz0 (hr r (Cs ..)) hv aA (fun e=>Za34) h1.1.2 h1.2 ((t.fl || (rowF F z vars real W done.length (2*vars.length+neqs done) r).2) || (costL F real W 0 t.cost (rowF F z vars real W done.length (2*vars.length+neqs done) r).1).2);have e1:(if r.2.2=true then 2*vars.length+neqs done else 2*vars.length+neqs done+1)=2*vars.length+neqs (done++[r]):=by
   rw [Jl,neqs,neqs]; split <;> omega
  have e2:done.length+1=(done++[r]).length:=by simp
  have e3:done++r :: rest=(done++[r])++rest:=by simp
  rw [e1,e2] at hf ⊢;rw [e3] at hq hw ⊢;exact Akz hE hz hz0 hv (fun r' h'=>hr r' (Cp _ h')) hq hw st hf
structure Et (M:Nat) (r:RowT):Prop where
 one:1<=M
 con:r.2.1.natAbs<=M
 cof:∀ c ∈ r.1,c.2.natAbs<=M
theorem K7 {M:Nat} (r:RowT) {n:Int} (h:n.natAbs<=M):(∃ w:Int,sgR r*((n:Int):Rat)=((w:Int):Rat)/\w.natAbs<=M)/\∃ w:Int,-(sgR r*((n:Int):Rat))=((w:Int):Rat)/\w.natAbs<=M:=by
 unfold sgR;split
 ·exact ⟨⟨-n,Za3z,aA⟩,⟨n,aL,h⟩⟩
 ·exact ⟨⟨n,aL,h⟩,⟨-n,Za3z,aA⟩⟩
theorem Ahv {M i slack:Nat} {r:RowT} (hr:En vars r) (hs:Et M r) (j:Nat):∃ w:Int,rowR vars real W i slack r j=((w:Int):Rat)/\w.natAbs<=M:=by
 have h1:=hs.one;unfold rowR;split
 ·exact (K7 r hs.con).2
 ·split
  ·exact ⟨1,rfl,aU⟩
  ·split
   ·obtain ⟨w,e,h⟩:=(K7 (M:=M) r (n:=1) aU).1;exact ⟨w,by rw [<- e,kL]; grind,h⟩
   ·have hc:∀ k,(cofI vars r.1 k).natAbs<=M:=fun k=>by
     rcases Zf (vars:=vars) (k:=k) (cs:=r.1) with h|⟨c,h2,h3,-⟩
     ·rw [h]; simp
     ·rw [<- h3]; exact hs.cof c h2
    rcases iF j with h|h
    ·have e:j=2*(j / 2):=aA
     rw [e,(Hh hr.dis _).1];exact (K7 r (hc _)).1
    ·have e:j=2*(j / 2)+1:=aA
     rw [e,(Hh hr.dis _).2];exact (K7 r (hc _)).2
theorem Aal {M:Nat} {f:Nat->Rat} : ∀ {n:Nat},(∀ i,i<n->∃ w:Int,f i=((w:Int):Rat)/\w.natAbs<=M)->∃ w:Int,Simp.sum n f=((w:Int):Rat)/\w.natAbs<=n*M
 | 0,_=>⟨0,rfl,by simp⟩
 | n+1,h=>by
  obtain ⟨w,e,hw⟩:=Aal (n:=n) fun i hi=>h i aA;obtain ⟨u,e2,hu⟩:=h n aA;exact ⟨w+u,by rw [Simp.sum,e,e2,kJ],by rw [Oa]; omega⟩
theorem Aab {M:Nat} {l:List RowT} (hl:∀ r ∈ l,En vars r/\Et M r) (i j:Nat):∃ w:Int,rowX vars real W l i j=((w:Int):Rat)/\w.natAbs<=M:=by
 unfold rowX;cases h:nth l i with
 | none=>exact ⟨0,rfl,by simp⟩
 | some r =>
  have:=hl r (Ak h);exact Ahv this.1 this.2 j
theorem Aga (hE:F.Exact G) (hT:F.Total G fit) (hz:G z) (hz0:qv z=0) (hv:2*vars.length<=real) {M B:Nat} (fj:∀ w:Int,w.natAbs<=B->fit ((w:Int):Rat)):∀ {rest done:List RowT} {t:Tb},(∀ r ∈ done++rest,En vars r/\Et M r)->((done++rest).length+1)*M<=B->2*vars.length+neqs (done++rest)<=real->real+(done++rest).length<W->BInv G vars real W done t->t.fl=false ->
  (begS F z vars real W rest done.length (2*vars.length+neqs done) t).fl=false
 | [],done,t,_,_,_,_,_,hf=>hf
 | r :: rest,done,t,hr,hB,hq,hw,h,hf=>by
  obtain ⟨r1,r2⟩:=hr r (by simp);have hM:M<=B:=Fs (jK M (Sx _)) hB;have hw':real+done.length+(rest.length+1)<W:=by simp at hw; omega
  have o5:2*vars.length+neqs done+((if r.2.2=true then 0 else 1)+neqs rest)<=real:=by rw [Jl,neqs] at hq; omega
  have fz:∀ n:Int,n.natAbs<=M->fit (sgR r*((n:Int):Rat))/\fit (0 - sgR r*((n:Int):Rat)):=fun n hn=>by
   obtain ⟨⟨w,e,hw⟩,u,e2,hu⟩:=K7 r hn;refine ⟨by rw [e]; exact fj w aA,?_⟩;rw [show (0:Rat) - sgR r*((n:Int):Rat)=-(sgR r*((n:Int):Rat)) by grind,e2];exact fj u aA
  have f1:=Aqv hE hT hz hz0 (vars:=vars) (real:=real) (W:=W) (i:=done.length) (slack:=2*vars.length+neqs done) r1.c64 (fun c hc=>⟨r1.n64 c hc,fz c.2 (r2.cof c hc)⟩) (fz _ r2.con);obtain ⟨a1,a2,a3⟩:=Anp hE hz hz0 r1.c64 (fun c hc=>⟨r1.n64 c hc,r1.mem c hc⟩) hv aA (fun e=>Za34) f1;have yi:(done.length+1)*M<=B:=Fs (F2 M (by simp)) hB;have f2:(costL F real W 0 t.cost (rowF F z vars real W done.length (2*vars.length+neqs done) r).1).2=false:=by
   refine Aby hT h.okc a2 fun j=>?_;rw [a3,h.costs];obtain ⟨u,e2,hu⟩:=Ahv (real:=real) (W:=W) (i:=done.length) (slack:=2*vars.length+neqs done) r1 r2 j;split
   ·obtain ⟨w,e,hw⟩:=Aal (M:=M) (n:=done.length) (f:=fun i=>rowX vars real W done i j) fun i _=>Aab (fun r j3=>hr r (by simp [j3])) i j;rw [e,e2];rw [show -((w:Int):Rat) - ((u:Int):Rat)=((-w - u:Int):Rat) by rw [Tm,K9]];refine fj _ ?_;rw [Oa] at yi;omega
   ·rw [e2,show (0:Rat) - ((u:Int):Rat)=((-u:Int):Rat) by rw [K9]; grind];exact fj _ aA
  have st:=h.step hE hz hz0 r1 hv aA (fun e=>Za34) f1 f2 ((t.fl || (rowF F z vars real W done.length (2*vars.length+neqs done) r).2) || (costL F real W 0 t.cost (rowF F z vars real W done.length (2*vars.length+neqs done) r).1).2);have e1:(if r.2.2=true then 2*vars.length+neqs done else 2*vars.length+neqs done+1)=2*vars.length+neqs (done++[r]):=by
   rw [Jl,neqs,neqs]; split <;> omega
  have e2:done.length+1=(done++[r]).length:=by simp
  have e3:done++r :: rest=(done++[r])++rest:=by simp
  rw [begS,e1,e2];rw [e3] at hq hw hr hB;exact Aga hE hT hz hz0 hv fj hr hB hq hw st (by simp only [hf,f1,f2]; rfl)
theorem Uy (hE:F.Exact G) {l:List RowT} (hr:∀ r ∈ l,En vars r) (hf:(Bj F l vars false).fl=false):BInv G vars (2*vars.length+neqs l) (2*vars.length+neqs l+l.length+1) l (Bj F l vars false):=by
 unfold Bj at hf ⊢;have h0:=Aea hf;simp only [Oi] at h0;have w:=hE.whole 0 aC h0;refine Akz hE w.1 w.2 (Ia _ _) (rest:=l) (done:=[]) hr (by simp) (by simp) ?_ hf;exact Ya0j
theorem Ain (hE:F.Exact G) (hT:F.Total G fit) {l:List RowT} {M B:Nat} (fj:∀ w:Int,w.natAbs<=B->fit ((w:Int):Rat)) (hr:∀ r ∈ l,En vars r/\Et M r) (hB:(l.length+1)*M<=B):(Bj F l vars false).fl=false:=by
 have h0:=hT.whole 0 aC;have w:=hE.whole 0 aC h0;unfold Bj;refine Aga hE hT w.1 w.2 (Ia _ _) fj (rest:=l) (done:=[]) hr hB (by simp) (by simp) ?_ (by simp only [h0]; rfl);exact Ya0j
end
def linV (v:ByteArray->Rat):List (ByteArray × Int)->Rat
 | []=>0
 | c :: cs=>((c.2:Int):Rat)*v c.1+linV v cs
def valR (v:ByteArray->Rat) (r:RowT):Rat:=linV v r.1+((r.2.1:Int):Rat)
def Sat (v:ByteArray->Rat) (l:List RowT):Prop:=∀ r ∈ l,valR v r<=0/\(r.2.2=true->valR v r=0)
def rwA (l:List RowT) (i:Nat):RowT:=at_ ([],0,true) l i
def sysY (vars:List ByteArray) (l:List RowT):Simp.Sys:=⟨l.length,vars.length,fun i k=>((cofI vars (rwA l i).1 k:Int):Rat),fun i=>(((rwA l i).2.1:Int):Rat),fun i=>(rwA l i).2.2⟩
theorem Aak {vars:List ByteArray} (v:Nat->Rat):∀ {cs:List (ByteArray × Int)},(∀ c ∈ cs,c.1 ∈ vars)->(cs.map fun c=>idxV vars c.1).Pairwise (·≠·)->(Simp.sum vars.length fun k=>((cofI vars cs k:Int):Rat)*v k)=linV (fun s=>v (idxV vars s)) cs
 | [],_,_=>by
  rw [Simp.sum_zero fun k _=>by show ((0:Int):Rat)*_=0; rw [Sv]; grind]; rfl
 | c :: cs,hm,hp=>by
  have j4:=(Kf (hm c (Cs ..))).2;rw [Ct,Ie] at hp;have ih:=Aak v (fun c' h=>hm c' (Cp _ h)) hp.2;have hz:cofI vars cs (idxV vars c.1)=0:=Vb fun c' h=>(hp.1 _ (Ft.2 ⟨c',h,rfl⟩)).symm;have e:∀ k,((cofI vars (c :: cs) k:Int):Rat)*v k=(if k=idxV vars c.1 then ((c.2:Int):Rat)*v k else 0)+((cofI vars cs k:Int):Rat)*v k:=fun k=>by
   rw [cofI];by_cases h:idxV vars c.1=k
   ·rw [if_pos h,if_pos h.symm,<- h,hz,Sv]; grind
   ·rw [if_neg h,if_neg fun h'=>h h'.symm]; grind
  rw [Simp.sum_congr fun k _=>e k,Simp.sum_add,ih,Simp.sum_one j4]; rfl
theorem Nm {v v':ByteArray->Rat} : ∀ {cs:List (ByteArray × Int)},(∀ c ∈ cs,v c.1=v' c.1)->linV v cs=linV v' cs
 | [],_=>rfl
 | c :: cs,h=>by rw [linV,linV,h c (Cs ..),Nm fun c' h'=>h c' (Cp _ h')]
theorem Tc {v v':ByteArray->Rat} {r:RowT} (h:∀ c ∈ r.1,v c.1=v' c.1):valR v r=valR v' r:=by unfold valR; rw [Nm h]
theorem Aan {vars:List ByteArray} {l:List RowT} (hr:∀ r ∈ l,En vars r) {i:Nat} (hi:i<l.length) (v:Nat->Rat):(sysY vars l).val v i=valR (fun s=>v (idxV vars s)) (rwA l i):=by
 have h:En vars (rwA l i):=hr _ (Dy (d:=([],0,true)) hi);unfold Simp.Sys.val valR;show Simp.sum vars.length _+_=_;rw [<- Aak v h.mem h.dis]; rfl
theorem Anr {vars:List ByteArray} {l:List RowT} (hr:∀ r ∈ l,En vars r):(∃ v,(sysY vars l).holds v)↔∃ v,Sat v l:=by
 constructor
 ·rintro ⟨v,hv⟩;refine ⟨fun s=>v (idxV vars s),fun r h=>?_⟩;obtain ⟨i,hi⟩:=kG h;have b7:=(Fx.1 hi).1;have hx:=hv i b7;have e:rwA l i=r:=by unfold rwA at_; rw [Ag,hi]; rfl
  rw [Aan hr b7,e] at hx;refine ⟨hx.1,fun he=>hx.2 ?_⟩;show (rwA l i).2.2=true;rw [e]; exact he
 ·rintro ⟨v,hv⟩;refine ⟨fun k=>v (at_ ⟨#[]⟩ vars k),fun i hi=>?_⟩;have hm:rwA l i ∈ l:=Dy hi;have hx:=hv _ hm;rw [Aan hr hi];have e:valR (fun s=>v (at_ ⟨#[]⟩ vars (idxV vars s))) (rwA l i)=valR v (rwA l i):=Tc fun c hc=>by
   have:=Vs ((hr _ hm).mem c hc);unfold at_; rw [this]; rfl
  rw [e]; exact hx
structure Agree (m N:Nat) (t u:Simp.Tab):Prop where
 T:∀ i j,i<m->j<N+1->t.T i j=u.T i j
 c:∀ j,j<N+1->t.c j=u.c j
 B:∀ i,i<m->t.B i=u.B i
section
variable {m N L:Nat} {t u:Simp.Tab}
theorem Agree.dotT (h:Agree m N t u) {i:Nat} (hi:i<m) (x:Nat->Rat):Simp.dot N (t.T i) x=Simp.dot N (u.T i) x:=Simp.sum_congr fun j hj=>by rw [h.T i j hi hj]
theorem Agree.dotC (h:Agree m N t u) (x:Nat->Rat):Simp.dot N t.c x=Simp.dot N u.c x:=Simp.sum_congr fun j hj=>by rw [h.c j hj]
theorem Agree.ker (h:Agree m N t u) (x:Nat->Rat):Simp.Ker m N t x↔Simp.Ker m N u x:=by
 constructor <;> intro hk i hi
 ·rw [<- h.dotT hi]; exact hk i hi
 ·rw [h.dotT hi]; exact hk i hi
theorem Agree.fit (h:Agree m N t u) (hu:Simp.Fit m N u):Simp.Fit m N t:=by
 refine ⟨fun i hi=>by rw [h.B i hi]; exact hu.lt i hi,fun i k hi hk=>?_,fun k hk=>?_⟩
 ·rw [h.B k hk,h.T i _ hi (by have:=hu.lt k hk; omega)]; exact hu.unit i k hi hk
 ·rw [h.B k hk,h.c _ (by have:=hu.lt k hk; omega)]; exact hu.free k hk
theorem Ah0 {L' K:Nat} {R:Nat->Nat->Rat} {b:Nat->Rat} (Rn:Simp.Run m (L+m) L' K) (ha:Agree m (L+m) (Rn.t 0) (Simp.first m L R b)) (hL:L<=L')
  (a10:(∀ j,j<L'->0<=(Rn.t K).c j)\/∃ s,s<L'/\(Rn.t K).c s<0/\∀ i,i<m->(Rn.t K).T i s<=0) :
  (Rn.t K).c (L+m)=0↔∃ x:Nat->Rat,(∀ j,j<L->0<=x j)/\∀ i,i<m->Simp.sum L (fun j=>R i j*x j)=b i:=by
 have hf:=Rn.fits K (Ce _);have hr:=Rn.rights K (Ce _);have hk:∀ x,Simp.Ker m (L+m) (Rn.t K) x↔Simp.Ker m (L+m) (Simp.first m L R b) x:=fun x=>(Rn.ker (Cl _) (Ce _) x).trans (ha.ker x);have hc:∀ x,Simp.Ker m (L+m) (Simp.first m L R b) x->Simp.dot (L+m) (Rn.t K).c x=Simp.dot (L+m) (Simp.first m L R b).c x:=fun x hx=>by
  exact Ya3p
 refine Simp.phase hf hr hk hc ?_;rcases a10 with h|⟨s,hs,hn,hp⟩
 ·exact fun j hj=>h j aA
 ·exfalso;have hLN:=Rn.LN;obtain ⟨x,hx,hlt⟩:=Simp.least_none (L:=L+m) (f:=(Rn.t K).c) hf (Ce _) hr (fun i hi hB=>by have:=hf.lt i hi; omega) aA hn hp (fun i hi hB=>by have:=hf.lt i hi; omega) (fun _ _=>rfl) 0;have hkx:=(hk x).1 hx.sol.ker;rw [hc x hkx,Simp.first_cost hkx] at hlt;have:=Simp.sum_nonneg (f:=fun i=>x (L+i)) (n:=m) fun i hi=>hx.sol.pos _ aA;grind
end
theorem Ac1 {l:List RowT} {i:Nat} (hi:i<l.length) (he:(rwA l i).2.2=false):neqs (l.take i)<neqs l:=by
 have h1:=Gs (L5 (d:=([],0,true)) hi);have h2:l=l.take (i+1)++l.drop (i+1):=(Oq _ _).symm;have h3:neqs l=neqs (l.take (i+1))+neqs (l.drop (i+1)):=by rw [<- Jl,<- h2]
 have sc:(at_ ([],0,true) l i:RowT).2.2=false:=he;rw [h1,Jl,neqs,neqs,sc] at h3;simp at h3;omega
theorem Amz {l:List RowT} {i k:Nat} (h:i<=k):neqs (l.take i)<=neqs (l.take k):=by
 have h2:l.take k=(l.take k).take i++(l.take k).drop i:=(Oq _ _).symm;rw [h2,Jl,kU,Nat.min_eq_left h];omega
theorem Aqi {l:List RowT} {i k:Nat} (hi:i<l.length) (hk:k<l.length) (h1:(rwA l i).2.2=false) (h2:(rwA l k).2.2=false) (h:neqs (l.take i)=neqs (l.take k)):i=k:=by
 have key:∀ i k,i<l.length->(rwA l i).2.2=false->i<k->neqs (l.take i)<neqs (l.take k):=fun i k hi he hik=>by
  have s1:=Gs (L5 (d:=([],0,true)) hi);have h3:neqs (l.take (i+1))=neqs (l.take i)+1:=by
   have sc:(at_ ([],0,true) l i:RowT).2.2=false:=he;rw [s1,Jl,neqs,neqs,sc]; simp
  have:=Amz (l:=l) (show i+1<=k by omega);omega
 rcases So i k with h'|h'|h'
 ·have:=key i k hi h1 h'; omega
 ·exact h'
 ·have:=key k i hk h2 h'; omega
section
variable {vars:List ByteArray} {l:List RowT}
theorem M1 {real W i j:Nat} (hi:i<l.length):rowX vars real W l i j=rowR vars real W i (2*vars.length+neqs (l.take i)) (rwA l i) j:=by
 unfold rowX;rw [L5 (d:=([],0,true)) hi]; rfl
theorem Vm {G:Q->Prop} {t:Tb} (hr:∀ r ∈ l,En vars r) (h:BInv G vars (2*vars.length+neqs l) (2*vars.length+neqs l+l.length+1) l t) :
  Agree l.length (2*vars.length+neqs l+l.length) (tabV t) (Simp.first l.length (2*vars.length+neqs l) (rowX vars (2*vars.length+neqs l) (2*vars.length+neqs l+l.length+1) l) fun i=>rowX vars (2*vars.length+neqs l) (2*vars.length+neqs l+l.length+1) l i (2*vars.length+neqs l+l.length)):=by
 refine ⟨fun i j hi hj=>?_,fun j hj=>?_,fun i hi=>?_⟩
 ·show qv (at_ q0 (Ba t i) j)=if j<2*vars.length+neqs l then _ else if j<2*vars.length+neqs l+l.length then (if j=2*vars.length+neqs l+i then 1 else 0) else _
  rw [h.vals i hi];split
  ·rfl
  ·rename_i h1;have ho:=hr _ (Dy (d:=([],0,true)) hi);split
   ·rename_i h2;rw [M1 hi];unfold rowR;rw [if_neg aA];split
    ·rfl
    ·rw [if_neg (fun h'=>by have:=Ac1 hi h'.1; omega)];exact P4 ho.mem aA
   ·have:j=2*vars.length+neqs l+l.length:=aA
    rw [this]
 ·show qv (at_ q0 t.cost j)=if j<2*vars.length+neqs l then _ else if j<2*vars.length+neqs l+l.length then 0 else _
  rw [h.costs];split
  ·split
   ·rfl
   ·rw [if_neg aA];have:j=2*vars.length+neqs l+l.length:=aA
    rw [this]
  ·rw [if_neg aA,if_pos aA]
 ·exact h.bas i hi
theorem Ald (hr:∀ r ∈ l,En vars r):Simp.Cols (sysY vars l) (2*vars.length+neqs l) (fun i=>sgR (rwA l i)) (fun i=>2*vars.length+neqs (l.take i)) (rowX vars (2*vars.length+neqs l) (2*vars.length+neqs l+l.length+1) l) fun i=>rowX vars (2*vars.length+neqs l) (2*vars.length+neqs l+l.length+1) l i (2*vars.length+neqs l+l.length):=by
 have ho:∀ i,i<l.length->En vars (rwA l i):=fun i hi=>hr _ (Dy (d:=([],0,true)) hi);refine ⟨fun i hi=>?_,Ia _ _,fun i k hi hk=>?_,fun i k hi hk=>?_,fun i j hi h1 h2=>?_,fun i hi he=>?_,fun i k hi hk h1 h2 h3=>?_,fun i hi=>?_⟩
 ·unfold sgR; split <;> grind
 ·have hk':k<vars.length:=hk;rw [M1 hi];unfold rowR;rw [if_neg aA,if_neg aA,if_neg (fun h'=>aA)];exact (Hh (ho i hi).dis k).1
 ·have hk':k<vars.length:=hk;rw [M1 hi];unfold rowR;rw [if_neg aA,if_neg aA,if_neg (fun h'=>aA)];exact (Hh (ho i hi).dis k).2
 ·have ve:2*vars.length<=j:=h1;rw [M1 hi];unfold rowR;rw [if_neg aA,if_neg aA];show _=if (rwA l i).2.2=false/\j=2*vars.length+neqs (l.take i) then _ else 0
  split
  ·rfl
  ·exact P4 (ho i hi).mem ve
 ·have:=Ac1 hi he;exact ⟨Ia _ _,aA⟩
 ·exact Aqi hi hk h1 h2 aA
 ·rw [M1 hi];unfold rowR;rw [if_pos aA]; rfl
theorem Mz {i:Nat} (hi:i<l.length):0<=rowX vars (2*vars.length+neqs l) (2*vars.length+neqs l+l.length+1) l i (2*vars.length+neqs l+l.length):=by
 rw [M1 hi];unfold rowR;rw [if_pos aA];unfold sgR;split
 ·rename_i h;have:(0:Rat)<(((rwA l i).2.1:Int):Rat):=Oz.2 h;grind
 ·rename_i h;have:¬ (0:Rat)<(((rwA l i).2.1:Int):Rat):=fun h'=>h (Oz.1 h');grind
variable {F:Fld} {G:Q->Prop}
theorem BInv.tok {real W N:Nat} {t:Tb} (h:BInv G vars real W l t) (hW:W=N+1):TOk G l.length N t:=⟨h.nr,h.nb,by rw [h.nc,hW],fun r hr=>by rw [h.rowW r hr,hW],h.okr,h.okc⟩
theorem Uz:(Bj F l vars false).real=2*vars.length+neqs l:=Ma.1
theorem Ak1 {t:Tb} (hr:∀ r ∈ l,En vars r) (h:BInv G vars (2*vars.length+neqs l) (2*vars.length+neqs l+l.length+1) l t):∃ R:Simp.Run l.length (2*vars.length+neqs l+l.length) (2*vars.length+neqs l) 0,R.t 0=tabV t:=by
 have ha:=Vm hr h;exact ⟨Simp.Run.none (ha.fit (Simp.first_fit _ _ _ _)) (Ia _ _) (fun i hi=>by
  rw [ha.T i _ hi aA];show 0<=if 2*vars.length+neqs l+l.length<2*vars.length+neqs l then _ else if 2*vars.length+neqs l+l.length<2*vars.length+neqs l+l.length then _ else _
  rw [if_neg aA,if_neg aA];exact Mz hi),rfl⟩
theorem Abk (hE:F.Exact G) (hr:∀ r ∈ l,En vars r) (hb0:F.stop=true\/(Bj F l vars false).fl=false) (hs:Safe F G l.length (2*vars.length+neqs l+l.length) (2*vars.length+neqs l) (tabV (Bj F l vars false))) {n:Nat} (hn:(2*vars.length+neqs l+l.length) ^ l.length+1<=n) :
  ∃ b t',Gp F n (Bj F l vars false)=some (b,t')/\((F.stop=true/\t'.fl=true)\/(t'.fl=false/\TOk G l.length (2*vars.length+neqs l+l.length) t'/\∃ K,∃ R:Simp.Run l.length (2*vars.length+neqs l+l.length) (2*vars.length+neqs l) K,R.t 0=tabV (Bj F l vars false)/\R.t K=tabV t' /\
   Agree l.length (2*vars.length+neqs l+l.length) (R.t 0) (Simp.first l.length (2*vars.length+neqs l) (rowX vars (2*vars.length+neqs l) (2*vars.length+neqs l+l.length+1) l) fun i=>rowX vars (2*vars.length+neqs l) (2*vars.length+neqs l+l.length+1) l i (2*vars.length+neqs l+l.length)) /\
   ((∀ j,j<2*vars.length+neqs l->0<=(tabV t').c j)\/∃ s,s<2*vars.length+neqs l/\(tabV t').c s<0/\∀ i,i<l.length->(tabV t').T i s<=0))):=by
 cases hf:(Bj F l vars false).fl with
 | true =>
  rcases hb0 with aj|h
  ·obtain ⟨n',rfl⟩:∃ n',n=n'+1:=⟨n - 1,aA⟩;exact ⟨_,_,Nf aj hf,.inl ⟨aj,hf⟩⟩
  ·rw [hf] at h; cases h
 | false =>
  have hb:=Uy hE hr hf;obtain ⟨R,h0⟩:=Ak1 hr hb;obtain ⟨b,t',h1,h2⟩:=Zi hE hs n R h0 h0 (hb.tok rfl) Uz hf aA;refine ⟨b,t',h1,?_⟩;rcases h2 with h2|⟨h3,h4,K,R',h5,h6,h7,h8⟩
  ·exact .inl h2
  ·refine .inr ⟨h3,h4,K,R',h5,h6,by rw [h5]; exact Vm hr hb,?_⟩;cases b with
   | true=>exact .inl (h7 rfl)
   | false=>exact .inr (h8 rfl)
theorem P8 (hE:F.Exact G) {m N:Nat} {t:Tb} (h:TOk G m N t):Gw t=true↔(tabV t).c N=0:=by
 have g:=h.okc _ (Dy (d:=q0) (k:=N) (l:=t.cost) (by rw [h.cost]; omega));unfold Gw;rw [h.cost,Oh,beq_iff_eq,Lu (hE.pos _ g)]; rfl
theorem X8 (hE:F.Exact G) (hr:∀ r ∈ l,En vars r) {t':Tb} {K:Nat} (ht:TOk G l.length (2*vars.length+neqs l+l.length) t') (R:Simp.Run l.length (2*vars.length+neqs l+l.length) (2*vars.length+neqs l) K) (hK:R.t K=tabV t')
  (ha:Agree l.length (2*vars.length+neqs l+l.length) (R.t 0) (Simp.first l.length (2*vars.length+neqs l) (rowX vars (2*vars.length+neqs l) (2*vars.length+neqs l+l.length+1) l) fun i=>rowX vars (2*vars.length+neqs l) (2*vars.length+neqs l+l.length+1) l i (2*vars.length+neqs l+l.length)))
  (a10:(∀ j,j<2*vars.length+neqs l->0<=(tabV t').c j)\/∃ s,s<2*vars.length+neqs l/\(tabV t').c s<0/\∀ i,i<l.length->(tabV t').T i s<=0):Gw t'=true↔∃ v,Sat v l:=by
 rw [P8 hE ht,<- Anr hr,<- (Ald hr).solve,<- hK];rw [<- hK] at a10;exact Ah0 R ha (Ce _) a10
end
end
section
open Go Go.Proofs.Tryz
open Go.Proofs.Tryz renaming func117->ga2,ntmps117->ga3,results117->ga4
open Go.Proofs.YtcjffhadclngmaaGreat renaming ceW->ga0,Al->ga1,puW->ga5,An->ga6,ovW->ga7,Bi->ga8,tkW->ga9
set_option maxRecDepth 100000
namespace WW
abbrev ua0:Nat:=100
abbrev ua1:Nat:=117
abbrev ua2:Nat:=4
abbrev ua3:Nat:=0
abbrev ua4:Nat:=0
end WW
set_option maxHeartbeats 4000000
set_option maxRecDepth 100000
namespace WW
def Arf (S:List Ent) (tk:List Nat) (ia ea iq eq:Nat) (l:List Q) (fl:Bool) (r:Rs):Prop :=
 ∃ S' k',r=(.tup [],S',tk,k')/\S'.length=S.length/\entAt S' ia ea=some (flat ceW l)/\FAq S' iq eq fl/\∀ j,j≠ia->j≠iq->nth S' j=nth S j
end WW
section
variable (S:List Ent) (tk:List Nat) (k iq eq:Nat) (fl:Bool)
namespace WW
theorem Atn:Aw0:=Ma0
end WW
end
end
section
open Go
open Go.Proofs.YtcjffhadclngmaaGreat renaming ceW->ga0
set_option maxRecDepth 100000
namespace WW
structure A7 (S:List Ent) (iq eq:Nat) (I:TI) (t:Tb) (c:Cap):Prop where
 top:entAt S I.it I.et=some [.ifc 100 (rcvQ iq eq),intA t.vars,intA t.real,di I.ir I.er 1 t.rows.length,.sref I.ic I.ec 0 t.cost.length 4,di I.ib I.eb 1 t.rows.length,.frz (t.flip.map De) c]
 nids:I.ids.length=t.rows.length
 rowsE:t.rows≠[]->entAt S I.ir I.er=some (I.ids.map (da t.cost.length 4))
 rowE:∀ i p r,nth I.ids i=some p->nth t.rows i=some r->entAt S p.1 p.2=some (flat ceW r)
 rowW:∀ r ∈ t.rows,r.length=t.cost.length
 costE:entAt S I.ic I.ec=some (flat ceW t.cost)
 basisE:t.rows≠[]->entAt S I.ib I.eb=some (t.basis.map intA)
 nb:t.basis.length=t.rows.length
 nf:t.flip.length=t.rows.length
 fa:FAq S iq eq t.fl
 ap:Apart I iq
 okr:∀ r ∈ t.rows,okL qF r
 okc:okL qF t.cost
 bigW:t.cost.length<=1000000
 bigM:t.rows.length<=1000000
 real:t.real<t.cost.length
 bB:∀ b ∈ t.basis,b<t.cost.length
end WW
section
variable {S S':List Ent} {iq eq:Nat} {I:TI} {t:Tb} {c:Cap}
namespace WW
theorem A7.row:Aw1:=fun {S S' iq eq I t c}=>Ma1
theorem A7.setCost:Aw2:=fun {S S' iq eq I t c}=>Ma2
theorem A7.setBasis:Aw3:=fun {S iq eq I t c}=>Ma3
theorem A7.flag:Aw4:=fun {S S' iq eq I t c}=>Ma4
theorem A7.app:Aw5:=fun {S iq eq I t c}=>Ma5
structure LowQ (I:TI) (iq n:Nat) (t:Tb):Prop where
 it:I.it<n
 ic:I.ic<n
 ir:t.rows≠[]->I.ir<n
 ib:t.rows≠[]->I.ib<n
 row:∀ p ∈ I.ids,p.1<n
 iq:True
theorem A7.low (h:A7 S iq eq I t c):LowQ I iq S.length t:=by
 refine ⟨Aw h.top,Aw h.costE,fun hn=>Aw (h.rowsE hn),fun hn=>Aw (h.basisE hn),fun p hp=>?_,trivial⟩;exact Yav
theorem A7.take:Aw6:=fun {S iq eq I t c}=>Ma6
theorem LowQ.of {n:Nat} {t':Tb} (h:LowQ I iq n t) (hn:t'.rows≠[]->t.rows≠[]):LowQ I iq n t':=⟨h.it,h.ic,fun h'=>h.ir (hn h'),fun h'=>h.ib (hn h'),h.row,h.iq⟩
theorem A7.frame:Aw7:=fun {S S' iq eq I t c}=>Ma7
def Ut (S:List Ent) (tk:List Nat) (iq eq:Nat) (I:TI) (t':Tb) (cc:Cap) (v:AV) (r:Rs):Prop :=
 ∃ S' k',r=(v,S',tk,k')/\S'.length=S.length/\A7 S' iq eq I t' cc/\∀ j,OutQ I iq j->nth S' j=nth S j
end WW
end
end
section
open Go Go.Proofs.Tryz
open Go.Proofs.Tryz renaming func114->ga10,ntmps114->ga11,results114->ga12
open Go.Proofs.YtcjffhadclngmaaGreat renaming ceW->ga0,Al->ga1,puW->ga5,An->ga6,ovW->ga7,Bi->ga8,tkW->ga9
set_option maxRecDepth 100000
namespace WW
abbrev ua5:Nat:=114
end WW
set_option maxHeartbeats 8000000
set_option maxRecDepth 100000
section
variable (S:List Ent) (tk:List Nat) (k iq eq:Nat)
namespace WW
theorem Ar2:Aw8:=Ma8
end WW
end
end
section
open Go Go.Proofs.Tryz
open Go.Proofs.Tryz renaming func113->ga13,ntmps113->ga14,results113->ga15
open Go.Proofs.YtcjffhadclngmaaGreat renaming ceW->ga0,Al->ga1,puW->ga5,An->ga6,ovW->ga7,Bi->ga8,tkW->ga9
set_option maxRecDepth 100000
namespace WW
abbrev ua6:Nat:=113
end WW
set_option maxHeartbeats 8000000
set_option maxRecDepth 100000
section
variable (S:List Ent) (tk:List Nat) (k iq eq:Nat)
namespace WW
theorem Aqb:Aw9:=Ma9
end WW
end
end
section
open Go Go.Proofs.Tryz
open Go.Proofs.Tryz renaming func88->ga16,ntmps88->ga17,results88->ga18
open Go.Proofs.YtcjffhadclngmaaGreat renaming ceW->ga0,Al->ga1,puW->ga5,tkW->ga9
set_option maxRecDepth 100000
namespace WW
abbrev ua7:Nat:=88
end WW
set_option maxHeartbeats 8000000
set_option maxRecDepth 100000
section
variable (S:List Ent) (tk:List Nat) (k iq eq:Nat)
namespace WW
theorem Zj:Aw10:=Ma10
end WW
end
end
section
open Go Go.Proofs.Tryz
open Go.Proofs.Tryz renaming func89->ga19,ntmps89->ga20,results89->ga21,func115->ga22,ntmps115->ga23,results115->ga24
open Go.Proofs.YtcjffhadclngmaaGreat renaming ceW->ga0,Al->ga1,puW->ga5,An->ga6,ovW->ga7,tkW->ga9,Agf->ga25
set_option maxRecDepth 100000
namespace WW
abbrev ua8:Nat:=89
abbrev ua9:Nat:=115
end WW
set_option maxHeartbeats 4000000
set_option maxRecDepth 100000
namespace WW
def Auf (S:List Ent) (tk:List Nat) (iq eq:Nat) (y:Q × Bool) (r:Rs):Prop:=∃ k',r=(.agg (ceW y.1),flS S iq eq y.2,tk,k')
end WW
section
variable (S:List Ent) (tk:List Nat) (k iq eq:Nat)
namespace WW
theorem Ab7:Aw11:=Ma11
theorem Ale:Aw12:=Ma12
end WW
end
end
section
open Go Go.Proofs.Tryz
open Go.Proofs.Tryz renaming func116->ga26,ntmps116->ga27,results116->ga28
open Go.Proofs.YtcjffhadclngmaaGreat renaming ceW->ga0,Al->ga1,puW->ga5,tkW->ga9
set_option maxRecDepth 100000
namespace WW
abbrev ua10:Nat:=116
end WW
set_option maxHeartbeats 8000000
set_option maxRecDepth 100000
namespace WW
theorem Ee (n:Int) (hn:i64 n):qF.ok (qF.whole n).1:=Dj.whole n hn
theorem Alb:Aw13:=fun {S iq eq I t cc c}=>Ma13
end WW
section
variable (S:List Ent) (tk:List Nat) (k iq eq:Nat)
namespace WW
theorem At1:Aw14:=Ma14
end WW
end
end
section
open Go Go.Proofs.Tryz
open Go.Proofs.Tryz renaming func91->ga29,ntmps91->ga30,results91->ga31,func90->ga32,ntmps90->ga33,results90->ga34
open Go.Proofs.YtcjffhadclngmaaGreat renaming ceW->ga0,Al->ga1,puW->ga5,An->ga6,ovW->ga7,Bi->ga8,tkW->ga9
set_option maxRecDepth 100000
namespace WW
abbrev ua11:Nat:=91
abbrev ua12:Nat:=0
abbrev ua13:Nat:=90
end WW
set_option maxHeartbeats 8000000
set_option maxRecDepth 100000
namespace WW
def J8 (l:List Q):List (List AV):=l.map fun q=>ceW (qF.rat q)
theorem Ahp (l:List Q):Dk 4 (J8 l)=true:=Za1l
def Aox (S:List Ent) (iq eq:Nat) (I:TI) (t':Tb) (cc:Cap) (l:List Q) (r:Rs):Prop :=
 ∃ S' k' tk' c,r=(.frz (J8 l) c,S',tk',k')/\S'.length=S.length/\A7 S' iq eq I t' cc/\∀ j,OutQ I iq j->nth S' j=nth S j
end WW
section
variable (S:List Ent) (tk:List Nat) (k iq eq:Nat)
namespace WW
theorem Ar4:Aw15:=Ma15
theorem Tl:Aw16:=Ma16
end WW
end
end
section
open Go
open Go.Proofs.YtcjffhadclngmaaGreat renaming ceW->ga0
set_option maxRecDepth 100000
namespace WW
theorem A7.add:Aw17:=fun {S S' iq eq I t c c' ir er ib eb id nr b f fl' row}=>Ma17
structure G7 (S SS:List Ent) (iq eq:Nat) (I:TI) (t:Tb) (cp:Cap) (L nz n15 n16 n19:Nat) (z:Q) (r:RowT) (row:List Q) (u:Q):Prop where
 T:A7 SS iq eq I t cp
 low:LowQ I iq L t
 Z:entAt SS (S.length+1) nz=some (ceW z)
 E15:entAt SS L n15=some (rowC r)
 E16:entAt SS (L+1) n16=some (flat ceW row)
 E19:entAt SS (L+2) n19=some (ceW u)
 len:SS.length=L+3
 fr:∀ j,j<S.length->j≠iq->nth SS j=nth S j
 qL:iq<S.length
 SL:S.length+3<=L
 ic:I.ic=S.length+2
end WW
section
variable {S SS S':List Ent} {iq eq:Nat} {I:TI} {t:Tb} {cp:Cap} {L nz n15 n16 n19:Nat} {z u:Q} {r:RowT} {row:List Q}
namespace WW
theorem G7.flag:Aw18:=fun {S SS S' iq eq I t cp L nz n15 n16 n19 z u r row fl'}=>Ma18
theorem G7.put:Aw19:=fun {S SS iq eq I t cp L nz n15 n16 n19 z u r row}=>Ma19
theorem G7.unit:Aw20:=fun {S SS iq eq I t cp L nz n15 n16 n19 z u r row}=>Ma20
theorem G7.cost:Aw21:=fun {S SS iq eq I t cp L nz n15 n16 n19 z u r row k'}=>Ma21
end WW
end
end
section
open Go
namespace WW
def Ajz (S:List Ent) (l:List RowT) (vars:List ByteArray) (fl:Bool) (k iq eq c W nz:Nat) (z:Q) (i:Nat) (st:St):Prop :=
 ∃ sl t1 I cp,i<=l.length/\Bj qF l vars fl=begS qF z vars c W (l.drop i) i sl t1/\A7 st.S iq eq I t1 cp/\t1.rows.length=i/\t1.cost.length=W/\t1.real=c/\t1.vars=vars.length/\sl+neqs (l.drop i)=c/\Bn st.tk cp 1=true/\entAt st.S (S.length+1) nz=some (ceW z)/\S.length+3<=st.S.length/\(∀ j,j<S.length->j≠iq->nth st.S j=nth S j)/\(I.it=S.length/\I.et=k/\I.ic=S.length+2)/\(S.length+2<I.ir/\S.length+2<I.ib/\∀ p ∈ I.ids,S.length+2<p.1) /\
  st.T.length=270/\getT st.T 0=.ifc 100 (rcvQ iq eq)/\getT st.T 1=.frz (l.map rowC) .unk/\getT st.T 2=.frz (vars.map strC) .unk/\getT st.T 7=.ref S.length k 0/\getT st.T 10=.int (sl:Nat)/\getT st.T 11=.int (W:Nat)/\getT st.T 12=.ref (S.length+1) nz 0/\getT st.T 83=.frz (l.map rowC) .unk/\getT st.T 84=.int (l.length:Nat)/\getT st.T 85=.int (i:Nat)
end WW
end
end Go.Proofs.YtcjffhadclngmaaGreat
