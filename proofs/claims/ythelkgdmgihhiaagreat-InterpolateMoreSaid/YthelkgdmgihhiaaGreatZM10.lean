/- Part 10. -/
import Derived.Test.YthelkgdmgihhiaaGreatZM9
import Derived.Test.YthelkgdmgihhiaaGreatChecked
import Derived.IntWalk
open And renaming intro->Bv
open Array renaming ext'->gG
open Bool renaming and_eq_true->Cf,false_eq_true->C4,or_false->Fk,or_eq_true->Fz,false_and->F2
open ByteArray.toList renaming loop->fZ
open Go.IntKind renaming i64->Ce
open Go.Proofs.YthelkgdmgihhiaaGreat.AV renaming bool->Ca,int->Cg,str->Ch
open Go.Value renaming oneCell'->fU
open Int renaming tdiv_eq_ediv_of_nonneg->C9,mul_comm->Fp,mul_assoc->F1,tmod_eq_emod_of_nonneg->F5,natAbs_mul->Ik,pow_succ->Iu,mul_add->I7,mul_zero->O1,mul_nonneg->O7,add_zero->Rv,neg_mul->fR,add_assoc->gN
open List renaming replicate->Cd,length_cons->Ck,map_cons->Cm,cons_append->Co,getElem?_append_left->Cp,mem_append->Cr,map_nil->Cw,mem_cons->Cy,length_eq_zero_iff->C5,append_assoc->C7,getElem?_append_right->C8,getElem?_eq_none->E9,drop_eq_nil_of_le->Ff,eq_nil_of_length_eq_zero->Fg,drop_length->Fh,drop_zero->Fs,map_append->Ft,append_nil->Fu,take_succ_cons->F4,pairwise_cons->F7,mem_replicate->Ih,mem_of_getElem?->Il,getElem?_take_of_lt->Iq,take_length->Ir,replicate_succ->I4,length_pos_iff->I5,foldl_cons->Ov,singleton_append->Sk,set_cons_succ->fJ,cons_lt_cons_iff->gC,map_replicate->iN,lt_irrefl->iS
open List.cons renaming injEq->S9
open Nat renaming le_refl->Cb,zero_le->Cs,mul_one->Ia,lt_or_ge->Ic,add_zero->I1,div_lt_iff_lt_mul->I8,zero_mul->Oi,pow_succ->Oj,strongRecOn->Ow,mod_eq_of_lt->O6,add_assoc->Si,pow_pos->gY
open Option renaming map_eq_some_iff->B6,map_some->Cu,bind_some->Lg
open Option.some renaming injEq->A0
namespace Go.Proofs.YthelkgdmgihhiaaGreat
section
open Tryz
set_option maxRecDepth 100000
theorem mixed:prog.follows .mixedOrders=true:=aK
theorem tys :
  szOf prog 1=some 1 /\
  aggT prog 1=some false /\
  Ar prog 1=some [.prim .nilFunc] /\
  B3 prog 1=false /\
  szOf prog 2=some 1 /\
  aggT prog 2=some false /\
  Ar prog 2=some [.prim (.int .i64 0)] /\
  Jb prog 2=some .i64 /\
  B3 prog 2=false /\
  szOf prog 3=some 1 /\
  aggT prog 3=some false /\
  Ar prog 3=some [.prim (.int .i64 0)] /\
  Jb prog 3=some .i64 /\
  B3 prog 3=false /\
  szOf prog 4=some 1 /\
  aggT prog 4=some false /\
  Ar prog 4=some [.prim (.bool false)] /\
  B3 prog 4=false /\
  Ag5 prog 4=true /\
  szOf prog 5=some 1 /\
  aggT prog 5=some false /\
  Ar prog 5=some [.prim (.int .u8 0)] /\
  Jb prog 5=some .u8 /\
  B3 prog 5=false /\
  szOf prog 9=some 1 /\
  aggT prog 9=some false /\
  Ar prog 9=some [.prim (.string ⟨#[]⟩)] /\
  B3 prog 9=true /\
  szOf prog 22=some 1 /\
  aggT prog 22=some false /\
  Ar prog 22=some [.frz [] .nilc] /\
  A7 prog 22=some 30 /\
  apT prog 22=some 3 /\
  B3 prog 22=false /\
  szOf prog 23=some 1 /\
  aggT prog 23=some false /\
  Ar prog 23=some [.frz [] .nilc] /\
  A7 prog 23=some 67 /\
  apT prog 23=some 2 /\
  B3 prog 23=false /\
  szOf prog 28=some 2 /\
  aggT prog 28=some true /\
  Ar prog 28=some [.frz [] .nilc,.prim (.int .i64 0)] /\
  B3 prog 28=false /\
  Ax prog 28 0=some (0,1,false) /\
  Ax prog 28 1=some (1,1,false) /\
  fieldsOf prog 28=some [(0,1),(1,1)] /\
  szOf prog 30=some 3 /\
  aggT prog 30=some true /\
  Ar prog 30=some [.frz [] .nilc,.prim (.int .i64 0),.prim (.bool false)] /\
  B3 prog 30=false /\
  Ax prog 30 0=some (0,2,true) /\
  Ax prog 30 1=some (2,1,false) /\
  fieldsOf prog 30=some [(0,2),(2,1)] /\
  szOf prog 31=some 1 /\
  aggT prog 31=some false /\
  Ar prog 31=some [.prim (.int .i64 0)] /\
  Jb prog 31=some .i64 /\
  B3 prog 31=false /\
  szOf prog 37=some 1 /\
  aggT prog 37=some false /\
  Ar prog 37=some [.frz [] .nilc] /\
  A7 prog 37=some 9 /\
  apT prog 37=some 1 /\
  B3 prog 37=false /\
  szOf prog 58=some 1 /\
  aggT prog 58=some false /\
  Ar prog 58=some [.frz [] .nilc] /\
  A7 prog 58=some 3 /\
  apT prog 58=some 1 /\
  B3 prog 58=false /\
  szOf prog 60=some 2 /\
  aggT prog 60=some true /\
  Ar prog 60=some [.prim (.bool false),.frz [] .nilc] /\
  B3 prog 60=false /\
  Ax prog 60 0=some (0,1,false) /\
  Ax prog 60 1=some (1,1,false) /\
  fieldsOf prog 60=some [(0,1),(1,1)] /\
  szOf prog 67=some 2 /\
  aggT prog 67=some true /\
  Ar prog 67=some [.prim (.string ⟨#[]⟩),.prim (.int .i64 0)] /\
  B3 prog 67=false /\
  Ax prog 67 0=some (0,1,false) /\
  Ax prog 67 1=some (1,1,false) /\
  fieldsOf prog 67=some [(0,1),(1,1)] /\
  Xo prog 67=some [2,1] /\
  szOf prog 77=some 1 /\
  aggT prog 77=some false /\
  Ar prog 77=some [.frz [] .nilc] /\
  A7 prog 77=some 22 /\
  apT prog 77=some 1 /\
  B3 prog 77=false /\
  szOf prog 78=some 1 /\
  aggT prog 78=some false /\
  Ar prog 78=some [.frz [] .nilc] /\
  A7 prog 78=some 80 /\
  apT prog 78=some 4 /\
  B3 prog 78=false /\
  szOf prog 80=some 4 /\
  aggT prog 80=some true /\
  Ar prog 80=some [.prim (.bool false),.frz [] .nilc,.prim (.bool false),.frz [] .nilc] /\
  B3 prog 80=false /\
  Ax prog 80 0=some (0,2,true) /\
  Ax prog 80 1=some (2,2,true) /\
  fieldsOf prog 80=some [(0,2),(2,2)] /\
  szOf prog 82=some 8 /\
  aggT prog 82=some true /\
  Ar prog 82=some [.prim (.bool false),.frz [] .nilc,.frz [] .nilc,.prim (.bool false),.frz [] .nilc,.prim (.bool false),.frz [] .nilc,.prim (.bool false)] /\
  B3 prog 82=false /\
  Ax prog 82 0=some (0,1,false) /\
  Ax prog 82 1=some (1,1,false) /\
  Ax prog 82 2=some (2,1,false) /\
  Ax prog 82 3=some (3,4,true) /\
  Ax prog 82 4=some (7,1,false) /\
  fieldsOf prog 82=some [(0,1),(1,1),(2,1),(3,4),(7,1)] /\
  szOf prog 113=some 1 /\
  aggT prog 113=some false /\
  Ar prog 113=some [.prim (.pointer none)] /\
  B3 prog 113=false /\
  szOf prog 117=some 2 /\
  aggT prog 117=some true /\
  Ar prog 117=some [.prim (.int .i64 0),.prim (.int .i64 0)] /\
  B3 prog 117=false /\
  Ax prog 117 0=some (0,1,false) /\
  Ax prog 117 1=some (1,1,false) /\
  fieldsOf prog 117=some [(0,1),(1,1)] /\
  Xo prog 117=some [1,1] /\
  szOf prog 118=some 1 /\
  aggT prog 118=some false /\
  Ar prog 118=some [.prim (.pointer none)] /\
  B3 prog 118=false /\
  szOf prog 120=some 1 /\
  aggT prog 120=some true /\
  Ar prog 120=some [.prim (.bool false)] /\
  B3 prog 120=false /\
  Ax prog 120 0=some (0,1,false) /\
  fieldsOf prog 120=some [(0,1)] /\
  Xo prog 120=some [0] /\
  szOf prog 123=some 0 /\
  aggT prog 123=some true /\
  Ar prog 123=some [] /\
  B3 prog 123=false /\
  szOf prog 130=some 1 /\
  aggT prog 130=some false /\
  Ar prog 130=some [.prim (.int .u64 0)] /\
  Jb prog 130=some .u64 /\
  B3 prog 130=false /\
  szOf prog 141=some 1 /\
  aggT prog 141=some false /\
  Ar prog 141=some [.prim .nilFunc] /\
  B3 prog 141=false /\
  szOf prog 150=some 1 /\
  aggT prog 150=some false /\
  Ar prog 150=some [.prim .nilIface] /\
  B3 prog 150=false /\
  szOf prog 151=some 1 /\
  aggT prog 151=some false /\
  Ar prog 151=some [.prim (.pointer none)] /\
  B3 prog 151=false /\
  szOf prog 157=some 1 /\
  aggT prog 157=some false /\
  Ar prog 157=some [.prim .nilIface] /\
  B3 prog 157=false /\
  szOf prog 158=some 1 /\
  aggT prog 158=some false /\
  Ar prog 158=some [.prim (.pointer none)] /\
  B3 prog 158=false /\
  szOf prog 168=some 1 /\
  aggT prog 168=some false /\
  Ar prog 168=some [.frz [] .nilc] /\
  A7 prog 168=some 78 /\
  apT prog 168=some 1 /\
  B3 prog 168=false /\
  szOf prog 169=some 1 /\
  aggT prog 169=some false /\
  Ar prog 169=some [.frz [] .nilc] /\
  A7 prog 169=some 4 /\
  apT prog 169=some 1 /\
  B3 prog 169=false /\
  szOf prog 177=some 1 /\
  aggT prog 177=some false /\
  Ar prog 177=some [.frz [] .nilc] /\
  A7 prog 177=some 178 /\
  apT prog 177=some 1 /\
  B3 prog 177=false /\
  szOf prog 178=some 1 /\
  aggT prog 178=some false /\
  Ar prog 178=some [.frz [] .nilc] /\
  A7 prog 178=some 117 /\
  apT prog 178=some 2 /\
  B3 prog 178=false /\
  szOf prog 180=some 7 /\
  aggT prog 180=some true /\
  Ar prog 180=some [.prim .nilIface,.prim (.int .i64 0),.prim (.int .i64 0),.frz [] .nilc,.frz [] .nilc,.frz [] .nilc,.frz [] .nilc] /\
  B3 prog 180=false /\
  Ax prog 180 0=some (0,1,false) /\
  Ax prog 180 1=some (1,1,false) /\
  Ax prog 180 2=some (2,1,false) /\
  Ax prog 180 3=some (3,1,false) /\
  Ax prog 180 4=some (4,1,false) /\
  Ax prog 180 5=some (5,1,false) /\
  Ax prog 180 6=some (6,1,false) /\
  fieldsOf prog 180=some [(0,1),(1,1),(2,1),(3,1),(4,1),(5,1),(6,1)] /\
  szOf prog 188=some 7 /\
  aggT prog 188=some true /\
  Ar prog 188=some [.prim .nilIface,.prim (.int .i64 0),.prim (.int .i64 0),.frz [] .nilc,.frz [] .nilc,.frz [] .nilc,.frz [] .nilc] /\
  B3 prog 188=false /\
  Ax prog 188 0=some (0,1,false) /\
  Ax prog 188 1=some (1,1,false) /\
  Ax prog 188 2=some (2,1,false) /\
  Ax prog 188 3=some (3,1,false) /\
  Ax prog 188 4=some (4,1,false) /\
  Ax prog 188 5=some (5,1,false) /\
  Ax prog 188 6=some (6,1,false) /\
  fieldsOf prog 188=some [(0,1),(1,1),(2,1),(3,1),(4,1),(5,1),(6,1)] /\
  szOf prog 238=some 2 /\
  aggT prog 238=some true /\
  Ar prog 238=some [.prim (.bool false),.frz [] .nilc] /\
  B3 prog 238=false /\
  Ax prog 238 0=some (0,1,false) /\
  Ax prog 238 1=some (1,1,false) /\
  fieldsOf prog 238=some [(0,1),(1,1)] /\
  szOf prog 247=some 4 /\
  aggT prog 247=some true /\
  Ar prog 247=some [.prim (.int .i64 0),.prim (.int .i64 0),.prim (.int .i64 0),.prim (.int .i64 0)] /\
  B3 prog 247=false /\
  Ax prog 247 0=some (0,1,false) /\
  Ax prog 247 1=some (1,1,false) /\
  Ax prog 247 2=some (2,1,false) /\
  Ax prog 247 3=some (3,1,false) /\
  fieldsOf prog 247=some [(0,1),(1,1),(2,1),(3,1)] /\
  Xo prog 247=some [1,1,1,1] /\
  szOf prog 253=some 2 /\
  aggT prog 253=some true /\
  Ar prog 253=some [.prim (.bool false),.prim (.int .i64 0)] /\
  B3 prog 253=false /\
  Ax prog 253 0=some (0,1,false) /\
  Ax prog 253 1=some (1,1,false) /\
  fieldsOf prog 253=some [(0,1),(1,1)] /\
  Xo prog 253=some [0,1] :=
 by and_intros <;> kernel_rfl
end
section
def val:List Int->Int
 | []=>0
 | d :: r=>d+10000*val r
def digN:Nat->Nat->List Int
 | 0,_=>[]
 | f+1,n=>if n=0 then [] else ((n % 10000:Nat):Int) :: digN f (n / 10000)
def dig (n:Nat):List Int:=digN n n
def okD (l:List Int):Prop:=∀ d ∈ l,0<=d/\d<10000
theorem Xe:∀ {f g n:Nat},n<=f->n<=g->digN f n=digN g n
 | 0,0,_,_,_=>rfl
 | 0,g+1,n,h,_=>by
   have:n=0:=aA
   subst this; simp [digN]
 | f+1,0,n,_,h=>by
   have:n=0:=aA
   subst this; simp [digN]
 | f+1,g+1,n,h1,h2=>by
  simp only [digN];by_cases h:n=0
  ·simp [h]
  ·rw [if_neg h,if_neg h,Xe (f:=f) (g:=g) (n:=n / 10000) aA aA]
theorem Dm:dig 0=[]:=rfl
theorem Hz {n:Nat} (h:n≠0):dig n=((n % 10000:Nat):Int) :: dig (n / 10000):=by
 unfold dig;cases n with
 | zero=>exact absurd rfl h
 | succ n =>
  rw [digN,if_neg h];congr 1;exact Xe aA (Cb _)
theorem B4 (n:Nat):val (dig n)=n:=by
 induction n using Ow with
 | _ n ih =>
  by_cases h:n=0
  ·subst h; rfl
  ·rw [Hz h,val,ih (n / 10000) aA]; omega
theorem Br (n:Nat):okD (dig n):=by
 induction n using Ow with
 | _ n ih =>
  by_cases h:n=0
  ·subst h; intro d hd; simp [Dm] at hd
  ·rw [Hz h];intro d hd;rcases Cy.1 hd with rfl|hd
   ·omega
   ·exact ih (n / 10000) aA d hd
theorem U7 {d:Int} (h0:0<d) (h1:d<10000):dig d.toNat=[d]:=by
 rw [Hz aA];have e1:d.toNat % 10000=d.toNat:=O6 aA;have e2:d.toNat / 10000=0:=aA
 rw [e1,e2,Dm];congr 1; omega
theorem En:∀ {l:List Int},okD l->0<=val l
 | [],_=>by simp [val]
 | d :: r,h=>by
  have h1:=h d (by simp);have h2:=En (l:=r) fun x hx=>h x bG;simp only [val]; omega
def Dk:List Int->List Int
 | []=>[]
 | d :: r=>if Dk r=[]/\d=0 then [] else d :: Dk r
theorem Gq {n:Nat} : dig n=[]↔n=0:=by
 constructor
 ·intro h;by_cases h0:n=0
  ·exact h0
  ·rw [Hz h0] at h; simp at h
 ·rintro rfl; rfl
theorem Dw:∀ {l:List Int},okD l->Dk l=dig (val l).toNat
 | [],_=>rfl
 | d :: r,h=>by
  have h1:=h d (by simp);have hr:okD r:=fun x hx=>h x bG;have h2:=En hr;rw [Dk,Dw hr];simp only [val];by_cases hv:val r=0
  ·by_cases hd:d=0
   ·rw [if_pos ⟨by rw [hv]; rfl,hd⟩,hv,hd]; rfl
   ·rw [if_neg (fun h=>hd h.2),hv];have e:(d+10000*0).toNat=d.toNat:=aA
    rw [e,U7 aA h1.2]; rfl
  ·have hn:¬ (val r).toNat=0:=aA
   rw [if_neg (fun h=>hn (Gq.1 h.1)),Hz (n:=(d+10000*val r).toNat) aA];have e1:(d+10000*val r).toNat / 10000=(val r).toNat:=aA
   have e2:(((d+10000*val r).toNat % 10000:Nat):Int)=d:=aA
   rw [e1,e2]
theorem Bg {n k:Nat} : (dig n).length<=k↔n<10000 ^ k:=by
 induction k generalizing n with
 | zero =>
  rw [Nat.pow_zero];constructor
  ·intro h;have:dig n=[]:=Fg aA;have:=Gq.1 this; omega
  ·intro h;have:n=0:=aA
   subst this; simp [Dm]
 | succ k ih =>
  by_cases h:n=0
  ·subst h; simp [Dm,gY]
  ·rw [Hz h,Ck,Nat.add_le_add_iff_right,ih,Oj,I8 aA]
theorem Anf {a b:Nat} (h:dig a=dig b):a=b:=by
 have h1:=B4 a;have h2:=B4 b;rw [h] at h1; omega
theorem Gc (l r:List Int):val (l++r)=val l+10000 ^ l.length*val r:=by
 induction l with
 | nil=>simp [val]
 | cons d l ih=>simp only [Co,val,ih,Ck,Iu]; rw [I7,Fp (10000 ^ l.length) 10000,F1]; omega
theorem Hd (n:Nat):val (Cd n 0)=0:=by
 induction n with
 | zero=>rfl
 | succ n ih=>rw [I4,val,ih]; rfl
theorem Gv {l:List Int} {i:Nat} {x v:Int} (h:nth l i=some x):val (l.set i v)=val l+(v - x)*10000 ^ i:=by
 induction l generalizing i with
 | nil=>simp [nth] at h
 | cons d l ih =>
  cases i with
  | zero=>simp only [nth,A0] at h; subst h; simp only [List.set_cons_zero,val,Int.pow_zero]; omega
  | succ i =>
   simp only [nth] at h;simp only [fJ,val,ih h,Iu];rw [I7,Fp (10000 ^ i) 10000,<- F1,<- F1,Fp 10000 (v - x)]; omega
theorem P7 (l:List Int):(Dk l).length<=l.length:=by
 induction l with
 | nil=>simp [Dk]
 | cons d l ih=>rw [Dk]; split <;> simp; exact ih
theorem Nj:∀ (n:Nat) (l:List Int),n<=l.length->(∀ j,n<=j->∀ x,nth l j=some x->x=0)->Dk l=Dk (l.take n)
 | 0,[],_,_=>rfl
 | 0,d :: l,_,h=>by
  have hd:=h 0 (Cb _) d rfl;have:=Nj 0 l (Cs _) fun j _ x hx=>h (j+1) (Cs _) x hx;rw [Dk,this,hd]; simp [Dk]
 | n+1,[],h,_=>aM
 | n+1,d :: l,hn,h=>by
  have:=Nj n l dK fun j hj x hx=>h (j+1) aA x hx;rw [F4,Dk,Dk,this]
theorem We:∀ (l:List Int) (n:Nat) (x:Int),nth l n=some x->l.length=n+1->x≠0->Dk l=l
 | [],_,_,h,_,_=>bU
 | d :: l,0,x,h,hl,hx=>by
  have:l=[]:=Fg bS;subst this;simp only [nth,A0] at h; subst h;simp [Dk,hx]
 | d :: l,n+1,x,h,hl,hx=>by
  have ih:=We l n x h bS hx;have hne:l≠[]:=by rintro rfl; simp [nth] at h
  rw [Dk,ih,if_neg (fun h=>hne h.1)]
/- which numbers are valid,and what they stand for -/
def Zu (l:List Int):Bool:=match nth l (l.length - 1) with|some x=>x == 0|none=>false
def allD:List Int->Bool
 | []=>true
 | d :: r=>if (decide (d<0) || decide (d >= 10000))=true then false else allD r
theorem Ae6 {l:List Int} : allD l=true↔okD l:=by
 induction l with
 | nil=>simp [allD,okD]
 | cons d l ih =>
  rw [allD];by_cases h:d<0\/d >= 10000
  ·have:(decide (d<0) || decide (d >= 10000))=true:=aI
   simp only [this,if_true,C4,false_iff];intro hk;have:=hk d (by simp); omega
  ·have:(decide (d<0) || decide (d >= 10000))=false:=aB
   simp only [this,C4,if_false,ih];constructor
   ·intro hk x hx;rcases Cy.1 hx with rfl|hx
    ·omega
    ·exact hk x hx
   ·exact fun hk x hx=>hk x bG
def D5 (neg:Bool) (l:List Int):Bool:=if (decide (200<l.length) || (decide (l=[]) && neg) || Zu l)=true then false else allD l
def V (neg:Bool) (l:List Int):Int:=if D5 neg l=true then (if neg=true then -(val l) else val l) else 0
theorem Kz {neg:Bool} {l:List Int} (h:D5 neg l=true):l=dig (val l).toNat/\okD l/\l.length<=200:=by
 unfold D5 at h;split at h
 ·simp at h
 ·rename_i hh;have hk:=Ae6.1 h;simp only [Fz,decide_eq_true_eq,not_or] at hh;refine ⟨?_,hk,aA⟩;rw [<- Dw hk];by_cases hl:l=[]
  ·subst hl; rfl
  ·have hpos:0<l.length:=I5.2 hl;obtain ⟨x,hx⟩:=Ah (l:=l) (i:=l.length - 1) aA;have hz:=hh.2;unfold Zu at hz;rw [hx] at hz;exact (We l (l.length - 1) x hx aA cG).symm
theorem Apa (neg:Bool) (l:List Int):dig (V neg l).natAbs=if D5 neg l=true then l else []:=by
 unfold V;by_cases h:D5 neg l=true
 ·obtain ⟨h1,h2,-⟩:=Kz h;have h3:=En h2;rw [if_pos h,if_pos h];conv=>rhs; rw [h1]
  congr 1;split <;> omega
 ·rw [if_neg h,if_neg h]; rfl
theorem Aju (neg:Bool) (l:List Int):(dig (V neg l).natAbs).length<=200:=by
 rw [Apa];split
 ·rename_i h; exact (Kz h).2.2
 ·simp
theorem Qa (z:Int) (h:(dig z.natAbs).length<=200):D5 (decide (z<0)) (dig z.natAbs)=true:=by
 unfold D5;have hk:=Br z.natAbs;rw [if_neg]
 ·exact Ae6.2 hk
 ·simp only [Fz,decide_eq_true_eq,Cf,not_or];refine ⟨⟨aA,fun h=>?_⟩,fun hz=>?_⟩
  ·have:=Gq.1 h.1; omega
  ·unfold Zu at hz;split at hz
   ·rename_i x hx;have sd:x=0:=cG
    subst sd;have ht:=Dw hk;rw [B4] at ht;have e:((z.natAbs:Int)).toNat=z.natAbs:=aA
    rw [e] at ht;have hl:=Bb hx;have h1:=Nj ((dig z.natAbs).length - 1) (dig z.natAbs) aA (fun j hj y hy=>by
     have:j=(dig z.natAbs).length - 1:=by have:=Bb hy; omega
     subst this;rw [hx] at hy; simpa using hy.symm)
    have h2:=P7 ((dig z.natAbs).take ((dig z.natAbs).length - 1));rw [<- h1,ht] at h2;simp at h2; omega
   ·simp at hz
theorem V_of (z:Int) (h:(dig z.natAbs).length<=200):V (decide (z<0)) (dig z.natAbs)=z:=by
 unfold V;rw [if_pos (Qa z h),B4];by_cases hz:z<0 <;> simp [hz] <;> omega
end
section
open Go
def digC (x:Int):List AV:=[.prim (.int .i64 x)]
def digA (l:List Int):AV:=.frz (l.map digC) .unk
def bigA (neg:Bool) (l:List Int):AV:=.agg [.prim (.bool neg),digA l]
def zA (z:Int):AV:=bigA (decide (z<0)) (dig z.natAbs)
def ownF:Option Tmp->TypeId->Bool
 | some 92,78|some 105,78|some 31,78|some 57,78|some 88,78|some 96,78=>true
 | some 32,168|some 240,168=>true
 | some 45,58|some 255,58=>true
 | some 240,177=>true
 | _,_=>false
def lkF0 (f:FuncId):Bool:=f == 216 || f == 217 || f == 218 || f == 219 || f == 220 || f == 221 || f == 222 || f == 223 ||
 f == 145 || f == 151 || f == 137
def anF0 (f:FuncId):Bool:=f == 136 || f == 180 || f == 170 || f == 140 || f == 266 ||
 f == 147 || f == 153
def mvF0 (f:FuncId):Bool:=f == 136 || f == 180 || f == 170 || f == 140 || f == 266 || f == 113 ||
 f == 115 || f == 121
instance:Globs:=⟨[],fun f=>f == 94 || f == 91 || f == 234,true,ownF,lkF0,anF0,true,false⟩
end
section
open Go
variable {P:Program}
@[reducible] def Ext.quiet (E:Ext P):Ext P:={ on:=E.on,mv:=E.mv,call:=fun _ _ _ _ _=>none }
theorem Gy [Globs] (E:Ext P) {call:Bd} {ok:St->List Oper->Bool} {n:Nat} : ∀ (c:Code) (st:St),@evC _ P (Ext.quiet E) call ok n c st=@evC _ P E call ok n c st
 | .skip,_=>cE
 | .region _ ops draw,st=>by simp only [evC]; rfl
 | .seq a b,st=>by
  simp only [evC,Gy E a];split <;> first|exact Gy E b _|rfl
 | .cond c a b,st=>by simp only [evC,Gy E a,Gy E b]
 | .block _ c,st=>by simp only [evC,Gy E c]
 | .loop c,st=>by
  simp only [evC];congr 1;funext s;exact Gy E c s
 | .exit _,_=>cE
 | .ret,_=>cE
 | .scope c,st=>by simp only [evC]; exact Gy E c st
 | .label _,_=>cE
 | .goto _,_=>cE
 | .rangeFunc _ _ _ _,_=>cE
 | .refuse _,_=>cE
theorem Xk [Globs] (E:Ext P) {ok:St->List Oper->Bool} : ∀ k,CLe (@evF _ P (Ext.quiet E) ok k) (@evF _ P E ok k)
 | 0=>Za2m
 | k+1=>by
  have ih:=Xk E (ok:=ok) k;intro f args S tk n r he;simp only [evF] at he ⊢;split at he
  ·simp at he
  rename_i gg;rw [if_neg (show ¬ @Ext.on P E f=true from gg)];split at he
  ·rename_i fn hf;split at he
   ·rename_i c hb;split at he
    ·simp at he
    ·rename_i aq;rw [if_neg aq];have out:∀ {st0:St} {r0:AV × St},outA P fn (@evC _ P (Ext.quiet E) (@evF _ P (Ext.quiet E) ok k) ok k c st0)=some r0->outA P fn (@evC _ P E (@evF _ P E ok k) ok k c st0)=some r0:=by
      intro st0 r0 h;rw [Gy E] at h;exact Kn (fun z hz=>B9 ih (Cb _) c _ z hz) h
     split at he
     ·rename_i sw;rw [if_pos (show @Ext.mv P E f=true from sw)];exact Ya31
     rename_i sw;rw [if_neg (show ¬ @Ext.mv P E f=true from sw)];split at he
     ·rename_i hp;rw [if_pos hp];have one:∀ {xs0:List AV} {r0:AV},@runP _ P (Ext.quiet E) ok (@evF _ P (Ext.quiet E) ok k) k fn c xs0=some r0->@runP _ P E ok (@evF _ P E ok k) k fn c xs0=some r0:=by
       intro xs0 r0 hrun;unfold runP at hrun ⊢;split at hrun
       ·rename_i r' s1 ho;rw [out ho];exact hrun
       ·simp at hrun
      split at he
      ·rename_i r' ho;have:(if G6 c=true then runN (@runP _ P E ok (@evF _ P E ok k) k fn c) (args.map w2) else @runP _ P E ok (@evF _ P E ok k) k fn c (args.map w2))=some r':=by
        exact Yay
       rw [this]; exact he
      ·simp at he
     ·rename_i hp;rw [if_neg hp];exact Ya31
   ·simp at he
  ·simp at he
theorem told [Globs] {E:Ext P} {f:FuncId} {args:List AV} {S:List Ent} {tk:List Nat} {n:Nat} {r:AV × List Ent × List Nat × Nat} (h:@cL _ P (Ext.quiet E) f args S tk n=some r):@cL _ P E f args S tk n=some r:=by
 obtain ⟨k,hk⟩:=(@J0 P _ (Ext.quiet E) _ _ _ _ _ _).1 h;exact (@J0 P _ E _ _ _ _ _ _).2 ⟨k,Xk E k _ _ _ _ _ _ hk⟩
theorem Ak6 [Globs] (E:Ext P):@Y5 _ P (Ext.quiet E):=by
 letI:=Ext.quiet E;refine ⟨fun f args S tk n r S' tk' n' h=>?_,fun M f args S tk n r S' tk' n' h=>?_⟩
 ·unfold extC at h; split at h <;> simp at h
 ·unfold Ec at h; split at h
  ·unfold extC at h; split at h <;> simp at h
  ·simp at h
end
section
open Go Tryz
def Pc:List (List AV)->Option (List Int)
 | []=>some []
 | [.prim (.int .i64 x)] :: r=>(Pc r).map (x :: ·)
 | _=>none
theorem Nr:∀ l:List Int,Pc (l.map digC)=some l
 | []=>rfl
 | x :: l=>by simp only [Cm,digC,Pc,Nr l,Cu]
def strC (s:ByteArray):List AV:=[.prim (.string s)]
def B2 (l:List ByteArray):AV:=.frz (l.map strC) .unk
def R3:List (List AV)->Option (List ByteArray)
 | []=>some []
 | [.prim (.string x)] :: r=>(R3 r).map (x :: ·)
 | _=>none
theorem Uk:∀ l:List ByteArray,R3 (l.map strC)=some l
 | []=>rfl
 | x :: l=>by simp only [Cm,strC,R3,Uk l,Cu]
theorem R4:∀ {es:List (List AV)} {l:List ByteArray},R3 es=some l->es=l.map strC
 | [],l,h=>by simp only [R3,A0] at h; subst h; rfl
 | e :: es,l,h=>by
  unfold R3 at h;split at h
  ·rename_i he; simp at he
  ·rename_i x r he;simp only [S9] at he;obtain ⟨rfl,rfl⟩:=he;simp only [B6] at h;obtain ⟨l',h1,rfl⟩:=h;rw [R4 h1]; rfl
  ·simp at h
def putS (l:List ByteArray) (s:ByteArray):List ByteArray :=
 match l with
 | []=>[s]
 | x :: r=>if sLt x s=true then x :: putS r s else if sEq x s=true then x :: r else s :: x :: r
def uniS (l:List ByteArray):List ByteArray:=l.foldl putS []
def Q7:Cap->Bool
 | .nilc=>true
 | _=>false
def quoF (l r:List Int):Option AV :=
 if l=dig (val l).toNat/\r=dig (val r).toNat/\r≠[]/\l.length<=90000/\r.length<=90000 then
  some (.tup [digA (dig ((val l).toNat / (val r).toNat)),digA (dig ((val l).toNat % (val r).toNat))]) else none
def quoC (args:List AV) (S:List Ent) (tk:List Nat) (n:Nat):Option (AV × List Ent × List Nat × Nat):=match args with
  | [.frz es _,.frz ys _]=>match Pc es,Pc ys with
   | some l,some r=>match quoF l r with
    | some v=>some (v,S,tk,n)
    | none=>none
   | _,_=>none
  | _=>none
def uniC (args:List AV) (S:List Ent) (tk:List Nat) (n:Nat):Option (AV × List Ent × List Nat × Nat):=match args with
  | [.frz es c,.frz [] .nilc]=>match R3 es with
   | some l=>if (decide (l.length<=1000000) && (!l.isEmpty || Q7 c))=true then some (B2 (uniS l),S,tk,n) else none
   | none=>none
  | _=>none
@[reducible] noncomputable def E1:Ext prog where
 on:=fun f=>f == 78 || f == 228
 mv:=mvF0
 call:=fun f args S tk n=>if f == 78 then uniC args S tk n else if f == 228 then quoC args S tk n else none
@[reducible] noncomputable instance E0:Ext prog:=Ext.quiet E1
instance:Y5 prog:=Ak6 E1
theorem ext_mv (f:FuncId) (h:mvF0 f=false):Ext.mv prog f=false:=h
set_option linter.defProp false in
def ev0:=Bv ext_mv <| Bv @entAt.eq_def <| Bv evt tys
set_option linter.defProp false in
def evs0:=Bv ext_mv <| Bv @Bz <| Bv @Ke <| Bv @Ac9 <| Bv @List.take_left.{0} <| Bv @Ir.{0} <| Bv evt tys
end
section
open Go
theorem Akw (s:ByteArray):∀ (n i:Nat) (r:List UInt8),s.size - i=n->fZ s i r=r.reverse++s.data.toList.drop i:=by
 intro n;induction n with
 | zero =>
  intro i r h;rw [fZ,if_neg aA,Ff aB,Fu]
 | succ n ih =>
  intro i r h;have hi:i<s.data.size:=aB
  rw [fZ,if_pos aA,ih (i+1) _ aA,List.reverse_cons,C7];congr 1;have e:s.data.toList.drop i=s.data[i] :: s.data.toList.drop (i+1):=by
   rw [<- Array.getElem_toList hi,List.getElem_cons_drop]
  rw [e,Sk];congr 1;show s.data[i]! = _;rw [getElem!_pos s.data i hi]
def nm (s:ByteArray):List UInt8:=s.data.toList
theorem Vp (s:ByteArray):s.toList=nm s:=by rw [ByteArray.toList,Akw s _ 0 [] rfl]; simp [nm]
theorem Ahq {a b:ByteArray} (h:nm a=nm b):a=b:=by
 apply ByteArray.ext; exact gG h
theorem N9:∀ (x y:List UInt8),Op.bytesLess x y=decide (x<y)
 | [],[]=>Za4g
 | a :: x,[]=>Za4g
 | [],b :: y=>Za4g
 | a :: x,b :: y=>by
  rw [Op.bytesLess,N9 x y];by_cases h1:a<b
  ·simp [h1,gC]
  ·by_cases h2:a=b
   ·subst h2; simp [gC]
   ·simp [h1,h2,gC]
theorem Aig (a b:ByteArray):sLt a b=decide (nm a<nm b):=by
 unfold sLt; rw [Vp,Vp,N9]
theorem Uh (a b:ByteArray):sEq a b=decide (a=b):=by
 unfold sEq; rw [Vp,Vp];by_cases h:a=b
 ·subst h; simp
 ·have:nm a≠nm b:=fun h'=>h (Ahq h');simp [h,this]
theorem Yg {a b c:List UInt8} (h1:a<b) (h2:b<c):a<c:=List.lt_trans h1 h2
theorem Ny (a:List UInt8):¬ a<a:=iS a
theorem Ahp (a b:ByteArray):nm a<nm b\/a=b\/nm b<nm a:=by
 by_cases h1:nm a<nm b
 ·exact .inl h1
 ·by_cases h2:nm b<nm a
  ·exact .inr (.inr h2)
  ·exact .inr (.inl (Ahq (List.le_antisymm (List.not_lt.1 h2) (List.not_lt.1 h1))))
def Inc (l:List ByteArray):Prop:=l.Pairwise fun a b=>nm a<nm b
theorem Z1 (s x:ByteArray):∀ l:List ByteArray,x ∈ putS l s↔x=s\/x ∈ l
 | []=>by simp [putS]
 | y :: r=>by
  rw [putS];split
  ·rw [Cy,Z1 s x r,Cy];constructor
   ·rintro (h|h|h) <;> simp [h]
   ·rintro (h|h|h) <;> simp [h]
  ·split
   ·rename_i h;rw [Uh] at h;have:y=s:=aI
    subst this;simp
   ·simp [or_comm,or_left_comm]
theorem Ag2 (s:ByteArray):∀ {l:List ByteArray},Inc l->Inc (putS l s)
 | [],_=>by simp [putS,Inc]
 | y :: r,h=>by
  have h0:=F7.1 h;rw [putS];split
  ·rename_i h1;rw [Aig] at h1;refine F7.2 ⟨fun x hx=>?_,Ag2 s h0.2⟩;rcases (Z1 s x r).1 hx with rfl|hx
   ·simpa using h1
   ·exact h0.1 x hx
  ·rename_i h1;rw [Aig] at h1;split
   ·exact h
   ·rename_i h2;rw [Uh] at h2;have h3:nm s<nm y:=by
     rcases Ahp s y with h|h|h
     ·exact h
     ·exact absurd (by simpa using h.symm) h2
     ·exact absurd aI h1
    refine F7.2 ⟨fun x hx=>?_,h⟩;rcases Cy.1 hx with rfl|hx
    ·exact h3
    ·exact Yg h3 (h0.1 x hx)
theorem Ahe (s:ByteArray):∀ l:List ByteArray,(putS l s).length<=l.length+1
 | []=>by simp [putS]
 | y :: r=>by
  rw [putS];have:=Ahe s r;split
  ·simp; exact this
  ·split <;> simp
theorem Nk (l:List ByteArray):Inc (uniS l)/\(∀ x,x ∈ uniS l↔x ∈ l)/\(uniS l).length<=l.length:=by
 have key:∀ (l acc:List ByteArray),Inc acc->Inc (l.foldl putS acc)/\(∀ x,x ∈ l.foldl putS acc↔x ∈ acc\/x ∈ l)/\(l.foldl putS acc).length<=acc.length+l.length:=by
  intro l;induction l with
  | nil=>intro acc h; exact ⟨h,fun x=>by simp,by simp⟩
  | cons s l ih =>
   intro acc h;obtain ⟨h1,h2,h3⟩:=ih (putS acc s) (Ag2 s h);refine ⟨h1,fun x=>?_,?_⟩
   ·rw [Ov,h2 x,Z1,Cy];constructor
    ·rintro ((h|h)|h) <;> simp [h]
    ·rintro (h|h|h) <;> simp [h]
   ·have:=Ahe s acc;simp only [Ov,Ck]; omega
 have:=key l [] (by simp [Inc]);exact ⟨this.1,fun x=>by simpa [uniS] using this.2.1 x,by simpa [uniS] using this.2.2⟩
theorem Ag1:∀ {l r:List ByteArray},Inc l->Inc r->(∀ x,x ∈ l↔x ∈ r)->l=r
 | [],[],_,_,_=>rfl
 | [],y :: r,_,_,h=>by have:=(h y).2 (by simp); simp at this
 | x :: l,[],_,_,h=>by have:=(h x).1 (by simp); simp at this
 | x :: l,y :: r,h1,h2,h=>by
  have a1:=F7.1 h1;have a2:=F7.1 h2;have iu:x=y:=by
   have m1:=(h x).1 (by simp);have m2:=(h y).2 (by simp);rcases Cy.1 m1 with e|m1
   ·exact e
   ·rcases Cy.1 m2 with e|m2
    ·exact e.symm
    ·exact absurd (Yg (a1.1 y m2) (a2.1 x m1)) (Ny _)
  subst iu;congr 1;refine Ag1 a1.2 a2.2 fun z=>?_;have hz:=h z;simp only [Cy] at hz;constructor
  ·intro hm;rcases hz.1 (.inr hm) with e|dx
   ·subst e; exact absurd (a1.1 z hm) (Ny _)
   ·exact dx
  ·intro hm;rcases hz.2 (.inr hm) with e|dx
   ·subst e; exact absurd (a2.1 z hm) (Ny _)
   ·exact dx
end
section
def inB (n:Int):Bool:=decide (-1000000000000<=n/\n<=1000000000000)
theorem G9 {n:Int} : inB n=true↔-1000000000000<=n/\n<=1000000000000:=by simp [inB]
theorem Agx {n:Int} : inB n=false↔¬ (-1000000000000<=n/\n<=1000000000000):=by simp [inB]
def chk (ok:Bool) (n:Int):Int × Bool:=if ok && inB n then (n,true) else (0,false)
def mulS (a b:Int):Int × Bool:=chk (inB a && inB b) (a*b)
def absS (n:Int):Int:=if n=-9223372036854775808 then 1000000000000 else if 0<=n then n else -n
theorem Am4 {n:Int} (h:inB n=true):absS n=n.natAbs:=by
 rw [G9] at h; unfold absS; split
 ·omega
 ·split <;> omega
theorem Aku (a b:Int) (h:a≠0) :
  (decide (1000000000000 / (a.natAbs:Int)<(b.natAbs:Int))=false/\-1000000000000<=a*b/\a*b<=1000000000000/\inB (a*b)=true) \/
  (decide (1000000000000 / (a.natAbs:Int)<(b.natAbs:Int))=true/\inB (a*b)=false):=by
 have hp:0<(a.natAbs:Int):=aA
 have hab:((a*b).natAbs:Int)=(b.natAbs:Int)*a.natAbs:=by rw [Ik]; push_cast; rw [Fp]
 by_cases hc:1000000000000 / (a.natAbs:Int)<(b.natAbs:Int)
 ·right;refine ⟨by simpa using hc,?_⟩;rw [Int.ediv_lt_iff_lt_mul hp] at hc;rw [Agx];omega
 ·left;have hd:=hc;rw [Int.ediv_lt_iff_lt_mul hp] at hc;rw [G9];refine ⟨by simpa using hd,?_⟩;omega
theorem drop_nil {α:Type} {l:List α} {n:Nat} (h:l.length<=n):l.drop n=[]:=Ff h
end
section
open Go Tryz
def i64 (n:Int):Prop:=-9223372036854775808<=n/\n<=9223372036854775807
theorem Ac {n:Int} (h:i64 n):Ce.wrap n=n:=Go.IntWalk.i64_in n h
theorem Db {i:Nat} (h:i<=1048576):Ce.wrap ((i:Int)+1)=((i+1:Nat):Int):=aT
theorem Ai8 {j:Nat} (h:j<=1048576):Ce.wrap (((j+1:Nat):Int) - 1)=(j:Int):=aT
theorem Er {α β:Type} (f:α->β):∀ (l:List α) (i:Nat),nth (l.map f) i=(nth l i).map f
 | [],_=>rfl
 | _ :: _,0=>rfl
 | _ :: l,i+1=>Er f l i
theorem Av {α:Type} : ∀ {l:List α} {i:Nat} {x:α},nth l i=some x->l.drop i=x :: l.drop (i+1)
 | y :: l,0,x,h=>dU
 | _ :: l,i+1,x,h=>Av (l:=l) (i:=i) h
 | [],_,_,h=>bU
theorem Gr (l:List Int):Dv 1 (l.map digC)=true:=Gb (f:=digC) (sz:=1) (fun _=>rfl) l
theorem E5 {l:List Int} {i:Nat} {x:Int} (h:nth l i=some x):nth (l.map digC) i=some [.prim (.int .i64 x)]:=dP
theorem Zv {l:List Int} (h:l≠[]):((l.length:Int) == 0)=false:=by
 exact Ya2l
theorem Zw {l:List Int} (h:l≠[]):decide ((l.length:Int) > 0)=true:=by
 exact Ya2l
theorem Akl {l:List Int} (h:l≠[]) (hl:l.length<=1000000):Ce.wrap ((l.length:Int) - 1)=((l.length - 1:Nat):Int):=by
 have:l.length≠0:=fun h'=>h (C5.1 h');rw [Ac aD]; omega
section
variable (S:List Ent) (tk:List Nat) (k:Nat)
theorem Mj (neg:Bool) (l:List Int) (c:Cap) (hlen:l.length<=1000000):cL prog 51 [.agg [.bool neg,.frz (l.map digC) c]] S tk k=some (.bool (D5 neg l),S,tk,k):=by
 refine opP func51 ntmps51 ?_;by_cases h1:200<l.length
 ·have d1:decide ((l.length:Int) > 200)=true:=aB
  simp (maxSteps:=10^6)+contextual(disch:=try exact dqd)only[ev0,simprocAttr,Cg,Ca,Ch,results51,d1];all_goals simp [D5,h1]
 have d1:decide ((l.length:Int) > 200)=false:=aB
 have hv:D5 neg l=if ((decide (l=[]) && neg) || Zu l)=true then false else allD l:=by simp [D5,h1]
 rw [hv];by_cases h2:l=[]
 ·have d2:(((0:Nat):Int) == 0)=true:=rfl;have d3:decide (((0:Nat):Int) > 0)=false:=rfl;cases neg with
  | true =>
   subst h2;simp (maxSteps:=10^6)+contextual(disch:=try exact dqd)only[ev0,simprocAttr,Cg,Ca,Ch,results51,d1,d2,d3,Cw];all_goals simp
  | false =>
   have hz:Zu l=false:=by subst h2; rfl
   rw [hz];simp only [Bool.and_false,Fk,C4,if_false];have dz:l.length=0:=by rw [h2]; rfl
   have d2:((l.length:Int) == 0)=true:=by rw [dz]; rfl
   have d3:decide ((l.length:Int) > 0)=false:=by rw [dz]; rfl
   simp (maxSteps:=10^6)+contextual(disch:=try exact dqd)only[ev0,simprocAttr,Cg,Ca,Ch,results51,d1,d2,d3];refine loop1 (P:=prog) (fun x st=>st.T.length=46/\(x<=l.length)/\(allD l=allD (l.drop x))/\getT st.T 33=digA l/\getT st.T 34=.int l.length/\getT st.T 35=.int (x:Nat)/\st.S=[⟨0,[.bool false,digA l]⟩]) (fun x=>l.length - x) (fun x=>.bool (allD l)) (0) ?_ ?_;case refine_2=>exact ⟨rfl,Cs _,rfl,rfl,rfl,rfl,rfl⟩
   rintro i ⟨T,S',tk',n'⟩ ⟨hl,hi,hn,e33,e34,e35,eS⟩ IH;exact Ya6
 ·have d2:=Zv h2;have d3:=Zw h2;have d4:=Akl h2 hlen;have hp:l.length≠0:=fun h'=>h2 (C5.1 h');obtain ⟨x,hx⟩:=Ah (l:=l) (i:=l.length - 1) aA;have hx':=E5 hx;have hz:Zu l=(x == 0):=by unfold Zu; rw [hx]
  rw [hz];cases d5:x == 0 with
  | true =>
   simp (maxSteps:=10^6)+contextual(disch:=try exact dqd)only[ev0,simprocAttr,Cg,Ca,Ch,results51,d1,d2,d3,d4,hx',d5];all_goals simp
  | false =>
   simp only [h2,decide_false,F2,Fk,C4,if_false];simp (maxSteps:=10^6)+contextual(disch:=try exact dqd)only[ev0,simprocAttr,Cg,Ca,Ch,results51,d1,d2,d3,d4,hx',d5];refine loop1 (P:=prog) (fun x st=>st.T.length=46/\(x<=l.length)/\(allD l=allD (l.drop x))/\getT st.T 33=digA l/\getT st.T 34=.int l.length/\getT st.T 35=.int (x:Nat)/\st.S=[⟨0,[.bool neg,digA l]⟩]) (fun x=>l.length - x) (fun x=>.bool (allD l)) (0) ?_ ?_;case refine_2=>exact ⟨rfl,Cs _,rfl,rfl,rfl,rfl,rfl⟩
   rintro i ⟨T,S',tk',n'⟩ ⟨hl,hi,hn,e33,e34,e35,eS⟩ IH;exact Ya6
end
end
section
open Go
def numC (x:Int):AV:=.prim (.int .i64 x)
theorem Ahr {l:List Int} {i:Nat} {x:Int} (h:nth l i=some x):nth ((l.map numC).drop i) 0=some (.prim (.int .i64 x)):=by
 have:nth (l.map numC) i=some (numC x):=dP
 exact D0 this
theorem Ab4 {l:List Int} {i:Nat} {x v:Int} (h:nth l i=some x):over (l.map numC) i [.prim (.int .i64 v)]=some ((l.set i v).map numC):=by
 have h1:nth (l.map numC) i=some (numC x):=dP
 rw [Vt h1];have:(.prim (.int .i64 v):AV)=numC v:=rfl;rw [this,N1,Rk]
theorem Ad8 {l:List Int} {n:Nat} (h:n<=l.length):Je 1 n (l.map numC)=some ((l.take n).map digC):=Ug h
theorem Aea (l:List Int):Pi (some (l.map digC))=.frz (l.map digC) .unk:=by
 unfold Pi;simp only;rw [if_pos (by simp [digC,pure1,w1,fU])];congr 1;simp [w1,digC]
theorem Ji {l:List Int} {n:Nat} (hn:n<=l.length) (hz:∀ j,n<=j->∀ x,nth l j=some x->x=0) (he:n=0\/∃ x,nth l (n - 1)=some x/\x≠0):Dk l=l.take n:=by
 rw [Nj n l hn hz];rcases he with rfl|⟨x,hx,h0⟩
 ·simp [Dk]
 ·by_cases h1:n=0
  ·subst h1; simp [Dk]
  ·refine We _ (n - 1) x ?_ aB h0;rw [Ae,Iq aA,<- Ae]; exact hx
theorem Ab5 {n:Nat} (h:n≠0) (hl:n<=1000000):Ce.wrap ((n:Int) - 1)=((n - 1:Nat):Int):=by
 rw [Ac aD]; omega
theorem Zp {l:List Int} {n:Nat} {x:Int} (hz:∀ j,n<=j->∀ x,nth l j=some x->x=0) (hx:nth l (n - 1)=some x) (sd:x=0):∀ j,n - 1<=j->∀ y,nth l j=some y->y=0:=fun j hj y hy=>by
 by_cases e:j=n - 1
 ·rw [e,hx] at hy; simp only [A0] at hy; omega
 ·exact hz j aA y hy
theorem Vi (l:List Int):∀ j,l.length<=j->∀ x,nth l j=some x->x=0:=fun j hj x hx=>by have:=Bb hx; omega
theorem Ame:∀ {l r:List Int} {i:Nat} {x y:Int},l.length=r.length->okD l->okD r->nth l i=some x->nth r i=some y->x<y->(∀ j,i<j->nth l j=nth r j)->val l<val r
 | d :: l,e :: r,0,x,y,hl,h1,h2,hx,hy,iu,he=>by
  simp only [nth,A0] at hx hy; subst hx hy;have:l=r:=by
   apply List.ext_getElem?;intro j;have:=he (j+1) aA;simp only [nth,Ae] at this; exact this
  subst this; simp only [val]; omega
 | d :: l,e :: r,i+1,x,y,hl,h1,h2,hx,hy,iu,he=>by
  have ih:=Ame (l:=l) (r:=r) (i:=i) bS (fun z hz=>h1 z (by simp [hz])) (fun z hz=>h2 z (by simp [hz])) hx hy iu fun j hj=>he (j+1) aA;have g1:=h1 d (by simp);have g2:=h2 e (by simp);simp only [val]; omega
 | [],_,_,_,_,_,_,_,hx,_,_,_=>by simp [nth] at hx
 | _ :: _,[],_,_,_,_,_,_,_,hy,_,_=>by simp [nth] at hy
def cmpN (a b:Nat):Int:=if a<b then -1 else if b<a then 1 else 0
theorem Qo {a b:Nat} (h:(dig a).length<(dig b).length):a<b:=by
 have h1:=Bg (n:=a) (k:=(dig a).length);have h2:=Bg (n:=b) (k:=(dig a).length);have h3:¬ (dig b).length<=(dig a).length:=aA
 rw [h2] at h3;have:=h1.1 (Cb _);omega
theorem Al6 {a b i:Nat} {x y:Int} (hl:(dig a).length=(dig b).length) (hx:nth (dig a) i=some x) (hy:nth (dig b) i=some y) (h:x<y) (he:∀ j,i<j->nth (dig a) j=nth (dig b) j):a<b:=by
 have:=Ame hl (Br a) (Br b) hx hy h he;rw [B4,B4] at this; omega
theorem Aj3 {a b:Nat} (he:∀ j,nth (dig a) j=nth (dig b) j):a=b:=by
 refine Anf (List.ext_getElem? fun j=>?_);rw [<- Ae,<- Ae]; exact he j
theorem Wd {n:Nat} (hl:n<=1000000):Ce.wrap ((n:Int) - 1)=(n:Int) - 1:=Ac aD
theorem B5 {l:List Int} {i j:Nat} {x v:Int} (h:nth (l.set i v) j=some x):(j=i/\x=v)\/(j≠i/\nth l j=some x):=by
 rw [<- Rk] at h;by_cases e:i=j
 ·subst e; exact .inl ⟨rfl,Dy h⟩
 ·rw [Ad e] at h; exact .inr ⟨fun h=>e h.symm,h⟩
theorem Pf {l:List Int} {i:Nat} {v:Int} (h:i<l.length):nth (l.set i v) i=some v:=by
 rw [Ae,List.getElem?_set_self h]
theorem Uc {l:List Int} (h:∀ j x,nth l j=some x->0<=x/\x<10000):okD l:=fun d hd=>by
 obtain ⟨j,hj⟩:=List.mem_iff_getElem?.1 hd;exact h j d (by rw [Ae]; exact hj)
theorem Du {l:List Int} (h:okD l) {j:Nat} {x:Int} (hx:nth l j=some x):0<=x/\x<10000:=h x dW
def padL (l:List Int) (n:Nat):List Int:=l++Cd (n - l.length) 0
theorem Vv {l:List Int} {n:Nat} (h:l.length<=n):(padL l n).length=n:=by simp [padL]; omega
theorem Vw (l:List Int) (n:Nat):val (padL l n)=val l:=by rw [padL,Gc,Hd]; omega
theorem Ahw {l:List Int} {n j:Nat} {x:Int} (h:nth (padL l n) j=some x):nth l j=some x\/(l.length<=j/\x=0):=by
 rw [Ae,padL] at h;by_cases hj:j<l.length
 ·rw [Cp hj] at h; left; rw [Ae]; exact h
 ·rw [C8 aA] at h;right;refine ⟨aA,?_⟩;have:=Il h;exact (Ih.1 this).2
theorem Y4 (n:Nat):(Cd n [(.prim (.int .i64 0):AV)]).flatten=(Cd n (0:Int)).map numC:=by
 rw [Akh,iN]; rfl
def Ara (n:Nat):List AV:=(Cd n (0:Int)).map numC
theorem Ap9 {P:Program} {t:TypeId} {n:Nat} (hz:(A7 P t).bind (Ar P)=some [.prim (.int .i64 0)]) (hs:(A7 P t).bind (szOf P)=some 1) (hb:(A7 P t).bind (H5 P)=some 8) (hn:n<=1048576) :
  mkA P t (.prim (.int .i64 (n:Int))) (.prim (.int .i64 (n:Int)))=some (n,1,Ara n):=by
 unfold mkA;rw [hz,hs,hb,intN_cast];simp only [mkB];rw [if_pos ⟨Cb _,hn,aA,rfl⟩,Y4]; rfl
theorem H3:∀ l:List Int,Dk l=l.take (Dk l).length
 | []=>rfl
 | d :: l=>by
  rw [Dk];split
  ·rfl
  ·simp only [Ck,F4];rw [<- H3 l]
theorem Jx (n:Nat):(0:Int)<10000 ^ n:=Int.pow_pos aA
structure Plus1 (a b la i:Nat) (out:List Int):Prop where
 len:out.length=la+1
 val:val out+10000 ^ i*val ((dig b).drop i)=(a+b:Nat)
 ok:∀ j x,nth out j=some x->0<=x/\(j<i->x<=19998)/\(i<=j->x<10000)/\(j=la->x=0)
theorem Plus1.start {a b:Nat} : Plus1 a b (dig a).length 0 (padL (dig a) ((dig a).length+1)):=by
 refine ⟨Vv aA,?_,fun j x hx=>?_⟩
 ·rw [Vw,B4,Fs,B4]; simp
 ·rcases Ahw hx with h|⟨h,rfl⟩
  ·have:=Du (Br a) h;have hl:=Bb h;exact ⟨this.1,aA,fun _=>this.2,fun e=>aA⟩
  ·exact ⟨aA,aA,aA,fun _=>rfl⟩
theorem Plus1.step {a b la i:Nat} {out:List Int} {x d:Int} (h:Plus1 a b la i out) (hb:i<la) (hx:nth out i=some x) (hd:nth (dig b) i=some d):Plus1 a b la (i+1) (out.set i (x+d)):=by
 have px:=Du (Br b) hd;refine ⟨bK,?_,fun j y hy=>?_⟩
 ·have hv:=h.val;rw [Av hd,Go.Proofs.YthelkgdmgihhiaaGreat.val] at hv;rw [Gv hx,<- hv,Iu,I7];have e1:x+d - x=d:=aA
  rw [e1,Fp d,F1]; omega
 ·rcases B5 hy with ⟨rfl,rfl⟩|⟨hne,hy⟩
  ·have:=h.ok _ x hx;exact ⟨aA,aA,aA,aA⟩
  ·have:=h.ok j y hy;exact ⟨this.1,fun hj=>this.2.1 aA,fun hj=>this.2.2.1 aA,this.2.2.2⟩
structure Plus2 (v la i:Nat) (out:List Int):Prop where
 len:out.length=la+1
 val:val out=v
 ok:∀ j x,nth out j=some x->0<=x/\(j<i->x<10000)/\(j=i->x<=19999)/\(i<j->x<=19998)/\(j=la->x<=1/\(i<la->x=0))
theorem Plus2.start {a b la:Nat} {out:List Int} (h:Plus1 a b la (dig b).length out):Plus2 (a+b) la 0 out:=by
 refine ⟨h.len,?_,fun j x hx=>?_⟩
 ·have:=h.val;rw [Fh,Go.Proofs.YthelkgdmgihhiaaGreat.val] at this; omega
 ·have:=h.ok j x hx;refine ⟨this.1,aA,fun _=>?_,fun _=>?_,fun e=>⟨by have:=this.2.2.2 e; omega,fun _=>this.2.2.2 e⟩⟩
  ·rcases Ic j (dig b).length with hj|hj
   ·have:=this.2.1 hj; omega
   ·have:=this.2.2.1 hj; omega
  ·rcases Ic j (dig b).length with hj|hj
   ·exact this.2.1 hj
   ·have:=this.2.2.1 hj; omega
theorem Plus2.small {v la i:Nat} {out:List Int} {x:Int} (h:Plus2 v la i out) (hi:i<la) (hx:nth out i=some x) (h1:x<10000):Plus2 v la (i+1) out:=by
 refine ⟨h.len,h.val,fun j y hy=>?_⟩;have:=h.ok j y hy;refine ⟨this.1,fun hj=>?_,fun hj=>by have:=this.2.2.2.1 aA; omega,fun hj=>this.2.2.2.1 aA,fun e=>⟨(this.2.2.2.2 e).1,fun _=>(this.2.2.2.2 e).2 hi⟩⟩;exact Ya16
theorem Plus2.big {v la i:Nat} {out:List Int} {x y:Int} (h:Plus2 v la i out) (hi:i<la) (hx:nth out i=some x) (h1:10000<=x) (hy:nth (out.set i (x - 10000)) (i+1)=some y):Plus2 v la (i+1) ((out.set i (x - 10000)).set (i+1) (y+1)):=by
 refine ⟨Za23,?_,fun j z hz=>?_⟩
 ·rw [Gv hy,Gv hx,<- h.val,Iu];have e1:x - 10000 - x=-10000:=aA
  have e2:y+1 - y=1:=aA
  rw [e1,e2,Int.one_mul,Fp (10000 ^ i) 10000,fR]; omega
 ·have hyo:nth out (i+1)=some y:=by
   rcases B5 hy with ⟨e,-⟩|⟨-,hy⟩
   ·omega
   ·exact hy
  have hk:=h.ok i x hx;have hky:=h.ok (i+1) y hyo;rcases B5 hz with ⟨rfl,rfl⟩|⟨hne,hz⟩
  ·refine ⟨aA,aA,fun _=>by have:=hky.2.2.2.1 aA; omega,aA,fun e=>?_⟩;have:=(hky.2.2.2.2 e).2 hi;exact ⟨aA,aA⟩
  ·rcases B5 hz with ⟨rfl,rfl⟩|⟨ve,hz⟩
   ·exact ⟨aA,fun _=>aA,aA,aA,aA⟩
   ·have:=h.ok j z hz;exact ⟨this.1,fun hj=>this.2.1 aA,fun hj=>aA,fun hj=>this.2.2.2.1 aA,fun e=>⟨(this.2.2.2.2 e).1,fun _=>(this.2.2.2.2 e).2 hi⟩⟩
theorem Plus2.done {v la:Nat} {out:List Int} (h:Plus2 v la la out):Dk out=dig v:=by
 have hk:okD out:=Uc fun j x hx=>by
  have:=h.ok j x hx;have hl:=Bb hx;rw [h.len] at hl;refine ⟨this.1,?_⟩;rcases Ic j la with hj|hj
  ·exact this.2.1 hj
  ·have:=(this.2.2.2.2 aA).1; omega
 rw [Dw hk,h.val]; congr 1
theorem Acv {l:List Int} (h:okD l):val l<10000 ^ l.length:=by
 induction l with
 | nil=>simp [val]
 | cons d l ih =>
  have h1:=h d (by simp);have h2:=ih fun x hx=>h x bG;simp only [val,Ck,Iu]; omega
structure Tm (a b la i:Nat) (out:List Int):Prop where
 len:out.length=la
 eqv:val out - 10000 ^ i*val ((dig b).drop i)=(a:Int) - b
 ok:∀ j x,nth out j=some x->-9999<=x/\x<=9999/\(i<=j->0<=x)
theorem Tm.start {a b:Nat} : Tm a b (dig a).length 0 (padL (dig a) (dig a).length):=by
 refine ⟨Vv aA,?_,fun j x hx=>?_⟩
 ·rw [Vw,B4,Fs,B4]; simp
 ·rcases Ahw hx with h|⟨h,rfl⟩
  ·have:=Du (Br a) h; exact ⟨aA,aA,fun _=>this.1⟩
  ·exact ⟨aA,aA,fun _=>aA⟩
theorem Tm.step {a b la i:Nat} {out:List Int} {x d:Int} (h:Tm a b la i out) (hx:nth out i=some x) (hd:nth (dig b) i=some d):Tm a b la (i+1) (out.set i (x - d)):=by
 have px:=Du (Br b) hd;refine ⟨bK,?_,fun j y hy=>?_⟩
 ·have hv:=h.eqv;rw [Av hd,val] at hv;rw [Gv hx,<- hv,Iu,I7];have e1:x - d - x=-d:=aA
  rw [e1,fR,Fp d,F1]; omega
 ·rcases B5 hy with ⟨rfl,rfl⟩|⟨hne,hy⟩
  ·have:=h.ok _ x hx;exact ⟨by have:=this.2.2 (Cb _); omega,aA,aA⟩
  ·have:=h.ok j y hy;exact ⟨this.1,this.2.1,fun hj=>this.2.2 aA⟩
structure Lo (v:Nat) (la i:Nat) (out:List Int):Prop where
 len:out.length=la
 eqv:val out=v
 ok:∀ j x,nth out j=some x->x<=9999/\(j<i->0<=x)/\(j=i->-10000<=x)/\(i<j->-9999<=x)
theorem Lo.start {a b la:Nat} {out:List Int} (h:Tm a b la (dig b).length out) (hab:b<=a):Lo (a - b) la 0 out:=by
 refine ⟨h.len,?_,fun j x hx=>?_⟩
 ·have:=h.eqv;rw [Fh,val] at this; omega
 ·have:=h.ok j x hx; exact ⟨this.2.1,aA,aA,aA⟩
theorem Lo.small {v la i:Nat} {out:List Int} {x:Int} (h:Lo v la i out) (hx:nth out i=some x) (h1:0<=x):Lo v la (i+1) out:=by
 refine ⟨h.len,h.eqv,fun j y hy=>?_⟩;have:=h.ok j y hy;refine ⟨this.1,fun hj=>?_,fun hj=>by have:=this.2.2.2 aA; omega,fun hj=>this.2.2.2 aA⟩;exact Ya16
theorem Lo.neg {v la i:Nat} {out:List Int} {x y:Int} (h:Lo v la i out) (hx:nth out i=some x) (h1:x<0) (hy:nth (out.set i (x+10000)) (i+1)=some y):Lo v la (i+1) ((out.set i (x+10000)).set (i+1) (y - 1)):=by
 have hyo:nth out (i+1)=some y:=by
  rcases B5 hy with ⟨e,-⟩|⟨-,hy⟩
  ·omega
  ·exact hy
 have hk:=h.ok i x hx;have hky:=h.ok (i+1) y hyo;refine ⟨Za23,?_,fun j z hz=>?_⟩
 ·rw [Gv hy,Gv hx,<- h.eqv,Iu];have e1:x+10000 - x=10000:=aA
  have e2:y - 1 - y=-1:=aA
  rw [e1,e2,Fp (10000 ^ i) 10000]; omega
 ·rcases B5 hz with ⟨rfl,rfl⟩|⟨hne,hz⟩
  ·exact ⟨aA,aA,fun _=>by have:=hky.2.2.2 aA; omega,aA⟩
  ·rcases B5 hz with ⟨rfl,rfl⟩|⟨ve,hz⟩
   ·exact ⟨aA,fun _=>by have:=hk.2.2.1 rfl; omega,aA,aA⟩
   ·have:=h.ok j z hz;exact ⟨this.1,fun hj=>this.2.1 aA,fun hj=>aA,fun hj=>this.2.2.2 aA⟩
theorem Lo.done {v la:Nat} {out:List Int} (h:Lo v la la out):Dk out=dig v:=by
 have hk:okD out:=Uc fun j x hx=>by
  have:=h.ok j x hx;have hl:=Bb hx;rw [h.len] at hl;exact ⟨this.2.1 hl,aA⟩
 rw [Dw hk,h.eqv]; congr 1
theorem P8 (l:List Int) (i:Nat):val (l.drop i)=(nth l i).getD 0+10000*val (l.drop (i+1)):=by
 by_cases h:i<l.length
 ·obtain ⟨x,hx⟩:=Ah h;rw [Av hx,hx]; rfl
 ·rw [Ff aA,Ff aA,Ae,E9 aA]; rfl
theorem Pw (a i:Nat):0<=(nth (dig a) i).getD 0/\(nth (dig a) i).getD 0<10000:=by
 cases h:nth (dig a) i with
 | none=>simp
 | some x=>exact Du (Br a) h
theorem P3 {l:List Int} {x:Int} (h:okD l) (h0:0<=x) (h1:x<10000):okD (l++[x]):=fun d hd=>by
 rcases Cr.1 hd with hd|hd
 ·exact h d hd
 ·simp at hd; subst hd; exact ⟨h0,h1⟩
theorem P9 (l:List Int) (x:Int):val (l++[x])=val l+10000 ^ l.length*x:=by rw [Gc]; simp [val]
theorem Li (i:Nat) (x r:Int):(10000:Int) ^ i*x+10000 ^ (i+1)*r=10000 ^ i*(x+10000*r):=by rw [Iu,I7,F1]
structure Sum1 (a b i:Nat) (c:Int) (out:List Int):Prop where
 len:out.length=i
 ok:okD out
 c0:0<=c/\c<=1
 eqv:val out+10000 ^ i*(c+val ((dig a).drop i)+val ((dig b).drop i))=(a+b:Nat)
theorem Sum1.step {a b i:Nat} {c n:Int} {out:List Int} (h:Sum1 a b i c out) (hn:n=(nth (dig a) i).getD 0+(nth (dig b) i).getD 0+c):Sum1 a b (i+1) (n.tdiv 10000) (out++[n.tmod 10000])/\0<=n/\n<=19999/\0<=n.tmod 10000/\n.tmod 10000<10000:=by
 have h1:=Pw a i;have h2:=Pw b i;have h3:=h.c0;have e1:n.tdiv 10000=n / 10000:=C9 aA;have e2:n.tmod 10000=n % 10000:=F5 aA;refine ⟨⟨dR,P3 h.ok aA aA,aA,?_⟩,aA,aA,aA,aA⟩;have hv:=h.eqv;rw [P8 (dig a) i,P8 (dig b) i] at hv;have:n.tmod 10000+10000*(n.tdiv 10000+val ((dig a).drop (i+1))+val ((dig b).drop (i+1)))=c+((nth (dig a) i).getD 0+10000*val ((dig a).drop (i+1)))+((nth (dig b) i).getD 0+10000*val ((dig b).drop (i+1))):=aA
 exact Ya2a
theorem Sum1.done {a b i:Nat} {c:Int} {out:List Int} (h:Sum1 a b i c out) (h1:(dig a).length<=i) (h2:(dig b).length<=i) (h3:c=0):Dk out=dig (a+b):=by
 have hv:=h.eqv;rw [Ff h1,Ff h2,h3] at hv;simp only [val] at hv;rw [Dw h.ok];congr 1; omega
structure Dif1 (a b i:Nat) (c:Int) (out:List Int):Prop where
 len:out.length=i
 ok:okD out
 c0:0<=c/\c<=1
 eqv:val out+10000 ^ i*(val ((dig a).drop i) - val ((dig b).drop i) - c)=(a:Int) - b
theorem Dif1.step {a b i:Nat} {c n d:Int} {out:List Int} (h:Dif1 a b i c out) (hd:nth (dig a) i=some d) (hn:n=d - (nth (dig b) i).getD 0 - c):(n<0->Dif1 a b (i+1) 1 (out++[n+10000]))/\(¬ n<0->Dif1 a b (i+1) 0 (out++[n]))/\-10000<=n/\n<10000:=by
 have h1:=Du (Br a) hd;have h2:=Pw b i;have h3:=h.c0;have hv:=h.eqv;rw [P8 (dig b) i,Av hd,val] at hv;refine ⟨fun j0=>⟨dR,P3 h.ok aA aA,aA,?_⟩,fun j0=>⟨dR,P3 h.ok aA aA,aA,?_⟩,aA,aA⟩
 ·have:n+10000+10000*(val ((dig a).drop (i+1)) - val ((dig b).drop (i+1)) - 1)=d+10000*val ((dig a).drop (i+1)) - ((nth (dig b) i).getD 0+10000*val ((dig b).drop (i+1))) - c:=aA
  exact Ya2a
 ·have:n+10000*(val ((dig a).drop (i+1)) - val ((dig b).drop (i+1)) - 0)=d+10000*val ((dig a).drop (i+1)) - ((nth (dig b) i).getD 0+10000*val ((dig b).drop (i+1))) - c:=aA
  exact Ya2a
theorem Ab0 {a b:Nat} (h:b<=a):(dig b).length<=(dig a).length:=by
 rw [Bg];have:=(Bg (n:=a) (k:=(dig a).length)).1 (Cb _);omega
theorem Dif1.done {a b:Nat} {c:Int} {out:List Int} (h:Dif1 a b (dig a).length c out) (hab:b<=a):Dk out=dig (a - b):=by
 have hv:=h.eqv;have h3:=h.c0;rw [Fh,Ff (Ab0 hab)] at hv;simp only [val] at hv;have hlt:=Acv h.ok;rw [h.len] at hlt;have hp:=Jx (dig a).length;have hc:c=0:=by
  rcases Int.lt_or_le c 1 with h1|h1
  ·omega
  ·have:c=1:=aA
   subst this;have:(10000:Int) ^ (dig a).length*(0 - 0 - 1)=-(10000 ^ (dig a).length):=aA
   omega
 subst hc;rw [Dw h.ok];congr 1;have:(10000:Int) ^ (dig a).length*(0 - 0 - 0)=0:=by simp
 omega
theorem L5 {l:List Int} {i:Nat} {x:Int} (h:okD l) (h0:0<=x) (h1:x<10000):okD (l.set i x):=fun d hd=>by
 rcases List.mem_or_eq_of_mem_set hd with hd|rfl
 ·exact h d hd
 ·exact ⟨h0,h1⟩
structure Mul1 (X Y i:Nat) (out:List Int):Prop where
 len:out.length=(dig X).length+(dig Y).length
 ok:okD out
 zero:∀ j x,i+(dig Y).length<=j->nth out j=some x->x=0
 eqv:val out+10000 ^ i*(val ((dig X).drop i)*Y)=X*Y
theorem Mul1.start (X Y:Nat):Mul1 X Y 0 (Cd ((dig X).length+(dig Y).length) 0):=by
 have hz:∀ (n j:Nat) (x:Int),nth (Cd n (0:Int)) j=some x->x=0:=fun n j x h=>by
  exact Ya2r
 refine ⟨by simp,Uc fun j x hx=>by rw [hz _ _ _ hx]; omega,fun j x _ hx=>hz _ _ _ hx,?_⟩;rw [Hd,Fs,B4]; simp
structure Mul2 (X Y i k:Nat) (v d c:Int) (out:List Int):Prop where
 len:out.length=(dig X).length+(dig Y).length
 ok:okD out
 zero:∀ j x,i+(dig Y).length<=j->(k<=(dig Y).length\/i+(dig Y).length<j)->nth out j=some x->x=0
 c0:0<=c/\c<10000
 eqv:val out+10000 ^ (i+k)*(c+d*val ((dig Y).drop k))=v
theorem Mul2.start {X Y i:Nat} {d:Int} {out:List Int} (h:Mul1 X Y i out):Mul2 X Y i 0 (val out+10000 ^ i*(d*Y)) d 0 out :=
 ⟨h.len,h.ok,fun j x hj _ hx=>h.zero j x hj hx,aA,by rw [Fs,B4]; simp⟩
theorem Mul2.step {X Y i k:Nat} {v d c x n:Int} {out:List Int} (h:Mul2 X Y i k v d c out) (hk:k<=(dig Y).length) (hd:0<=d/\d<10000) (hx:nth out (i+k)=some x) (hn:n=c+x+d*(nth (dig Y) k).getD 0) :
  Mul2 X Y i (k+1) v d (n.tdiv 10000) (out.set (i+k) (n.tmod 10000))/\0<=n/\n<=99999999/\n.tdiv 10000=n / 10000:=by
 have h1:=Pw Y k;have h2:=Du h.ok hx;have h3:=h.c0;have s8:0<=d*(nth (dig Y) k).getD 0:=O7 hd.1 h1.1;have hp1:d*(nth (dig Y) k).getD 0<=9999*9999:=Int.mul_le_mul aA aA h1.1 aA;have e1:n.tdiv 10000=n / 10000:=C9 aA;have e2:n.tmod 10000=n % 10000:=F5 aA;refine ⟨⟨bK,L5 h.ok aA aA,fun j y hj hjk hy=>?_,aA,?_⟩,aA,aA,e1⟩
 ·rcases B5 hy with ⟨rfl,rfl⟩|⟨hne,hy⟩
  ·have hkk:k=(dig Y).length:=aA
   omega
  ·exact h.zero j y hj aA hy
 ·have hv:=h.eqv;rw [P8 (dig Y) k] at hv;have jk:d*((nth (dig Y) k).getD 0+10000*val ((dig Y).drop (k+1)))=d*(nth (dig Y) k).getD 0+10000*(d*val ((dig Y).drop (k+1))):=by
   rw [I7,Int.mul_left_comm]
  rw [jk] at hv;rw [Gv hx,gN,<- Si,Fp (n.tmod 10000 - x),Li,<- hv];congr 2;omega
theorem Mul2.next {X Y i:Nat} {d c x:Int} {o out:List Int} (h:Mul2 X Y i (dig Y).length (val o+10000 ^ i*(d*Y)) d c out) (h0:Mul1 X Y i o) (hd:nth (dig X) i=some d) (hx:nth out (i+(dig Y).length)=some x):x=0/\Mul1 X Y (i+1) (out.set (i+(dig Y).length) (x+c)):=by
 have sd:=h.zero _ x (Cb _) (.inl (Cb _)) hx;subst sd;have h3:=h.c0;refine ⟨rfl,bK,L5 h.ok aA aA,fun j y hj hy=>?_,?_⟩
 ·rcases B5 hy with ⟨rfl,rfl⟩|⟨hne,hy⟩
  ·omega
  ·exact h.zero j y aA (.inl (Cb _)) hy
 ·have hv:=h.eqv;rw [Fh] at hv;simp only [val,O1,Rv] at hv;have mf:=h0.eqv;rw [Av hd,val] at mf;rw [Gv hx,<- mf];have e1:(0:Int)+c - 0=c:=aA
  rw [e1,Fp c,hv,gN,Li];congr 2;rw [Int.add_mul,F1]
theorem Mul1.done {X Y:Nat} {out:List Int} (h:Mul1 X Y (dig X).length out):Dk out=dig (X*Y):=by
 have hv:=h.eqv;rw [Fh] at hv;simp only [val,Int.zero_mul,O1,Rv] at hv;rw [Dw h.ok,hv];congr 1
theorem V_bad {p:Bool} {l:List Int} (h:D5 p l=false):V p l=0:=by simp [V,h]
def sg (p:Bool) (n:Nat):Int:=if p=true then -(n:Int) else n
def okZ (z:Int):Bool:=!decide (200<(dig z.natAbs).length)
theorem Aqv (p:Bool) (n:Nat):(sg p n).natAbs=n:=by unfold sg; split <;> omega
theorem V_sg (p:Bool) (l:List Int):V p l=sg p (V p l).natAbs:=by
 unfold V;cases h:D5 p l with
 | false=>cases p <;> simp [sg]
 | true =>
  have h3:=En (Kz h).2.1;cases p <;> simp [sg] <;> omega
theorem Aqa (p q:Bool) (X Y:Nat):sg (p != q) (X*Y)=sg p X*sg q Y:=by
 cases p <;> cases q <;> simp [sg,fR,Int.mul_neg]
theorem Apb {p q:Bool} (h:p≠q) {X Y:Nat} (hl:Y<=X):sg p (X - Y)=sg p X+sg q Y:=by
 cases p <;> cases q <;> simp [sg] at h ⊢ <;> omega
theorem Apc {p q:Bool} (h:p≠q) {X Y:Nat} (hl:X<=Y):sg q (Y - X)=sg p X+sg q Y:=by
 cases p <;> cases q <;> simp [sg] at h ⊢ <;> omega
def cmpZ (x y:Int):Int:=if x<y then -1 else if y<x then 1 else 0
end
section
open Go Tryz
set_option maxRecDepth 100000
section
variable (S:List Ent) (tk:List Nat) (k:Nat)
theorem M8 (a b:Nat) (ha:(dig a).length<=1000000) (hb:(dig b).length<=1000000):cL prog 233 [digA (dig a),digA (dig b)] S tk k=some (.int (cmpN a b),S,tk,k):=by
 refine opP func233 ntmps233 ?_;by_cases hl:(dig a).length=(dig b).length;case neg =>
  have d1:(((dig a).length:Int) != ((dig b).length:Int))=true:=aB
  rcases Ic (dig a).length (dig b).length with h|h
  ·have d2:decide (((dig a).length:Int)<((dig b).length:Int))=true:=aI
   have:=Qo h
   simp (maxSteps:=10^6)+contextual(disch:=try exact dqd)only[ev0,simprocAttr,Cg,Ca,Ch,results233,digA,d1,d2]
   simp [cmpN,this]
  ·have d2:decide (((dig a).length:Int)<((dig b).length:Int))=false:=aB
   have:=Qo (a:=b) (b:=a) aA
   simp (maxSteps:=10^6)+contextual(disch:=try exact dqd)only[ev0,simprocAttr,Cg,Ca,Ch,results233,digA,d1,d2]
   rw [cmpN,if_neg aA,if_pos this]
 have d1:(((dig a).length:Int) != ((dig b).length:Int))=false:=aB
 have d3:=Wd ha;simp (maxSteps:=10^6)+contextual(disch:=try exact dqd)only[ev0,simprocAttr,Cg,Ca,Ch,results233,digA,d1,d3];refine loop1 (P:=prog) (fun x st=>st.T.length=41/\(x<=(dig a).length)/\(∀ j,x<=j->nth (dig a) j=nth (dig b) j)/\getT st.T 0=digA (dig a)/\getT st.T 1=digA (dig b)/\getT st.T 5=.int ((x:Int) - 1)/\st.S=[]) (fun x=>x) (fun x=>.int (cmpN a b)) ((dig a).length) ?_ ?_;case refine_2=>exact ⟨rfl,Cb _,fun j hj=>by rw [Ae,Ae,E9 hj,E9 aA],rfl,rfl,rfl,rfl⟩
 rintro n ⟨T,S',tk',n'⟩ ⟨hl,hn,he,e0,e1,e5,eS⟩ IH;subst eS;obtain ⟨g,hg,hT⟩:=Aw hl;rw [hg] at e0 e1 e5;subst hT;clear hg hl;by_cases h0:n=0
 ·have d2:decide ((n:Int) - 1 >= 0)=false:=aB
  have:=Aj3 fun j=>he j aA;subst this;simp (maxSteps:=10^6)+contextual(disch:=try exact dqd)only[ev0,simprocAttr,Cg,Ca,Ch,results233,e0,e1,e5,d2,digA];simp [cmpN]
 ·have d2:decide ((n:Int) - 1 >= 0)=true:=aB
  have hi:(n:Int) - 1=((n - 1:Nat):Int):=aA
  obtain ⟨x,hx⟩:=Ah (show n - 1<(dig a).length by omega);obtain ⟨y,hy⟩:=Ah (show n - 1<(dig b).length by omega);have hx':=E5 hx;have mn:=E5 hy;have po:∀ j,n - 1<j->nth (dig a) j=nth (dig b) j:=fun j hj=>he j aA;have hp:=Wd (n:=n - 1) aA;rw [hi] at e5 d2;by_cases iu:x=y
  ·have d4:(x != y)=false:=by simpa using iu
   simp (maxSteps:=10^6)+contextual(disch:=try exact dqd)only[ev0,simprocAttr,Cg,Ca,Ch,results233,e0,e1,e5,d2,d4,digA,hx',mn,hp];exact IH (n - 1) _ aF ⟨rfl,aE,fun j hj=>by by_cases e:j=n - 1; (· rw [e,hx,hy,iu]); exact po j aE,aC,aC,aC,aC⟩
  ·have d4:(x != y)=true:=by simpa using iu
   by_cases h1:x<y
   ·have d5:decide (x<y)=true:=aU
    have:=Al6 hl hx hy h1 po;simp (maxSteps:=10^6)+contextual(disch:=try exact dqd)only[ev0,simprocAttr,Cg,Ca,Ch,results233,e0,e1,e5,d2,d4,d5,digA,hx',mn,hp];simp [cmpN,this]
   ·have d5:decide (x<y)=false:=aU
    have:=Al6 hl.symm hy hx aA fun j hj=>(po j hj).symm;simp (maxSteps:=10^6)+contextual(disch:=try exact dqd)only[ev0,simprocAttr,Cg,Ca,Ch,results233,e0,e1,e5,d2,d4,d5,digA,hx',mn,hp];rw [cmpN,if_neg aA,if_pos this]
theorem Yo (l:List Int) (id ep:Nat) (hlen:l.length<=1000000) (h:entAt S id ep=some (l.map numC)):cL prog 234 [.sref id ep 0 l.length 1] S tk k=some (.sref id ep 0 (Dk l).length 1,S,tk,k):=by
 refine opS func234 ntmps234 ?_;have hid:id<S.length:=by
  obtain ⟨e,h1,-⟩:=Dq h;exact Bb h1
 simp (maxSteps:=10^6)+contextual(disch:=try exact dqd)only[evs0,simprocAttr,Cg,Ca,Ch,results234];refine Adp (P:=prog) (fun x st=>st.T.length=21/\(x<=l.length)/\(∀ j,x<=j->∀ x,nth l j=some x->x=0)/\getT st.T 0=.sref id ep 0 x 1/\st.S=S/\st.tk=tk/\st.n=k) (fun x=>x) (fun x=>(.sref id ep 0 (Dk l).length 1,S,tk,k)) (l.length) ?_ ?_;case refine_2=>exact ⟨rfl,Cb _,Vi l,rfl,rfl,rfl,rfl⟩
 rintro n ⟨T,S',tk',n'⟩ ⟨hl,hn,hz,e0,eS,eT,eN⟩ IH;subst eS eT eN;obtain ⟨g,hg,hT⟩:=Aw hl;rw [hg] at e0;subst hT;clear hg hl;by_cases h0:n=0
 ·have d1:decide ((n:Int) > 0)=false:=aB
  have ht:=Ji hn hz (.inl h0);simp (maxSteps:=10^6)+contextual(disch:=try exact dqd)only[evs0,simprocAttr,Cg,Ca,Ch,results234,e0,d1];rw [ht]; simp [h0]
 ·have d1:decide ((n:Int) > 0)=true:=aB
  have hp:=Ab5 h0 aA;have cj:n - 1<l.length:=aA
  have bc:n - 1<n:=aA
  have cd:n - 1<=n:=aA
  obtain ⟨x,hx⟩:=Ah cj;have hx':=Ahr hx;by_cases sd:x=0
  ·have d2:(x == 0)=true:=fB
   simp (maxSteps:=10^6)+contextual(disch:=try exact dqd)only[evs0,simprocAttr,Cg,Ca,Ch,results234,e0,d1,d2,hp,hx',h,cj,bc,cd,Ia,Nh,bound,intN_cast,Cb,Cs,Oi,Nat.sub_zero,I1];exact IH (n - 1) _ aF ⟨rfl,aE,Zp hz hx sd,by and_intros <;> first|rfl|simp only [getT,Ft,Cm,Cw,digC,digA]⟩
  ·have d2:(x == 0)=false:=fB
   have ht:=Ji hn hz (.inr ⟨x,hx,sd⟩);simp (maxSteps:=10^6)+contextual(disch:=try exact dqd)only[evs0,simprocAttr,Cg,Ca,Ch,results234,e0,d1,d2,hp,hx',h,cj,bc,Ia,Nh,bound,intN_cast,hn,Cb,Cs,Oi,Nat.sub_zero,I1];rw [ht]; simp; omega
theorem Rr (X Y:Nat) (ha:(dig X).length<=100000) (hb:(dig Y).length<=100000):cL prog 236 [digA (dig X),digA (dig Y)] S tk k=some (digA (dig (X*Y)),S,tk,k):=by
 refine opP func236 ntmps236 ?_;have hw:Ce.wrap (((dig X).length:Int)+((dig Y).length:Int))=(((dig X).length+(dig Y).length:Nat):Int):=aT
 have zz:(A7 prog 58).bind (H5 prog)=some 8:=aK
 have j2:=Ap9 (P:=prog) (t:=58) (n:=(dig X).length+(dig Y).length) bH bH zz aA;simp (maxSteps:=10^6)+contextual(disch:=try exact dqd)only[ev0,simprocAttr,Cg,Ca,Ch,results236,digA,hw,j2];refine loop1 (P:=prog) (fun x st=>st.T.length=67/\(x.1<=(dig X).length)/\(Mul1 X Y x.1 x.2)/\getT st.T 0=digA (dig X)/\getT st.T 1=digA (dig Y)/\getT st.T 5=.sref 0 0 0 ((dig X).length+(dig Y).length) 1/\getT st.T 18=digA (dig X)/\getT st.T 19=.int (dig X).length/\getT st.T 20=.int (x.1:Nat)/\st.S=[⟨0,x.2.map numC⟩]) (fun x=>(dig X).length - x.1) (fun x=>digA (dig (X*Y))) (0,Cd ((dig X).length+(dig Y).length) 0) ?_ ?_;case refine_2=>exact ⟨rfl,Cs _,Mul1.start X Y,rfl,rfl,rfl,rfl,rfl,rfl,rfl⟩
 rintro ⟨i,out⟩ ⟨T,S',tk',n'⟩ ⟨hl,hi,hp,e0,e1,e5,e18,e19,e20,eS⟩ IH;simp only at hi hp e0 e1 e5 e18 e19 e20 eS;subst eS;obtain ⟨g,hg,hT⟩:=Aw hl;rw [hg] at e0 e1 e5 e18 e19 e20;subst hT;clear hg hl;have OUT:=IH;clear IH;have hlen:=hp.len;by_cases hlt:i<(dig X).length
 ·have d2:decide ((i:Int)<((dig X).length:Int))=true:=aQ
  obtain ⟨d,hd⟩:=Ah hlt;have d8:=E5 hd;have px:=Du (Br X) hd;have jp:=Db (i:=i) aA;have ah:=Mul2.start (d:=d) hp;simp (maxSteps:=10^6)+contextual(disch:=try exact dqd)only[ev0,simprocAttr,Cg,Ca,Ch,results236,digA,e0,e1,e5,e18,e19,e20,d2,d8];refine loop1 (P:=prog) (fun x st=>st.T.length=67/\(x.1<=(dig Y).length)/\(Mul2 X Y i x.1 (val out+10000 ^ i*(d*Y)) d x.2.1 x.2.2)/\getT st.T 0=digA (dig X)/\getT st.T 1=digA (dig Y)/\getT st.T 5=.sref 0 0 0 ((dig X).length+(dig Y).length) 1/\getT st.T 6=.int (i:Nat)/\getT st.T 7=.int d/\getT st.T 8=.int x.2.1/\getT st.T 18=digA (dig X)/\getT st.T 19=.int (dig X).length/\getT st.T 20=.int (i:Nat)/\getT st.T 25=digA (dig Y)/\getT st.T 26=.int (dig Y).length/\getT st.T 27=.int (x.1:Nat)/\st.S=[⟨0,x.2.2.map numC⟩]) (fun x=>(dig Y).length - x.1) (fun x=>digA (dig (X*Y))) (0,0,out) ?_ ?_;case refine_2=>exact ⟨rfl,Cs _,ah,rfl,rfl,rfl,rfl,rfl,rfl,rfl,rfl,rfl,rfl,rfl,rfl,rfl⟩
  rintro ⟨m,c,o2⟩ ⟨T,S',tk',n'⟩ ⟨hl,hm,hq,e0,e1,e5,e6,e7,e8,e18,e19,e20,e25,e26,e27,eS⟩ IH;simp only at hm hq e0 e1 e5 e6 e7 e8 e18 e19 e20 e25 e26 e27 eS;subst eS;obtain ⟨g,hg,hT⟩:=Aw hl;rw [hg] at e0 e1 e5 e6 e7 e8 e18 e19 e20 e25 e26 e27;subst hT;clear hg hl;have a2n:=hq.len;have hc0:=hq.c0;have iy:=Db (i:=m) aA;obtain ⟨x,hx⟩:=Ah (show i+m<o2.length by omega);have hx':=Ahr hx;have f9:i+m<(dig X).length+(dig Y).length:=aA
  have him:Ce.wrap ((i:Int)+(m:Int))=((i+m:Nat):Int):=aT
  have hxk:=Du hq.ok hx;by_cases cm:m<(dig Y).length
  ·have d3:decide ((m:Int)<((dig Y).length:Int))=true:=by simpa using cm
   obtain ⟨y,hy⟩:=Ah cm;have mn:=E5 hy;have hyk:=Du (Br Y) hy;obtain ⟨n,hn⟩:∃ n,n=c+x+d*y:=⟨_,rfl⟩;obtain ⟨hq2,j0,cj,bc⟩:=hq.step (n:=n) aA px hx (by rw [hn,hy]; rfl);have s8:0<=d*y:=O7 px.1 hyk.1;have hw1:Ce.wrap (d*y)=d*y:=Ac aD;have hw2:Ce.wrap (x+d*y)=x+d*y:=Ac aD;have hw3:Ce.wrap (x+d*y+c)=n:=by rw [hn,Ac aD]; omega
   have ya:Ce.wrap (n.tdiv 10000)=n.tdiv 10000:=by rw [bc,Ac aD]
   have lw:¬ ((10000:Int)=0):=aA
   have jy:=Ab4 (v:=n.tmod 10000) hx;simp (maxSteps:=10^6)+contextual(disch:=try exact dqd)only[ev0,simprocAttr,Cg,Ca,Ch,results236,digA,e0,e1,e5,e6,e7,e8,e18,e19,e20,e25,e26,e27,d3,mn,iy,him,f9,hx',hw1,hw2,hw3,ya,lw,jy,Ia];exact IH (m+1,n.tdiv 10000,o2.set (i+m) (n.tmod 10000)) _ aF ⟨rfl,aE,hq2,aC,aC,aC,aC,aC,aC,aC,aC,aC,aC,aC,aC,aC⟩
  ·have d3:decide ((m:Int)<((dig Y).length:Int))=false:=by simpa using cm
   have yb:m=(dig Y).length:=aA
   subst yb;obtain ⟨-,s9⟩:=hq.next hp hd hx
   have z6:Ce.wrap (x+c)=x+c:=Ac aD;have jy:=Ab4 (v:=x+c) hx;simp (maxSteps:=10^6)+contextual(disch:=try exact dqd)only[ev0,simprocAttr,Cg,Ca,Ch,results236,digA,e0,e1,e5,e6,e7,e8,e18,e19,e20,e25,e26,e27,d3,jp,him,f9,hx',z6,jy,Ia];exact OUT (i+1,o2.set (i+(dig Y).length) (x+c)) _ aF ⟨rfl,aE,s9,aC,aC,aC,aC,aC,aC,aC⟩
 ·have d2:decide ((i:Int)<((dig X).length:Int))=false:=aQ
  have he:i=(dig X).length:=aA
  subst he;have y9:=hp.done;have hT:=Yo [⟨0,out.map numC⟩] tk' n' out 0 0 aA rfl;rw [hlen] at hT;rw [y9] at hT;simp (maxSteps:=10^6)+contextual(disch:=try exact dqd)only[ev0,simprocAttr,Cg,Ca,Ch,results236,digA,e0,e1,e5,e18,e19,e20,d2,hT];have dp:Pi (Je 1 (dig (X*Y)).length (out.map numC))=.frz ((dig (X*Y)).map digC) .unk:=by
   rw [<- y9,Ad8 (P7 out),Aea,<- H3]
  rw [dp]
end
end
end Go.Proofs.YthelkgdmgihhiaaGreat
