/- Part 10. -/
import Derived.Test.YtcjffhadclngmaaGreatZC9
import Derived.Test.YtcjffhadclngmaaGreatChecked
import Derived.IntWalk
open And renaming intro->Bu
open Array renaming ext'->jW
open Bool renaming and_eq_true->Ci,false_eq_true->Ef,or_false->Fk,false_and->Fq,or_eq_true->Kn,and_false->kV
open ByteArray.toList renaming loop->jP
open Go.IntKind renaming i64->Ca
open Go.Proofs.YtcjffhadclngmaaGreat.AV renaming bool->Bg,int->Cb,str->Cc
open Go.Value renaming oneCell'->jF
open Int renaming tdiv_eq_ediv_of_nonneg->Fe,mul_comm->Hk,tmod_eq_emod_of_nonneg->Ic,mul_assoc->Ij,pow_succ->Oy,mul_add->O4,mul_zero->Sq,neg_mul->iD,add_zero->iK,add_assoc->iP,mul_nonneg->jI
open List renaming replicate->Cf,length_cons->Ch,cons_append->Cn,map_cons->Ct,getElem?_eq_none->Cu,mem_cons->Cv,drop_eq_nil_of_le->Cy,getElem?_append_left->C3,length_eq_zero_iff->C4,mem_append->C5,map_nil->Ei,append_assoc->Fa,getElem?_append_right->Fc,drop_zero->Fg,take_length->Fm,append_nil->Fy,eq_nil_of_length_eq_zero->Fz,map_append->F4,take_succ_cons->F7,length_pos_iff->F8,pairwise_cons->Ie,drop_length->Ik,mem_replicate->Ix,mem_of_getElem?->I8,replicate_succ->Om,getElem?_take_of_lt->Ot,singleton_append->O2,foldl_cons->Sj,set_cons_succ->iW,lt_irrefl->jH,cons_lt_cons_iff->jQ,map_replicate->kT
open List.cons renaming injEq->kH
open Nat renaming le_refl->Ce,zero_le->Cl,mul_one->C9,lt_or_ge->Im,add_zero->I5,zero_mul->Ov,div_lt_iff_lt_mul->O1,mod_eq_of_lt->Po,strongRecOn->Sk,pow_succ->Sp,add_assoc->Sr
open Option renaming map_eq_some_iff->Cd,map_some->C8,bind_some->Ou
open Option.some renaming injEq->A8
namespace Go.Proofs.YtcjffhadclngmaaGreat
section
open Tryz
set_option maxRecDepth 100000
theorem mixed:prog.follows .mixedOrders=true:=aI
theorem tys :
  szOf prog 1=some 1 /\
  aggT prog 1=some false /\
  A3 prog 1=some [.prim .nilFunc] /\
  Dn prog 1=false /\
  szOf prog 2=some 1 /\
  aggT prog 2=some false /\
  A3 prog 2=some [.prim (.int .i64 0)] /\
  K6 prog 2=some .i64 /\
  Dn prog 2=false /\
  szOf prog 3=some 1 /\
  aggT prog 3=some false /\
  A3 prog 3=some [.prim (.int .i64 0)] /\
  K6 prog 3=some .i64 /\
  Dn prog 3=false /\
  szOf prog 4=some 1 /\
  aggT prog 4=some false /\
  A3 prog 4=some [.prim (.bool false)] /\
  Dn prog 4=false /\
  Al6 prog 4=true /\
  szOf prog 5=some 1 /\
  aggT prog 5=some false /\
  A3 prog 5=some [.prim (.int .u8 0)] /\
  K6 prog 5=some .u8 /\
  Dn prog 5=false /\
  szOf prog 9=some 1 /\
  aggT prog 9=some false /\
  A3 prog 9=some [.prim (.string ⟨#[]⟩)] /\
  Dn prog 9=true /\
  szOf prog 22=some 1 /\
  aggT prog 22=some false /\
  A3 prog 22=some [.frz [] .nilc] /\
  Be prog 22=some 27 /\
  apT prog 22=some 3 /\
  Dn prog 22=false /\
  szOf prog 23=some 1 /\
  aggT prog 23=some false /\
  A3 prog 23=some [.frz [] .nilc] /\
  Be prog 23=some 70 /\
  apT prog 23=some 2 /\
  Dn prog 23=false /\
  szOf prog 25=some 2 /\
  aggT prog 25=some true /\
  A3 prog 25=some [.frz [] .nilc,.prim (.int .i64 0)] /\
  Dn prog 25=false /\
  A4 prog 25 0=some (0,1,false) /\
  A4 prog 25 1=some (1,1,false) /\
  fieldsOf prog 25=some [(0,1),(1,1)] /\
  szOf prog 27=some 3 /\
  aggT prog 27=some true /\
  A3 prog 27=some [.frz [] .nilc,.prim (.int .i64 0),.prim (.bool false)] /\
  Dn prog 27=false /\
  A4 prog 27 0=some (0,2,true) /\
  A4 prog 27 1=some (2,1,false) /\
  fieldsOf prog 27=some [(0,2),(2,1)] /\
  szOf prog 29=some 1 /\
  aggT prog 29=some false /\
  A3 prog 29=some [.prim (.int .i64 0)] /\
  K6 prog 29=some .i64 /\
  Dn prog 29=false /\
  szOf prog 32=some 1 /\
  aggT prog 32=some false /\
  A3 prog 32=some [.frz [] .nilc] /\
  Be prog 32=some 9 /\
  apT prog 32=some 1 /\
  Dn prog 32=false /\
  szOf prog 37=some 1 /\
  aggT prog 37=some false /\
  A3 prog 37=some [.frz [] .nilc] /\
  Be prog 37=some 3 /\
  apT prog 37=some 1 /\
  Dn prog 37=false /\
  szOf prog 39=some 2 /\
  aggT prog 39=some true /\
  A3 prog 39=some [.prim (.bool false),.frz [] .nilc] /\
  Dn prog 39=false /\
  A4 prog 39 0=some (0,1,false) /\
  A4 prog 39 1=some (1,1,false) /\
  fieldsOf prog 39=some [(0,1),(1,1)] /\
  szOf prog 41=some 4 /\
  aggT prog 41=some true /\
  A3 prog 41=some [.prim (.bool false),.frz [] .nilc,.prim (.bool false),.frz [] .nilc] /\
  Dn prog 41=false /\
  A4 prog 41 0=some (0,2,true) /\
  A4 prog 41 1=some (2,2,true) /\
  fieldsOf prog 41=some [(0,2),(2,2)] /\
  szOf prog 51=some 1 /\
  aggT prog 51=some false /\
  A3 prog 51=some [.frz [] .nilc] /\
  Be prog 51=some 39 /\
  apT prog 51=some 2 /\
  Dn prog 51=false /\
  szOf prog 54=some 1 /\
  aggT prog 54=some false /\
  A3 prog 54=some [.frz [] .nilc] /\
  Be prog 54=some 41 /\
  apT prog 54=some 4 /\
  Dn prog 54=false /\
  szOf prog 64=some 8 /\
  aggT prog 64=some true /\
  A3 prog 64=some [.prim (.bool false),.frz [] .nilc,.frz [] .nilc,.prim (.bool false),.frz [] .nilc,.prim (.bool false),.frz [] .nilc,.prim (.bool false)] /\
  Dn prog 64=false /\
  A4 prog 64 0=some (0,1,false) /\
  A4 prog 64 1=some (1,1,false) /\
  A4 prog 64 2=some (2,1,false) /\
  A4 prog 64 3=some (3,4,true) /\
  A4 prog 64 4=some (7,1,false) /\
  fieldsOf prog 64=some [(0,1),(1,1),(2,1),(3,4),(7,1)] /\
  szOf prog 66=some 1 /\
  aggT prog 66=some false /\
  A3 prog 66=some [.prim (.pointer none)] /\
  Dn prog 66=false /\
  szOf prog 68=some 1 /\
  aggT prog 68=some false /\
  A3 prog 68=some [.prim (.pointer none)] /\
  Dn prog 68=false /\
  szOf prog 70=some 2 /\
  aggT prog 70=some true /\
  A3 prog 70=some [.prim (.string ⟨#[]⟩),.prim (.int .i64 0)] /\
  Dn prog 70=false /\
  A4 prog 70 0=some (0,1,false) /\
  A4 prog 70 1=some (1,1,false) /\
  fieldsOf prog 70=some [(0,1),(1,1)] /\
  Acb prog 70=some [2,1] /\
  szOf prog 72=some 1 /\
  aggT prog 72=some false /\
  A3 prog 72=some [.frz [] .nilc] /\
  Be prog 72=some 54 /\
  apT prog 72=some 1 /\
  Dn prog 72=false /\
  szOf prog 73=some 1 /\
  aggT prog 73=some false /\
  A3 prog 73=some [.frz [] .nilc] /\
  Be prog 73=some 4 /\
  apT prog 73=some 1 /\
  Dn prog 73=false /\
  szOf prog 75=some 6 /\
  aggT prog 75=some true /\
  A3 prog 75=some [.frz [] .nilc,.frz [] .nilc,.frz [] .nilc,.frz [] .nilc,.frz [] .nilc,.prim (.int .i64 0)] /\
  Dn prog 75=false /\
  A4 prog 75 0=some (0,1,false) /\
  A4 prog 75 1=some (1,1,false) /\
  A4 prog 75 2=some (2,1,false) /\
  A4 prog 75 3=some (3,1,false) /\
  A4 prog 75 4=some (4,1,false) /\
  A4 prog 75 5=some (5,1,false) /\
  fieldsOf prog 75=some [(0,1),(1,1),(2,1),(3,1),(4,1),(5,1)] /\
  szOf prog 94=some 2 /\
  aggT prog 94=some true /\
  A3 prog 94=some [.prim (.int .i64 0),.prim (.int .i64 0)] /\
  Dn prog 94=false /\
  A4 prog 94 0=some (0,1,false) /\
  A4 prog 94 1=some (1,1,false) /\
  fieldsOf prog 94=some [(0,1),(1,1)] /\
  Acb prog 94=some [1,1] /\
  szOf prog 95=some 1 /\
  aggT prog 95=some false /\
  A3 prog 95=some [.prim (.pointer none)] /\
  Dn prog 95=false /\
  szOf prog 97=some 1 /\
  aggT prog 97=some true /\
  A3 prog 97=some [.prim (.bool false)] /\
  Dn prog 97=false /\
  A4 prog 97 0=some (0,1,false) /\
  fieldsOf prog 97=some [(0,1)] /\
  Acb prog 97=some [0] /\
  szOf prog 100=some 0 /\
  aggT prog 100=some true /\
  A3 prog 100=some [] /\
  Dn prog 100=false /\
  szOf prog 120=some 1 /\
  aggT prog 120=some false /\
  A3 prog 120=some [.prim .nilIface] /\
  Dn prog 120=false /\
  szOf prog 121=some 1 /\
  aggT prog 121=some false /\
  A3 prog 121=some [.prim .nilIface] /\
  Dn prog 121=false /\
  szOf prog 122=some 1 /\
  aggT prog 122=some false /\
  A3 prog 122=some [.prim (.pointer none)] /\
  Dn prog 122=false /\
  szOf prog 127=some 1 /\
  aggT prog 127=some false /\
  A3 prog 127=some [.prim .nilIface] /\
  Dn prog 127=false /\
  szOf prog 128=some 1 /\
  aggT prog 128=some false /\
  A3 prog 128=some [.prim (.pointer none)] /\
  Dn prog 128=false /\
  szOf prog 130=some 1 /\
  aggT prog 130=some false /\
  A3 prog 130=some [.prim (.int .u64 0)] /\
  K6 prog 130=some .u64 /\
  Dn prog 130=false /\
  szOf prog 137=some 1 /\
  aggT prog 137=some false /\
  A3 prog 137=some [.frz [] .nilc] /\
  Be prog 137=some 138 /\
  apT prog 137=some 1 /\
  Dn prog 137=false /\
  szOf prog 138=some 1 /\
  aggT prog 138=some false /\
  A3 prog 138=some [.frz [] .nilc] /\
  Be prog 138=some 94 /\
  apT prog 138=some 2 /\
  Dn prog 138=false /\
  szOf prog 140=some 7 /\
  aggT prog 140=some true /\
  A3 prog 140=some [.prim .nilIface,.prim (.int .i64 0),.prim (.int .i64 0),.frz [] .nilc,.frz [] .nilc,.frz [] .nilc,.frz [] .nilc] /\
  Dn prog 140=false /\
  A4 prog 140 0=some (0,1,false) /\
  A4 prog 140 1=some (1,1,false) /\
  A4 prog 140 2=some (2,1,false) /\
  A4 prog 140 3=some (3,1,false) /\
  A4 prog 140 4=some (4,1,false) /\
  A4 prog 140 5=some (5,1,false) /\
  A4 prog 140 6=some (6,1,false) /\
  fieldsOf prog 140=some [(0,1),(1,1),(2,1),(3,1),(4,1),(5,1),(6,1)] /\
  szOf prog 147=some 7 /\
  aggT prog 147=some true /\
  A3 prog 147=some [.prim .nilIface,.prim (.int .i64 0),.prim (.int .i64 0),.frz [] .nilc,.frz [] .nilc,.frz [] .nilc,.frz [] .nilc] /\
  Dn prog 147=false /\
  A4 prog 147 0=some (0,1,false) /\
  A4 prog 147 1=some (1,1,false) /\
  A4 prog 147 2=some (2,1,false) /\
  A4 prog 147 3=some (3,1,false) /\
  A4 prog 147 4=some (4,1,false) /\
  A4 prog 147 5=some (5,1,false) /\
  A4 prog 147 6=some (6,1,false) /\
  fieldsOf prog 147=some [(0,1),(1,1),(2,1),(3,1),(4,1),(5,1),(6,1)] /\
  szOf prog 189=some 2 /\
  aggT prog 189=some true /\
  A3 prog 189=some [.prim (.bool false),.frz [] .nilc] /\
  Dn prog 189=false /\
  A4 prog 189 0=some (0,1,false) /\
  A4 prog 189 1=some (1,1,false) /\
  fieldsOf prog 189=some [(0,1),(1,1)] /\
  szOf prog 199=some 4 /\
  aggT prog 199=some true /\
  A3 prog 199=some [.prim (.int .i64 0),.prim (.int .i64 0),.prim (.int .i64 0),.prim (.int .i64 0)] /\
  Dn prog 199=false /\
  A4 prog 199 0=some (0,1,false) /\
  A4 prog 199 1=some (1,1,false) /\
  A4 prog 199 2=some (2,1,false) /\
  A4 prog 199 3=some (3,1,false) /\
  fieldsOf prog 199=some [(0,1),(1,1),(2,1),(3,1)] /\
  Acb prog 199=some [1,1,1,1] /\
  szOf prog 206=some 2 /\
  aggT prog 206=some true /\
  A3 prog 206=some [.prim (.bool false),.prim (.int .i64 0)] /\
  Dn prog 206=false /\
  A4 prog 206 0=some (0,1,false) /\
  A4 prog 206 1=some (1,1,false) /\
  fieldsOf prog 206=some [(0,1),(1,1)] /\
  Acb prog 206=some [0,1] :=
 by and_intros <;> kernel_rfl
end
section
def val:List Int->Int
 | []=>0
 | d :: r=>d+10000*val r
def digN:Nat->Nat->List Int
 | 0,_=>[]
 | f+1,n=>if n=0 then [] else ((n % 10000:Nat):Int) :: digN f (n / 10000)
def dig (n:Nat):List Int:=digN n n
def okD (l:List Int):Prop:=∀ d ∈ l,0<=d/\d<10000
theorem Abz:∀ {f g n:Nat},n<=f->n<=g->digN f n=digN g n
 | 0,0,_,_,_=>rfl
 | 0,g+1,n,h,_=>by
   have:n=0:=aA
   subst this; simp [digN]
 | f+1,0,n,_,h=>by
   have:n=0:=aA
   subst this; simp [digN]
 | f+1,g+1,n,h1,h2=>by
  simp only [digN];by_cases h:n=0
  ·simp [h]
  ·rw [if_neg h,if_neg h,Abz (f:=f) (g:=g) (n:=n / 10000) aA aA]
theorem B9:dig 0=[]:=rfl
theorem Kd {n:Nat} (h:n≠0):dig n=((n % 10000:Nat):Int) :: dig (n / 10000):=by
 unfold dig;cases n with
 | zero=>exact absurd rfl h
 | succ n =>
  rw [digN,if_neg h];congr 1;exact Abz aA (Ce _)
theorem B5 (n:Nat):val (dig n)=n:=by
 induction n using Sk with
 | _ n ih =>
  by_cases h:n=0
  ·subst h; rfl
  ·rw [Kd h,val,ih (n / 10000) aA]; omega
theorem Bo (n:Nat):okD (dig n):=by
 induction n using Sk with
 | _ n ih =>
  by_cases h:n=0
  ·subst h; intro d hd; simp [B9] at hd
  ·rw [Kd h];intro d hd;rcases Cv.1 hd with rfl|hd
   ·omega
   ·exact ih (n / 10000) aA d hd
theorem N9 {d:Int} (h0:0<d) (h1:d<10000):dig d.toNat=[d]:=by
 rw [Kd aA];have e1:d.toNat % 10000=d.toNat:=Po aA;have e2:d.toNat / 10000=0:=aA
 rw [e1,e2,B9];congr 1; omega
theorem E9:∀ {l:List Int},okD l->0<=val l
 | [],_=>by simp [val]
 | d :: r,h=>by
  have h1:=h d (by simp);have h2:=E9 (l:=r) fun x hx=>h x bM;simp only [val]; omega
def D0:List Int->List Int
 | []=>[]
 | d :: r=>if D0 r=[]/\d=0 then [] else d :: D0 r
theorem Gh {n:Nat} : dig n=[]↔n=0:=by
 constructor
 ·intro h;by_cases h0:n=0
  ·exact h0
  ·rw [Kd h0] at h; simp at h
 ·rintro rfl; rfl
theorem Ey:∀ {l:List Int},okD l->D0 l=dig (val l).toNat
 | [],_=>rfl
 | d :: r,h=>by
  have h1:=h d (by simp);have hr:okD r:=fun x hx=>h x bM;have h2:=E9 hr;rw [D0,Ey hr];simp only [val];by_cases hv:val r=0
  ·by_cases hd:d=0
   ·rw [if_pos ⟨by rw [hv]; rfl,hd⟩,hv,hd]; rfl
   ·rw [if_neg (fun h=>hd h.2),hv];have e:(d+10000*0).toNat=d.toNat:=aA
    rw [e,N9 aA h1.2]; rfl
  ·have hn:¬ (val r).toNat=0:=aA
   rw [if_neg (fun h=>hn (Gh.1 h.1)),Kd (n:=(d+10000*val r).toNat) aA];have e1:(d+10000*val r).toNat / 10000=(val r).toNat:=aA
   have e2:(((d+10000*val r).toNat % 10000:Nat):Int)=d:=aA
   rw [e1,e2]
theorem Bp {n k:Nat} : (dig n).length<=k↔n<10000 ^ k:=by
 induction k generalizing n with
 | zero =>
  rw [Nat.pow_zero];constructor
  ·intro h;have:dig n=[]:=Fz aA;have:=Gh.1 this; omega
  ·intro h;have:n=0:=aA
   subst this; simp [B9]
 | succ k ih =>
  by_cases h:n=0
  ·subst h; simp [B9,Nat.pow_pos]
  ·rw [Kd h,Ch,Nat.add_le_add_iff_right,ih,Sp,O1 aA]
theorem As6 {a b:Nat} (h:dig a=dig b):a=b:=by
 have h1:=B5 a;have h2:=B5 b;rw [h] at h1; omega
theorem Ha (l r:List Int):val (l++r)=val l+10000 ^ l.length*val r:=by
 induction l with
 | nil=>simp [val]
 | cons d l ih=>simp only [Cn,val,ih,Ch,Oy]; rw [O4,Hk (10000 ^ l.length) 10000,Ij]; omega
theorem Jp (n:Nat):val (Cf n 0)=0:=by
 induction n with
 | zero=>rfl
 | succ n ih=>rw [Om,val,ih]; rfl
theorem Lv {l:List Int} {i:Nat} {x v:Int} (h:nth l i=some x):val (l.set i v)=val l+(v - x)*10000 ^ i:=by
 induction l generalizing i with
 | nil=>simp [nth] at h
 | cons d l ih =>
  cases i with
  | zero=>simp only [nth,A8] at h; subst h; simp only [List.set_cons_zero,val,Int.pow_zero]; omega
  | succ i =>
   simp only [nth] at h;simp only [iW,val,ih h,Oy];rw [O4,Hk (10000 ^ i) 10000,<- Ij,<- Ij,Hk 10000 (v - x)]; omega
theorem Rf (l:List Int):(D0 l).length<=l.length:=by
 induction l with
 | nil=>simp [D0]
 | cons d l ih=>rw [D0]; split <;> simp; exact ih
theorem Rg:∀ (n:Nat) (l:List Int),n<=l.length->(∀ j,n<=j->∀ x,nth l j=some x->x=0)->D0 l=D0 (l.take n)
 | 0,[],_,_=>rfl
 | 0,d :: l,_,h=>by
  have hd:=h 0 (Ce _) d rfl;have:=Rg 0 l (Cl _) fun j _ x hx=>h (j+1) (Cl _) x hx;rw [D0,this,hd]; simp [D0]
 | n+1,[],h,_=>aN
 | n+1,d :: l,hn,h=>by
  have:=Rg n l cW fun j hj x hx=>h (j+1) aA x hx;rw [F7,D0,D0,this]
theorem Aap:∀ (l:List Int) (n:Nat) (x:Int),nth l n=some x->l.length=n+1->x≠0->D0 l=l
 | [],_,_,h,_,_=>bK
 | d :: l,0,x,h,hl,hx=>by
  have:l=[]:=Fz cI;subst this;simp only [nth,A8] at h; subst h;simp [D0,hx]
 | d :: l,n+1,x,h,hl,hx=>by
  have ih:=Aap l n x h cI hx;have hne:l≠[]:=by rintro rfl; simp [nth] at h
  rw [D0,ih,if_neg (fun h=>hne h.1)]
/- which numbers are valid,and what they stand for -/
def Vz (l:List Int):Bool:=match nth l (l.length - 1) with|some x=>x == 0|none=>false
def allD:List Int->Bool
 | []=>true
 | d :: r=>if (decide (d<0) || decide (d >= 10000))=true then false else allD r
theorem Akl {l:List Int} : allD l=true↔okD l:=by
 induction l with
 | nil=>simp [allD,okD]
 | cons d l ih =>
  rw [allD];by_cases h:d<0\/d >= 10000
  ·have:(decide (d<0) || decide (d >= 10000))=true:=aM
   simp only [this,if_true,Ef,false_iff];intro hk;have:=hk d (by simp); omega
  ·have:(decide (d<0) || decide (d >= 10000))=false:=aD
   simp only [this,Ef,if_false,ih];constructor
   ·intro hk x hx;rcases Cv.1 hx with rfl|hx
    ·omega
    ·exact hk x hx
   ·exact fun hk x hx=>hk x bM
def D8 (neg:Bool) (l:List Int):Bool:=if (decide (200<l.length) || (decide (l=[]) && neg) || Vz l)=true then false else allD l
def V (neg:Bool) (l:List Int):Int:=if D8 neg l=true then (if neg=true then -(val l) else val l) else 0
theorem J5 {neg:Bool} {l:List Int} (h:D8 neg l=true):l=dig (val l).toNat/\okD l/\l.length<=200:=by
 unfold D8 at h;split at h
 ·simp at h
 ·rename_i hh;have hk:=Akl.1 h;simp only [Kn,decide_eq_true_eq,not_or] at hh;refine ⟨?_,hk,aA⟩;rw [<- Ey hk];by_cases hl:l=[]
  ·subst hl; rfl
  ·have hpos:0<l.length:=F8.2 hl;obtain ⟨x,hx⟩:=Af (l:=l) (i:=l.length - 1) aA;have hz:=hh.2;unfold Vz at hz;rw [hx] at hz;exact (Aap l (l.length - 1) x hx aA cK).symm
theorem Auz (neg:Bool) (l:List Int):dig (V neg l).natAbs=if D8 neg l=true then l else []:=by
 unfold V;by_cases h:D8 neg l=true
 ·obtain ⟨h1,h2,-⟩:=J5 h;have h3:=E9 h2;rw [if_pos h,if_pos h];conv=>rhs; rw [h1]
  congr 1;split <;> omega
 ·rw [if_neg h,if_neg h]; rfl
theorem Apm (neg:Bool) (l:List Int):(dig (V neg l).natAbs).length<=200:=by
 rw [Auz];split
 ·rename_i h; exact (J5 h).2.2
 ·simp
theorem Uh (z:Int) (h:(dig z.natAbs).length<=200):D8 (decide (z<0)) (dig z.natAbs)=true:=by
 unfold D8;have hk:=Bo z.natAbs;rw [if_neg]
 ·exact Akl.2 hk
 ·simp only [Kn,decide_eq_true_eq,Ci,not_or];refine ⟨⟨aA,fun h=>?_⟩,fun hz=>?_⟩
  ·have:=Gh.1 h.1; omega
  ·unfold Vz at hz;split at hz
   ·rename_i x hx;have mc:x=0:=cK
    subst mc;have ht:=Ey hk;rw [B5] at ht;have e:((z.natAbs:Int)).toNat=z.natAbs:=aA
    rw [e] at ht;have hl:=Br hx;have h1:=Rg ((dig z.natAbs).length - 1) (dig z.natAbs) aA (fun j hj y hy=>by
     have:j=(dig z.natAbs).length - 1:=by have:=Br hy; omega
     subst this;rw [hx] at hy; simpa using hy.symm)
    have h2:=Rf ((dig z.natAbs).take ((dig z.natAbs).length - 1));rw [<- h1,ht] at h2;simp at h2; omega
   ·simp at hz
theorem V_of (z:Int) (h:(dig z.natAbs).length<=200):V (decide (z<0)) (dig z.natAbs)=z:=by
 unfold V;rw [if_pos (Uh z h),B5];by_cases hz:z<0 <;> simp [hz] <;> omega
end
section
open Go
def digC (x:Int):List AV:=[.prim (.int .i64 x)]
def digA (l:List Int):AV:=.frz (l.map digC) .unk
def bigA (neg:Bool) (l:List Int):AV:=.agg [.prim (.bool neg),digA l]
def zA (z:Int):AV:=bigA (decide (z<0)) (dig z.natAbs)
def ownF:Option Tmp->TypeId->Bool
 | some 92,54|some 105,54|some 31,54|some 57,54|some 88,54|some 96,54=>true
 | some 32,72|some 240,72=>true
 | some 45,37|some 255,37=>true
 | some 240,137=>true
 | _,_=>false
def lkF0 (f:FuncId):Bool:=f == 157 || f == 158 || f == 159 || f == 160 || f == 161 || f == 162 || f == 163 || f == 164 ||
 f == 110 || f == 115 || f == 37
def anF0 (f:FuncId):Bool:=f == 60 || f == 39 || f == 63 || f == 40 || f == 36 ||
 f == 112 || f == 117
def mvF0 (f:FuncId):Bool:=f == 60 || f == 39 || f == 63 || f == 40 || f == 36 || f == 32 ||
 f == 81 || f == 87
instance:Globs:=⟨[],fun f=>f == 104 || f == 103 || f == 175,true,ownF,lkF0,anF0,true,false⟩
end
section
open Go
variable {P:Program}
@[reducible] def Ext.quiet (E:Ext P):Ext P:={ on:=E.on,mv:=E.mv,call:=fun _ _ _ _ _=>none }
theorem H3 [Globs] (E:Ext P) {call:Dv} {ok:St->List Oper->Bool} {n:Nat} : ∀ (c:Code) (st:St),@evC _ P (Ext.quiet E) call ok n c st=@evC _ P E call ok n c st
 | .skip,_=>cJ
 | .region _ ops draw,st=>by simp only [evC]; rfl
 | .seq a b,st=>by
  simp only [evC,H3 E a];split <;> first|exact H3 E b _|rfl
 | .cond c a b,st=>by simp only [evC,H3 E a,H3 E b]
 | .block _ c,st=>by simp only [evC,H3 E c]
 | .loop c,st=>by
  simp only [evC];congr 1;funext s;exact H3 E c s
 | .exit _,_=>cJ
 | .ret,_=>cJ
 | .scope c,st=>by simp only [evC]; exact H3 E c st
 | .label _,_=>cJ
 | .goto _,_=>cJ
 | .rangeFunc _ _ _ _,_=>cJ
 | .refuse _,_=>cJ
theorem Ab3 [Globs] (E:Ext P) {ok:St->List Oper->Bool} : ∀ k,CLe (@evF _ P (Ext.quiet E) ok k) (@evF _ P E ok k)
 | 0=>Za3l
 | k+1=>by
  have ih:=Ab3 E (ok:=ok) k;intro f args S tk n r he;simp only [evF] at he ⊢;split at he
  ·simp at he
  rename_i yq;rw [if_neg (show ¬ @Ext.on P E f=true from yq)];split at he
  ·rename_i fn hf;split at he
   ·rename_i c hb;split at he
    ·simp at he
    ·rename_i bg;rw [if_neg bg];have out:∀ {st0:St} {r0:AV × St},outA P fn (@evC _ P (Ext.quiet E) (@evF _ P (Ext.quiet E) ok k) ok k c st0)=some r0->outA P fn (@evC _ P E (@evF _ P E ok k) ok k c st0)=some r0:=by
      intro st0 r0 h;rw [H3 E] at h;exact Mp (fun z hz=>Du ih (Ce _) c _ z hz) h
     split at he
     ·rename_i vz;rw [if_pos (show @Ext.mv P E f=true from vz)];exact Ya48
     rename_i vz;rw [if_neg (show ¬ @Ext.mv P E f=true from vz)];split at he
     ·rename_i hp;rw [if_pos hp];have one:∀ {xs0:List AV} {r0:AV},@runP _ P (Ext.quiet E) ok (@evF _ P (Ext.quiet E) ok k) k fn c xs0=some r0->@runP _ P E ok (@evF _ P E ok k) k fn c xs0=some r0:=by
       intro xs0 r0 hrun;unfold runP at hrun ⊢;split at hrun
       ·rename_i r' s1 ho;rw [out ho];exact hrun
       ·simp at hrun
      split at he
      ·rename_i r' ho;have:(if Jy c=true then runN (@runP _ P E ok (@evF _ P E ok k) k fn c) (args.map w2) else @runP _ P E ok (@evF _ P E ok k) k fn c (args.map w2))=some r':=by
        exact Ya0g
       rw [this]; exact he
      ·simp at he
     ·rename_i hp;rw [if_neg hp];exact Ya48
   ·simp at he
  ·simp at he
theorem told [Globs] {E:Ext P} {f:FuncId} {args:List AV} {S:List Ent} {tk:List Nat} {n:Nat} {r:AV × List Ent × List Nat × Nat} (h:@cL _ P (Ext.quiet E) f args S tk n=some r):@cL _ P E f args S tk n=some r:=by
 obtain ⟨k,hk⟩:=(@K4 P _ (Ext.quiet E) _ _ _ _ _ _).1 h;exact (@K4 P _ E _ _ _ _ _ _).2 ⟨k,Ab3 E k _ _ _ _ _ _ hk⟩
theorem Aqp [Globs] (E:Ext P):@Aid _ P (Ext.quiet E):=by
 letI:=Ext.quiet E;refine ⟨fun f args S tk n r S' tk' n' h=>?_,fun M f args S tk n r S' tk' n' h=>?_⟩
 ·unfold extC at h; split at h <;> simp at h
 ·unfold Gn at h; split at h
  ·unfold extC at h; split at h <;> simp at h
  ·simp at h
end
section
open Go Tryz
def Ti:List (List AV)->Option (List Int)
 | []=>some []
 | [.prim (.int .i64 x)] :: r=>(Ti r).map (x :: ·)
 | _=>none
theorem Rr:∀ l:List Int,Ti (l.map digC)=some l
 | []=>rfl
 | x :: l=>by simp only [Ct,digC,Ti,Rr l,C8]
def strC (s:ByteArray):List AV:=[.prim (.string s)]
def Aq (l:List ByteArray):AV:=.frz (l.map strC) .unk
def Wv:List (List AV)->Option (List ByteArray)
 | []=>some []
 | [.prim (.string x)] :: r=>(Wv r).map (x :: ·)
 | _=>none
theorem Yk:∀ l:List ByteArray,Wv (l.map strC)=some l
 | []=>rfl
 | x :: l=>by simp only [Ct,strC,Wv,Yk l,C8]
theorem Ww:∀ {es:List (List AV)} {l:List ByteArray},Wv es=some l->es=l.map strC
 | [],l,h=>by simp only [Wv,A8] at h; subst h; rfl
 | e :: es,l,h=>by
  unfold Wv at h;split at h
  ·rename_i he; simp at he
  ·rename_i x r he;simp only [kH] at he;obtain ⟨rfl,rfl⟩:=he;simp only [Cd] at h;obtain ⟨l',h1,rfl⟩:=h;rw [Ww h1]; rfl
  ·simp at h
def putS (l:List ByteArray) (s:ByteArray):List ByteArray :=
 match l with
 | []=>[s]
 | x :: r=>if sLt x s=true then x :: putS r s else if sEq x s=true then x :: r else s :: x :: r
def uniS (l:List ByteArray):List ByteArray:=l.foldl putS []
def Vu:Cap->Bool
 | .nilc=>true
 | _=>false
def quoF (l r:List Int):Option AV :=
 if l=dig (val l).toNat/\r=dig (val r).toNat/\r≠[]/\l.length<=90000/\r.length<=90000 then
  some (.tup [digA (dig ((val l).toNat / (val r).toNat)),digA (dig ((val l).toNat % (val r).toNat))]) else none
def quoC (args:List AV) (S:List Ent) (tk:List Nat) (n:Nat):Option (AV × List Ent × List Nat × Nat):=match args with
  | [.frz es _,.frz ys _]=>match Ti es,Ti ys with
   | some l,some r=>match quoF l r with
    | some v=>some (v,S,tk,n)
    | none=>none
   | _,_=>none
  | _=>none
def uniC (args:List AV) (S:List Ent) (tk:List Nat) (n:Nat):Option (AV × List Ent × List Nat × Nat):=match args with
  | [.frz es c,.frz [] .nilc]=>match Wv es with
   | some l=>if (decide (l.length<=1000000) && (!l.isEmpty || Vu c))=true then some (Aq (uniS l),S,tk,n) else none
   | none=>none
  | _=>none
@[reducible] noncomputable def E1:Ext prog where
 on:=fun f=>f == 55 || f == 169
 mv:=mvF0
 call:=fun f args S tk n=>if f == 55 then uniC args S tk n else if f == 169 then quoC args S tk n else none
@[reducible] noncomputable instance E0:Ext prog:=Ext.quiet E1
instance:Aid prog:=Aqp E1
theorem ext_mv (f:FuncId) (h:mvF0 f=false):Ext.mv prog f=false:=h
set_option linter.defProp false in
def ev0:=Bu ext_mv <| Bu @entAt.eq_def <| Bu evt tys
set_option linter.defProp false in
def evs0:=Bu ext_mv <| Bu @Az <| Bu @P7 <| Bu @Ait <| Bu @List.take_left.{0} <| Bu @Fm.{0} <| Bu evt tys
end
section
open Go
theorem Aqj (s:ByteArray):∀ (n i:Nat) (r:List UInt8),s.size - i=n->jP s i r=r.reverse++s.data.toList.drop i:=by
 intro n;induction n with
 | zero =>
  intro i r h;rw [jP,if_neg aA,Cy aD,Fy]
 | succ n ih =>
  intro i r h;have hi:i<s.data.size:=aD
  rw [jP,if_pos aA,ih (i+1) _ aA,List.reverse_cons,Fa];congr 1;have e:s.data.toList.drop i=s.data[i] :: s.data.toList.drop (i+1):=by
   rw [<- Array.getElem_toList hi,List.getElem_cons_drop]
  rw [e,O2];congr 1;show s.data[i]! = _;rw [getElem!_pos s.data i hi]
def nm (s:ByteArray):List UInt8:=s.data.toList
theorem Zx (s:ByteArray):s.toList=nm s:=by rw [ByteArray.toList,Aqj s _ 0 [] rfl]; simp [nm]
theorem Am1 {a b:ByteArray} (h:nm a=nm b):a=b:=by
 apply ByteArray.ext; exact jW h
theorem Tg:∀ (x y:List UInt8),Op.bytesLess x y=decide (x<y)
 | [],[]=>Za63
 | a :: x,[]=>Za63
 | [],b :: y=>Za63
 | a :: x,b :: y=>by
  rw [Op.bytesLess,Tg x y];by_cases h1:a<b
  ·simp [h1,jQ]
  ·by_cases h2:a=b
   ·subst h2; simp [jQ]
   ·simp [h1,h2,jQ]
theorem Ah1 (a b:ByteArray):sLt a b=decide (nm a<nm b):=by
 unfold sLt; rw [Zx,Zx,Tg]
theorem N3 (a b:ByteArray):sEq a b=decide (a=b):=by
 unfold sEq; rw [Zx,Zx];by_cases h:a=b
 ·subst h; simp
 ·have:nm a≠nm b:=fun h'=>h (Am1 h');simp [h,this]
theorem Ac2 {a b c:List UInt8} (h1:a<b) (h2:b<c):a<c:=List.lt_trans h1 h2
theorem Ry (a:List UInt8):¬ a<a:=jH a
theorem Am0 (a b:ByteArray):nm a<nm b\/a=b\/nm b<nm a:=by
 by_cases h1:nm a<nm b
 ·exact .inl h1
 ·by_cases h2:nm b<nm a
  ·exact .inr (.inr h2)
  ·exact .inr (.inl (Am1 (List.le_antisymm (List.not_lt.1 h2) (List.not_lt.1 h1))))
def Inc (l:List ByteArray):Prop:=l.Pairwise fun a b=>nm a<nm b
theorem Ae1 (s x:ByteArray):∀ l:List ByteArray,x ∈ putS l s↔x=s\/x ∈ l
 | []=>by simp [putS]
 | y :: r=>by
  rw [putS];split
  ·rw [Cv,Ae1 s x r,Cv];constructor
   ·rintro (h|h|h) <;> simp [h]
   ·rintro (h|h|h) <;> simp [h]
  ·split
   ·rename_i h;rw [N3] at h;have:y=s:=aM
    subst this;simp
   ·simp [or_comm,or_left_comm]
theorem Al4 (s:ByteArray):∀ {l:List ByteArray},Inc l->Inc (putS l s)
 | [],_=>by simp [putS,Inc]
 | y :: r,h=>by
  have h0:=Ie.1 h;rw [putS];split
  ·rename_i h1;rw [Ah1] at h1;refine Ie.2 ⟨fun x hx=>?_,Al4 s h0.2⟩;rcases (Ae1 s x r).1 hx with rfl|hx
   ·simpa using h1
   ·exact h0.1 x hx
  ·rename_i h1;rw [Ah1] at h1;split
   ·exact h
   ·rename_i h2;rw [N3] at h2;have h3:nm s<nm y:=by
     rcases Am0 s y with h|h|h
     ·exact h
     ·exact absurd (by simpa using h.symm) h2
     ·exact absurd aM h1
    refine Ie.2 ⟨fun x hx=>?_,h⟩;rcases Cv.1 hx with rfl|hx
    ·exact h3
    ·exact Ac2 h3 (h0.1 x hx)
theorem Aew (s:ByteArray):∀ l:List ByteArray,(putS l s).length<=l.length+1
 | []=>by simp [putS]
 | y :: r=>by
  rw [putS];have:=Aew s r;split
  ·simp; exact this
  ·split <;> simp
theorem Aib (l:List ByteArray) (s:ByteArray):uniS (l++[s])=putS (uniS l) s:=by simp [uniS,List.foldl_append]
theorem M5 (l:List ByteArray):Inc (uniS l)/\(∀ x,x ∈ uniS l↔x ∈ l)/\(uniS l).length<=l.length:=by
 have key:∀ (l acc:List ByteArray),Inc acc->Inc (l.foldl putS acc)/\(∀ x,x ∈ l.foldl putS acc↔x ∈ acc\/x ∈ l)/\(l.foldl putS acc).length<=acc.length+l.length:=by
  intro l;induction l with
  | nil=>intro acc h; exact ⟨h,fun x=>by simp,by simp⟩
  | cons s l ih =>
   intro acc h;obtain ⟨h1,h2,h3⟩:=ih (putS acc s) (Al4 s h);refine ⟨h1,fun x=>?_,?_⟩
   ·rw [Sj,h2 x,Ae1,Cv];constructor
    ·rintro ((h|h)|h) <;> simp [h]
    ·rintro (h|h|h) <;> simp [h]
   ·have:=Aew s acc;simp only [Sj,Ch]; omega
 have:=key l [] (by simp [Inc]);exact ⟨this.1,fun x=>by simpa [uniS] using this.2.1 x,by simpa [uniS] using this.2.2⟩
theorem Ahm {s:ByteArray} : ∀ {l:List ByteArray},(∀ x ∈ l,nm x<nm s)->putS l s=l++[s]
 | [],_=>rfl
 | y :: r,h=>by
  rw [putS,if_pos (by rw [Ah1]; simpa using h y (by simp)),Ahm fun x hx=>h x bM]; rfl
theorem Arw:∀ {l r:List ByteArray},Inc l->Inc r->(∀ x,x ∈ l↔x ∈ r)->l=r
 | [],[],_,_,_=>rfl
 | [],y :: r,_,_,h=>by have:=(h y).2 (by simp); simp at this
 | x :: l,[],_,_,h=>by have:=(h x).1 (by simp); simp at this
 | x :: l,y :: r,h1,h2,h=>by
  have a1:=Ie.1 h1;have a2:=Ie.1 h2;have j8:x=y:=by
   have m1:=(h x).1 (by simp);have m2:=(h y).2 (by simp);rcases Cv.1 m1 with e|m1
   ·exact e
   ·rcases Cv.1 m2 with e|m2
    ·exact e.symm
    ·exact absurd (Ac2 (a1.1 y m2) (a2.1 x m1)) (Ry _)
  subst j8;congr 1;refine Arw a1.2 a2.2 fun z=>?_;have hz:=h z;simp only [Cv] at hz;constructor
  ·intro hm;rcases hz.1 (.inr hm) with e|gf
   ·subst e; exact absurd (a1.1 z hm) (Ry _)
   ·exact gf
  ·intro hm;rcases hz.2 (.inr hm) with e|gf
   ·subst e; exact absurd (a2.1 z hm) (Ry _)
   ·exact gf
end
section
def inB (n:Int):Bool:=decide (-1000000000000<=n/\n<=1000000000000)
theorem drop_nil {α:Type} {l:List α} {n:Nat} (h:l.length<=n):l.drop n=[]:=Cy h
end
section
open Go Tryz
def i64 (n:Int):Prop:=-9223372036854775808<=n/\n<=9223372036854775807
theorem Ac {n:Int} (h:i64 n):Ca.wrap n=n:=Go.IntWalk.i64_in n h
theorem B1 {i:Nat} (h:i<=1048576):Ca.wrap ((i:Int)+1)=((i+1:Nat):Int):=aS
theorem Adu {j:Nat} (h:j<=1048576):Ca.wrap (((j+1:Nat):Int) - 1)=(j:Int):=aS
theorem Dx {α β:Type} (f:α->β):∀ (l:List α) (i:Nat),nth (l.map f) i=(nth l i).map f
 | [],_=>rfl
 | _ :: _,0=>rfl
 | _ :: l,i+1=>Dx f l i
theorem A1 {α:Type} : ∀ {l:List α} {i:Nat} {x:α},nth l i=some x->l.drop i=x :: l.drop (i+1)
 | y :: l,0,x,h=>dS
 | _ :: l,i+1,x,h=>A1 (l:=l) (i:=i) h
 | [],_,_,h=>bK
theorem D5 (l:List Int):Dk 1 (l.map digC)=true:=Gq (f:=digC) (sz:=1) (fun _=>rfl) l
theorem B2 {l:List Int} {i:Nat} {x:Int} (h:nth l i=some x):nth (l.map digC) i=some [.prim (.int .i64 x)]:=dN
theorem V1 {l:List Int} (h:l≠[]):((l.length:Int) == 0)=false:=by
 exact Ya3m
theorem V2 {l:List Int} (h:l≠[]):decide ((l.length:Int) > 0)=true:=by
 exact Ya3m
theorem Ag4 {l:List Int} (h:l≠[]) (hl:l.length<=1000000):Ca.wrap ((l.length:Int) - 1)=((l.length - 1:Nat):Int):=by
 have:l.length≠0:=fun h'=>h (C4.1 h');rw [Ac aC]; omega
section
variable (S:List Ent) (tk:List Nat) (k:Nat)
theorem P0 (neg:Bool) (l:List Int) (c:Cap) (hlen:l.length<=1000000):cL prog 119 [.agg [.bool neg,.frz (l.map digC) c]] S tk k=some (.bool (D8 neg l),S,tk,k):=by
 refine opP func119 ntmps119 ?_;by_cases h1:200<l.length
 ·have d1:decide ((l.length:Int) > 200)=true:=aD
  simp (maxSteps:=10^6)+contextual(disch:=try exact dqd)only[ev0,simprocAttr,Cb,Bg,Cc,results119,d1];all_goals simp [D8,h1]
 have d1:decide ((l.length:Int) > 200)=false:=aD
 have hv:D8 neg l=if ((decide (l=[]) && neg) || Vz l)=true then false else allD l:=by simp [D8,h1]
 rw [hv];by_cases h2:l=[]
 ·have d2:(((0:Nat):Int) == 0)=true:=rfl;have d3:decide (((0:Nat):Int) > 0)=false:=rfl;cases neg with
  | true =>
   subst h2;simp (maxSteps:=10^6)+contextual(disch:=try exact dqd)only[ev0,simprocAttr,Cb,Bg,Cc,results119,d1,d2,d3,Ei];all_goals simp
  | false =>
   have hz:Vz l=false:=by subst h2; rfl
   rw [hz];simp only [kV,Fk,Ef,if_false];have c8:l.length=0:=by rw [h2]; rfl
   have d2:((l.length:Int) == 0)=true:=by rw [c8]; rfl
   have d3:decide ((l.length:Int) > 0)=false:=by rw [c8]; rfl
   simp (maxSteps:=10^6)+contextual(disch:=try exact dqd)only[ev0,simprocAttr,Cb,Bg,Cc,results119,d1,d2,d3];refine loop1 (P:=prog) (fun x st=>st.T.length=46/\(x<=l.length)/\(allD l=allD (l.drop x))/\getT st.T 33=digA l/\getT st.T 34=.int l.length/\getT st.T 35=.int (x:Nat)/\st.S=[⟨0,[.bool false,digA l]⟩]) (fun x=>l.length - x) (fun x=>.bool (allD l)) (0) ?_ ?_;case refine_2=>exact ⟨rfl,Cl _,rfl,rfl,rfl,rfl,rfl⟩
   exact Ya9
 ·have d2:=V1 h2;have d3:=V2 h2;have d4:=Ag4 h2 hlen;have hp:l.length≠0:=fun h'=>h2 (C4.1 h');obtain ⟨x,hx⟩:=Af (l:=l) (i:=l.length - 1) aA;have hx':=B2 hx;have hz:Vz l=(x == 0):=by unfold Vz; rw [hx]
  rw [hz];cases d5:x == 0 with
  | true =>
   simp (maxSteps:=10^6)+contextual(disch:=try exact dqd)only[ev0,simprocAttr,Cb,Bg,Cc,results119,d1,d2,d3,d4,hx',d5];all_goals simp
  | false =>
   simp only [h2,decide_false,Fq,Fk,Ef,if_false];simp (maxSteps:=10^6)+contextual(disch:=try exact dqd)only[ev0,simprocAttr,Cb,Bg,Cc,results119,d1,d2,d3,d4,hx',d5];refine loop1 (P:=prog) (fun x st=>st.T.length=46/\(x<=l.length)/\(allD l=allD (l.drop x))/\getT st.T 33=digA l/\getT st.T 34=.int l.length/\getT st.T 35=.int (x:Nat)/\st.S=[⟨0,[.bool neg,digA l]⟩]) (fun x=>l.length - x) (fun x=>.bool (allD l)) (0) ?_ ?_;case refine_2=>exact ⟨rfl,Cl _,rfl,rfl,rfl,rfl,rfl⟩
   exact Ya9
theorem Aaw (neg:Bool) (l:List Int) (c:Cap) (hlen:l.length<=1000000):cL prog 42 [.agg [.bool neg,.frz (l.map digC) c]] S tk k=some (.bool (D8 neg l),S,tk,k):=by
 refine opP func42 ntmps42 ?_;by_cases h1:200<l.length
 ·have d1:decide ((l.length:Int) > 200)=true:=aD
  simp (maxSteps:=10^6)+contextual(disch:=try exact dqd)only[ev0,simprocAttr,Cb,Bg,Cc,results42,d1];all_goals simp [D8,h1]
 have d1:decide ((l.length:Int) > 200)=false:=aD
 have hv:D8 neg l=if ((decide (l=[]) && neg) || Vz l)=true then false else allD l:=by simp [D8,h1]
 rw [hv];by_cases h2:l=[]
 ·have d2:(((0:Nat):Int) == 0)=true:=rfl;have d3:decide (((0:Nat):Int) > 0)=false:=rfl;cases neg with
  | true =>
   subst h2;simp (maxSteps:=10^6)+contextual(disch:=try exact dqd)only[ev0,simprocAttr,Cb,Bg,Cc,results42,d1,d2,d3,Ei];all_goals simp
  | false =>
   have hz:Vz l=false:=by subst h2; rfl
   rw [hz];simp only [kV,Fk,Ef,if_false];have c8:l.length=0:=by rw [h2]; rfl
   have d2:((l.length:Int) == 0)=true:=by rw [c8]; rfl
   have d3:decide ((l.length:Int) > 0)=false:=by rw [c8]; rfl
   simp (maxSteps:=10^6)+contextual(disch:=try exact dqd)only[ev0,simprocAttr,Cb,Bg,Cc,results42,d1,d2,d3];refine loop1 (P:=prog) (fun x st=>st.T.length=50/\(x<=l.length)/\(allD l=allD (l.drop x))/\getT st.T 1=.ref 0 0 0/\getT st.T 3=.int l.length/\getT st.T 4=.int (x:Nat)/\st.S=[⟨0,[.bool false,digA l]⟩]) (fun x=>l.length - x) (fun x=>.bool (allD l)) (0) ?_ ?_;case refine_2=>exact ⟨rfl,Cl _,rfl,rfl,rfl,rfl,rfl⟩
   exact Yaa
 ·have d2:=V1 h2;have d3:=V2 h2;have d4:=Ag4 h2 hlen;have hp:l.length≠0:=fun h'=>h2 (C4.1 h');obtain ⟨x,hx⟩:=Af (l:=l) (i:=l.length - 1) aA;have hx':=B2 hx;have hz:Vz l=(x == 0):=by unfold Vz; rw [hx]
  rw [hz];cases d5:x == 0 with
  | true =>
   simp (maxSteps:=10^6)+contextual(disch:=try exact dqd)only[ev0,simprocAttr,Cb,Bg,Cc,results42,d1,d2,d3,d4,hx',d5];all_goals simp
  | false =>
   simp only [h2,decide_false,Fq,Fk,Ef,if_false];simp (maxSteps:=10^6)+contextual(disch:=try exact dqd)only[ev0,simprocAttr,Cb,Bg,Cc,results42,d1,d2,d3,d4,hx',d5];refine loop1 (P:=prog) (fun x st=>st.T.length=50/\(x<=l.length)/\(allD l=allD (l.drop x))/\getT st.T 1=.ref 0 0 0/\getT st.T 3=.int l.length/\getT st.T 4=.int (x:Nat)/\st.S=[⟨0,[.bool neg,digA l]⟩]) (fun x=>l.length - x) (fun x=>.bool (allD l)) (0) ?_ ?_;case refine_2=>exact ⟨rfl,Cl _,rfl,rfl,rfl,rfl,rfl⟩
   exact Yaa
end
end
section
open Go
def numC (x:Int):AV:=.prim (.int .i64 x)
theorem Ae4 {l:List Int} {i:Nat} {x:Int} (h:nth l i=some x):nth ((l.map numC).drop i) 0=some (.prim (.int .i64 x)):=by
 have:nth (l.map numC) i=some (numC x):=dN
 exact Bd this
theorem Z0 {l:List Int} {i:Nat} {x v:Int} (h:nth l i=some x):over (l.map numC) i [.prim (.int .i64 v)]=some ((l.set i v).map numC):=by
 have h1:nth (l.map numC) i=some (numC x):=dN
 rw [Q0 h1];have:(.prim (.int .i64 v):AV)=numC v:=rfl;rw [this,Pj,Wh]
theorem R5 {l:List Int} {n:Nat} (h:n<=l.length):Jf 1 n (l.map numC)=some ((l.take n).map digC):=Yf h
theorem R6 (l:List Int):M2 (some (l.map digC))=.frz (l.map digC) .unk:=by
 unfold M2;simp only;rw [if_pos (by simp [digC,pure1,w1,jF])];congr 1;simp [w1,digC]
theorem Avh {m id ep n:Nat} {S:List Ent} {l:List Int} (hm:m<=id) (h:entAt S id ep=some (l.map numC)) (hn:n<=l.length):fz1 m S (.sref id ep 0 n 1)=.frz ((l.take n).map digC) .unk:=by
 rw [fz1_sref hm,h,fzB_some,Fg,R5 hn,R6]
theorem G1 {l:List Int} {n:Nat} (hn:n<=l.length) (hz:∀ j,n<=j->∀ x,nth l j=some x->x=0) (he:n=0\/∃ x,nth l (n - 1)=some x/\x≠0):D0 l=l.take n:=by
 rw [Rg n l hn hz];rcases he with rfl|⟨x,hx,h0⟩
 ·simp [D0]
 ·by_cases h1:n=0
  ·subst h1; simp [D0]
  ·refine Aap _ (n - 1) x ?_ aD h0;rw [Ag,Ot aA,<- Ag]; exact hx
theorem Ud {n:Nat} (h:n≠0) (hl:n<=1000000):Ca.wrap ((n:Int) - 1)=((n - 1:Nat):Int):=by
 rw [Ac aC]; omega
theorem Vr {l:List Int} {n:Nat} {x:Int} (hz:∀ j,n<=j->∀ x,nth l j=some x->x=0) (hx:nth l (n - 1)=some x) (mc:x=0):∀ j,n - 1<=j->∀ y,nth l j=some y->y=0:=fun j hj y hy=>by
 by_cases e:j=n - 1
 ·rw [e,hx] at hy; simp only [A8] at hy; omega
 ·exact hz j aA y hy
theorem Qd (l:List Int):∀ j,l.length<=j->∀ x,nth l j=some x->x=0:=fun j hj x hx=>by have:=Br hx; omega
theorem Ary:∀ {l r:List Int} {i:Nat} {x y:Int},l.length=r.length->okD l->okD r->nth l i=some x->nth r i=some y->x<y->(∀ j,i<j->nth l j=nth r j)->val l<val r
 | d :: l,e :: r,0,x,y,hl,h1,h2,hx,hy,j8,he=>by
  simp only [nth,A8] at hx hy; subst hx hy;have:l=r:=by
   apply List.ext_getElem?;intro j;have:=he (j+1) aA;simp only [nth,Ag] at this; exact this
  subst this; simp only [val]; omega
 | d :: l,e :: r,i+1,x,y,hl,h1,h2,hx,hy,j8,he=>by
  have ih:=Ary (l:=l) (r:=r) (i:=i) cI (fun z hz=>h1 z (by simp [hz])) (fun z hz=>h2 z (by simp [hz])) hx hy j8 fun j hj=>he (j+1) aA;have g1:=h1 d (by simp);have g2:=h2 e (by simp);simp only [val]; omega
 | [],_,_,_,_,_,_,_,hx,_,_,_=>by simp [nth] at hx
 | _ :: _,[],_,_,_,_,_,_,_,hy,_,_=>by simp [nth] at hy
def cmpN (a b:Nat):Int:=if a<b then -1 else if b<a then 1 else 0
theorem Lo {a b:Nat} (h:(dig a).length<(dig b).length):a<b:=by
 have h1:=Bp (n:=a) (k:=(dig a).length);have h2:=Bp (n:=b) (k:=(dig a).length);have h3:¬ (dig b).length<=(dig a).length:=aA
 rw [h2] at h3;have:=h1.1 (Ce _);omega
theorem Agg {a b i:Nat} {x y:Int} (hl:(dig a).length=(dig b).length) (hx:nth (dig a) i=some x) (hy:nth (dig b) i=some y) (h:x<y) (he:∀ j,i<j->nth (dig a) j=nth (dig b) j):a<b:=by
 have:=Ary hl (Bo a) (Bo b) hx hy h he;rw [B5,B5] at this; omega
theorem Agh {a b:Nat} (he:∀ j,nth (dig a) j=nth (dig b) j):a=b:=by
 refine As6 (List.ext_getElem? fun j=>?_);rw [<- Ag,<- Ag]; exact he j
theorem Jd {n:Nat} (hl:n<=1000000):Ca.wrap ((n:Int) - 1)=(n:Int) - 1:=Ac aC
theorem Hn {l:List Int} {i j:Nat} {x v:Int} (h:nth (l.set i v) j=some x):(j=i/\x=v)\/(j≠i/\nth l j=some x):=by
 rw [<- Wh] at h;by_cases e:i=j
 ·subst e; exact .inl ⟨rfl,Er h⟩
 ·rw [Ab e] at h; exact .inr ⟨fun h=>e h.symm,h⟩
theorem Ac4 {l:List Int} {i:Nat} {v:Int} (h:i<l.length):nth (l.set i v) i=some v:=by
 rw [Ag,List.getElem?_set_self h]
theorem Ahh {l:List Int} (h:∀ j x,nth l j=some x->0<=x/\x<10000):okD l:=fun d hd=>by
 obtain ⟨j,hj⟩:=List.mem_iff_getElem?.1 hd;exact h j d (by rw [Ag]; exact hj)
theorem Ed {l:List Int} (h:okD l) {j:Nat} {x:Int} (hx:nth l j=some x):0<=x/\x<10000:=h x eU
def padL (l:List Int) (n:Nat):List Int:=l++Cf (n - l.length) 0
theorem Ahi {l:List Int} {n:Nat} (h:l.length<=n):(padL l n).length=n:=by simp [padL]; omega
theorem Ahj (l:List Int) (n:Nat):val (padL l n)=val l:=by rw [padL,Ha,Jp]; omega
theorem Am8 {l:List Int} {n j:Nat} {x:Int} (h:nth (padL l n) j=some x):nth l j=some x\/(l.length<=j/\x=0):=by
 rw [Ag,padL] at h;by_cases hj:j<l.length
 ·rw [C3 hj] at h; left; rw [Ag]; exact h
 ·rw [Fc aA] at h;right;refine ⟨aA,?_⟩;have:=I8 h;exact (Ix.1 this).2
theorem Adv (n:Nat):(Cf n [(.prim (.int .i64 0):AV)]).flatten=(Cf n (0:Int)).map numC:=by
 rw [Ap6,kT]; rfl
def Ara (n:Nat):List AV:=(Cf n (0:Int)).map numC
theorem Amu {P:Program} {t:TypeId} {n:Nat} (hz:(Be P t).bind (A3 P)=some [.prim (.int .i64 0)]) (hs:(Be P t).bind (szOf P)=some 1) (hb:(Be P t).bind (Ja P)=some 8) (hn:n<=1048576) :
  mkA P t (.prim (.int .i64 (n:Int))) (.prim (.int .i64 (n:Int)))=some (n,1,Ara n):=by
 unfold mkA;rw [hz,hs,hb,intN_cast];simp only [mkB];rw [if_pos ⟨Ce _,hn,aA,rfl⟩,Adv]; rfl
theorem H9:∀ l:List Int,D0 l=l.take (D0 l).length
 | []=>rfl
 | d :: l=>by
  rw [D0];split
  ·rfl
  ·simp only [Ch,F7];rw [<- H9 l]
theorem Z2 (n:Nat):(0:Int)<10000 ^ n:=Int.pow_pos aA
structure Plus1 (a b la i:Nat) (out:List Int):Prop where
 len:out.length=la+1
 val:val out+10000 ^ i*val ((dig b).drop i)=(a+b:Nat)
 ok:∀ j x,nth out j=some x->0<=x/\(j<i->x<=19998)/\(i<=j->x<10000)/\(j=la->x=0)
theorem Plus1.start {a b:Nat} : Plus1 a b (dig a).length 0 (padL (dig a) ((dig a).length+1)):=by
 refine ⟨Ahi aA,?_,fun j x hx=>?_⟩
 ·rw [Ahj,B5,Fg,B5]; simp
 ·rcases Am8 hx with h|⟨h,rfl⟩
  ·have:=Ed (Bo a) h;have hl:=Br h;exact ⟨this.1,aA,fun _=>this.2,fun e=>aA⟩
  ·exact ⟨aA,aA,aA,fun _=>rfl⟩
theorem Plus1.step {a b la i:Nat} {out:List Int} {x d:Int} (h:Plus1 a b la i out) (hb:i<la) (hx:nth out i=some x) (hd:nth (dig b) i=some d):Plus1 a b la (i+1) (out.set i (x+d)):=by
 have hdk:=Ed (Bo b) hd;refine ⟨dE,?_,fun j y hy=>?_⟩
 ·have hv:=h.val;rw [A1 hd,Go.Proofs.YtcjffhadclngmaaGreat.val] at hv;rw [Lv hx,<- hv,Oy,O4];have e1:x+d - x=d:=aA
  rw [e1,Hk d,Ij]; omega
 ·rcases Hn hy with ⟨rfl,rfl⟩|⟨hne,hy⟩
  ·have:=h.ok _ x hx;exact ⟨aA,aA,aA,aA⟩
  ·have:=h.ok j y hy;exact ⟨this.1,fun hj=>this.2.1 aA,fun hj=>this.2.2.1 aA,this.2.2.2⟩
structure Plus2 (v la i:Nat) (out:List Int):Prop where
 len:out.length=la+1
 val:val out=v
 ok:∀ j x,nth out j=some x->0<=x/\(j<i->x<10000)/\(j=i->x<=19999)/\(i<j->x<=19998)/\(j=la->x<=1/\(i<la->x=0))
theorem Plus2.start {a b la:Nat} {out:List Int} (h:Plus1 a b la (dig b).length out):Plus2 (a+b) la 0 out:=by
 refine ⟨h.len,?_,fun j x hx=>?_⟩
 ·have:=h.val;rw [Ik,Go.Proofs.YtcjffhadclngmaaGreat.val] at this; omega
 ·have:=h.ok j x hx;refine ⟨this.1,aA,fun _=>?_,fun _=>?_,fun e=>⟨by have:=this.2.2.2 e; omega,fun _=>this.2.2.2 e⟩⟩
  ·rcases Im j (dig b).length with hj|hj
   ·have:=this.2.1 hj; omega
   ·have:=this.2.2.1 hj; omega
  ·rcases Im j (dig b).length with hj|hj
   ·exact this.2.1 hj
   ·have:=this.2.2.1 hj; omega
theorem Plus2.small {v la i:Nat} {out:List Int} {x:Int} (h:Plus2 v la i out) (hi:i<la) (hx:nth out i=some x) (h1:x<10000):Plus2 v la (i+1) out:=by
 refine ⟨h.len,h.val,fun j y hy=>?_⟩;have:=h.ok j y hy;refine ⟨this.1,fun hj=>?_,fun hj=>by have:=this.2.2.2.1 aA; omega,fun hj=>this.2.2.2.1 aA,fun e=>⟨(this.2.2.2.2 e).1,fun _=>(this.2.2.2.2 e).2 hi⟩⟩;exact Ya22
theorem Plus2.big {v la i:Nat} {out:List Int} {x y:Int} (h:Plus2 v la i out) (hi:i<la) (hx:nth out i=some x) (h1:10000<=x) (hy:nth (out.set i (x - 10000)) (i+1)=some y):Plus2 v la (i+1) ((out.set i (x - 10000)).set (i+1) (y+1)):=by
 refine ⟨Za2x,?_,fun j z hz=>?_⟩
 ·rw [Lv hy,Lv hx,<- h.val,Oy];have e1:x - 10000 - x=-10000:=aA
  have e2:y+1 - y=1:=aA
  rw [e1,e2,Int.one_mul,Hk (10000 ^ i) 10000,iD]; omega
 ·have hyo:nth out (i+1)=some y:=by
   rcases Hn hy with ⟨e,-⟩|⟨-,hy⟩
   ·omega
   ·exact hy
  have hk:=h.ok i x hx;have hky:=h.ok (i+1) y hyo;rcases Hn hz with ⟨rfl,rfl⟩|⟨hne,hz⟩
  ·refine ⟨aA,aA,fun _=>by have:=hky.2.2.2.1 aA; omega,aA,fun e=>?_⟩;have:=(hky.2.2.2.2 e).2 hi;exact ⟨aA,aA⟩
  ·rcases Hn hz with ⟨rfl,rfl⟩|⟨a0q,hz⟩
   ·exact ⟨aA,fun _=>aA,aA,aA,aA⟩
   ·have:=h.ok j z hz;exact ⟨this.1,fun hj=>this.2.1 aA,fun hj=>aA,fun hj=>this.2.2.2.1 aA,fun e=>⟨(this.2.2.2.2 e).1,fun _=>(this.2.2.2.2 e).2 hi⟩⟩
theorem Plus2.done {v la:Nat} {out:List Int} (h:Plus2 v la la out):D0 out=dig v:=by
 have hk:okD out:=Ahh fun j x hx=>by
  have:=h.ok j x hx;have hl:=Br hx;rw [h.len] at hl;refine ⟨this.1,?_⟩;rcases Im j la with hj|hj
  ·exact this.2.1 hj
  ·have:=(this.2.2.2.2 aA).1; omega
 rw [Ey hk,h.val]; congr 1
theorem Ar9 {l:List Int} (h:okD l):val l<10000 ^ l.length:=by
 induction l with
 | nil=>simp [val]
 | cons d l ih =>
  have h1:=h d (by simp);have h2:=ih fun x hx=>h x bM;simp only [val,Ch,Oy]; omega
structure Xh (a b la i:Nat) (out:List Int):Prop where
 len:out.length=la
 eqv:val out - 10000 ^ i*val ((dig b).drop i)=(a:Int) - b
 ok:∀ j x,nth out j=some x->-9999<=x/\x<=9999/\(i<=j->0<=x)
theorem Xh.start {a b:Nat} : Xh a b (dig a).length 0 (padL (dig a) (dig a).length):=by
 refine ⟨Ahi aA,?_,fun j x hx=>?_⟩
 ·rw [Ahj,B5,Fg,B5]; simp
 ·rcases Am8 hx with h|⟨h,rfl⟩
  ·have:=Ed (Bo a) h; exact ⟨aA,aA,fun _=>this.1⟩
  ·exact ⟨aA,aA,fun _=>aA⟩
theorem Xh.step {a b la i:Nat} {out:List Int} {x d:Int} (h:Xh a b la i out) (hx:nth out i=some x) (hd:nth (dig b) i=some d):Xh a b la (i+1) (out.set i (x - d)):=by
 have hdk:=Ed (Bo b) hd;refine ⟨dE,?_,fun j y hy=>?_⟩
 ·have hv:=h.eqv;rw [A1 hd,val] at hv;rw [Lv hx,<- hv,Oy,O4];have e1:x - d - x=-d:=aA
  rw [e1,iD,Hk d,Ij]; omega
 ·rcases Hn hy with ⟨rfl,rfl⟩|⟨hne,hy⟩
  ·have:=h.ok _ x hx;exact ⟨by have:=this.2.2 (Ce _); omega,aA,aA⟩
  ·have:=h.ok j y hy;exact ⟨this.1,this.2.1,fun hj=>this.2.2 aA⟩
structure Ny (v:Nat) (la i:Nat) (out:List Int):Prop where
 len:out.length=la
 eqv:val out=v
 ok:∀ j x,nth out j=some x->x<=9999/\(j<i->0<=x)/\(j=i->-10000<=x)/\(i<j->-9999<=x)
theorem Ny.start {a b la:Nat} {out:List Int} (h:Xh a b la (dig b).length out) (hab:b<=a):Ny (a - b) la 0 out:=by
 refine ⟨h.len,?_,fun j x hx=>?_⟩
 ·have:=h.eqv;rw [Ik,val] at this; omega
 ·have:=h.ok j x hx; exact ⟨this.2.1,aA,aA,aA⟩
theorem Ny.small {v la i:Nat} {out:List Int} {x:Int} (h:Ny v la i out) (hx:nth out i=some x) (h1:0<=x):Ny v la (i+1) out:=by
 refine ⟨h.len,h.eqv,fun j y hy=>?_⟩;have:=h.ok j y hy;refine ⟨this.1,fun hj=>?_,fun hj=>by have:=this.2.2.2 aA; omega,fun hj=>this.2.2.2 aA⟩;exact Ya22
theorem Ny.neg {v la i:Nat} {out:List Int} {x y:Int} (h:Ny v la i out) (hx:nth out i=some x) (h1:x<0) (hy:nth (out.set i (x+10000)) (i+1)=some y):Ny v la (i+1) ((out.set i (x+10000)).set (i+1) (y - 1)):=by
 have hyo:nth out (i+1)=some y:=by
  rcases Hn hy with ⟨e,-⟩|⟨-,hy⟩
  ·omega
  ·exact hy
 have hk:=h.ok i x hx;have hky:=h.ok (i+1) y hyo;refine ⟨Za2x,?_,fun j z hz=>?_⟩
 ·rw [Lv hy,Lv hx,<- h.eqv,Oy];have e1:x+10000 - x=10000:=aA
  have e2:y - 1 - y=-1:=aA
  rw [e1,e2,Hk (10000 ^ i) 10000]; omega
 ·rcases Hn hz with ⟨rfl,rfl⟩|⟨hne,hz⟩
  ·exact ⟨aA,aA,fun _=>by have:=hky.2.2.2 aA; omega,aA⟩
  ·rcases Hn hz with ⟨rfl,rfl⟩|⟨a0q,hz⟩
   ·exact ⟨aA,fun _=>by have:=hk.2.2.1 rfl; omega,aA,aA⟩
   ·have:=h.ok j z hz;exact ⟨this.1,fun hj=>this.2.1 aA,fun hj=>aA,fun hj=>this.2.2.2 aA⟩
theorem Ny.done {v la:Nat} {out:List Int} (h:Ny v la la out):D0 out=dig v:=by
 have hk:okD out:=Ahh fun j x hx=>by
  have:=h.ok j x hx;have hl:=Br hx;rw [h.len] at hl;exact ⟨this.2.1 hl,aA⟩
 rw [Ey hk,h.eqv]; congr 1
theorem Ug (l:List Int) (i:Nat):val (l.drop i)=(nth l i).getD 0+10000*val (l.drop (i+1)):=by
 by_cases h:i<l.length
 ·obtain ⟨x,hx⟩:=Af h;rw [A1 hx,hx]; rfl
 ·rw [Cy aA,Cy aA,Ag,Cu aA]; rfl
theorem Ng (a i:Nat):0<=(nth (dig a) i).getD 0/\(nth (dig a) i).getD 0<10000:=by
 cases h:nth (dig a) i with
 | none=>simp
 | some x=>exact Ed (Bo a) h
theorem Qz {l:List Int} {x:Int} (h:okD l) (h0:0<=x) (h1:x<10000):okD (l++[x]):=fun d hd=>by
 rcases C5.1 hd with hd|hd
 ·exact h d hd
 ·simp at hd; subst hd; exact ⟨h0,h1⟩
theorem Nv (l:List Int) (x:Int):val (l++[x])=val l+10000 ^ l.length*x:=by rw [Ha]; simp [val]
theorem Ki (i:Nat) (x r:Int):(10000:Int) ^ i*x+10000 ^ (i+1)*r=10000 ^ i*(x+10000*r):=by rw [Oy,O4,Ij]
structure Sum1 (a b i:Nat) (c:Int) (out:List Int):Prop where
 len:out.length=i
 ok:okD out
 c0:0<=c/\c<=1
 eqv:val out+10000 ^ i*(c+val ((dig a).drop i)+val ((dig b).drop i))=(a+b:Nat)
theorem Sum1.step {a b i:Nat} {c n:Int} {out:List Int} (h:Sum1 a b i c out) (hn:n=(nth (dig a) i).getD 0+(nth (dig b) i).getD 0+c):Sum1 a b (i+1) (n.tdiv 10000) (out++[n.tmod 10000])/\0<=n/\n<=19999/\0<=n.tmod 10000/\n.tmod 10000<10000:=by
 have h1:=Ng a i;have h2:=Ng b i;have h3:=h.c0;have e1:n.tdiv 10000=n / 10000:=Fe aA;have e2:n.tmod 10000=n % 10000:=Ic aA;refine ⟨⟨eJ,Qz h.ok aA aA,aA,?_⟩,aA,aA,aA,aA⟩;have hv:=h.eqv;rw [Ug (dig a) i,Ug (dig b) i] at hv;have:n.tmod 10000+10000*(n.tdiv 10000+val ((dig a).drop (i+1))+val ((dig b).drop (i+1)))=c+((nth (dig a) i).getD 0+10000*val ((dig a).drop (i+1)))+((nth (dig b) i).getD 0+10000*val ((dig b).drop (i+1))):=aA
 exact Ya36
theorem Sum1.done {a b i:Nat} {c:Int} {out:List Int} (h:Sum1 a b i c out) (h1:(dig a).length<=i) (h2:(dig b).length<=i) (h3:c=0):D0 out=dig (a+b):=by
 have hv:=h.eqv;rw [Cy h1,Cy h2,h3] at hv;simp only [val] at hv;rw [Ey h.ok];congr 1; omega
structure Dif1 (a b i:Nat) (c:Int) (out:List Int):Prop where
 len:out.length=i
 ok:okD out
 c0:0<=c/\c<=1
 eqv:val out+10000 ^ i*(val ((dig a).drop i) - val ((dig b).drop i) - c)=(a:Int) - b
theorem Dif1.step {a b i:Nat} {c n d:Int} {out:List Int} (h:Dif1 a b i c out) (hd:nth (dig a) i=some d) (hn:n=d - (nth (dig b) i).getD 0 - c):(n<0->Dif1 a b (i+1) 1 (out++[n+10000]))/\(¬ n<0->Dif1 a b (i+1) 0 (out++[n]))/\-10000<=n/\n<10000:=by
 have h1:=Ed (Bo a) hd;have h2:=Ng b i;have h3:=h.c0;have hv:=h.eqv;rw [Ug (dig b) i,A1 hd,val] at hv;refine ⟨fun gn=>⟨eJ,Qz h.ok aA aA,aA,?_⟩,fun gn=>⟨eJ,Qz h.ok aA aA,aA,?_⟩,aA,aA⟩
 ·have:n+10000+10000*(val ((dig a).drop (i+1)) - val ((dig b).drop (i+1)) - 1)=d+10000*val ((dig a).drop (i+1)) - ((nth (dig b) i).getD 0+10000*val ((dig b).drop (i+1))) - c:=aA
  exact Ya36
 ·have:n+10000*(val ((dig a).drop (i+1)) - val ((dig b).drop (i+1)) - 0)=d+10000*val ((dig a).drop (i+1)) - ((nth (dig b) i).getD 0+10000*val ((dig b).drop (i+1))) - c:=aA
  exact Ya36
theorem Qj {a b:Nat} (h:b<=a):(dig b).length<=(dig a).length:=by
 rw [Bp];have:=(Bp (n:=a) (k:=(dig a).length)).1 (Ce _);omega
theorem Dif1.done {a b:Nat} {c:Int} {out:List Int} (h:Dif1 a b (dig a).length c out) (hab:b<=a):D0 out=dig (a - b):=by
 have hv:=h.eqv;have h3:=h.c0;rw [Ik,Cy (Qj hab)] at hv;simp only [val] at hv;have hlt:=Ar9 h.ok;rw [h.len] at hlt;have hp:=Z2 (dig a).length;have hc:c=0:=by
  rcases Int.lt_or_le c 1 with h1|h1
  ·omega
  ·have:c=1:=aA
   subst this;have:(10000:Int) ^ (dig a).length*(0 - 0 - 1)=-(10000 ^ (dig a).length):=aA
   omega
 subst hc;rw [Ey h.ok];congr 1;have:(10000:Int) ^ (dig a).length*(0 - 0 - 0)=0:=by simp
 omega
theorem Zy {l:List Int} {i:Nat} {x:Int} (h:okD l) (h0:0<=x) (h1:x<10000):okD (l.set i x):=fun d hd=>by
 rcases List.mem_or_eq_of_mem_set hd with hd|rfl
 ·exact h d hd
 ·exact ⟨h0,h1⟩
structure Mul1 (X Y i:Nat) (out:List Int):Prop where
 len:out.length=(dig X).length+(dig Y).length
 ok:okD out
 zero:∀ j x,i+(dig Y).length<=j->nth out j=some x->x=0
 eqv:val out+10000 ^ i*(val ((dig X).drop i)*Y)=X*Y
theorem Mul1.start (X Y:Nat):Mul1 X Y 0 (Cf ((dig X).length+(dig Y).length) 0):=by
 have hz:∀ (n j:Nat) (x:Int),nth (Cf n (0:Int)) j=some x->x=0:=fun n j x h=>by
  exact Ya3v
 refine ⟨by simp,Ahh fun j x hx=>by rw [hz _ _ _ hx]; omega,fun j x _ hx=>hz _ _ _ hx,?_⟩;rw [Jp,Fg,B5]; simp
structure Mul2 (X Y i k:Nat) (v d c:Int) (out:List Int):Prop where
 len:out.length=(dig X).length+(dig Y).length
 ok:okD out
 zero:∀ j x,i+(dig Y).length<=j->(k<=(dig Y).length\/i+(dig Y).length<j)->nth out j=some x->x=0
 c0:0<=c/\c<10000
 eqv:val out+10000 ^ (i+k)*(c+d*val ((dig Y).drop k))=v
theorem Mul2.start {X Y i:Nat} {d:Int} {out:List Int} (h:Mul1 X Y i out):Mul2 X Y i 0 (val out+10000 ^ i*(d*Y)) d 0 out :=
 ⟨h.len,h.ok,fun j x hj _ hx=>h.zero j x hj hx,aA,by rw [Fg,B5]; simp⟩
theorem Mul2.step {X Y i k:Nat} {v d c x n:Int} {out:List Int} (h:Mul2 X Y i k v d c out) (hk:k<=(dig Y).length) (hd:0<=d/\d<10000) (hx:nth out (i+k)=some x) (hn:n=c+x+d*(nth (dig Y) k).getD 0) :
  Mul2 X Y i (k+1) v d (n.tdiv 10000) (out.set (i+k) (n.tmod 10000))/\0<=n/\n<=99999999/\n.tdiv 10000=n / 10000:=by
 have h1:=Ng Y k;have h2:=Ed h.ok hx;have h3:=h.c0;have yv:0<=d*(nth (dig Y) k).getD 0:=jI hd.1 h1.1;have hp1:d*(nth (dig Y) k).getD 0<=9999*9999:=Int.mul_le_mul aA aA h1.1 aA;have e1:n.tdiv 10000=n / 10000:=Fe aA;have e2:n.tmod 10000=n % 10000:=Ic aA;refine ⟨⟨dE,Zy h.ok aA aA,fun j y hj hjk hy=>?_,aA,?_⟩,aA,aA,e1⟩
 ·rcases Hn hy with ⟨rfl,rfl⟩|⟨hne,hy⟩
  ·have hkk:k=(dig Y).length:=aA
   omega
  ·exact h.zero j y hj aA hy
 ·have hv:=h.eqv;rw [Ug (dig Y) k] at hv;have k9:d*((nth (dig Y) k).getD 0+10000*val ((dig Y).drop (k+1)))=d*(nth (dig Y) k).getD 0+10000*(d*val ((dig Y).drop (k+1))):=by
   rw [O4,Int.mul_left_comm]
  rw [k9] at hv;rw [Lv hx,iP,<- Sr,Hk (n.tmod 10000 - x),Ki,<- hv];congr 2;omega
theorem Mul2.next {X Y i:Nat} {d c x:Int} {o out:List Int} (h:Mul2 X Y i (dig Y).length (val o+10000 ^ i*(d*Y)) d c out) (h0:Mul1 X Y i o) (hd:nth (dig X) i=some d) (hx:nth out (i+(dig Y).length)=some x):x=0/\Mul1 X Y (i+1) (out.set (i+(dig Y).length) (x+c)):=by
 have mc:=h.zero _ x (Ce _) (.inl (Ce _)) hx;subst mc;have h3:=h.c0;refine ⟨rfl,dE,Zy h.ok aA aA,fun j y hj hy=>?_,?_⟩
 ·rcases Hn hy with ⟨rfl,rfl⟩|⟨hne,hy⟩
  ·omega
  ·exact h.zero j y aA (.inl (Ce _)) hy
 ·have hv:=h.eqv;rw [Ik] at hv;simp only [val,Sq,iK] at hv;have gm:=h0.eqv;rw [A1 hd,val] at gm;rw [Lv hx,<- gm];have e1:(0:Int)+c - 0=c:=aA
  rw [e1,Hk c,hv,iP,Ki];congr 2;rw [Int.add_mul,Ij]
theorem Mul2.last {X Y i k:Nat} {d c:Int} {o out:List Int} (h:Mul2 X Y i k (val o+10000 ^ i*(d*Y)) d c out) (hk:(dig Y).length<=k) (hc:c=0) (h0:Mul1 X Y i o) (hd:nth (dig X) i=some d):Mul1 X Y (i+1) out:=by
 refine ⟨h.len,h.ok,fun j y hj hy=>h.zero j y aA aA hy,?_⟩;have hv:=h.eqv;rw [Cy hk,hc] at hv;simp only [val,Sq,iK] at hv;have gm:=h0.eqv;rw [A1 hd,val] at gm;rw [<- gm,hv,iP,Ki];congr 2;rw [Int.add_mul,Ij]
theorem Mul1.done {X Y:Nat} {out:List Int} (h:Mul1 X Y (dig X).length out):D0 out=dig (X*Y):=by
 have hv:=h.eqv;rw [Ik] at hv;simp only [val,Int.zero_mul,Sq,iK] at hv;rw [Ey h.ok,hv];congr 1
theorem V_bad {p:Bool} {l:List Int} (h:D8 p l=false):V p l=0:=by simp [V,h]
section
variable (S:List Ent) (tk:List Nat) (k:Nat)
theorem N8 {X Y m n:Nat} (ha:(dig X).length<=m) (hb:(dig Y).length<=n):(dig (X*Y)).length<=m+n:=by
 rw [Bp] at ha hb ⊢;rw [Nat.pow_add];exact Nat.mul_lt_mul'' ha hb
end
def sg (p:Bool) (n:Nat):Int:=if p=true then -(n:Int) else n
def okZ (z:Int):Bool:=!decide (200<(dig z.natAbs).length)
theorem Awb (p:Bool) (n:Nat):(sg p n).natAbs=n:=by unfold sg; split <;> omega
theorem V_sg (p:Bool) (l:List Int):V p l=sg p (V p l).natAbs:=by
 unfold V;cases h:D8 p l with
 | false=>cases p <;> simp [sg]
 | true =>
  have h3:=E9 (J5 h).2.1;cases p <;> simp [sg] <;> omega
theorem Avt (p q:Bool) (X Y:Nat):sg (p != q) (X*Y)=sg p X*sg q Y:=by
 cases p <;> cases q <;> simp [sg,iD,Int.mul_neg]
theorem Arn {p q:Bool} (h:p≠q) {X Y:Nat} (hl:Y<=X):sg p (X - Y)=sg p X+sg q Y:=by
 cases p <;> cases q <;> simp [sg] at h ⊢ <;> omega
theorem Au0 {p q:Bool} (h:p≠q) {X Y:Nat} (hl:X<=Y):sg q (Y - X)=sg p X+sg q Y:=by
 cases p <;> cases q <;> simp [sg] at h ⊢ <;> omega
def cmpZ (x y:Int):Int:=if x<y then -1 else if y<x then 1 else 0
end
section
open Go Tryz
set_option maxRecDepth 100000
section
variable (S:List Ent) (tk:List Nat) (k:Nat)
theorem Q4 (a b:Nat) (ha:(dig a).length<=1000000) (hb:(dig b).length<=1000000):cL prog 174 [digA (dig a),digA (dig b)] S tk k=some (.int (cmpN a b),S,tk,k):=by
 refine opP func174 ntmps174 ?_;by_cases hl:(dig a).length=(dig b).length;case neg =>
  have d1:(((dig a).length:Int) != ((dig b).length:Int))=true:=aD
  rcases Im (dig a).length (dig b).length with h|h
  ·have d2:decide (((dig a).length:Int)<((dig b).length:Int))=true:=aM
   have:=Lo h
   simp (maxSteps:=10^6)+contextual(disch:=try exact dqd)only[ev0,simprocAttr,Cb,Bg,Cc,results174,digA,d1,d2]
   simp [cmpN,this]
  ·have d2:decide (((dig a).length:Int)<((dig b).length:Int))=false:=aD
   have:=Lo (a:=b) (b:=a) aA
   simp (maxSteps:=10^6)+contextual(disch:=try exact dqd)only[ev0,simprocAttr,Cb,Bg,Cc,results174,digA,d1,d2]
   rw [cmpN,if_neg aA,if_pos this]
 have d1:(((dig a).length:Int) != ((dig b).length:Int))=false:=aD
 have d3:=Jd ha;simp (maxSteps:=10^6)+contextual(disch:=try exact dqd)only[ev0,simprocAttr,Cb,Bg,Cc,results174,digA,d1,d3];refine loop1 (P:=prog) (fun x st=>st.T.length=41/\(x<=(dig a).length)/\(∀ j,x<=j->nth (dig a) j=nth (dig b) j)/\getT st.T 0=digA (dig a)/\getT st.T 1=digA (dig b)/\getT st.T 5=.int ((x:Int) - 1)/\st.S=[]) (fun x=>x) (fun x=>.int (cmpN a b)) ((dig a).length) ?_ ?_;case refine_2=>exact ⟨rfl,Ce _,fun j hj=>by rw [Ag,Ag,Cu hj,Cu aA],rfl,rfl,rfl,rfl⟩
 rintro n ⟨T,S',tk',n'⟩ ⟨hl,hn,he,e0,e1,e5,eS⟩ IH;subst eS;obtain ⟨g,hg,hT⟩:=Au hl;rw [hg] at e0 e1 e5;subst hT;clear hg hl;by_cases h0:n=0
 ·have d2:decide ((n:Int) - 1 >= 0)=false:=aD
  have:=Agh fun j=>he j aA;subst this;simp (maxSteps:=10^6)+contextual(disch:=try exact dqd)only[ev0,simprocAttr,Cb,Bg,Cc,results174,e0,e1,e5,d2,digA];simp [cmpN]
 ·have d2:decide ((n:Int) - 1 >= 0)=true:=aD
  have hi:(n:Int) - 1=((n - 1:Nat):Int):=aA
  obtain ⟨x,hx⟩:=Af (show n - 1<(dig a).length by omega);obtain ⟨y,hy⟩:=Af (show n - 1<(dig b).length by omega);have hx':=B2 hx;have ng:=B2 hy;have sc:∀ j,n - 1<j->nth (dig a) j=nth (dig b) j:=fun j hj=>he j aA;have hp:=Jd (n:=n - 1) aA;rw [hi] at e5 d2;by_cases j8:x=y
  ·have d4:(x != y)=false:=gG
   simp (maxSteps:=10^6)+contextual(disch:=try exact dqd)only[ev0,simprocAttr,Cb,Bg,Cc,results174,e0,e1,e5,d2,d4,digA,hx',ng,hp];exact IH (n - 1) _ aF ⟨rfl,aE,fun j hj=>Za6x,aB,aB,aB,aB⟩
  ·have d4:(x != y)=true:=gG
   by_cases h1:x<y
   ·have d5:decide (x<y)=true:=aU
    have:=Agg hl hx hy h1 sc;simp (maxSteps:=10^6)+contextual(disch:=try exact dqd)only[ev0,simprocAttr,Cb,Bg,Cc,results174,e0,e1,e5,d2,d4,d5,digA,hx',ng,hp];simp [cmpN,this]
   ·have d5:decide (x<y)=false:=aU
    have:=Agg hl.symm hy hx aA fun j hj=>(sc j hj).symm;simp (maxSteps:=10^6)+contextual(disch:=try exact dqd)only[ev0,simprocAttr,Cb,Bg,Cc,results174,e0,e1,e5,d2,d4,d5,digA,hx',ng,hp];rw [cmpN,if_neg aA,if_pos this]
theorem Ade (l:List Int) (id ep:Nat) (hlen:l.length<=1000000) (h:entAt S id ep=some (l.map numC)):cL prog 175 [.sref id ep 0 l.length 1] S tk k=some (.sref id ep 0 (D0 l).length 1,S,tk,k):=by
 refine opS func175 ntmps175 ?_;have hid:id<S.length:=by
  obtain ⟨e,h1,-⟩:=D4 h;exact Br h1
 simp (maxSteps:=10^6)+contextual(disch:=try exact dqd)only[evs0,simprocAttr,Cb,Bg,Cc,results175];refine Ai5 (P:=prog) (fun x st=>st.T.length=21/\(x<=l.length)/\(∀ j,x<=j->∀ x,nth l j=some x->x=0)/\getT st.T 0=.sref id ep 0 x 1/\st.S=S/\st.tk=tk/\st.n=k) (fun x=>x) (fun x=>(.sref id ep 0 (D0 l).length 1,S,tk,k)) (l.length) ?_ ?_;case refine_2=>exact ⟨rfl,Ce _,Qd l,rfl,rfl,rfl,rfl⟩
 rintro n ⟨T,S',tk',n'⟩ ⟨hl,hn,hz,e0,eS,eT,eN⟩ IH;subst eS eT eN;obtain ⟨g,hg,hT⟩:=Au hl;rw [hg] at e0;subst hT;clear hg hl;by_cases h0:n=0
 ·have d1:decide ((n:Int) > 0)=false:=aD
  have ht:=G1 hn hz (.inl h0);simp (maxSteps:=10^6)+contextual(disch:=try exact dqd)only[evs0,simprocAttr,Cb,Bg,Cc,results175,e0,d1];rw [ht]; simp [h0]
 ·have d1:decide ((n:Int) > 0)=true:=aD
  have hp:=Ud h0 aA;have bo:n - 1<l.length:=aA
  have bm:n - 1<n:=aA
  have cu:n - 1<=n:=aA
  obtain ⟨x,hx⟩:=Af bo;have hx':=Ae4 hx;by_cases mc:x=0
  ·have d2:(x == 0)=true:=cM
   simp (maxSteps:=10^6)+contextual(disch:=try exact dqd)only[evs0,simprocAttr,Cb,Bg,Cc,results175,e0,d1,d2,hp,hx',h,bo,bm,cu,C9,Jg,bound,intN_cast,Ce,Cl,Ov,Nat.sub_zero,I5];exact IH (n - 1) _ aF ⟨rfl,aE,Vr hz hx mc,Za0s⟩
  ·have d2:(x == 0)=false:=cM
   have ht:=G1 hn hz (.inr ⟨x,hx,mc⟩);simp (maxSteps:=10^6)+contextual(disch:=try exact dqd)only[evs0,simprocAttr,Cb,Bg,Cc,results175,e0,d1,d2,hp,hx',h,bo,bm,C9,Jg,bound,intN_cast,hn,Ce,Cl,Ov,Nat.sub_zero,I5];rw [ht]; simp; omega
theorem Wm (X Y:Nat) (ha:(dig X).length<=100000) (hb:(dig Y).length<=100000):cL prog 177 [digA (dig X),digA (dig Y)] S tk k=some (digA (dig (X*Y)),S,tk,k):=by
 refine opP func177 ntmps177 ?_;have hw:Ca.wrap (((dig X).length:Int)+((dig Y).length:Int))=(((dig X).length+(dig Y).length:Nat):Int):=aS
 have hbo:(Be prog 37).bind (Ja prog)=some 8:=aI
 have mh:=Amu (P:=prog) (t:=37) (n:=(dig X).length+(dig Y).length) bA bA hbo aA;simp (maxSteps:=10^6)+contextual(disch:=try exact dqd)only[ev0,simprocAttr,Cb,Bg,Cc,results177,digA,hw,mh];refine loop1 (P:=prog) (fun x st=>st.T.length=67/\(x.1<=(dig X).length)/\(Mul1 X Y x.1 x.2)/\getT st.T 0=digA (dig X)/\getT st.T 1=digA (dig Y)/\getT st.T 5=.sref 0 0 0 ((dig X).length+(dig Y).length) 1/\getT st.T 18=digA (dig X)/\getT st.T 19=.int (dig X).length/\getT st.T 20=.int (x.1:Nat)/\st.S=[⟨0,x.2.map numC⟩]) (fun x=>(dig X).length - x.1) (fun x=>digA (dig (X*Y))) (0,Cf ((dig X).length+(dig Y).length) 0) ?_ ?_;case refine_2=>exact ⟨rfl,Cl _,Mul1.start X Y,rfl,rfl,rfl,rfl,rfl,rfl,rfl⟩
 rintro ⟨i,out⟩ ⟨T,S',tk',n'⟩ ⟨hl,hi,hp,e0,e1,e5,e18,e19,e20,eS⟩ IH;simp only at hi hp e0 e1 e5 e18 e19 e20 eS;subst eS;obtain ⟨g,hg,hT⟩:=Au hl;rw [hg] at e0 e1 e5 e18 e19 e20;subst hT;clear hg hl;have OUT:=IH;clear IH;have hlen:=hp.len;by_cases hlt:i<(dig X).length
 ·have d2:decide ((i:Int)<((dig X).length:Int))=true:=aQ
  obtain ⟨d,hd⟩:=Af hlt;have ip:=B2 hd;have hdk:=Ed (Bo X) hd;have ez:=B1 (i:=i) aA;have aj:=Mul2.start (d:=d) hp;simp (maxSteps:=10^6)+contextual(disch:=try exact dqd)only[ev0,simprocAttr,Cb,Bg,Cc,results177,digA,e0,e1,e5,e18,e19,e20,d2,ip];refine loop1 (P:=prog) (fun x st=>st.T.length=67/\(x.1<=(dig Y).length)/\(Mul2 X Y i x.1 (val out+10000 ^ i*(d*Y)) d x.2.1 x.2.2)/\getT st.T 0=digA (dig X)/\getT st.T 1=digA (dig Y)/\getT st.T 5=.sref 0 0 0 ((dig X).length+(dig Y).length) 1/\getT st.T 6=.int (i:Nat)/\getT st.T 7=.int d/\getT st.T 8=.int x.2.1/\getT st.T 18=digA (dig X)/\getT st.T 19=.int (dig X).length/\getT st.T 20=.int (i:Nat)/\getT st.T 25=digA (dig Y)/\getT st.T 26=.int (dig Y).length/\getT st.T 27=.int (x.1:Nat)/\st.S=[⟨0,x.2.2.map numC⟩]) (fun x=>(dig Y).length - x.1) (fun x=>digA (dig (X*Y))) (0,0,out) ?_ ?_;case refine_2=>exact ⟨rfl,Cl _,aj,rfl,rfl,rfl,rfl,rfl,rfl,rfl,rfl,rfl,rfl,rfl,rfl,rfl⟩
  rintro ⟨m,c,o2⟩ ⟨T,S',tk',n'⟩ ⟨hl,hm,hq,e0,e1,e5,e6,e7,e8,e18,e19,e20,e25,e26,e27,eS⟩ IH;simp only at hm hq e0 e1 e5 e6 e7 e8 e18 e19 e20 e25 e26 e27 eS;subst eS;obtain ⟨g,hg,hT⟩:=Au hl;rw [hg] at e0 e1 e5 e6 e7 e8 e18 e19 e20 e25 e26 e27;subst hT;clear hg hl;have a6y:=hq.len;have wc:=hq.c0;have fk:=B1 (i:=m) aA;obtain ⟨x,hx⟩:=Af (show i+m<o2.length by omega);have hx':=Ae4 hx;have gd:i+m<(dig X).length+(dig Y).length:=aA
  have o6:Ca.wrap ((i:Int)+(m:Int))=((i+m:Nat):Int):=aS
  have hxk:=Ed hq.ok hx;by_cases cm:m<(dig Y).length
  ·have d3:decide ((m:Int)<((dig Y).length:Int))=true:=by simpa using cm
   obtain ⟨y,hy⟩:=Af cm;have ng:=B2 hy;have hyk:=Ed (Bo Y) hy;obtain ⟨n,hn⟩:∃ n,n=c+x+d*y:=⟨_,rfl⟩;obtain ⟨hq2,gn,bo,bm⟩:=hq.step (n:=n) aA hdk hx (by rw [hn,hy]; rfl);have yv:0<=d*y:=jI hdk.1 hyk.1;have hw1:Ca.wrap (d*y)=d*y:=Ac aC;have hw2:Ca.wrap (x+d*y)=x+d*y:=Ac aC;have hw3:Ca.wrap (x+d*y+c)=n:=by rw [hn,Ac aC]; omega
   have ra:Ca.wrap (n.tdiv 10000)=n.tdiv 10000:=by rw [bm,Ac aC]
   have iv:¬ ((10000:Int)=0):=aA
   have ky:=Z0 (v:=n.tmod 10000) hx;simp (maxSteps:=10^6)+contextual(disch:=try exact dqd)only[ev0,simprocAttr,Cb,Bg,Cc,results177,digA,e0,e1,e5,e6,e7,e8,e18,e19,e20,e25,e26,e27,d3,ng,fk,o6,gd,hx',hw1,hw2,hw3,ra,iv,ky,C9];exact IH (m+1,n.tdiv 10000,o2.set (i+m) (n.tmod 10000)) _ aF ⟨rfl,aE,hq2,aB,aB,aB,aB,aB,aB,aB,aB,aB,aB,aB,aB,aB⟩
  ·have d3:decide ((m:Int)<((dig Y).length:Int))=false:=by simpa using cm
   have z8:m=(dig Y).length:=aA
   subst z8;obtain ⟨-,qu⟩:=hq.next hp hd hx
   have hw4:Ca.wrap (x+c)=x+c:=Ac aC;have ky:=Z0 (v:=x+c) hx;simp (maxSteps:=10^6)+contextual(disch:=try exact dqd)only[ev0,simprocAttr,Cb,Bg,Cc,results177,digA,e0,e1,e5,e6,e7,e8,e18,e19,e20,e25,e26,e27,d3,ez,o6,gd,hx',hw4,ky,C9];exact OUT (i+1,o2.set (i+(dig Y).length) (x+c)) _ aF ⟨rfl,aE,qu,aB,aB,aB,aB,aB,aB,aB⟩
 ·have d2:decide ((i:Int)<((dig X).length:Int))=false:=aQ
  have he:i=(dig X).length:=aA
  subst he;have ry:=hp.done;have hT:=Ade [⟨0,out.map numC⟩] tk' n' out 0 0 aA rfl;rw [hlen] at hT;rw [ry] at hT;simp (maxSteps:=10^6)+contextual(disch:=try exact dqd)only[ev0,simprocAttr,Cb,Bg,Cc,results177,digA,e0,e1,e5,e18,e19,e20,d2,hT];have dh:M2 (Jf 1 (dig (X*Y)).length (out.map numC))=.frz ((dig (X*Y)).map digC) .unk:=by
   rw [<- ry,R5 (Rf out),R6,<- H9]
  rw [dh]
end
end
end Go.Proofs.YtcjffhadclngmaaGreat
