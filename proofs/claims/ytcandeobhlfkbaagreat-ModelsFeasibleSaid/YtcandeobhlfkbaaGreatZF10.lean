/- Part 10. -/
import Derived.Test.YtcandeobhlfkbaaGreatZF9
import Derived.Test.YtcandeobhlfkbaaGreatChecked
import Derived.IntWalk
open And renaming intro->Bu
open Array renaming ext'->gS
open Bool renaming and_eq_true->Ch,false_eq_true->C8,false_and->Fk,or_false->Fv,or_eq_true->F8
open ByteArray.toList renaming loop->gL
open Go.IntKind renaming i64->Cf
open Go.IntWalk renaming i64_in->Og
open Go.Proofs.YtcandeobhlfkbaaGreat.AV renaming bool->Cb,int->Cd,str->Ce
open Int renaming mul_comm->F6,mul_assoc->Ii,pow_succ->Oi,mul_add->Ow
open List renaming replicate->Ci,length_cons->Ck,mem_cons->Cn,map_cons->Cp,cons_append->Cr,append_assoc->Fa,length_eq_zero_iff->Fh,map_nil->Fi,eq_nil_of_length_eq_zero->Fm,drop_length->Fo,drop_eq_nil_of_le->Ft,pairwise_cons->F0,take_succ_cons->F1,append_nil->F4,take_length->Gl,map_append->Ij,replicate_succ->Lg,length_pos_iff->Lo,singleton_append->O9,foldl_cons->Sa,set_cons_succ->gC,cons_lt_cons_iff->gN
open List.cons renaming injEq->I6
open Nat renaming le_refl->Cc,zero_le->Co,strongRecOn->Oy,div_lt_iff_lt_mul->O8,mod_eq_of_lt->Sk,pow_succ->Ss
open Option renaming map_eq_some_iff->Ca,map_some->C3
open Option.some renaming injEq->A2
namespace Go.Proofs.YtcandeobhlfkbaaGreat
section
open Tryz
set_option maxRecDepth 100000
theorem mixed:prog.follows .mixedOrders=true:=aL
theorem tys :
  szOf prog 1=some 1 /\
  aggT prog 1=some false /\
  Ax prog 1=some [.prim .nilFunc] /\
  Bw prog 1=false /\
  szOf prog 2=some 1 /\
  aggT prog 2=some false /\
  Ax prog 2=some [.prim (.int .i64 0)] /\
  Jm prog 2=some .i64 /\
  Bw prog 2=false /\
  szOf prog 3=some 1 /\
  aggT prog 3=some false /\
  Ax prog 3=some [.prim (.int .i64 0)] /\
  Jm prog 3=some .i64 /\
  Bw prog 3=false /\
  szOf prog 4=some 1 /\
  aggT prog 4=some false /\
  Ax prog 4=some [.prim (.bool false)] /\
  Bw prog 4=false /\
  Ajm prog 4=true /\
  szOf prog 5=some 1 /\
  aggT prog 5=some false /\
  Ax prog 5=some [.prim (.int .u8 0)] /\
  Jm prog 5=some .u8 /\
  Bw prog 5=false /\
  szOf prog 9=some 1 /\
  aggT prog 9=some false /\
  Ax prog 9=some [.prim (.string ⟨#[]⟩)] /\
  Bw prog 9=true /\
  szOf prog 22=some 1 /\
  aggT prog 22=some false /\
  Ax prog 22=some [.frz [] .nilc] /\
  A7 prog 22=some 38 /\
  apT prog 22=some 3 /\
  Bw prog 22=false /\
  szOf prog 25=some 1 /\
  aggT prog 25=some false /\
  Ax prog 25=some [.frz [] .nilc] /\
  A7 prog 25=some 48 /\
  apT prog 25=some 2 /\
  Bw prog 25=false /\
  szOf prog 26=some 1 /\
  aggT prog 26=some false /\
  Ax prog 26=some [.frz [] .nilc] /\
  A7 prog 26=some 48 /\
  apT prog 26=some 2 /\
  Bw prog 26=false /\
  szOf prog 30=some 1 /\
  aggT prog 30=some false /\
  Ax prog 30=some [.prim (.int .i64 0)] /\
  Jm prog 30=some .i64 /\
  Bw prog 30=false /\
  szOf prog 36=some 2 /\
  aggT prog 36=some true /\
  Ax prog 36=some [.frz [] .nilc,.prim (.int .i64 0)] /\
  Bw prog 36=false /\
  Az prog 36 0=some (0,1,false) /\
  Az prog 36 1=some (1,1,false) /\
  fieldsOf prog 36=some [(0,1),(1,1)] /\
  szOf prog 38=some 3 /\
  aggT prog 38=some true /\
  Ax prog 38=some [.frz [] .nilc,.prim (.int .i64 0),.prim (.bool false)] /\
  Bw prog 38=false /\
  Az prog 38 0=some (0,2,true) /\
  Az prog 38 1=some (2,1,false) /\
  fieldsOf prog 38=some [(0,2),(2,1)] /\
  szOf prog 41=some 1 /\
  aggT prog 41=some false /\
  Ax prog 41=some [.frz [] .nilc] /\
  A7 prog 41=some 9 /\
  apT prog 41=some 1 /\
  Bw prog 41=false /\
  szOf prog 45=some 1 /\
  aggT prog 45=some false /\
  Ax prog 45=some [.frz [] .nilc] /\
  A7 prog 45=some 3 /\
  apT prog 45=some 1 /\
  Bw prog 45=false /\
  szOf prog 48=some 2 /\
  aggT prog 48=some true /\
  Ax prog 48=some [.prim (.string ⟨#[]⟩),.prim (.int .i64 0)] /\
  Bw prog 48=false /\
  Az prog 48 0=some (0,1,false) /\
  Az prog 48 1=some (1,1,false) /\
  fieldsOf prog 48=some [(0,1),(1,1)] /\
  Zq prog 48=some [2,1] /\
  szOf prog 57=some 1 /\
  aggT prog 57=some false /\
  Ax prog 57=some [.frz [] .nilc] /\
  A7 prog 57=some 61 /\
  apT prog 57=some 4 /\
  Bw prog 57=false /\
  szOf prog 59=some 2 /\
  aggT prog 59=some true /\
  Ax prog 59=some [.prim (.bool false),.frz [] .nilc] /\
  Bw prog 59=false /\
  Az prog 59 0=some (0,1,false) /\
  Az prog 59 1=some (1,1,false) /\
  fieldsOf prog 59=some [(0,1),(1,1)] /\
  szOf prog 61=some 4 /\
  aggT prog 61=some true /\
  Ax prog 61=some [.prim (.bool false),.frz [] .nilc,.prim (.bool false),.frz [] .nilc] /\
  Bw prog 61=false /\
  Az prog 61 0=some (0,2,true) /\
  Az prog 61 1=some (2,2,true) /\
  fieldsOf prog 61=some [(0,2),(2,2)] /\
  szOf prog 63=some 8 /\
  aggT prog 63=some true /\
  Ax prog 63=some [.prim (.bool false),.frz [] .nilc,.frz [] .nilc,.prim (.bool false),.frz [] .nilc,.prim (.bool false),.frz [] .nilc,.prim (.bool false)] /\
  Bw prog 63=false /\
  Az prog 63 0=some (0,1,false) /\
  Az prog 63 1=some (1,1,false) /\
  Az prog 63 2=some (2,1,false) /\
  Az prog 63 3=some (3,4,true) /\
  Az prog 63 4=some (7,1,false) /\
  fieldsOf prog 63=some [(0,1),(1,1),(2,1),(3,4),(7,1)] /\
  szOf prog 66=some 1 /\
  aggT prog 66=some false /\
  Ax prog 66=some [.prim .nilFunc] /\
  Bw prog 66=false /\
  szOf prog 68=some 1 /\
  aggT prog 68=some false /\
  Ax prog 68=some [.prim (.int .u64 0)] /\
  Jm prog 68=some .u64 /\
  Bw prog 68=false /\
  szOf prog 70=some 1 /\
  aggT prog 70=some false /\
  Ax prog 70=some [.frz [] .nilc] /\
  A7 prog 70=some 26 /\
  apT prog 70=some 1 /\
  Bw prog 70=false /\
  szOf prog 73=some 1 /\
  aggT prog 73=some false /\
  Ax prog 73=some [.prim .nilFunc] /\
  Bw prog 73=false /\
  szOf prog 74=some 1 /\
  aggT prog 74=some false /\
  Ax prog 74=some [.prim .nilFunc] /\
  Bw prog 74=false /\
  szOf prog 79=some 1 /\
  aggT prog 79=some false /\
  Ax prog 79=some [.prim (.pointer none)] /\
  Bw prog 79=false /\
  szOf prog 83=some 2 /\
  aggT prog 83=some true /\
  Ax prog 83=some [.prim (.int .i64 0),.prim (.int .i64 0)] /\
  Bw prog 83=false /\
  Az prog 83 0=some (0,1,false) /\
  Az prog 83 1=some (1,1,false) /\
  fieldsOf prog 83=some [(0,1),(1,1)] /\
  Zq prog 83=some [1,1] /\
  szOf prog 84=some 1 /\
  aggT prog 84=some false /\
  Ax prog 84=some [.prim (.pointer none)] /\
  Bw prog 84=false /\
  szOf prog 86=some 1 /\
  aggT prog 86=some true /\
  Ax prog 86=some [.prim (.bool false)] /\
  Bw prog 86=false /\
  Az prog 86 0=some (0,1,false) /\
  fieldsOf prog 86=some [(0,1)] /\
  Zq prog 86=some [0] /\
  szOf prog 89=some 0 /\
  aggT prog 89=some true /\
  Ax prog 89=some [] /\
  Bw prog 89=false /\
  szOf prog 93=some 1 /\
  aggT prog 93=some false /\
  Ax prog 93=some [.frz [] .nilc] /\
  A7 prog 93=some 57 /\
  apT prog 93=some 1 /\
  Bw prog 93=false /\
  szOf prog 94=some 1 /\
  aggT prog 94=some false /\
  Ax prog 94=some [.frz [] .nilc] /\
  A7 prog 94=some 4 /\
  apT prog 94=some 1 /\
  Bw prog 94=false /\
  szOf prog 103=some 1 /\
  aggT prog 103=some false /\
  Ax prog 103=some [.prim .nilIface] /\
  Bw prog 103=false /\
  szOf prog 104=some 1 /\
  aggT prog 104=some false /\
  Ax prog 104=some [.prim (.pointer none)] /\
  Bw prog 104=false /\
  szOf prog 110=some 1 /\
  aggT prog 110=some false /\
  Ax prog 110=some [.prim .nilIface] /\
  Bw prog 110=false /\
  szOf prog 111=some 1 /\
  aggT prog 111=some false /\
  Ax prog 111=some [.prim (.pointer none)] /\
  Bw prog 111=false /\
  szOf prog 120=some 1 /\
  aggT prog 120=some false /\
  Ax prog 120=some [.prim .nilFunc] /\
  Bw prog 120=false /\
  szOf prog 121=some 1 /\
  aggT prog 121=some false /\
  Ax prog 121=some [.prim .nilFunc] /\
  Bw prog 121=false /\
  szOf prog 123=some 1 /\
  aggT prog 123=some false /\
  Ax prog 123=some [.frz [] .nilc] /\
  A7 prog 123=some 124 /\
  apT prog 123=some 1 /\
  Bw prog 123=false /\
  szOf prog 124=some 1 /\
  aggT prog 124=some false /\
  Ax prog 124=some [.frz [] .nilc] /\
  A7 prog 124=some 83 /\
  apT prog 124=some 2 /\
  Bw prog 124=false /\
  szOf prog 126=some 7 /\
  aggT prog 126=some true /\
  Ax prog 126=some [.prim .nilIface,.prim (.int .i64 0),.prim (.int .i64 0),.frz [] .nilc,.frz [] .nilc,.frz [] .nilc,.frz [] .nilc] /\
  Bw prog 126=false /\
  Az prog 126 0=some (0,1,false) /\
  Az prog 126 1=some (1,1,false) /\
  Az prog 126 2=some (2,1,false) /\
  Az prog 126 3=some (3,1,false) /\
  Az prog 126 4=some (4,1,false) /\
  Az prog 126 5=some (5,1,false) /\
  Az prog 126 6=some (6,1,false) /\
  fieldsOf prog 126=some [(0,1),(1,1),(2,1),(3,1),(4,1),(5,1),(6,1)] /\
  szOf prog 134=some 7 /\
  aggT prog 134=some true /\
  Ax prog 134=some [.prim .nilIface,.prim (.int .i64 0),.prim (.int .i64 0),.frz [] .nilc,.frz [] .nilc,.frz [] .nilc,.frz [] .nilc] /\
  Bw prog 134=false /\
  Az prog 134 0=some (0,1,false) /\
  Az prog 134 1=some (1,1,false) /\
  Az prog 134 2=some (2,1,false) /\
  Az prog 134 3=some (3,1,false) /\
  Az prog 134 4=some (4,1,false) /\
  Az prog 134 5=some (5,1,false) /\
  Az prog 134 6=some (6,1,false) /\
  fieldsOf prog 134=some [(0,1),(1,1),(2,1),(3,1),(4,1),(5,1),(6,1)] /\
  szOf prog 191=some 2 /\
  aggT prog 191=some true /\
  Ax prog 191=some [.prim (.bool false),.frz [] .nilc] /\
  Bw prog 191=false /\
  Az prog 191 0=some (0,1,false) /\
  Az prog 191 1=some (1,1,false) /\
  fieldsOf prog 191=some [(0,1),(1,1)] /\
  szOf prog 201=some 4 /\
  aggT prog 201=some true /\
  Ax prog 201=some [.prim (.int .i64 0),.prim (.int .i64 0),.prim (.int .i64 0),.prim (.int .i64 0)] /\
  Bw prog 201=false /\
  Az prog 201 0=some (0,1,false) /\
  Az prog 201 1=some (1,1,false) /\
  Az prog 201 2=some (2,1,false) /\
  Az prog 201 3=some (3,1,false) /\
  fieldsOf prog 201=some [(0,1),(1,1),(2,1),(3,1)] /\
  Zq prog 201=some [1,1,1,1] /\
  szOf prog 208=some 2 /\
  aggT prog 208=some true /\
  Ax prog 208=some [.prim (.bool false),.prim (.int .i64 0)] /\
  Bw prog 208=false /\
  Az prog 208 0=some (0,1,false) /\
  Az prog 208 1=some (1,1,false) /\
  fieldsOf prog 208=some [(0,1),(1,1)] /\
  Zq prog 208=some [0,1] :=
 by and_intros <;> kernel_rfl
end
section
def val:List Int->Int
 | []=>0
 | d :: r=>d+10000*val r
def digN:Nat->Nat->List Int
 | 0,_=>[]
 | f+1,n=>if n=0 then [] else ((n % 10000:Nat):Int) :: digN f (n / 10000)
def dig (n:Nat):List Int:=digN n n
def okD (l:List Int):Prop:=∀ d ∈ l,0<=d/\d<10000
theorem Zf:∀ {f g n:Nat},n<=f->n<=g->digN f n=digN g n
 | 0,0,_,_,_=>rfl
 | 0,g+1,n,h,_=>by
   have:n=0:=aA
   subst this; simp [digN]
 | f+1,0,n,_,h=>by
   have:n=0:=aA
   subst this; simp [digN]
 | f+1,g+1,n,h1,h2=>by
  simp only [digN];by_cases h:n=0
  ·simp [h]
  ·rw [if_neg h,if_neg h,Zf (f:=f) (g:=g) (n:=n / 10000) aA aA]
theorem Dv:dig 0=[]:=rfl
theorem H7 {n:Nat} (h:n≠0):dig n=((n % 10000:Nat):Int) :: dig (n / 10000):=by
 unfold dig;cases n with
 | zero=>exact absurd rfl h
 | succ n =>
  rw [digN,if_neg h];congr 1;exact Zf aA (Cc _)
theorem Dm (n:Nat):val (dig n)=n:=by
 induction n using Oy with
 | _ n ih =>
  by_cases h:n=0
  ·subst h; rfl
  ·rw [H7 h,val,ih (n / 10000) aA]; omega
theorem Da (n:Nat):okD (dig n):=by
 induction n using Oy with
 | _ n ih =>
  by_cases h:n=0
  ·subst h; intro d hd; simp [Dv] at hd
  ·rw [H7 h];intro d hd;rcases Cn.1 hd with rfl|hd
   ·omega
   ·exact ih (n / 10000) aA d hd
theorem Wp {d:Int} (h0:0<d) (h1:d<10000):dig d.toNat=[d]:=by
 rw [H7 aA];have e1:d.toNat % 10000=d.toNat:=Sk aA;have e2:d.toNat / 10000=0:=aA
 rw [e1,e2,Dv];congr 1; omega
theorem Gp:∀ {l:List Int},okD l->0<=val l
 | [],_=>by simp [val]
 | d :: r,h=>by
  have h1:=h d (by simp);have h2:=Gp (l:=r) fun x hx=>h x bJ;simp only [val]; omega
def Dx:List Int->List Int
 | []=>[]
 | d :: r=>if Dx r=[]/\d=0 then [] else d :: Dx r
theorem Hs {n:Nat} : dig n=[]↔n=0:=by
 constructor
 ·intro h;by_cases h0:n=0
  ·exact h0
  ·rw [H7 h0] at h; simp at h
 ·rintro rfl; rfl
theorem En:∀ {l:List Int},okD l->Dx l=dig (val l).toNat
 | [],_=>rfl
 | d :: r,h=>by
  have h1:=h d (by simp);have hr:okD r:=fun x hx=>h x bJ;have h2:=Gp hr;rw [Dx,En hr];simp only [val];by_cases hv:val r=0
  ·by_cases hd:d=0
   ·rw [if_pos ⟨by rw [hv]; rfl,hd⟩,hv,hd]; rfl
   ·rw [if_neg (fun h=>hd h.2),hv];have e:(d+10000*0).toNat=d.toNat:=aA
    rw [e,Wp aA h1.2]; rfl
  ·have hn:¬ (val r).toNat=0:=aA
   rw [if_neg (fun h=>hn (Hs.1 h.1)),H7 (n:=(d+10000*val r).toNat) aA];have e1:(d+10000*val r).toNat / 10000=(val r).toNat:=aA
   have e2:(((d+10000*val r).toNat % 10000:Nat):Int)=d:=aA
   rw [e1,e2]
theorem Bt {n k:Nat} : (dig n).length<=k↔n<10000 ^ k:=by
 induction k generalizing n with
 | zero =>
  rw [Nat.pow_zero];constructor
  ·intro h;have:dig n=[]:=Fm aA;have:=Hs.1 this; omega
  ·intro h;have:n=0:=aA
   subst this; simp [Dv]
 | succ k ih =>
  by_cases h:n=0
  ·subst h; simp [Dv,Nat.pow_pos]
  ·rw [H7 h,Ck,Nat.add_le_add_iff_right,ih,Ss,O8 aA]
theorem Aps {a b:Nat} (h:dig a=dig b):a=b:=by
 have h1:=Dm a;have h2:=Dm b;rw [h] at h1; omega
theorem Gn (l r:List Int):val (l++r)=val l+10000 ^ l.length*val r:=by
 induction l with
 | nil=>simp [val]
 | cons d l ih=>simp only [Cr,val,ih,Ck,Oi]; rw [Ow,F6 (10000 ^ l.length) 10000,Ii]; omega
theorem Hl (n:Nat):val (Ci n 0)=0:=by
 induction n with
 | zero=>rfl
 | succ n ih=>rw [Lg,val,ih]; rfl
theorem Kc {l:List Int} {i:Nat} {x v:Int} (h:nth l i=some x):val (l.set i v)=val l+(v - x)*10000 ^ i:=by
 induction l generalizing i with
 | nil=>simp [nth] at h
 | cons d l ih =>
  cases i with
  | zero=>simp only [nth,A2] at h; subst h; simp only [List.set_cons_zero,val,Int.pow_zero]; omega
  | succ i =>
   simp only [nth] at h;simp only [gC,val,ih h,Oi];rw [Ow,F6 (10000 ^ i) 10000,<- Ii,<- Ii,F6 10000 (v - x)]; omega
theorem Qw (l:List Int):(Dx l).length<=l.length:=by
 induction l with
 | nil=>simp [Dx]
 | cons d l ih=>rw [Dx]; split <;> simp; exact ih
theorem Pa:∀ (n:Nat) (l:List Int),n<=l.length->(∀ j,n<=j->∀ x,nth l j=some x->x=0)->Dx l=Dx (l.take n)
 | 0,[],_,_=>rfl
 | 0,d :: l,_,h=>by
  have hd:=h 0 (Cc _) d rfl;have:=Pa 0 l (Co _) fun j _ x hx=>h (j+1) (Co _) x hx;rw [Dx,this,hd]; simp [Dx]
 | n+1,[],h,_=>aN
 | n+1,d :: l,hn,h=>by
  have:=Pa n l dM fun j hj x hx=>h (j+1) aA x hx;rw [F1,Dx,Dx,this]
theorem X6:∀ (l:List Int) (n:Nat) (x:Int),nth l n=some x->l.length=n+1->x≠0->Dx l=l
 | [],_,_,h,_,_=>bQ
 | d :: l,0,x,h,hl,hx=>by
  have:l=[]:=Fm bP;subst this;simp only [nth,A2] at h; subst h;simp [Dx,hx]
 | d :: l,n+1,x,h,hl,hx=>by
  have ih:=X6 l n x h bP hx;have hne:l≠[]:=by rintro rfl; simp [nth] at h
  rw [Dx,ih,if_neg (fun h=>hne h.1)]
/- which numbers are valid,and what they stand for -/
def Aby (l:List Int):Bool:=match nth l (l.length - 1) with|some x=>x == 0|none=>false
def allD:List Int->Bool
 | []=>true
 | d :: r=>if (decide (d<0) || decide (d >= 10000))=true then false else allD r
theorem Aht {l:List Int} : allD l=true↔okD l:=by
 induction l with
 | nil=>simp [allD,okD]
 | cons d l ih =>
  rw [allD];by_cases h:d<0\/d >= 10000
  ·have:(decide (d<0) || decide (d >= 10000))=true:=aJ
   simp only [this,if_true,C8,false_iff];intro hk;have:=hk d (by simp); omega
  ·have:(decide (d<0) || decide (d >= 10000))=false:=aB
   simp only [this,C8,if_false,ih];constructor
   ·intro hk x hx;rcases Cn.1 hx with rfl|hx
    ·omega
    ·exact hk x hx
   ·exact fun hk x hx=>hk x bJ
def Ei (neg:Bool) (l:List Int):Bool:=if (decide (200<l.length) || (decide (l=[]) && neg) || Aby l)=true then false else allD l
def V (neg:Bool) (l:List Int):Int:=if Ei neg l=true then (if neg=true then -(val l) else val l) else 0
theorem Lm {neg:Bool} {l:List Int} (h:Ei neg l=true):l=dig (val l).toNat/\okD l/\l.length<=200:=by
 unfold Ei at h;split at h
 ·simp at h
 ·rename_i hh;have hk:=Aht.1 h;simp only [F8,decide_eq_true_eq,not_or] at hh;refine ⟨?_,hk,aA⟩;rw [<- En hk];by_cases hl:l=[]
  ·subst hl; rfl
  ·have hpos:0<l.length:=Lo.2 hl;obtain ⟨x,hx⟩:=Af (l:=l) (i:=l.length - 1) aA;have hz:=hh.2;unfold Aby at hz;rw [hx] at hz;exact (X6 l (l.length - 1) x hx aA bN).symm
theorem Arx (neg:Bool) (l:List Int):dig (V neg l).natAbs=if Ei neg l=true then l else []:=by
 unfold V;by_cases h:Ei neg l=true
 ·obtain ⟨h1,h2,-⟩:=Lm h;have h3:=Gp h2;rw [if_pos h,if_pos h];conv=>rhs; rw [h1]
  congr 1;split <;> omega
 ·rw [if_neg h,if_neg h]; rfl
theorem Amc (neg:Bool) (l:List Int):(dig (V neg l).natAbs).length<=200:=by
 rw [Arx];split
 ·rename_i h; exact (Lm h).2.2
 ·simp
theorem Qz (z:Int) (h:(dig z.natAbs).length<=200):Ei (decide (z<0)) (dig z.natAbs)=true:=by
 unfold Ei;have hk:=Da z.natAbs;rw [if_neg]
 ·exact Aht.2 hk
 ·simp only [F8,decide_eq_true_eq,Ch,not_or];refine ⟨⟨aA,fun h=>?_⟩,fun hz=>?_⟩
  ·have:=Hs.1 h.1; omega
  ·unfold Aby at hz;split at hz
   ·rename_i x hx;have qd:x=0:=bN
    subst qd;have ht:=En hk;rw [Dm] at ht;have e:((z.natAbs:Int)).toNat=z.natAbs:=aA
    rw [e] at ht;have hl:=Bh hx;have h1:=Pa ((dig z.natAbs).length - 1) (dig z.natAbs) aA (fun j hj y hy=>by
     have:j=(dig z.natAbs).length - 1:=by have:=Bh hy; omega
     subst this;rw [hx] at hy; simpa using hy.symm)
    have h2:=Qw ((dig z.natAbs).take ((dig z.natAbs).length - 1));rw [<- h1,ht] at h2;simp at h2; omega
   ·simp at hz
theorem V_of (z:Int) (h:(dig z.natAbs).length<=200):V (decide (z<0)) (dig z.natAbs)=z:=by
 unfold V;rw [if_pos (Qz z h),Dm];by_cases hz:z<0 <;> simp [hz] <;> omega
end
section
open Go
def digC (x:Int):List AV:=[.prim (.int .i64 x)]
def digA (l:List Int):AV:=.frz (l.map digC) .unk
def bigA (neg:Bool) (l:List Int):AV:=.agg [.prim (.bool neg),digA l]
def zA (z:Int):AV:=bigA (decide (z<0)) (dig z.natAbs)
def ownF:Option Tmp->TypeId->Bool
 | some 92,57|some 105,57|some 31,57|some 57,57|some 88,57|some 96,57=>true
 | some 32,93|some 240,93=>true
 | some 45,45|some 255,45=>true
 | some 240,123=>true
 | _,_=>false
def lkF0 (f:FuncId):Bool:=f == 161 || f == 162 || f == 163 || f == 164 || f == 165 || f == 166 || f == 167 || f == 168 ||
 f == 89 || f == 95 || f == 55
def anF0 (f:FuncId):Bool:=f == 54 || f == 104 || f == 82 || f == 58 || f == 160 ||
 f == 91 || f == 97
def mvF0 (f:FuncId):Bool:=f == 54 || f == 104 || f == 82 || f == 58 || f == 160 || f == 41 ||
 f == 61 || f == 67
instance:Globs:=⟨[],fun f=>f == 180,true,ownF,lkF0,anF0,true,false⟩
end
section
open Go
variable {P:Program}
@[reducible] def Ext.quiet (E:Ext P):Ext P:={ on:=E.on,mv:=E.mv,call:=fun _ _ _ _ _=>none }
theorem G7 [Globs] (E:Ext P) {call:B8} {ok:St->List Oper->Bool} {n:Nat} : ∀ (c:Code) (st:St),@evC _ P (Ext.quiet E) call ok n c st=@evC _ P E call ok n c st
 | .skip,_=>bH
 | .region _ ops draw,st=>by simp only [evC]; rfl
 | .seq a b,st=>by
  simp only [evC,G7 E a];split <;> first|exact G7 E b _|rfl
 | .cond c a b,st=>by simp only [evC,G7 E a,G7 E b]
 | .block _ c,st=>by simp only [evC,G7 E c]
 | .loop c,st=>by
  simp only [evC];congr 1;funext s;exact G7 E c s
 | .exit _,_=>bH
 | .ret,_=>bH
 | .scope c,st=>by simp only [evC]; exact G7 E c st
 | .label _,_=>bH
 | .goto _,_=>bH
 | .rangeFunc _ _ _ _,_=>bH
 | .refuse _,_=>bH
theorem Zj [Globs] (E:Ext P) {ok:St->List Oper->Bool} : ∀ k,CLe (@evF _ P (Ext.quiet E) ok k) (@evF _ P E ok k)
 | 0=>Za1j
 | k+1=>by
  have ih:=Zj E (ok:=ok) k;intro f args S tk n r he;simp only [evF] at he ⊢;split at he
  ·simp at he
  rename_i mg;rw [if_neg (show ¬ @Ext.on P E f=true from mg)];split at he
  ·rename_i fn hf;split at he
   ·rename_i c hb;split at he
    ·simp at he
    ·rename_i ao;rw [if_neg ao];have out:∀ {st0:St} {r0:AV × St},outA P fn (@evC _ P (Ext.quiet E) (@evF _ P (Ext.quiet E) ok k) ok k c st0)=some r0->outA P fn (@evC _ P E (@evF _ P E ok k) ok k c st0)=some r0:=by
      intro st0 r0 h;rw [G7 E] at h;exact Jo (fun z hz=>Dc ih (Cc _) c _ z hz) h
     split at he
     ·exact Ya3s
     rename_i ni;rw [if_neg (show ¬ @Ext.mv P E f=true from ni)];split at he
     ·rename_i hp;rw [if_pos hp];have one:∀ {xs0:List AV} {r0:AV},@runP _ P (Ext.quiet E) ok (@evF _ P (Ext.quiet E) ok k) k fn c xs0=some r0->@runP _ P E ok (@evF _ P E ok k) k fn c xs0=some r0:=by
       intro xs0 r0 hrun;exact Ya21
      exact Yaj
     ·rename_i hp;rw [if_neg hp];exact Ya0d
   ·simp at he
  ·simp at he
theorem told [Globs] {E:Ext P} {f:FuncId} {args:List AV} {S:List Ent} {tk:List Nat} {n:Nat} {r:AV × List Ent × List Nat × Nat} (h:@cL _ P (Ext.quiet E) f args S tk n=some r):@cL _ P E f args S tk n=some r:=by
 obtain ⟨k,hk⟩:=(@H6 P _ (Ext.quiet E) _ _ _ _ _ _).1 h;exact (@H6 P _ E _ _ _ _ _ _).2 ⟨k,Zj E k _ _ _ _ _ _ hk⟩
theorem Anp [Globs] (E:Ext P):@Aa7 _ P (Ext.quiet E):=by
 letI:=Ext.quiet E;refine ⟨fun f args S tk n r S' tk' n' h=>?_,fun M f args S tk n r S' tk' n' h=>?_⟩
 ·unfold extC at h; split at h <;> simp at h
 ·unfold Eg at h; split at h
  ·unfold extC at h; split at h <;> simp at h
  ·simp at h
end
section
open Go Tryz
def P2:List (List AV)->Option (List Int)
 | []=>some []
 | [.prim (.int .i64 x)] :: r=>(P2 r).map (x :: ·)
 | _=>none
theorem Pi:∀ l:List Int,P2 (l.map digC)=some l
 | []=>rfl
 | x :: l=>by simp only [Cp,digC,P2,Pi l,C3]
def strC (s:ByteArray):List AV:=[.prim (.string s)]
def Ar (l:List ByteArray):AV:=.frz (l.map strC) .unk
def Ub:List (List AV)->Option (List ByteArray)
 | []=>some []
 | [.prim (.string x)] :: r=>(Ub r).map (x :: ·)
 | _=>none
theorem Vz:∀ l:List ByteArray,Ub (l.map strC)=some l
 | []=>rfl
 | x :: l=>by simp only [Cp,strC,Ub,Vz l,C3]
theorem Uc:∀ {es:List (List AV)} {l:List ByteArray},Ub es=some l->es=l.map strC
 | [],l,h=>by simp only [Ub,A2] at h; subst h; rfl
 | e :: es,l,h=>by
  unfold Ub at h;split at h
  ·rename_i he; simp at he
  ·rename_i x r he;simp only [I6] at he;obtain ⟨rfl,rfl⟩:=he;simp only [Ca] at h;obtain ⟨l',h1,rfl⟩:=h;rw [Uc h1]; rfl
  ·simp at h
def putS (l:List ByteArray) (s:ByteArray):List ByteArray :=
 match l with
 | []=>[s]
 | x :: r=>if sLt x s=true then x :: putS r s else if sEq x s=true then x :: r else s :: x :: r
def uniS (l:List ByteArray):List ByteArray:=l.foldl putS []
def R7:Cap->Bool
 | .nilc=>true
 | _=>false
def quoF (l r:List Int):Option AV :=
 if l=dig (val l).toNat/\r=dig (val r).toNat/\r≠[]/\l.length<=90000/\r.length<=90000 then
  some (.tup [digA (dig ((val l).toNat / (val r).toNat)),digA (dig ((val l).toNat % (val r).toNat))]) else none
def quoC (args:List AV) (S:List Ent) (tk:List Nat) (n:Nat):Option (AV × List Ent × List Nat × Nat):=match args with
  | [.frz es _,.frz ys _]=>match P2 es,P2 ys with
   | some l,some r=>match quoF l r with
    | some v=>some (v,S,tk,n)
    | none=>none
   | _,_=>none
  | _=>none
def uniC (args:List AV) (S:List Ent) (tk:List Nat) (n:Nat):Option (AV × List Ent × List Nat × Nat):=match args with
  | [.frz es c,.frz [] .nilc]=>match Ub es with
   | some l=>if (decide (l.length<=1000000) && (!l.isEmpty || R7 c))=true then some (Ar (uniS l),S,tk,n) else none
   | none=>none
  | _=>none
@[reducible] noncomputable def E1:Ext prog where
 on:=fun f=>f == 48 || f == 174 || f == 7
 mv:=mvF0
 call:=fun f args S tk n=>if f == 48 then uniC args S tk n else if f == 174 then quoC args S tk n else none
@[reducible] noncomputable instance E0:Ext prog:=Ext.quiet E1
instance:Aa7 prog:=Anp E1
theorem ext_mv (f:FuncId) (h:mvF0 f=false):Ext.mv prog f=false:=h
set_option linter.defProp false in
def ev0:=Bu ext_mv <| Bu @entAt.eq_def <| Bu evt tys
set_option linter.defProp false in
def evs0:=Bu ext_mv <| Bu @Bz <| Bu @Nf <| Bu @Afq <| Bu @List.take_left.{0} <| Bu @Gl.{0} <| Bu evt tys
def i64 (n:Int):Prop:=-9223372036854775808<=n/\n<=9223372036854775807
theorem Ab {n:Int} (h:i64 n):Cf.wrap n=n:=Og n h
theorem Bb {i:Nat} (h:i<=1048576):Cf.wrap ((i:Int)+1)=((i+1:Nat):Int):=aS
theorem Aa5 {j:Nat} (h:j<=1048576):Cf.wrap (((j+1:Nat):Int) - 1)=(j:Int):=aS
theorem D3 {α β:Type} (f:α->β):∀ (l:List α) (i:Nat),nth (l.map f) i=(nth l i).map f
 | [],_=>rfl
 | _ :: _,0=>rfl
 | _ :: l,i+1=>D3 f l i
theorem Ay {α:Type} : ∀ {l:List α} {i:Nat} {x:α},nth l i=some x->l.drop i=x :: l.drop (i+1)
 | y :: l,0,x,h=>dV
 | _ :: l,i+1,x,h=>Ay (l:=l) (i:=i) h
 | [],_,_,h=>bQ
theorem G2 (l:List Int):B9 1 (l.map digC)=true:=Gm (f:=digC) (sz:=1) (fun _=>rfl) l
theorem Gj {l:List Int} {i:Nat} {x:Int} (h:nth l i=some x):nth (l.map digC) i=some [.prim (.int .i64 x)]:=dB
theorem Abz {l:List Int} (h:l≠[]):((l.length:Int) == 0)=false:=by
 exact Ya35
theorem Ab0 {l:List Int} (h:l≠[]):decide ((l.length:Int) > 0)=true:=by
 exact Ya35
theorem Am4 {l:List Int} (h:l≠[]) (hl:l.length<=1000000):Cf.wrap ((l.length:Int) - 1)=((l.length - 1:Nat):Int):=by
 have:l.length≠0:=fun h'=>h (Fh.1 h');rw [Ab aC]; omega
section
variable (S:List Ent) (tk:List Nat) (k:Nat)
theorem Na (neg:Bool) (l:List Int) (c:Cap) (hlen:l.length<=1000000):cL prog 170 [.agg [.bool neg,.frz (l.map digC) c]] S tk k=some (.bool (Ei neg l),S,tk,k):=by
 refine opP func170 ntmps170 ?_;by_cases h1:200<l.length
 ·have d1:decide ((l.length:Int) > 200)=true:=aB
  simp (maxSteps:=10^6)+contextual(disch:=try exact dqd)only[ev0,simprocAttr,Cd,Cb,Ce,results170,d1];all_goals simp [Ei,h1]
 have d1:decide ((l.length:Int) > 200)=false:=aB
 have hv:Ei neg l=if ((decide (l=[]) && neg) || Aby l)=true then false else allD l:=by simp [Ei,h1]
 rw [hv];by_cases h2:l=[]
 ·have d2:(((0:Nat):Int) == 0)=true:=rfl;have d3:decide (((0:Nat):Int) > 0)=false:=rfl;cases neg with
  | true =>
   subst h2;simp (maxSteps:=10^6)+contextual(disch:=try exact dqd)only[ev0,simprocAttr,Cd,Cb,Ce,results170,d1,d2,d3,Fi];all_goals simp
  | false =>
   have hz:Aby l=false:=by subst h2; rfl
   rw [hz];simp only [Bool.and_false,Fv,C8,if_false];have ie:l.length=0:=by rw [h2]; rfl
   have d2:((l.length:Int) == 0)=true:=by rw [ie]; rfl
   have d3:decide ((l.length:Int) > 0)=false:=by rw [ie]; rfl
   simp (maxSteps:=10^6)+contextual(disch:=try exact dqd)only[ev0,simprocAttr,Cd,Cb,Ce,results170,d1,d2,d3];refine loop1 (P:=prog) (fun x st=>st.T.length=46/\(x<=l.length)/\(allD l=allD (l.drop x))/\getT st.T 33=digA l/\getT st.T 34=.int l.length/\getT st.T 35=.int (x:Nat)/\st.S=[⟨0,[.bool false,digA l]⟩]) (fun x=>l.length - x) (fun x=>.bool (allD l)) (0) ?_ ?_;case refine_2=>exact ⟨rfl,Co _,rfl,rfl,rfl,rfl,rfl⟩
   rintro i ⟨T,S',tk',n'⟩ ⟨hl,hi,hn,e33,e34,e35,eS⟩ IH;exact Ya6
 ·have d2:=Abz h2;have d3:=Ab0 h2;have d4:=Am4 h2 hlen;have hp:l.length≠0:=fun h'=>h2 (Fh.1 h');obtain ⟨x,hx⟩:=Af (l:=l) (i:=l.length - 1) aA;have hx':=Gj hx;have hz:Aby l=(x == 0):=by unfold Aby; rw [hx]
  rw [hz];cases d5:x == 0 with
  | true =>
   simp (maxSteps:=10^6)+contextual(disch:=try exact dqd)only[ev0,simprocAttr,Cd,Cb,Ce,results170,d1,d2,d3,d4,hx',d5];all_goals simp
  | false =>
   simp only [h2,decide_false,Fk,Fv,C8,if_false];simp (maxSteps:=10^6)+contextual(disch:=try exact dqd)only[ev0,simprocAttr,Cd,Cb,Ce,results170,d1,d2,d3,d4,hx',d5];refine loop1 (P:=prog) (fun x st=>st.T.length=46/\(x<=l.length)/\(allD l=allD (l.drop x))/\getT st.T 33=digA l/\getT st.T 34=.int l.length/\getT st.T 35=.int (x:Nat)/\st.S=[⟨0,[.bool neg,digA l]⟩]) (fun x=>l.length - x) (fun x=>.bool (allD l)) (0) ?_ ?_;case refine_2=>exact ⟨rfl,Co _,rfl,rfl,rfl,rfl,rfl⟩
   rintro i ⟨T,S',tk',n'⟩ ⟨hl,hi,hn,e33,e34,e35,eS⟩ IH;exact Ya6
end
end
section
open Go
theorem Ang (s:ByteArray):∀ (n i:Nat) (r:List UInt8),s.size - i=n->gL s i r=r.reverse++s.data.toList.drop i:=by
 intro n;induction n with
 | zero =>
  intro i r h;rw [gL,if_neg aA,Ft aB,F4]
 | succ n ih =>
  intro i r h;have hi:i<s.data.size:=aB
  rw [gL,if_pos aA,ih (i+1) _ aA,List.reverse_cons,Fa];congr 1;have e:s.data.toList.drop i=s.data[i] :: s.data.toList.drop (i+1):=by
   rw [<- Array.getElem_toList hi,List.getElem_cons_drop]
  rw [e,O9];congr 1;show s.data[i]! = _;rw [getElem!_pos s.data i hi]
def nm (s:ByteArray):List UInt8:=s.data.toList
theorem Xh (s:ByteArray):s.toList=nm s:=by rw [ByteArray.toList,Ang s _ 0 [] rfl]; simp [nm]
theorem Aj5 {a b:ByteArray} (h:nm a=nm b):a=b:=by
 apply ByteArray.ext; exact gS h
theorem P0:∀ (x y:List UInt8),Op.bytesLess x y=decide (x<y)
 | [],[]=>Za4u
 | a :: x,[]=>Za4u
 | [],b :: y=>Za4u
 | a :: x,b :: y=>by
  rw [Op.bytesLess,P0 x y];by_cases h1:a<b
  ·simp [h1,gN]
  ·by_cases h2:a=b
   ·subst h2; simp [gN]
   ·simp [h1,h2,gN]
theorem Vw (a b:ByteArray):sLt a b=decide (nm a<nm b):=by
 unfold sLt; rw [Xh,Xh,P0]
theorem Kj (a b:ByteArray):sEq a b=decide (a=b):=by
 unfold sEq; rw [Xh,Xh];by_cases h:a=b
 ·subst h; simp
 ·have:nm a≠nm b:=fun h'=>h (Aj5 h');simp [h,this]
theorem Ha {a b c:List UInt8} (h1:a<b) (h2:b<c):a<c:=List.lt_trans h1 h2
theorem D6 (a:List UInt8):¬ a<a:=List.lt_irrefl a
theorem Xg (a b:ByteArray):nm a<nm b\/a=b\/nm b<nm a:=by
 by_cases h1:nm a<nm b
 ·exact .inl h1
 ·by_cases h2:nm b<nm a
  ·exact .inr (.inr h2)
  ·exact .inr (.inl (Aj5 (List.le_antisymm (List.not_lt.1 h2) (List.not_lt.1 h1))))
def Inc (l:List ByteArray):Prop:=l.Pairwise fun a b=>nm a<nm b
theorem Ab3 (s x:ByteArray):∀ l:List ByteArray,x ∈ putS l s↔x=s\/x ∈ l
 | []=>by simp [putS]
 | y :: r=>by
  rw [putS];split
  ·rw [Cn,Ab3 s x r,Cn];constructor
   ·rintro (h|h|h) <;> simp [h]
   ·rintro (h|h|h) <;> simp [h]
  ·split
   ·rename_i h;rw [Kj] at h;have:y=s:=aJ
    subst this;simp
   ·simp [or_comm,or_left_comm]
theorem Ajk (s:ByteArray):∀ {l:List ByteArray},Inc l->Inc (putS l s)
 | [],_=>by simp [putS,Inc]
 | y :: r,h=>by
  have h0:=F0.1 h;rw [putS];split
  ·rename_i h1;rw [Vw] at h1;refine F0.2 ⟨fun x hx=>?_,Ajk s h0.2⟩;rcases (Ab3 s x r).1 hx with rfl|hx
   ·simpa using h1
   ·exact h0.1 x hx
  ·rename_i h1;rw [Vw] at h1;split
   ·exact h
   ·rename_i h2;rw [Kj] at h2;have h3:nm s<nm y:=by
     rcases Xg s y with h|h|h
     ·exact h
     ·exact absurd (by simpa using h.symm) h2
     ·exact absurd aJ h1
    refine F0.2 ⟨fun x hx=>?_,h⟩;rcases Cn.1 hx with rfl|hx
    ·exact h3
    ·exact Ha h3 (h0.1 x hx)
theorem Ajw (s:ByteArray):∀ l:List ByteArray,(putS l s).length<=l.length+1
 | []=>by simp [putS]
 | y :: r=>by
  rw [putS];have:=Ajw s r;split
  ·simp; exact this
  ·split <;> simp
theorem An8 (l:List ByteArray) (s:ByteArray):uniS (l++[s])=putS (uniS l) s:=by simp [uniS,List.foldl_append]
theorem Ju (l:List ByteArray):Inc (uniS l)/\(∀ x,x ∈ uniS l↔x ∈ l)/\(uniS l).length<=l.length:=by
 have key:∀ (l acc:List ByteArray),Inc acc->Inc (l.foldl putS acc)/\(∀ x,x ∈ l.foldl putS acc↔x ∈ acc\/x ∈ l)/\(l.foldl putS acc).length<=acc.length+l.length:=by
  intro l;induction l with
  | nil=>intro acc h; exact ⟨h,fun x=>by simp,by simp⟩
  | cons s l ih =>
   intro acc h;obtain ⟨h1,h2,h3⟩:=ih (putS acc s) (Ajk s h);refine ⟨h1,fun x=>?_,?_⟩
   ·rw [Sa,h2 x,Ab3,Cn];constructor
    ·rintro ((h|h)|h) <;> simp [h]
    ·rintro (h|h|h) <;> simp [h]
   ·have:=Ajw s acc;simp only [Sa,Ck]; omega
 have:=key l [] (by simp [Inc]);exact ⟨this.1,fun x=>by simpa [uniS] using this.2.1 x,by simpa [uniS] using this.2.2⟩
theorem Aem {s:ByteArray} : ∀ {l:List ByteArray},(∀ x ∈ l,nm x<nm s)->putS l s=l++[s]
 | [],_=>rfl
 | y :: r,h=>by
  rw [putS,if_pos (by rw [Vw]; simpa using h y (by simp)),Aem fun x hx=>h x bJ]; rfl
theorem Aoq:∀ {l r:List ByteArray},Inc l->Inc r->(∀ x,x ∈ l↔x ∈ r)->l=r
 | [],[],_,_,_=>rfl
 | [],y :: r,_,_,h=>by have:=(h y).2 (by simp); simp at this
 | x :: l,[],_,_,h=>by have:=(h x).1 (by simp); simp at this
 | x :: l,y :: r,h1,h2,h=>by
  have a1:=F0.1 h1;have a2:=F0.1 h2;have ii:x=y:=by
   have m1:=(h x).1 (by simp);have m2:=(h y).2 (by simp);rcases Cn.1 m1 with e|m1
   ·exact e
   ·rcases Cn.1 m2 with e|m2
    ·exact e.symm
    ·exact absurd (Ha (a1.1 y m2) (a2.1 x m1)) (D6 _)
  subst ii;congr 1;refine Aoq a1.2 a2.2 fun z=>?_;have hz:=h z;simp only [Cn] at hz;constructor
  ·intro hm;rcases hz.1 (.inr hm) with e|da
   ·subst e; exact absurd (a1.1 z hm) (D6 _)
   ·exact da
  ·intro hm;rcases hz.2 (.inr hm) with e|da
   ·subst e; exact absurd (a2.1 z hm) (D6 _)
   ·exact da
end
end Go.Proofs.YtcandeobhlfkbaaGreat
