/- Part 10. -/
import Derived.Test.YthelkgdmgihhiaaGreatZF9
import Derived.Test.YthelkgdmgihhiaaGreatChecked
import Derived.IntWalk
open And renaming intro->Cc
open Array renaming ext'->kF
open Bool renaming and_eq_true->Ch,false_eq_true->C7,false_and->Fo,true_and->Fq,not_false->Fu,or_false->F5,or_eq_true->Io,and_false->S9
open ByteArray.toList renaming loop->kB
open Go.IntKind renaming i64->B8
open Go.Proofs.YthelkgdmgihhiaaGreat.AV renaming bool->Bo,int->Ca,str->Cb
open Go.Value renaming oneCell'->jS
open Int renaming tdiv_eq_ediv_of_nonneg->Cz,mul_comm->Fy,tmod_eq_emod_of_nonneg->Gm,mul_assoc->H9,natAbs_mul->Iq,mul_add->I1,pow_succ->Nw,mul_nonneg->Ox,neg_mul->Rp,mul_zero->Si,add_zero->Sv,add_assoc->iK
open List renaming replicate->Cg,length_cons->Cj,map_cons->Cm,cons_append->Co,map_nil->Cp,mem_append->Cu,length_nil->Cv,getElem?_append_left->Cy,getElem?_eq_none->C3,mem_cons->C4,length_eq_zero_iff->C5,append_assoc->C6,take_length->C8,map_append->C9,all_eq_true->Fc,take_of_length_le->Ff,length_map->Fg,getElem?_append_right->Fi,append_nil->Fj,drop_eq_nil_of_le->Fm,drop_length->Fp,flatten_cons->Fw,drop_zero->Fz,eq_nil_of_length_eq_zero->F4,take_succ_cons->He,pairwise_cons->Ib,length_pos_iff->Ic,getElem?_take_of_lt->Ij,length_take->Im,mem_of_getElem?->Ip,mem_replicate->It,replicate_succ->Oo,singleton_append->Sq,foldl_cons->Sr,set_cons_succ->iC,length_set->jJ,cons_lt_cons_iff->kC,map_replicate->lE,lt_irrefl->lH
open List.cons renaming injEq->jH
open Nat renaming le_refl->Ce,zero_le->Ci,mul_one->Cw,lt_or_ge->Ia,add_zero->Ie,div_lt_iff_lt_mul->Ih,zero_mul->Oh,sub_self->Oj,mod_eq_of_lt->O3,add_assoc->O4,pow_succ->O5,lt_trichotomy->Sc,strongRecOn->Ss,pow_pos->jR,sub_zero->jV,add_comm->kZ
open Option renaming map_eq_some_iff->Cd,map_some->Fa,getD_some->Oi,bind_some->Ov
open Option.some renaming injEq->Bg
namespace Go.Proofs.YthelkgdmgihhiaaGreat
section
open Tryz
set_option maxRecDepth 100000
theorem mixed:prog.follows .mixedOrders=true:=aK
theorem tys :
  szOf prog 1=some 1 /\
  aggT prog 1=some false /\
  A2 prog 1=some [.prim .nilFunc] /\
  B1 prog 1=false /\
  szOf prog 2=some 1 /\
  aggT prog 2=some false /\
  A2 prog 2=some [.prim (.int .i64 0)] /\
  Ke prog 2=some .i64 /\
  B1 prog 2=false /\
  szOf prog 3=some 1 /\
  aggT prog 3=some false /\
  A2 prog 3=some [.prim (.int .i64 0)] /\
  Ke prog 3=some .i64 /\
  B1 prog 3=false /\
  szOf prog 4=some 1 /\
  aggT prog 4=some false /\
  A2 prog 4=some [.prim (.bool false)] /\
  B1 prog 4=false /\
  Amc prog 4=true /\
  szOf prog 5=some 1 /\
  aggT prog 5=some false /\
  A2 prog 5=some [.prim (.int .u8 0)] /\
  Ke prog 5=some .u8 /\
  B1 prog 5=false /\
  szOf prog 9=some 1 /\
  aggT prog 9=some false /\
  A2 prog 9=some [.prim (.string ⟨#[]⟩)] /\
  B1 prog 9=true /\
  szOf prog 22=some 1 /\
  aggT prog 22=some false /\
  A2 prog 22=some [.frz [] .nilc] /\
  A6 prog 22=some 30 /\
  apT prog 22=some 3 /\
  B1 prog 22=false /\
  szOf prog 23=some 1 /\
  aggT prog 23=some false /\
  A2 prog 23=some [.frz [] .nilc] /\
  A6 prog 23=some 67 /\
  apT prog 23=some 2 /\
  B1 prog 23=false /\
  szOf prog 28=some 2 /\
  aggT prog 28=some true /\
  A2 prog 28=some [.frz [] .nilc,.prim (.int .i64 0)] /\
  B1 prog 28=false /\
  A4 prog 28 0=some (0,1,false) /\
  A4 prog 28 1=some (1,1,false) /\
  fieldsOf prog 28=some [(0,1),(1,1)] /\
  szOf prog 30=some 3 /\
  aggT prog 30=some true /\
  A2 prog 30=some [.frz [] .nilc,.prim (.int .i64 0),.prim (.bool false)] /\
  B1 prog 30=false /\
  A4 prog 30 0=some (0,2,true) /\
  A4 prog 30 1=some (2,1,false) /\
  fieldsOf prog 30=some [(0,2),(2,1)] /\
  szOf prog 31=some 1 /\
  aggT prog 31=some false /\
  A2 prog 31=some [.prim (.int .i64 0)] /\
  Ke prog 31=some .i64 /\
  B1 prog 31=false /\
  szOf prog 37=some 1 /\
  aggT prog 37=some false /\
  A2 prog 37=some [.frz [] .nilc] /\
  A6 prog 37=some 9 /\
  apT prog 37=some 1 /\
  B1 prog 37=false /\
  szOf prog 42=some 1 /\
  aggT prog 42=some false /\
  A2 prog 42=some [.prim (.int .i64 0)] /\
  Ke prog 42=some .i64 /\
  B1 prog 42=false /\
  szOf prog 43=some 1 /\
  aggT prog 43=some false /\
  A2 prog 43=some [.frz [] .nilc] /\
  A6 prog 43=some 45 /\
  apT prog 43=some 4 /\
  B1 prog 43=false /\
  szOf prog 45=some 4 /\
  aggT prog 45=some true /\
  A2 prog 45=some [.prim (.int .i64 0),.prim (.string ⟨#[]⟩),.prim (.int .i64 0),.frz [] .nilc] /\
  B1 prog 45=false /\
  A4 prog 45 0=some (0,1,false) /\
  A4 prog 45 1=some (1,1,false) /\
  A4 prog 45 2=some (2,1,false) /\
  A4 prog 45 3=some (3,1,false) /\
  fieldsOf prog 45=some [(0,1),(1,1),(2,1),(3,1)] /\
  szOf prog 54=some 1 /\
  aggT prog 54=some false /\
  A2 prog 54=some [.frz [] .nilc] /\
  A6 prog 54=some 60 /\
  apT prog 54=some 2 /\
  B1 prog 54=false /\
  szOf prog 58=some 1 /\
  aggT prog 58=some false /\
  A2 prog 58=some [.frz [] .nilc] /\
  A6 prog 58=some 3 /\
  apT prog 58=some 1 /\
  B1 prog 58=false /\
  szOf prog 60=some 2 /\
  aggT prog 60=some true /\
  A2 prog 60=some [.prim (.bool false),.frz [] .nilc] /\
  B1 prog 60=false /\
  A4 prog 60 0=some (0,1,false) /\
  A4 prog 60 1=some (1,1,false) /\
  fieldsOf prog 60=some [(0,1),(1,1)] /\
  szOf prog 67=some 2 /\
  aggT prog 67=some true /\
  A2 prog 67=some [.prim (.string ⟨#[]⟩),.prim (.int .i64 0)] /\
  B1 prog 67=false /\
  A4 prog 67 0=some (0,1,false) /\
  A4 prog 67 1=some (1,1,false) /\
  fieldsOf prog 67=some [(0,1),(1,1)] /\
  Abh prog 67=some [2,1] /\
  szOf prog 77=some 1 /\
  aggT prog 77=some false /\
  A2 prog 77=some [.frz [] .nilc] /\
  A6 prog 77=some 22 /\
  apT prog 77=some 1 /\
  B1 prog 77=false /\
  szOf prog 78=some 1 /\
  aggT prog 78=some false /\
  A2 prog 78=some [.frz [] .nilc] /\
  A6 prog 78=some 80 /\
  apT prog 78=some 4 /\
  B1 prog 78=false /\
  szOf prog 80=some 4 /\
  aggT prog 80=some true /\
  A2 prog 80=some [.prim (.bool false),.frz [] .nilc,.prim (.bool false),.frz [] .nilc] /\
  B1 prog 80=false /\
  A4 prog 80 0=some (0,2,true) /\
  A4 prog 80 1=some (2,2,true) /\
  fieldsOf prog 80=some [(0,2),(2,2)] /\
  szOf prog 82=some 8 /\
  aggT prog 82=some true /\
  A2 prog 82=some [.prim (.bool false),.frz [] .nilc,.frz [] .nilc,.prim (.bool false),.frz [] .nilc,.prim (.bool false),.frz [] .nilc,.prim (.bool false)] /\
  B1 prog 82=false /\
  A4 prog 82 0=some (0,1,false) /\
  A4 prog 82 1=some (1,1,false) /\
  A4 prog 82 2=some (2,1,false) /\
  A4 prog 82 3=some (3,4,true) /\
  A4 prog 82 4=some (7,1,false) /\
  fieldsOf prog 82=some [(0,1),(1,1),(2,1),(3,4),(7,1)] /\
  szOf prog 113=some 1 /\
  aggT prog 113=some false /\
  A2 prog 113=some [.prim (.pointer none)] /\
  B1 prog 113=false /\
  szOf prog 117=some 2 /\
  aggT prog 117=some true /\
  A2 prog 117=some [.prim (.int .i64 0),.prim (.int .i64 0)] /\
  B1 prog 117=false /\
  A4 prog 117 0=some (0,1,false) /\
  A4 prog 117 1=some (1,1,false) /\
  fieldsOf prog 117=some [(0,1),(1,1)] /\
  Abh prog 117=some [1,1] /\
  szOf prog 118=some 1 /\
  aggT prog 118=some false /\
  A2 prog 118=some [.prim (.pointer none)] /\
  B1 prog 118=false /\
  szOf prog 120=some 1 /\
  aggT prog 120=some true /\
  A2 prog 120=some [.prim (.bool false)] /\
  B1 prog 120=false /\
  A4 prog 120 0=some (0,1,false) /\
  fieldsOf prog 120=some [(0,1)] /\
  Abh prog 120=some [0] /\
  szOf prog 121=some 1 /\
  aggT prog 121=some false /\
  A2 prog 121=some [.prim .nilFunc] /\
  B1 prog 121=false /\
  szOf prog 123=some 0 /\
  aggT prog 123=some true /\
  A2 prog 123=some [] /\
  B1 prog 123=false /\
  szOf prog 130=some 1 /\
  aggT prog 130=some false /\
  A2 prog 130=some [.prim (.int .u64 0)] /\
  Ke prog 130=some .u64 /\
  B1 prog 130=false /\
  szOf prog 141=some 1 /\
  aggT prog 141=some false /\
  A2 prog 141=some [.prim .nilFunc] /\
  B1 prog 141=false /\
  szOf prog 147=some 1 /\
  aggT prog 147=some false /\
  A2 prog 147=some [.prim (.pointer none)] /\
  B1 prog 147=false /\
  szOf prog 150=some 1 /\
  aggT prog 150=some false /\
  A2 prog 150=some [.prim .nilIface] /\
  B1 prog 150=false /\
  szOf prog 151=some 1 /\
  aggT prog 151=some false /\
  A2 prog 151=some [.prim (.pointer none)] /\
  B1 prog 151=false /\
  szOf prog 157=some 1 /\
  aggT prog 157=some false /\
  A2 prog 157=some [.prim .nilIface] /\
  B1 prog 157=false /\
  szOf prog 158=some 1 /\
  aggT prog 158=some false /\
  A2 prog 158=some [.prim (.pointer none)] /\
  B1 prog 158=false /\
  szOf prog 168=some 1 /\
  aggT prog 168=some false /\
  A2 prog 168=some [.frz [] .nilc] /\
  A6 prog 168=some 78 /\
  apT prog 168=some 1 /\
  B1 prog 168=false /\
  szOf prog 169=some 1 /\
  aggT prog 169=some false /\
  A2 prog 169=some [.frz [] .nilc] /\
  A6 prog 169=some 4 /\
  apT prog 169=some 1 /\
  B1 prog 169=false /\
  szOf prog 171=some 6 /\
  aggT prog 171=some true /\
  A2 prog 171=some [.frz [] .nilc,.frz [] .nilc,.frz [] .nilc,.frz [] .nilc,.frz [] .nilc,.prim (.int .i64 0)] /\
  B1 prog 171=false /\
  A4 prog 171 0=some (0,1,false) /\
  A4 prog 171 1=some (1,1,false) /\
  A4 prog 171 2=some (2,1,false) /\
  A4 prog 171 3=some (3,1,false) /\
  A4 prog 171 4=some (4,1,false) /\
  A4 prog 171 5=some (5,1,false) /\
  fieldsOf prog 171=some [(0,1),(1,1),(2,1),(3,1),(4,1),(5,1)] /\
  szOf prog 177=some 1 /\
  aggT prog 177=some false /\
  A2 prog 177=some [.frz [] .nilc] /\
  A6 prog 177=some 178 /\
  apT prog 177=some 1 /\
  B1 prog 177=false /\
  szOf prog 178=some 1 /\
  aggT prog 178=some false /\
  A2 prog 178=some [.frz [] .nilc] /\
  A6 prog 178=some 117 /\
  apT prog 178=some 2 /\
  B1 prog 178=false /\
  szOf prog 180=some 7 /\
  aggT prog 180=some true /\
  A2 prog 180=some [.prim .nilIface,.prim (.int .i64 0),.prim (.int .i64 0),.frz [] .nilc,.frz [] .nilc,.frz [] .nilc,.frz [] .nilc] /\
  B1 prog 180=false /\
  A4 prog 180 0=some (0,1,false) /\
  A4 prog 180 1=some (1,1,false) /\
  A4 prog 180 2=some (2,1,false) /\
  A4 prog 180 3=some (3,1,false) /\
  A4 prog 180 4=some (4,1,false) /\
  A4 prog 180 5=some (5,1,false) /\
  A4 prog 180 6=some (6,1,false) /\
  fieldsOf prog 180=some [(0,1),(1,1),(2,1),(3,1),(4,1),(5,1),(6,1)] /\
  szOf prog 188=some 7 /\
  aggT prog 188=some true /\
  A2 prog 188=some [.prim .nilIface,.prim (.int .i64 0),.prim (.int .i64 0),.frz [] .nilc,.frz [] .nilc,.frz [] .nilc,.frz [] .nilc] /\
  B1 prog 188=false /\
  A4 prog 188 0=some (0,1,false) /\
  A4 prog 188 1=some (1,1,false) /\
  A4 prog 188 2=some (2,1,false) /\
  A4 prog 188 3=some (3,1,false) /\
  A4 prog 188 4=some (4,1,false) /\
  A4 prog 188 5=some (5,1,false) /\
  A4 prog 188 6=some (6,1,false) /\
  fieldsOf prog 188=some [(0,1),(1,1),(2,1),(3,1),(4,1),(5,1),(6,1)] /\
  szOf prog 238=some 2 /\
  aggT prog 238=some true /\
  A2 prog 238=some [.prim (.bool false),.frz [] .nilc] /\
  B1 prog 238=false /\
  A4 prog 238 0=some (0,1,false) /\
  A4 prog 238 1=some (1,1,false) /\
  fieldsOf prog 238=some [(0,1),(1,1)] /\
  szOf prog 247=some 4 /\
  aggT prog 247=some true /\
  A2 prog 247=some [.prim (.int .i64 0),.prim (.int .i64 0),.prim (.int .i64 0),.prim (.int .i64 0)] /\
  B1 prog 247=false /\
  A4 prog 247 0=some (0,1,false) /\
  A4 prog 247 1=some (1,1,false) /\
  A4 prog 247 2=some (2,1,false) /\
  A4 prog 247 3=some (3,1,false) /\
  fieldsOf prog 247=some [(0,1),(1,1),(2,1),(3,1)] /\
  Abh prog 247=some [1,1,1,1] /\
  szOf prog 253=some 2 /\
  aggT prog 253=some true /\
  A2 prog 253=some [.prim (.bool false),.prim (.int .i64 0)] /\
  B1 prog 253=false /\
  A4 prog 253 0=some (0,1,false) /\
  A4 prog 253 1=some (1,1,false) /\
  fieldsOf prog 253=some [(0,1),(1,1)] /\
  Abh prog 253=some [0,1] :=
 by and_intros <;> kernel_rfl
end
section
def val:List Int->Int
 | []=>0
 | d :: r=>d+10000*val r
def digN:Nat->Nat->List Int
 | 0,_=>[]
 | f+1,n=>if n=0 then [] else ((n % 10000:Nat):Int) :: digN f (n / 10000)
def dig (n:Nat):List Int:=digN n n
def okD (l:List Int):Prop:=∀ d ∈ l,0<=d/\d<10000
theorem Aa7:∀ {f g n:Nat},n<=f->n<=g->digN f n=digN g n
 | 0,0,_,_,_=>rfl
 | 0,g+1,n,h,_=>by
   have:n=0:=aA
   subst this; simp [digN]
 | f+1,0,n,_,h=>by
   have:n=0:=aA
   subst this; simp [digN]
 | f+1,g+1,n,h1,h2=>by
  simp only [digN];by_cases h:n=0
  ·simp [h]
  ·rw [if_neg h,if_neg h,Aa7 (f:=f) (g:=g) (n:=n / 10000) aA aA]
theorem Bp:dig 0=[]:=rfl
theorem Kb {n:Nat} (h:n≠0):dig n=((n % 10000:Nat):Int) :: dig (n / 10000):=by
 unfold dig;cases n with
 | zero=>exact absurd rfl h
 | succ n =>
  rw [digN,if_neg h];congr 1;exact Aa7 aA (Ce _)
theorem Bq (n:Nat):val (dig n)=n:=by
 induction n using Ss with
 | _ n ih =>
  by_cases h:n=0
  ·subst h; rfl
  ·rw [Kb h,val,ih (n / 10000) aA]; omega
theorem A5 (n:Nat):okD (dig n):=by
 induction n using Ss with
 | _ n ih =>
  by_cases h:n=0
  ·subst h; intro d hd; simp [Bp] at hd
  ·rw [Kb h];intro d hd;rcases C4.1 hd with rfl|hd
   ·omega
   ·exact ih (n / 10000) aA d hd
theorem L5 {d:Int} (h0:0<d) (h1:d<10000):dig d.toNat=[d]:=by
 rw [Kb aA];have e1:d.toNat % 10000=d.toNat:=O3 aA;have e2:d.toNat / 10000=0:=aA
 rw [e1,e2,Bp];congr 1; omega
theorem El:∀ {l:List Int},okD l->0<=val l
 | [],_=>by simp [val]
 | d :: r,h=>by
  have h1:=h d (by simp);have h2:=El (l:=r) fun x hx=>h x bP;simp only [val]; omega
def Dj:List Int->List Int
 | []=>[]
 | d :: r=>if Dj r=[]/\d=0 then [] else d :: Dj r
theorem D4 {n:Nat} : dig n=[]↔n=0:=by
 constructor
 ·intro h;by_cases h0:n=0
  ·exact h0
  ·rw [Kb h0] at h; simp at h
 ·rintro rfl; rfl
theorem Dz:∀ {l:List Int},okD l->Dj l=dig (val l).toNat
 | [],_=>rfl
 | d :: r,h=>by
  have h1:=h d (by simp);have hr:okD r:=fun x hx=>h x bP;have h2:=El hr;rw [Dj,Dz hr];simp only [val];by_cases hv:val r=0
  ·by_cases hd:d=0
   ·rw [if_pos ⟨by rw [hv]; rfl,hd⟩,hv,hd]; rfl
   ·rw [if_neg (fun h=>hd h.2),hv];have e:(d+10000*0).toNat=d.toNat:=aA
    rw [e,L5 aA h1.2]; rfl
  ·have hn:¬ (val r).toNat=0:=aA
   rw [if_neg (fun h=>hn (D4.1 h.1)),Kb (n:=(d+10000*val r).toNat) aA];have e1:(d+10000*val r).toNat / 10000=(val r).toNat:=aA
   have e2:(((d+10000*val r).toNat % 10000:Nat):Int)=d:=aA
   rw [e1,e2]
theorem A9 {n k:Nat} : (dig n).length<=k↔n<10000 ^ k:=by
 induction k generalizing n with
 | zero =>
  rw [Nat.pow_zero];constructor
  ·intro h;have:dig n=[]:=F4 aA;have:=D4.1 this; omega
  ·intro h;have:n=0:=aA
   subst this; simp [Bp]
 | succ k ih =>
  by_cases h:n=0
  ·subst h; simp [Bp,jR]
  ·rw [Kb h,Cj,Nat.add_le_add_iff_right,ih,O5,Ih aA]
theorem Atk {a b:Nat} (h:dig a=dig b):a=b:=by
 have h1:=Bq a;have h2:=Bq b;rw [h] at h1; omega
theorem Ew (l r:List Int):val (l++r)=val l+10000 ^ l.length*val r:=by
 induction l with
 | nil=>simp [val]
 | cons d l ih=>simp only [Co,val,ih,Cj,Nw]; rw [I1,Fy (10000 ^ l.length) 10000,H9]; omega
theorem Jk (n:Nat):val (Cg n 0)=0:=by
 induction n with
 | zero=>rfl
 | succ n ih=>rw [Oo,val,ih]; rfl
theorem Hz {l:List Int} {i:Nat} {x v:Int} (h:nth l i=some x):val (l.set i v)=val l+(v - x)*10000 ^ i:=by
 induction l generalizing i with
 | nil=>simp [nth] at h
 | cons d l ih =>
  cases i with
  | zero=>simp only [nth,Bg] at h; subst h; simp only [List.set_cons_zero,val,Int.pow_zero]; omega
  | succ i =>
   simp only [nth] at h;simp only [iC,val,ih h,Nw];rw [I1,Fy (10000 ^ i) 10000,<- H9,<- H9,Fy 10000 (v - x)]; omega
theorem G9 (l:List Int):(Dj l).length<=l.length:=by
 induction l with
 | nil=>simp [Dj]
 | cons d l ih=>rw [Dj]; split <;> simp; exact ih
theorem Q7:∀ (n:Nat) (l:List Int),n<=l.length->(∀ j,n<=j->∀ x,nth l j=some x->x=0)->Dj l=Dj (l.take n)
 | 0,[],_,_=>rfl
 | 0,d :: l,_,h=>by
  have hd:=h 0 (Ce _) d rfl;have:=Q7 0 l (Ci _) fun j _ x hx=>h (j+1) (Ci _) x hx;rw [Dj,this,hd]; simp [Dj]
 | n+1,[],h,_=>aR
 | n+1,d :: l,hn,h=>by
  have:=Q7 n l bX fun j hj x hx=>h (j+1) aA x hx;rw [He,Dj,Dj,this]
theorem Zy:∀ (l:List Int) (n:Nat) (x:Int),nth l n=some x->l.length=n+1->x≠0->Dj l=l
 | [],_,_,h,_,_=>bO
 | d :: l,0,x,h,hl,hx=>by
  have:l=[]:=F4 cH;subst this;simp only [nth,Bg] at h; subst h;simp [Dj,hx]
 | d :: l,n+1,x,h,hl,hx=>by
  have ih:=Zy l n x h cH hx;have hne:l≠[]:=by rintro rfl; simp [nth] at h
  rw [Dj,ih,if_neg (fun h=>hne h.1)]
/- which numbers are valid,and what they stand for -/
def Vk (l:List Int):Bool:=match nth l (l.length - 1) with|some x=>x == 0|none=>false
def allD:List Int->Bool
 | []=>true
 | d :: r=>if (decide (d<0) || decide (d >= 10000))=true then false else allD r
theorem Akd {l:List Int} : allD l=true↔okD l:=by
 induction l with
 | nil=>simp [allD,okD]
 | cons d l ih =>
  rw [allD];by_cases h:d<0\/d >= 10000
  ·have:(decide (d<0) || decide (d >= 10000))=true:=aO
   simp only [this,if_true,C7,false_iff];intro hk;have:=hk d (by simp); omega
  ·have:(decide (d<0) || decide (d >= 10000))=false:=aC
   simp only [this,C7,if_false,ih];constructor
   ·intro hk x hx;rcases C4.1 hx with rfl|hx
    ·omega
    ·exact hk x hx
   ·exact fun hk x hx=>hk x bP
def D1 (neg:Bool) (l:List Int):Bool:=if (decide (200<l.length) || (decide (l=[]) && neg) || Vk l)=true then false else allD l
def V (neg:Bool) (l:List Int):Int:=if D1 neg l=true then (if neg=true then -(val l) else val l) else 0
theorem J0 {neg:Bool} {l:List Int} (h:D1 neg l=true):l=dig (val l).toNat/\okD l/\l.length<=200:=by
 unfold D1 at h;split at h
 ·simp at h
 ·rename_i hh;have hk:=Akd.1 h;simp only [Io,decide_eq_true_eq,not_or] at hh;refine ⟨?_,hk,aA⟩;rw [<- Dz hk];by_cases hl:l=[]
  ·subst hl; rfl
  ·have hpos:0<l.length:=Ic.2 hl;obtain ⟨x,hx⟩:=Ab (l:=l) (i:=l.length - 1) aA;have hz:=hh.2;unfold Vk at hz;rw [hx] at hz;exact (Zy l (l.length - 1) x hx aA cW).symm
theorem As7 (neg:Bool) (l:List Int):dig (V neg l).natAbs=if D1 neg l=true then l else []:=by
 unfold V;by_cases h:D1 neg l=true
 ·obtain ⟨h1,h2,-⟩:=J0 h;have h3:=El h2;rw [if_pos h,if_pos h];conv=>rhs; rw [h1]
  congr 1;exact Ya3v
 ·rw [if_neg h,if_neg h]; rfl
theorem Wq (neg:Bool) (l:List Int):(dig (V neg l).natAbs).length<=200:=by
 rw [As7];split
 ·rename_i h; exact (J0 h).2.2
 ·simp
theorem Uc (z:Int) (h:(dig z.natAbs).length<=200):D1 (decide (z<0)) (dig z.natAbs)=true:=by
 unfold D1;have hk:=A5 z.natAbs;rw [if_neg]
 ·exact Akd.2 hk
 ·simp only [Io,decide_eq_true_eq,Ch,not_or];refine ⟨⟨aA,fun h=>?_⟩,fun hz=>?_⟩
  ·have:=D4.1 h.1; omega
  ·unfold Vk at hz;split at hz
   ·rename_i x hx;have fh:x=0:=cW
    subst fh;have ht:=Dz hk;rw [Bq] at ht;have e:((z.natAbs:Int)).toNat=z.natAbs:=aA
    rw [e] at ht;have hl:=Bl hx;have h1:=Q7 ((dig z.natAbs).length - 1) (dig z.natAbs) aA (fun j hj y hy=>by
     have:j=(dig z.natAbs).length - 1:=by have:=Bl hy; omega
     subst this;rw [hx] at hy; simpa using hy.symm)
    have h2:=G9 ((dig z.natAbs).take ((dig z.natAbs).length - 1));rw [<- h1,ht] at h2;simp at h2; omega
   ·simp at hz
theorem V_of (z:Int) (h:(dig z.natAbs).length<=200):V (decide (z<0)) (dig z.natAbs)=z:=by
 unfold V;rw [if_pos (Uc z h),Bq];by_cases hz:z<0 <;> simp [hz] <;> omega
end
section
open Go
def digC (x:Int):List AV:=[.prim (.int .i64 x)]
def digA (l:List Int):AV:=.frz (l.map digC) .unk
def bigA (neg:Bool) (l:List Int):AV:=.agg [.prim (.bool neg),digA l]
def zA (z:Int):AV:=bigA (decide (z<0)) (dig z.natAbs)
def ownF:Option Tmp->TypeId->Bool
 | some 92,78|some 105,78|some 31,78|some 57,78|some 88,78|some 96,78=>true
 | some 32,168|some 240,168=>true
 | some 45,58|some 255,58=>true
 | some 240,177=>true
 | _,_=>false
def lkF0 (f:FuncId):Bool:=f == 216 || f == 217 || f == 218 || f == 219 || f == 220 || f == 221 || f == 222 || f == 223 ||
 f == 145 || f == 151 || f == 137
def anF0 (f:FuncId):Bool:=f == 136 || f == 180 || f == 170 || f == 140 || f == 266 ||
 f == 147 || f == 153
def mvF0 (f:FuncId):Bool:=f == 136 || f == 180 || f == 170 || f == 140 || f == 266 || f == 113 ||
 f == 115 || f == 121
instance:Globs:=⟨[],fun f=>f == 94 || f == 91 || f == 234,true,ownF,lkF0,anF0,true,false⟩
end
section
open Go
variable {P:Program}
@[reducible] def Ext.quiet (E:Ext P):Ext P:={ on:=E.on,mv:=E.mv,call:=fun _ _ _ _ _=>none }
theorem H3 [Globs] (E:Ext P) {call:Dv} {ok:St->List Oper->Bool} {n:Nat} : ∀ (c:Code) (st:St),@evC _ P (Ext.quiet E) call ok n c st=@evC _ P E call ok n c st
 | .skip,_=>cU
 | .region _ ops draw,st=>by simp only [evC]; rfl
 | .seq a b,st=>by
  simp only [evC,H3 E a];split <;> first|exact H3 E b _|rfl
 | .cond c a b,st=>by simp only [evC,H3 E a,H3 E b]
 | .block _ c,st=>by simp only [evC,H3 E c]
 | .loop c,st=>by
  simp only [evC];congr 1;funext s;exact H3 E c s
 | .exit _,_=>cU
 | .ret,_=>cU
 | .scope c,st=>by simp only [evC]; exact H3 E c st
 | .label _,_=>cU
 | .goto _,_=>cU
 | .rangeFunc _ _ _ _,_=>cU
 | .refuse _,_=>cU
theorem Abc [Globs] (E:Ext P) {ok:St->List Oper->Bool} : ∀ k,CLe (@evF _ P (Ext.quiet E) ok k) (@evF _ P E ok k)
 | 0=>Za3p
 | k+1=>by
  have ih:=Abc E (ok:=ok) k;intro f args S tk n r he;simp only [evF] at he ⊢;split at he
  ·simp at he
  rename_i wu;rw [if_neg (show ¬ @Ext.on P E f=true from wu)];split at he
  ·rename_i fn hf;split at he
   ·rename_i c hb;split at he
    ·simp at he
    ·rename_i a7;rw [if_neg a7];have out:∀ {st0:St} {r0:AV × St},outA P fn (@evC _ P (Ext.quiet E) (@evF _ P (Ext.quiet E) ok k) ok k c st0)=some r0->outA P fn (@evC _ P E (@evF _ P E ok k) ok k c st0)=some r0:=by
      intro st0 r0 h;rw [H3 E] at h;exact Mf (fun z hz=>Dt ih (Ce _) c _ z hz) h
     split at he
     ·rename_i td;rw [if_pos (show @Ext.mv P E f=true from td)];exact Ya4f
     rename_i td;rw [if_neg (show ¬ @Ext.mv P E f=true from td)];split at he
     ·rename_i hp;rw [if_pos hp];have one:∀ {xs0:List AV} {r0:AV},@runP _ P (Ext.quiet E) ok (@evF _ P (Ext.quiet E) ok k) k fn c xs0=some r0->@runP _ P E ok (@evF _ P E ok k) k fn c xs0=some r0:=by
       intro xs0 r0 hrun;unfold runP at hrun ⊢;split at hrun
       ·rename_i r' s1 ho;rw [out ho];exact hrun
       ·simp at hrun
      split at he
      ·rename_i r' ho;have:(if Ju c=true then runN (@runP _ P E ok (@evF _ P E ok k) k fn c) (args.map w2) else @runP _ P E ok (@evF _ P E ok k) k fn c (args.map w2))=some r':=by
        exact Ya0g
       rw [this]; exact he
      ·simp at he
     ·rename_i hp;rw [if_neg hp];exact Ya4f
   ·simp at he
  ·simp at he
theorem told [Globs] {E:Ext P} {f:FuncId} {args:List AV} {S:List Ent} {tk:List Nat} {n:Nat} {r:AV × List Ent × List Nat × Nat} (h:@cL _ P (Ext.quiet E) f args S tk n=some r):@cL _ P E f args S tk n=some r:=by
 obtain ⟨k,hk⟩:=(@Kt P _ (Ext.quiet E) _ _ _ _ _ _).1 h;exact (@Kt P _ E _ _ _ _ _ _).2 ⟨k,Abc E k _ _ _ _ _ _ hk⟩
theorem Aq3 [Globs] (E:Ext P):@Ahm _ P (Ext.quiet E):=by
 letI:=Ext.quiet E;refine ⟨fun f args S tk n r S' tk' n' h=>?_,fun M f args S tk n r S' tk' n' h=>?_⟩
 ·unfold extC at h; split at h <;> simp at h
 ·unfold Gp at h; split at h
  ·unfold extC at h; split at h <;> simp at h
  ·simp at h
end
section
open Go Tryz
def Te:List (List AV)->Option (List Int)
 | []=>some []
 | [.prim (.int .i64 x)] :: r=>(Te r).map (x :: ·)
 | _=>none
theorem Rj:∀ l:List Int,Te (l.map digC)=some l
 | []=>rfl
 | x :: l=>by simp only [Cm,digC,Te,Rj l,Fa]
def strC (s:ByteArray):List AV:=[.prim (.string s)]
def Aq (l:List ByteArray):AV:=.frz (l.map strC) .unk
def Wg:List (List AV)->Option (List ByteArray)
 | []=>some []
 | [.prim (.string x)] :: r=>(Wg r).map (x :: ·)
 | _=>none
theorem X2:∀ l:List ByteArray,Wg (l.map strC)=some l
 | []=>rfl
 | x :: l=>by simp only [Cm,strC,Wg,X2 l,Fa]
theorem Wh:∀ {es:List (List AV)} {l:List ByteArray},Wg es=some l->es=l.map strC
 | [],l,h=>by simp only [Wg,Bg] at h; subst h; rfl
 | e :: es,l,h=>by
  unfold Wg at h;split at h
  ·rename_i he; simp at he
  ·rename_i x r he;simp only [jH] at he;obtain ⟨rfl,rfl⟩:=he;simp only [Cd] at h;obtain ⟨l',h1,rfl⟩:=h;rw [Wh h1]; rfl
  ·simp at h
def putS (l:List ByteArray) (s:ByteArray):List ByteArray :=
 match l with
 | []=>[s]
 | x :: r=>if sLt x s=true then x :: putS r s else if sEq x s=true then x :: r else s :: x :: r
def uniS (l:List ByteArray):List ByteArray:=l.foldl putS []
def Vf:Cap->Bool
 | .nilc=>true
 | _=>false
def quoF (l r:List Int):Option AV :=
 if l=dig (val l).toNat/\r=dig (val r).toNat/\r≠[]/\l.length<=90000/\r.length<=90000 then
  some (.tup [digA (dig ((val l).toNat / (val r).toNat)),digA (dig ((val l).toNat % (val r).toNat))]) else none
def quoC (args:List AV) (S:List Ent) (tk:List Nat) (n:Nat):Option (AV × List Ent × List Nat × Nat):=match args with
  | [.frz es _,.frz ys _]=>match Te es,Te ys with
   | some l,some r=>match quoF l r with
    | some v=>some (v,S,tk,n)
    | none=>none
   | _,_=>none
  | _=>none
def uniC (args:List AV) (S:List Ent) (tk:List Nat) (n:Nat):Option (AV × List Ent × List Nat × Nat):=match args with
  | [.frz es c,.frz [] .nilc]=>match Wg es with
   | some l=>if (decide (l.length<=1000000) && (!l.isEmpty || Vf c))=true then some (Aq (uniS l),S,tk,n) else none
   | none=>none
  | _=>none
@[reducible] noncomputable def E1:Ext prog where
 on:=fun f=>f == 78 || f == 228
 mv:=mvF0
 call:=fun f args S tk n=>if f == 78 then uniC args S tk n else if f == 228 then quoC args S tk n else none
@[reducible] noncomputable instance E0:Ext prog:=Ext.quiet E1
instance:Ahm prog:=Aq3 E1
theorem ext_mv (f:FuncId) (h:mvF0 f=false):Ext.mv prog f=false:=h
theorem Auw:shF 94=true/\Ns prog 94 1=true/\Ext.on prog 94=false:=⟨rfl,aK,rfl⟩
theorem Anx:shF 91=true/\Ns prog 91 2=true/\Ext.on prog 91=false:=⟨rfl,aK,rfl⟩
set_option linter.defProp false in
def ev0:=Cc ext_mv <| Cc @entAt.eq_def <| Cc evt tys
set_option linter.defProp false in
def evs0:=Cc ext_mv <| Cc @Bm <| Cc @L6 <| Cc @Ah7 <| Cc @List.take_left.{0} <| Cc @C8.{0} <| Cc evt tys
end
section
open Go
theorem Aqu (s:ByteArray):∀ (n i:Nat) (r:List UInt8),s.size - i=n->kB s i r=r.reverse++s.data.toList.drop i:=by
 intro n;induction n with
 | zero =>
  intro i r h;rw [kB,if_neg aA,Fm aC,Fj]
 | succ n ih =>
  intro i r h;have hi:i<s.data.size:=aC
  rw [kB,if_pos aA,ih (i+1) _ aA,List.reverse_cons,C6];congr 1;have e:s.data.toList.drop i=s.data[i] :: s.data.toList.drop (i+1):=by
   rw [<- Array.getElem_toList hi,List.getElem_cons_drop]
  rw [e,Sq];congr 1;show s.data[i]! = _;rw [getElem!_pos s.data i hi]
def nm (s:ByteArray):List UInt8:=s.data.toList
theorem Za (s:ByteArray):s.toList=nm s:=by rw [ByteArray.toList,Aqu s _ 0 [] rfl]; simp [nm]
theorem Am3 {a b:ByteArray} (h:nm a=nm b):a=b:=by
 apply ByteArray.ext; exact kF h
theorem Ta:∀ (x y:List UInt8),Op.bytesLess x y=decide (x<y)
 | [],[]=>Za5z
 | a :: x,[]=>Za5z
 | [],b :: y=>Za5z
 | a :: x,b :: y=>by
  rw [Op.bytesLess,Ta x y];by_cases h1:a<b
  ·simp [h1,kC]
  ·by_cases h2:a=b
   ·subst h2; simp [kC]
   ·simp [h1,h2,kC]
theorem Ag8 (a b:ByteArray):sLt a b=decide (nm a<nm b):=by
 unfold sLt; rw [Za,Za,Ta]
theorem Q0 (a b:ByteArray):sEq a b=decide (a=b):=by
 unfold sEq; rw [Za,Za];by_cases h:a=b
 ·subst h; simp
 ·have:nm a≠nm b:=fun h'=>h (Am3 h');simp [h,this]
theorem Ace {a b c:List UInt8} (h1:a<b) (h2:b<c):a<c:=List.lt_trans h1 h2
theorem Rt (a:List UInt8):¬ a<a:=lH a
theorem Am2 (a b:ByteArray):nm a<nm b\/a=b\/nm b<nm a:=by
 by_cases h1:nm a<nm b
 ·exact .inl h1
 ·by_cases h2:nm b<nm a
  ·exact .inr (.inr h2)
  ·exact .inr (.inl (Am3 (List.le_antisymm (List.not_lt.1 h2) (List.not_lt.1 h1))))
def Inc (l:List ByteArray):Prop:=l.Pairwise fun a b=>nm a<nm b
theorem Ad5 (s x:ByteArray):∀ l:List ByteArray,x ∈ putS l s↔x=s\/x ∈ l
 | []=>by simp [putS]
 | y :: r=>by
  rw [putS];split
  ·rw [C4,Ad5 s x r,C4];constructor
   ·rintro (h|h|h) <;> simp [h]
   ·rintro (h|h|h) <;> simp [h]
  ·split
   ·rename_i h;rw [Q0] at h;have:y=s:=aO
    subst this;simp
   ·simp [or_comm,or_left_comm]
theorem Ama (s:ByteArray):∀ {l:List ByteArray},Inc l->Inc (putS l s)
 | [],_=>by simp [putS,Inc]
 | y :: r,h=>by
  have h0:=Ib.1 h;rw [putS];split
  ·rename_i h1;rw [Ag8] at h1;refine Ib.2 ⟨fun x hx=>?_,Ama s h0.2⟩;rcases (Ad5 s x r).1 hx with rfl|hx
   ·simpa using h1
   ·exact h0.1 x hx
  ·rename_i h1;rw [Ag8] at h1;split
   ·exact h
   ·rename_i h2;rw [Q0] at h2;have h3:nm s<nm y:=by
     rcases Am2 s y with h|h|h
     ·exact h
     ·exact absurd (by simpa using h.symm) h2
     ·exact absurd aO h1
    refine Ib.2 ⟨fun x hx=>?_,h⟩;rcases C4.1 hx with rfl|hx
    ·exact h3
    ·exact Ace h3 (h0.1 x hx)
theorem Amm (s:ByteArray):∀ l:List ByteArray,(putS l s).length<=l.length+1
 | []=>by simp [putS]
 | y :: r=>by
  rw [putS];have:=Amm s r;split
  ·simp; exact this
  ·split <;> simp
theorem Arj (l:List ByteArray) (s:ByteArray):uniS (l++[s])=putS (uniS l) s:=by simp [uniS,List.foldl_append]
theorem Jz (l:List ByteArray):Inc (uniS l)/\(∀ x,x ∈ uniS l↔x ∈ l)/\(uniS l).length<=l.length:=by
 have key:∀ (l acc:List ByteArray),Inc acc->Inc (l.foldl putS acc)/\(∀ x,x ∈ l.foldl putS acc↔x ∈ acc\/x ∈ l)/\(l.foldl putS acc).length<=acc.length+l.length:=by
  intro l;induction l with
  | nil=>intro acc h; exact ⟨h,fun x=>by simp,by simp⟩
  | cons s l ih =>
   intro acc h;obtain ⟨h1,h2,h3⟩:=ih (putS acc s) (Ama s h);refine ⟨h1,fun x=>?_,?_⟩
   ·rw [Sr,h2 x,Ad5,C4];constructor
    ·rintro ((h|h)|h) <;> simp [h]
    ·rintro (h|h|h) <;> simp [h]
   ·have:=Amm s acc;simp only [Sr,Cj]; omega
 have:=key l [] (by simp [Inc]);exact ⟨this.1,fun x=>by simpa [uniS] using this.2.1 x,by simpa [uniS] using this.2.2⟩
theorem Ags {s:ByteArray} : ∀ {l:List ByteArray},(∀ x ∈ l,nm x<nm s)->putS l s=l++[s]
 | [],_=>rfl
 | y :: r,h=>by
  rw [putS,if_pos (by rw [Ag8]; simpa using h y (by simp)),Ags fun x hx=>h x bP]; rfl
theorem Al9:∀ {l r:List ByteArray},Inc l->Inc r->(∀ x,x ∈ l↔x ∈ r)->l=r
 | [],[],_,_,_=>rfl
 | [],y :: r,_,_,h=>by have:=(h y).2 (by simp); simp at this
 | x :: l,[],_,_,h=>by have:=(h x).1 (by simp); simp at this
 | x :: l,y :: r,h1,h2,h=>by
  have a1:=Ib.1 h1;have a2:=Ib.1 h2;have iw:x=y:=by
   have m1:=(h x).1 (by simp);have m2:=(h y).2 (by simp);rcases C4.1 m1 with e|m1
   ·exact e
   ·rcases C4.1 m2 with e|m2
    ·exact e.symm
    ·exact absurd (Ace (a1.1 y m2) (a2.1 x m1)) (Rt _)
  subst iw;congr 1;refine Al9 a1.2 a2.2 fun z=>?_;have hz:=h z;simp only [C4] at hz;constructor
  ·intro hm;rcases hz.1 (.inr hm) with e|ft
   ·subst e; exact absurd (a1.1 z hm) (Rt _)
   ·exact ft
  ·intro hm;rcases hz.2 (.inr hm) with e|ft
   ·subst e; exact absurd (a2.1 z hm) (Rt _)
   ·exact ft
end
section
def inB (n:Int):Bool:=decide (-1000000000000<=n/\n<=1000000000000)
theorem Kd {n:Int} : inB n=true↔-1000000000000<=n/\n<=1000000000000:=by simp [inB]
theorem Al6 {n:Int} : inB n=false↔¬ (-1000000000000<=n/\n<=1000000000000):=by simp [inB]
def chk (ok:Bool) (n:Int):Int × Bool:=if ok && inB n then (n,true) else (0,false)
def mulS (a b:Int):Int × Bool:=chk (inB a && inB b) (a*b)
def absS (n:Int):Int:=if n=-9223372036854775808 then 1000000000000 else if 0<=n then n else -n
def gcdS (a b:Int):Int:=(Int.gcd (absS a) (absS b):Int)
theorem As8 {n:Int} (h:inB n=true):absS n=n.natAbs:=by
 rw [Kd] at h; unfold absS; split
 ·omega
 ·exact Ya3v
theorem Aqs (a b:Int) (h:a≠0) :
  (decide (1000000000000 / (a.natAbs:Int)<(b.natAbs:Int))=false/\-1000000000000<=a*b/\a*b<=1000000000000/\inB (a*b)=true) \/
  (decide (1000000000000 / (a.natAbs:Int)<(b.natAbs:Int))=true/\inB (a*b)=false):=by
 have hp:0<(a.natAbs:Int):=aA
 have hab:((a*b).natAbs:Int)=(b.natAbs:Int)*a.natAbs:=by rw [Iq]; push_cast; rw [Fy]
 by_cases hc:1000000000000 / (a.natAbs:Int)<(b.natAbs:Int)
 ·right;refine ⟨by simpa using hc,?_⟩;rw [Int.ediv_lt_iff_lt_mul hp] at hc;rw [Al6];omega
 ·left;have hd:=hc;rw [Int.ediv_lt_iff_lt_mul hp] at hc;rw [Kd];refine ⟨by simpa using hd,?_⟩;omega
theorem drop_nil {α:Type} {l:List α} {n:Nat} (h:l.length<=n):l.drop n=[]:=Fm h
end
section
open Go Tryz
def i64 (n:Int):Prop:=-9223372036854775808<=n/\n<=9223372036854775807
theorem Aa {n:Int} (h:i64 n):B8.wrap n=n:=Go.IntWalk.i64_in n h
theorem Aw {i:Nat} (h:i<=1048576):B8.wrap ((i:Int)+1)=((i+1:Nat):Int):=aP
theorem Ac4 {j:Nat} (h:j<=1048576):B8.wrap (((j+1:Nat):Int) - 1)=(j:Int):=aP
theorem Dd {α β:Type} (f:α->β):∀ (l:List α) (i:Nat),nth (l.map f) i=(nth l i).map f
 | [],_=>rfl
 | _ :: _,0=>rfl
 | _ :: l,i+1=>Dd f l i
theorem Ax {α:Type} : ∀ {l:List α} {i:Nat} {x:α},nth l i=some x->l.drop i=x :: l.drop (i+1)
 | y :: l,0,x,h=>dL
 | _ :: l,i+1,x,h=>Ax (l:=l) (i:=i) h
 | [],_,_,h=>bO
theorem Df (l:List Int):B2 1 (l.map digC)=true:=Dh (f:=digC) (sz:=1) (fun _=>rfl) l
theorem Bd {l:List Int} {i:Nat} {x:Int} (h:nth l i=some x):nth (l.map digC) i=some [.prim (.int .i64 x)]:=dG
theorem La {l:List Int} (h:l≠[]):((l.length:Int) == 0)=false:=by
 exact Ya3q
theorem Pb {l:List Int} (h:l≠[]):decide ((l.length:Int) > 0)=true:=by
 exact Ya3q
theorem Age {l:List Int} (h:l≠[]) (hl:l.length<=1000000):B8.wrap ((l.length:Int) - 1)=((l.length - 1:Nat):Int):=by
 have:l.length≠0:=fun h'=>h (C5.1 h');rw [Aa aD]; omega
section
variable (S:List Ent) (tk:List Nat) (k:Nat)
theorem L2 (neg:Bool) (l:List Int) (c:Cap) (hlen:l.length<=1000000):cL prog 51 [.agg [.bool neg,.frz (l.map digC) c]] S tk k=some (.bool (D1 neg l),S,tk,k):=by
 refine opP func51 ntmps51 ?_;by_cases h1:200<l.length
 ·have d1:decide ((l.length:Int) > 200)=true:=aC
  simp (maxSteps:=10^6)+contextual(disch:=try exact dqd)only[ev0,simprocAttr,Ca,Bo,Cb,results51,d1];all_goals simp [D1,h1]
 have d1:decide ((l.length:Int) > 200)=false:=aC
 have hv:D1 neg l=if ((decide (l=[]) && neg) || Vk l)=true then false else allD l:=by simp [D1,h1]
 rw [hv];by_cases h2:l=[]
 ·have d2:(((0:Nat):Int) == 0)=true:=rfl;have d3:decide (((0:Nat):Int) > 0)=false:=rfl;cases neg with
  | true =>
   subst h2;simp (maxSteps:=10^6)+contextual(disch:=try exact dqd)only[ev0,simprocAttr,Ca,Bo,Cb,results51,d1,d2,d3,Cp];all_goals simp
  | false =>
   have hz:Vk l=false:=by subst h2; rfl
   rw [hz];simp only [S9,F5,C7,if_false];have bw:l.length=0:=by rw [h2]; rfl
   have d2:((l.length:Int) == 0)=true:=by rw [bw]; rfl
   have d3:decide ((l.length:Int) > 0)=false:=by rw [bw]; rfl
   simp (maxSteps:=10^6)+contextual(disch:=try exact dqd)only[ev0,simprocAttr,Ca,Bo,Cb,results51,d1,d2,d3];refine loop1 (P:=prog) (fun x st=>st.T.length=46/\(x<=l.length)/\(allD l=allD (l.drop x))/\getT st.T 33=digA l/\getT st.T 34=.int l.length/\getT st.T 35=.int (x:Nat)/\st.S=[⟨0,[.bool false,digA l]⟩]) (fun x=>l.length - x) (fun x=>.bool (allD l)) (0) ?_ ?_;case refine_2=>exact ⟨rfl,Ci _,rfl,rfl,rfl,rfl,rfl⟩
   rintro i ⟨T,S',tk',n'⟩ ⟨hl,hi,hn,e33,e34,e35,eS⟩ IH;exact Ya9
 ·have d2:=La h2;have d3:=Pb h2;have d4:=Age h2 hlen;have hp:l.length≠0:=fun h'=>h2 (C5.1 h');obtain ⟨x,hx⟩:=Ab (l:=l) (i:=l.length - 1) aA;have hx':=Bd hx;have hz:Vk l=(x == 0):=by unfold Vk; rw [hx]
  rw [hz];cases d5:x == 0 with
  | true =>
   simp (maxSteps:=10^6)+contextual(disch:=try exact dqd)only[ev0,simprocAttr,Ca,Bo,Cb,results51,d1,d2,d3,d4,hx',d5];all_goals simp
  | false =>
   simp only [h2,decide_false,Fo,F5,C7,if_false];simp (maxSteps:=10^6)+contextual(disch:=try exact dqd)only[ev0,simprocAttr,Ca,Bo,Cb,results51,d1,d2,d3,d4,hx',d5];refine loop1 (P:=prog) (fun x st=>st.T.length=46/\(x<=l.length)/\(allD l=allD (l.drop x))/\getT st.T 33=digA l/\getT st.T 34=.int l.length/\getT st.T 35=.int (x:Nat)/\st.S=[⟨0,[.bool neg,digA l]⟩]) (fun x=>l.length - x) (fun x=>.bool (allD l)) (0) ?_ ?_;case refine_2=>exact ⟨rfl,Ci _,rfl,rfl,rfl,rfl,rfl⟩
   rintro i ⟨T,S',tk',n'⟩ ⟨hl,hi,hn,e33,e34,e35,eS⟩ IH;exact Ya9
theorem Z8 (neg:Bool) (l:List Int) (c:Cap) (hlen:l.length<=1000000):cL prog 198 [.agg [.bool neg,.frz (l.map digC) c]] S tk k=some (.bool (D1 neg l),S,tk,k):=by
 refine opP func198 ntmps198 ?_;by_cases h1:200<l.length
 ·have d1:decide ((l.length:Int) > 200)=true:=aC
  simp (maxSteps:=10^6)+contextual(disch:=try exact dqd)only[ev0,simprocAttr,Ca,Bo,Cb,results198,d1];all_goals simp [D1,h1]
 have d1:decide ((l.length:Int) > 200)=false:=aC
 have hv:D1 neg l=if ((decide (l=[]) && neg) || Vk l)=true then false else allD l:=by simp [D1,h1]
 rw [hv];by_cases h2:l=[]
 ·have d2:(((0:Nat):Int) == 0)=true:=rfl;have d3:decide (((0:Nat):Int) > 0)=false:=rfl;cases neg with
  | true =>
   subst h2;simp (maxSteps:=10^6)+contextual(disch:=try exact dqd)only[ev0,simprocAttr,Ca,Bo,Cb,results198,d1,d2,d3,Cp];all_goals simp
  | false =>
   have hz:Vk l=false:=by subst h2; rfl
   rw [hz];simp only [S9,F5,C7,if_false];have bw:l.length=0:=by rw [h2]; rfl
   have d2:((l.length:Int) == 0)=true:=by rw [bw]; rfl
   have d3:decide ((l.length:Int) > 0)=false:=by rw [bw]; rfl
   simp (maxSteps:=10^6)+contextual(disch:=try exact dqd)only[ev0,simprocAttr,Ca,Bo,Cb,results198,d1,d2,d3];refine loop1 (P:=prog) (fun x st=>st.T.length=50/\(x<=l.length)/\(allD l=allD (l.drop x))/\getT st.T 1=.ref 0 0 0/\getT st.T 3=.int l.length/\getT st.T 4=.int (x:Nat)/\st.S=[⟨0,[.bool false,digA l]⟩]) (fun x=>l.length - x) (fun x=>.bool (allD l)) (0) ?_ ?_;case refine_2=>exact ⟨rfl,Ci _,rfl,rfl,rfl,rfl,rfl⟩
   rintro i ⟨T,S',tk',n'⟩ ⟨hl,hi,hn,e1,e3,e4,eS⟩ IH;exact Yaa
 ·have d2:=La h2;have d3:=Pb h2;have d4:=Age h2 hlen;have hp:l.length≠0:=fun h'=>h2 (C5.1 h');obtain ⟨x,hx⟩:=Ab (l:=l) (i:=l.length - 1) aA;have hx':=Bd hx;have hz:Vk l=(x == 0):=by unfold Vk; rw [hx]
  rw [hz];cases d5:x == 0 with
  | true =>
   simp (maxSteps:=10^6)+contextual(disch:=try exact dqd)only[ev0,simprocAttr,Ca,Bo,Cb,results198,d1,d2,d3,d4,hx',d5];all_goals simp
  | false =>
   simp only [h2,decide_false,Fo,F5,C7,if_false];simp (maxSteps:=10^6)+contextual(disch:=try exact dqd)only[ev0,simprocAttr,Ca,Bo,Cb,results198,d1,d2,d3,d4,hx',d5];refine loop1 (P:=prog) (fun x st=>st.T.length=50/\(x<=l.length)/\(allD l=allD (l.drop x))/\getT st.T 1=.ref 0 0 0/\getT st.T 3=.int l.length/\getT st.T 4=.int (x:Nat)/\st.S=[⟨0,[.bool neg,digA l]⟩]) (fun x=>l.length - x) (fun x=>.bool (allD l)) (0) ?_ ?_;case refine_2=>exact ⟨rfl,Ci _,rfl,rfl,rfl,rfl,rfl⟩
   rintro i ⟨T,S',tk',n'⟩ ⟨hl,hi,hn,e1,e3,e4,eS⟩ IH;exact Yaa
theorem Jo (neg:Bool) (l:List Int) (c:Cap) (hlen:l.length<=1000000):cL prog 57 [.agg [.bool neg,.frz (l.map digC) c]] S tk k=some (digA (dig (V neg l).natAbs),S,tk,k):=by
 have hV:=fun S tk k=>L2 S tk k neg l .unk hlen;rw [As7];refine opP func57 ntmps57 ?_;cases hv:D1 neg l with
 | true =>
  exact Ya1m
 | false =>
  exact Ya1m
end
def numC (x:Int):AV:=.prim (.int .i64 x)
theorem D6 {l:List Int} {i:Nat} {x:Int} (h:nth l i=some x):nth ((l.map numC).drop i) 0=some (.prim (.int .i64 x)):=by
 have:nth (l.map numC) i=some (numC x):=dG
 exact Db this
theorem Dn {l:List Int} {i:Nat} {x v:Int} (h:nth l i=some x):over (l.map numC) i [.prim (.int .i64 v)]=some ((l.set i v).map numC):=by
 have h1:nth (l.map numC) i=some (numC x):=dG
 rw [Qp h1];have:(.prim (.int .i64 v):AV)=numC v:=rfl;rw [this,Ph,V1]
theorem Rz {l:List Int} {n:Nat} (h:n<=l.length):Jc 1 n (l.map numC)=some ((l.take n).map digC):=Xz h
theorem R0 (l:List Int):Ms (some (l.map digC))=.frz (l.map digC) .unk:=by
 unfold Ms;simp only;rw [if_pos (by simp [digC,pure1,w1,jS])];congr 1;simp [w1,digC]
theorem Td {m id ep n:Nat} {S:List Ent} {l:List Int} (hm:m<=id) (h:entAt S id ep=some (l.map numC)) (hn:n<=l.length):fz1 m S (.sref id ep 0 n 1)=.frz ((l.take n).map digC) .unk:=by
 rw [fz1_sref hm,h,fzB_some,Fz,Rz hn,R0]
theorem Ed {l:List Int} {n:Nat} (hn:n<=l.length) (hz:∀ j,n<=j->∀ x,nth l j=some x->x=0) (he:n=0\/∃ x,nth l (n - 1)=some x/\x≠0):Dj l=l.take n:=by
 rw [Q7 n l hn hz];rcases he with rfl|⟨x,hx,h0⟩
 ·simp [Dj]
 ·by_cases h1:n=0
  ·subst h1; simp [Dj]
  ·refine Zy _ (n - 1) x ?_ aC h0;rw [Af,Ij aA,<- Af]; exact hx
theorem Ni {n:Nat} (h:n≠0) (hl:n<=1000000):B8.wrap ((n:Int) - 1)=((n - 1:Nat):Int):=by
 rw [Aa aD]; omega
theorem N7 {l:List Int} {n:Nat} {x:Int} (hz:∀ j,n<=j->∀ x,nth l j=some x->x=0) (hx:nth l (n - 1)=some x) (fh:x=0):∀ j,n - 1<=j->∀ y,nth l j=some y->y=0:=fun j hj y hy=>by
 by_cases e:j=n - 1
 ·rw [e,hx] at hy;exact Ya1v
 ·exact hz j aA y hy
theorem K9 (l:List Int):∀ j,l.length<=j->∀ x,nth l j=some x->x=0:=fun j hj x hx=>by have:=Bl hx; omega
section
variable (S:List Ent) (tk:List Nat) (k:Nat)
theorem Apu (l:List Int) (c:Cap) (hlen:l.length<=1000000):cL prog 94 [.frz (l.map digC) c] S tk k=some (digA (Dj l),S,tk,k):=by
 refine opP func94 ntmps94 ?_;simp (maxSteps:=10^6)+contextual(disch:=try exact dqd)only[ev0,simprocAttr,Ca,Bo,Cb,results94];refine loop1 (P:=prog) (fun x st=>st.T.length=22/\(x<=l.length)/\(∀ j,x<=j->∀ x,nth l j=some x->x=0)/\getT st.T 0=digA l/\getT st.T 3=.int (x:Nat)/\st.S=[]) (fun x=>x) (fun x=>digA (Dj l)) (l.length) ?_ ?_;case refine_2=>exact ⟨rfl,Ce _,K9 l,rfl,rfl,rfl⟩
 rintro n ⟨T,S',tk',n'⟩ ⟨hl,hn,hz,e0,e3,eS⟩ IH;subst eS;obtain ⟨g,hg,hT⟩:=Ap hl;rw [hg] at e0 e3;subst hT;clear hg hl;have hr:=Df l;by_cases h0:n=0
 ·have d1:decide ((n:Int) > 0)=false:=aC
  have ht:=Ed hn hz (.inl h0);simp (maxSteps:=10^6)+contextual(disch:=try exact dqd)only[ev0,simprocAttr,Ca,Bo,Cb,results94,e0,e3,d1,digA,Gw,hr,bound,intN_cast,hn,Ce,Ci];rw [ht]; simp [h0]
 ·have d1:decide ((n:Int) > 0)=true:=aC
  have hp:=Ni h0 aA;obtain ⟨x,hx⟩:=Ab (show n - 1<l.length by omega);have hx':=Bd hx;by_cases fh:x=0
  ·have d2:(x == 0)=true:=bU
   simp (maxSteps:=10^6)+contextual(disch:=try exact dqd)only[ev0,simprocAttr,Ca,Bo,Cb,results94,e0,e3,d1,d2,hp,hx',digA];exact IH (n - 1) _ aF ⟨rfl,aE,N7 hz hx fh,aB,aB,aB⟩
  ·have d2:(x == 0)=false:=bU
   have ht:=Ed hn hz (.inr ⟨x,hx,fh⟩);simp (maxSteps:=10^6)+contextual(disch:=try exact dqd)only[ev0,simprocAttr,Ca,Bo,Cb,results94,e0,e3,d1,d2,hp,hx',digA,Gw,hr,bound,intN_cast,hn,Ce,Ci];rw [ht]; simp
theorem Gc (l:List Int) (id ep:Nat) (hlen:l.length<=1000000) (h:entAt S id ep=some (l.map numC)):cL prog 94 [.sref id ep 0 l.length 1] S tk k=some (.sref id ep 0 (Dj l).length 1,S,tk,k):=by
 refine opS func94 ntmps94 ?_;have hid:id<S.length:=by
  exact Ya46
 simp (maxSteps:=10^6)+contextual(disch:=try exact dqd)only[evs0,simprocAttr,Ca,Bo,Cb,results94];refine Vq (P:=prog) (fun x st=>st.T.length=22/\(x<=l.length)/\(∀ j,x<=j->∀ x,nth l j=some x->x=0)/\getT st.T 0=.sref id ep 0 l.length 1/\getT st.T 3=.int (x:Nat)/\st.S=S/\st.tk=tk/\st.n=k) (fun x=>x) (fun x=>(.sref id ep 0 (Dj l).length 1,S,tk,k)) (l.length) ?_ ?_;case refine_2=>exact ⟨rfl,Ce _,K9 l,rfl,rfl,rfl,rfl,rfl⟩
 rintro n ⟨T,S',tk',n'⟩ ⟨hl,hn,hz,e0,e3,eS,eT,eN⟩ IH;subst eS eT eN;obtain ⟨g,hg,hT⟩:=Ap hl;rw [hg] at e0 e3;subst hT;clear hg hl;by_cases h0:n=0
 ·have d1:decide ((n:Int) > 0)=false:=aC
  have ht:=Ed hn hz (.inl h0);simp (maxSteps:=10^6)+contextual(disch:=try exact dqd)only[evs0,simprocAttr,Ca,Bo,Cb,results94,e0,e3,d1,Gw,bound,intN_cast,hn,Ce,Ci,Oh,jV,Ie];rw [ht]; simp [h0]
 ·have d1:decide ((n:Int) > 0)=true:=aC
  have hp:=Ni h0 aA;have b7:n - 1<l.length:=aA
  obtain ⟨x,hx⟩:=Ab b7;have hx':=D6 hx;by_cases fh:x=0
  ·have d2:(x == 0)=true:=bU
   simp (maxSteps:=10^6)+contextual(disch:=try exact dqd)only[evs0,simprocAttr,Ca,Bo,Cb,results94,e0,e3,d1,d2,hp,hx',h,b7,Cw];exact Ya2q
  ·have d2:(x == 0)=false:=bU
   have ht:=Ed hn hz (.inr ⟨x,hx,fh⟩);simp (maxSteps:=10^6)+contextual(disch:=try exact dqd)only[evs0,simprocAttr,Ca,Bo,Cb,results94,e0,e3,d1,d2,hp,hx',h,b7,Cw,Gw,bound,intN_cast,hn,Ce,Ci,Oh,jV,Ie];rw [ht]; simp; omega
def sgnF (neg:Bool) (l:List Int):AV:=if 200<l.length then .tup [bigA false [],.bool false] else .tup [bigA (neg && !decide (l=[])) l,.bool true]
theorem Ahc (neg:Bool) (l:List Int):pure3 (sgnF neg l)=true:=by unfold sgnF; split <;> rfl
theorem Ah1 (neg:Bool) (l:List Int) (c:Cap):cL prog 91 [.bool neg,.frz (l.map digC) c] S tk k=some (sgnF neg l,S,tk,k):=by
 refine opP func91 ntmps91 (hp3:=Ahc _ _) ?_;by_cases h1:200<l.length
 ·have d1:decide ((l.length:Int) > 200)=true:=aC
  simp (maxSteps:=10^6)+contextual(disch:=try exact dqd)only[ev0,simprocAttr,Ca,Bo,Cb,results91,d1];simp [sgnF,h1,bigA,digA]
 have d1:decide ((l.length:Int) > 200)=false:=aC
 by_cases h2:l=[]
 ·subst h2;simp (maxSteps:=10^6)+contextual(disch:=try exact dqd)only[ev0,simprocAttr,Ca,Bo,Cb,results91,Cp];simp [sgnF,bigA,digA]
 ·have d2:=La h2;simp (maxSteps:=10^6)+contextual(disch:=try exact dqd)only[ev0,simprocAttr,Ca,Bo,Cb,results91,d1,d2];simp [sgnF,h1,h2,bigA,digA]
end
theorem Ar9:∀ {l r:List Int} {i:Nat} {x y:Int},l.length=r.length->okD l->okD r->nth l i=some x->nth r i=some y->x<y->(∀ j,i<j->nth l j=nth r j)->val l<val r
 | d :: l,e :: r,0,x,y,hl,h1,h2,hx,hy,iw,he=>by
  simp only [nth,Bg] at hx hy; subst hx hy;have:l=r:=by
   apply List.ext_getElem?;intro j;have:=he (j+1) aA;simp only [nth,Af] at this; exact this
  subst this; simp only [val]; omega
 | d :: l,e :: r,i+1,x,y,hl,h1,h2,hx,hy,iw,he=>by
  have ih:=Ar9 (l:=l) (r:=r) (i:=i) cH (fun z hz=>h1 z (by simp [hz])) (fun z hz=>h2 z (by simp [hz])) hx hy iw fun j hj=>he (j+1) aA;have g1:=h1 d (by simp);have g2:=h2 e (by simp);simp only [val]; omega
 | [],_,_,_,_,_,_,_,hx,_,_,_=>by simp [nth] at hx
 | _ :: _,[],_,_,_,_,_,_,_,hy,_,_=>by simp [nth] at hy
def cmpN (a b:Nat):Int:=if a<b then -1 else if b<a then 1 else 0
theorem Hx {a b:Nat} (h:(dig a).length<(dig b).length):a<b:=by
 have h1:=A9 (n:=a) (k:=(dig a).length);have h2:=A9 (n:=b) (k:=(dig a).length);have h3:¬ (dig b).length<=(dig a).length:=aA
 rw [h2] at h3;have:=h1.1 (Ce _);omega
theorem Xf {a b i:Nat} {x y:Int} (hl:(dig a).length=(dig b).length) (hx:nth (dig a) i=some x) (hy:nth (dig b) i=some y) (h:x<y) (he:∀ j,i<j->nth (dig a) j=nth (dig b) j):a<b:=by
 have:=Ar9 hl (A5 a) (A5 b) hx hy h he;rw [Bq,Bq] at this; omega
theorem Yn {a b:Nat} (he:∀ j,nth (dig a) j=nth (dig b) j):a=b:=by
 refine Atk (List.ext_getElem? fun j=>?_);rw [<- Af,<- Af]; exact he j
theorem E2 {n:Nat} (hl:n<=1000000):B8.wrap ((n:Int) - 1)=(n:Int) - 1:=Aa aD
section
variable (S:List Ent) (tk:List Nat) (k:Nat)
theorem Adi (a b:Nat) (ha:(dig a).length<=1000000) (hb:(dig b).length<=1000000):cL prog 127 [digA (dig a),digA (dig b)] S tk k=some (.int (cmpN a b),S,tk,k):=by
 refine opP func127 ntmps127 ?_;by_cases hl:(dig a).length=(dig b).length;case neg =>
  have d1:(((dig a).length:Int) != ((dig b).length:Int))=true:=aC
  rcases Ia (dig a).length (dig b).length with h|h
  ·have d2:decide (((dig a).length:Int)<((dig b).length:Int))=true:=aO
   have:=Hx h
   simp (maxSteps:=10^6)+contextual(disch:=try exact dqd)only[ev0,simprocAttr,Ca,Bo,Cb,results127,digA,d1,d2]
   simp [cmpN,this]
  ·have d2:decide (((dig a).length:Int)<((dig b).length:Int))=false:=aC
   have:=Hx (a:=b) (b:=a) aA
   simp (maxSteps:=10^6)+contextual(disch:=try exact dqd)only[ev0,simprocAttr,Ca,Bo,Cb,results127,digA,d1,d2]
   rw [cmpN,if_neg aA,if_pos this]
 have d1:(((dig a).length:Int) != ((dig b).length:Int))=false:=aC
 have d3:=E2 ha;simp (maxSteps:=10^6)+contextual(disch:=try exact dqd)only[ev0,simprocAttr,Ca,Bo,Cb,results127,digA,d1,d3];refine loop1 (P:=prog) (fun x st=>st.T.length=41/\(x<=(dig a).length)/\(∀ j,x<=j->nth (dig a) j=nth (dig b) j)/\getT st.T 0=digA (dig a)/\getT st.T 1=digA (dig b)/\getT st.T 5=.int ((x:Int) - 1)/\st.S=[]) (fun x=>x) (fun x=>.int (cmpN a b)) ((dig a).length) ?_ ?_;case refine_2=>exact ⟨rfl,Ce _,fun j hj=>by rw [Af,Af,C3 hj,C3 aA],rfl,rfl,rfl,rfl⟩
 rintro n ⟨T,S',tk',n'⟩ ⟨hl,hn,he,e0,e1,e5,eS⟩ IH;subst eS;obtain ⟨g,hg,hT⟩:=Ap hl;rw [hg] at e0 e1 e5;subst hT;clear hg hl;by_cases h0:n=0
 ·have d2:decide ((n:Int) - 1 >= 0)=false:=aC
  have:=Yn fun j=>he j aA;subst this;simp (maxSteps:=10^6)+contextual(disch:=try exact dqd)only[ev0,simprocAttr,Ca,Bo,Cb,results127,e0,e1,e5,d2,digA];simp [cmpN]
 ·have d2:decide ((n:Int) - 1 >= 0)=true:=aC
  have hi:(n:Int) - 1=((n - 1:Nat):Int):=aA
  obtain ⟨x,hx⟩:=Ab (show n - 1<(dig a).length by omega);obtain ⟨y,hy⟩:=Ab (show n - 1<(dig b).length by omega);have hx':=Bd hx;have eg:=Bd hy;have mf:∀ j,n - 1<j->nth (dig a) j=nth (dig b) j:=fun j hj=>he j aA;have hp:=E2 (n:=n - 1) aA;rw [hi] at e5 d2;simp (maxSteps:=10^6)+contextual(disch:=try exact dqd)only[ev0,simprocAttr,Ca,Bo,Cb,results127,e0,e1,e5,d2,digA,hx',eg,hp];refine ⟨fun h1=>?_,fun h1=>⟨fun h2=>?_,fun h2=>?_⟩⟩
  ·have:=Xf hl hx hy aY mf;simp [cmpN,this]
  ·have:=Xf hl.symm hy hx cA fun j hj=>(mf j hj).symm;rw [cmpN,if_neg aA,if_pos this]
  ·have iw:x=y:=by simp at h1 h2; omega
   exact Ya1r
end
theorem B5 {l:List Int} {i j:Nat} {x v:Int} (h:nth (l.set i v) j=some x):(j=i/\x=v)\/(j≠i/\nth l j=some x):=by
 rw [<- V1] at h;by_cases e:i=j
 ·subst e; exact .inl ⟨rfl,En h⟩
 ·rw [Ae e] at h; exact .inr ⟨fun h=>e h.symm,h⟩
theorem Th {l:List Int} {i:Nat} {v:Int} (h:i<l.length):nth (l.set i v) i=some v:=by
 rw [Af,List.getElem?_set_self h]
theorem Vu {l:List Int} (h:∀ j x,nth l j=some x->0<=x/\x<10000):okD l:=fun d hd=>by
 obtain ⟨j,hj⟩:=List.mem_iff_getElem?.1 hd;exact h j d (by rw [Af]; exact hj)
theorem Bs {l:List Int} (h:okD l) {j:Nat} {x:Int} (hx:nth l j=some x):0<=x/\x<10000:=h x eE
def padL (l:List Int) (n:Nat):List Int:=l++Cg (n - l.length) 0
theorem Ze {l:List Int} {n:Nat} (h:l.length<=n):(padL l n).length=n:=by simp [padL]; omega
theorem Zf (l:List Int) (n:Nat):val (padL l n)=val l:=by rw [padL,Ew,Jk]; omega
theorem Am9 {l:List Int} {n j:Nat} {x:Int} (h:nth (padL l n) j=some x):nth l j=some x\/(l.length<=j/\x=0):=by
 rw [Af,padL] at h;by_cases hj:j<l.length
 ·rw [Cy hj] at h; left; rw [Af]; exact h
 ·rw [Fi aA] at h;right;refine ⟨aA,?_⟩;have:=Ip h;exact (It.1 this).2
theorem Ac5 (n:Nat):(Cg n [(.prim (.int .i64 0):AV)]).flatten=(Cg n (0:Int)).map numC:=by
 rw [Aqf,lE]; rfl
theorem Vw:∀ (vs cs:List AV),vs.length<=cs.length->over cs 0 vs=some (vs++cs.drop vs.length)
 | [],cs,_=>by cases cs <;> rfl
 | v :: vs,c :: cs,h=>by simp only [over,Vw vs cs aO,Fa,Co,Cj,List.drop_succ_cons]
 | _ :: _,[],h=>aR
theorem Aqz {l:List Int} {n:Nat} (h:l.length<=n):over ((Cg n (0:Int)).map numC) 0 (l.map numC)=some ((padL l n).map numC):=by
 rw [Vw _ _ aO];congr 1;rw [padL,C9];congr 1;simp [<- List.map_drop]
theorem Aqe (l:List Int):(l.map digC).flatten=l.map numC:=by
 induction l with
 | nil=>rfl
 | cons x l ih=>simp only [Cm,Fw,ih]; rfl
theorem Aql (l:List Int):(l.map numC).all leafOk=true:=by
 rw [List.all_map,Fc]; intro x _; rfl
def W3 (n:Nat):List AV:=(Cg n (0:Int)).map numC
theorem Nx {P:Program} {t:TypeId} {n:Nat} (hz:(A6 P t).bind (A2 P)=some [.prim (.int .i64 0)]) (hs:(A6 P t).bind (szOf P)=some 1) (hb:(A6 P t).bind (Ey P)=some 8) (hn:n<=1048576) :
  mkA P t (.prim (.int .i64 (n:Int))) (.prim (.int .i64 (n:Int)))=some (n,1,W3 n):=by
 unfold mkA;rw [hz,hs,hb,intN_cast];simp only [mkB];rw [if_pos ⟨Ce _,hn,aA,rfl⟩,Ac5]; rfl
theorem Afq {P:Program} {t:TypeId} {n id ep:Nat} {l:List Int} {c:Cap} {S:List Ent} (hs:(A6 P t).bind (szOf P)=some 1) (hl:l.length<=n) (h:entAt S id ep=some (W3 n)) :
  cpA P t (.sref id ep 0 n 1) (.frz (l.map digC) c) S=some (l.length,put S id ⟨ep,(padL l n).map numC⟩):=by
 unfold cpA;simp only [lenA,Fg,hs,if_true,srcA,Df,h];have hm:min l.length n=l.length:=aA
 unfold W3;rw [hm,Ff (by simp),Aqe];simp only [Aql,if_true,Aqz hl]
theorem Dl:∀ l:List Int,Dj l=l.take (Dj l).length
 | []=>rfl
 | d :: l=>by
  rw [Dj];split
  ·rfl
  ·simp only [Cj,He];rw [<- Dl l]
theorem Jh (n:Nat):(0:Int)<10000 ^ n:=Int.pow_pos aA
structure Plus1 (a b la i:Nat) (out:List Int):Prop where
 len:out.length=la+1
 val:val out+10000 ^ i*val ((dig b).drop i)=(a+b:Nat)
 ok:∀ j x,nth out j=some x->0<=x/\(j<i->x<=19998)/\(i<=j->x<10000)/\(j=la->x=0)
theorem Plus1.start {a b:Nat} : Plus1 a b (dig a).length 0 (padL (dig a) ((dig a).length+1)):=by
 refine ⟨Ze aA,?_,fun j x hx=>?_⟩
 ·rw [Zf,Bq,Fz,Bq]; simp
 ·rcases Am9 hx with h|⟨h,rfl⟩
  ·have:=Bs (A5 a) h;have hl:=Bl h;exact ⟨this.1,aA,fun _=>this.2,fun e=>aA⟩
  ·exact ⟨aA,aA,aA,fun _=>rfl⟩
theorem Plus1.step {a b la i:Nat} {out:List Int} {x d:Int} (h:Plus1 a b la i out) (hb:i<la) (hx:nth out i=some x) (hd:nth (dig b) i=some d):Plus1 a b la (i+1) (out.set i (x+d)):=by
 have lw:=Bs (A5 b) hd;refine ⟨bS,?_,fun j y hy=>?_⟩
 ·have hv:=h.val;rw [Ax hd,Go.Proofs.YthelkgdmgihhiaaGreat.val] at hv;rw [Hz hx,<- hv,Nw,I1];have e1:x+d - x=d:=aA
  rw [e1,Fy d,H9]; omega
 ·rcases B5 hy with ⟨rfl,rfl⟩|⟨hne,hy⟩
  ·have:=h.ok _ x hx;exact ⟨aA,aA,aA,aA⟩
  ·have:=h.ok j y hy;exact ⟨this.1,fun hj=>this.2.1 aA,fun hj=>this.2.2.1 aA,this.2.2.2⟩
structure Plus2 (v la i:Nat) (out:List Int):Prop where
 len:out.length=la+1
 val:val out=v
 ok:∀ j x,nth out j=some x->0<=x/\(j<i->x<10000)/\(j=i->x<=19999)/\(i<j->x<=19998)/\(j=la->x<=1/\(i<la->x=0))
theorem Plus2.start {a b la:Nat} {out:List Int} (h:Plus1 a b la (dig b).length out):Plus2 (a+b) la 0 out:=by
 refine ⟨h.len,?_,fun j x hx=>?_⟩
 ·have:=h.val;rw [Fp,Go.Proofs.YthelkgdmgihhiaaGreat.val] at this; omega
 ·have:=h.ok j x hx;refine ⟨this.1,aA,fun _=>?_,fun _=>?_,fun e=>⟨by have:=this.2.2.2 e; omega,fun _=>this.2.2.2 e⟩⟩
  ·rcases Ia j (dig b).length with hj|hj
   ·have:=this.2.1 hj; omega
   ·have:=this.2.2.1 hj; omega
  ·rcases Ia j (dig b).length with hj|hj
   ·exact this.2.1 hj
   ·have:=this.2.2.1 hj; omega
theorem Plus2.small {v la i:Nat} {out:List Int} {x:Int} (h:Plus2 v la i out) (hi:i<la) (hx:nth out i=some x) (h1:x<10000):Plus2 v la (i+1) out:=by
 refine ⟨h.len,h.val,fun j y hy=>?_⟩;have:=h.ok j y hy;refine ⟨this.1,fun hj=>?_,fun hj=>by have:=this.2.2.2.1 aA; omega,fun hj=>this.2.2.2.1 aA,fun e=>⟨(this.2.2.2.2 e).1,fun _=>(this.2.2.2.2 e).2 hi⟩⟩;exact Ya4n
theorem Plus2.big {v la i:Nat} {out:List Int} {x y:Int} (h:Plus2 v la i out) (hi:i<la) (hx:nth out i=some x) (h1:10000<=x) (hy:nth (out.set i (x - 10000)) (i+1)=some y):Plus2 v la (i+1) ((out.set i (x - 10000)).set (i+1) (y+1)):=by
 refine ⟨Za36,?_,fun j z hz=>?_⟩
 ·rw [Hz hy,Hz hx,<- h.val,Nw];have e1:x - 10000 - x=-10000:=aA
  have e2:y+1 - y=1:=aA
  rw [e1,e2,Int.one_mul,Fy (10000 ^ i) 10000,Rp]; omega
 ·have hyo:nth out (i+1)=some y:=by
   rcases B5 hy with ⟨e,-⟩|⟨-,hy⟩
   ·omega
   ·exact hy
  have hk:=h.ok i x hx;have hky:=h.ok (i+1) y hyo;rcases B5 hz with ⟨rfl,rfl⟩|⟨hne,hz⟩
  ·refine ⟨aA,aA,fun _=>by have:=hky.2.2.2.1 aA; omega,aA,fun e=>?_⟩;have:=(hky.2.2.2.2 e).2 hi;exact ⟨aA,aA⟩
  ·rcases B5 hz with ⟨rfl,rfl⟩|⟨yu,hz⟩
   ·exact ⟨aA,fun _=>aA,aA,aA,aA⟩
   ·have:=h.ok j z hz;exact ⟨this.1,fun hj=>this.2.1 aA,fun hj=>aA,fun hj=>this.2.2.2.1 aA,fun e=>⟨(this.2.2.2.2 e).1,fun _=>(this.2.2.2.2 e).2 hi⟩⟩
theorem Plus2.done {v la:Nat} {out:List Int} (h:Plus2 v la la out):Dj out=dig v:=by
 have hk:okD out:=Vu fun j x hx=>by
  have:=h.ok j x hx;have hl:=Bl hx;rw [h.len] at hl;refine ⟨this.1,?_⟩;rcases Ia j la with hj|hj
  ·exact this.2.1 hj
  ·have:=(this.2.2.2.2 aA).1; omega
 rw [Dz hk,h.val]; congr 1
section
variable (S:List Ent) (tk:List Nat) (k:Nat)
theorem Apt (a b:Nat) (ha:(dig a).length<=100000) (hb:(dig b).length<=100000):cL prog 89 [digA (dig a),digA (dig b)] S tk k=some (digA (dig (a+b)),S,tk,k):=by
 refine opP func89 ntmps89 ?_;rcases Ia (dig a).length (dig b).length with h|h
 ·have d1:decide (((dig a).length:Int)<((dig b).length:Int))=true:=aO
  rw [kZ];have hw:B8.wrap (((dig b).length:Int)+1)=(((dig b).length+1:Nat):Int):=Aw aA;have mc:(A6 prog 58).bind (Ey prog)=some 8:=aK
  have gd:=Nx (P:=prog) (t:=58) (n:=(dig b).length+1) aT aT mc aA;have xx:=Afq (P:=prog) (t:=58) (n:=(dig b).length+1) (id:=0) (ep:=0) (l:=dig b) (c:=.unk) (S:=[⟨0,W3 ((dig b).length+1)⟩]) aT aA rfl;simp (maxSteps:=10^6)+contextual(disch:=try exact dqd)only[ev0,simprocAttr,Ca,Bo,Cb,results89,digA,d1,hw,gd,xx];refine loop1 (P:=prog) (fun x st=>st.T.length=64/\(x.1<=(dig a).length)/\(Plus1 b a (dig b).length x.1 x.2)/\getT st.T 0=digA (dig b)/\getT st.T 5=.sref 0 0 0 ((dig b).length+1) 1/\getT st.T 23=digA (dig a)/\getT st.T 24=.int (dig a).length/\getT st.T 25=.int (x.1:Nat)/\st.S=[⟨0,x.2.map numC⟩]) (fun x=>(dig a).length - x.1) (fun x=>digA (dig (b+a))) (0,padL (dig b) ((dig b).length+1)) ?_ ?_;case refine_2=>exact ⟨rfl,Ci _,Plus1.start,rfl,rfl,rfl,rfl,rfl,rfl⟩
  rintro ⟨i,out⟩ ⟨T,S',tk',n'⟩ ⟨hl,hi,hp,e0,e5,e23,e24,e25,eS⟩ IH;simp only at hi hp e0 e5 e23 e24 e25 eS;subst eS;obtain ⟨g,hg,hT⟩:=Ap hl;rw [hg] at e0 e5 e23 e24 e25;subst hT;clear hg hl;have hlen:=hp.len;by_cases hlt:i<(dig a).length
  ·have d2:decide ((i:Int)<((dig a).length:Int))=true:=aI
   obtain ⟨d,hd⟩:=Ab hlt;have d8:=Bd hd;have bg:=Aw (i:=i) aA;obtain ⟨x,hx⟩:=Ab (show i<out.length by omega);have hx':=D6 hx;have dd:i<(dig b).length+1:=aA
   have hxd:=(hp.ok i x hx).2.2.1 (Ce _);have fh:=(hp.ok i x hx).1;have lw:=Bs (A5 a) hd;exact Yay
  ·have d2:decide ((i:Int)<((dig a).length:Int))=false:=aI
   have he:i=(dig a).length:=aA
   subst he;have yt:=Plus2.start hp;clear IH hp;simp (maxSteps:=10^6)+contextual(disch:=try exact dqd)only[ev0,simprocAttr,Ca,Bo,Cb,results89,digA,e0,e5,e23,e24,e25,d2];refine loop1 (P:=prog) (fun x st=>st.T.length=64/\(x.1<=(dig b).length)/\(Plus2 (b+a) (dig b).length x.1 x.2)/\getT st.T 5=.sref 0 0 0 ((dig b).length+1) 1/\getT st.T 39=.int (dig b).length/\getT st.T 40=.int (x.1:Nat)/\st.S=[⟨0,x.2.map numC⟩]) (fun x=>(dig b).length - x.1) (fun x=>digA (dig (b+a))) (0,out) ?_ ?_;case refine_2=>exact ⟨rfl,Ci _,yt,rfl,rfl,rfl,rfl⟩
   rintro ⟨i,out⟩ ⟨T,S',tk',n'⟩ ⟨hl,hi,hp,e5,e39,e40,eS⟩ IH;simp only at hi hp e5 e39 e40 eS;subst eS;obtain ⟨g,hg,hT⟩:=Ap hl;rw [hg] at e5 e39 e40;subst hT;clear hg hl;clear hlen;have hlen:=hp.len;by_cases hlt:i<(dig b).length
   ·have d2:decide ((i:Int)<((dig b).length:Int))=true:=aI
    have bg:=Aw (i:=i) aA;obtain ⟨x,hx⟩:=Ab (show i<out.length by omega);have hx':=D6 hx;have dd:i<(dig b).length+1:=aA
    have kq:i+1<(dig b).length+1:=aA
    exact Ya7
   ·have d2:decide ((i:Int)<((dig b).length:Int))=false:=aI
    have he:i=(dig b).length:=aA
    exact Yav
 ·have d1:decide (((dig a).length:Int)<((dig b).length:Int))=false:=aC
  have hw:B8.wrap (((dig a).length:Int)+1)=(((dig a).length+1:Nat):Int):=Aw aA;have mc:(A6 prog 58).bind (Ey prog)=some 8:=aK
  have gd:=Nx (P:=prog) (t:=58) (n:=(dig a).length+1) aT aT mc aA;have xx:=Afq (P:=prog) (t:=58) (n:=(dig a).length+1) (id:=0) (ep:=0) (l:=dig a) (c:=.unk) (S:=[⟨0,W3 ((dig a).length+1)⟩]) aT aA rfl;simp (maxSteps:=10^6)+contextual(disch:=try exact dqd)only[ev0,simprocAttr,Ca,Bo,Cb,results89,digA,d1,hw,gd,xx];refine loop1 (P:=prog) (fun x st=>st.T.length=64/\(x.1<=(dig b).length)/\(Plus1 a b (dig a).length x.1 x.2)/\getT st.T 0=digA (dig a)/\getT st.T 5=.sref 0 0 0 ((dig a).length+1) 1/\getT st.T 23=digA (dig b)/\getT st.T 24=.int (dig b).length/\getT st.T 25=.int (x.1:Nat)/\st.S=[⟨0,x.2.map numC⟩]) (fun x=>(dig b).length - x.1) (fun x=>digA (dig (a+b))) (0,padL (dig a) ((dig a).length+1)) ?_ ?_;case refine_2=>exact ⟨rfl,Ci _,Plus1.start,rfl,rfl,rfl,rfl,rfl,rfl⟩
  rintro ⟨i,out⟩ ⟨T,S',tk',n'⟩ ⟨hl,hi,hp,e0,e5,e23,e24,e25,eS⟩ IH;simp only at hi hp e0 e5 e23 e24 e25 eS;subst eS;obtain ⟨g,hg,hT⟩:=Ap hl;rw [hg] at e0 e5 e23 e24 e25;subst hT;clear hg hl;have hlen:=hp.len;by_cases hlt:i<(dig b).length
  ·have d2:decide ((i:Int)<((dig b).length:Int))=true:=aI
   obtain ⟨d,hd⟩:=Ab hlt;have d8:=Bd hd;have bg:=Aw (i:=i) aA;obtain ⟨x,hx⟩:=Ab (show i<out.length by omega);have hx':=D6 hx;have dd:i<(dig a).length+1:=aA
   have hxd:=(hp.ok i x hx).2.2.1 (Ce _);have fh:=(hp.ok i x hx).1;have lw:=Bs (A5 b) hd;exact Yay
  ·have d2:decide ((i:Int)<((dig b).length:Int))=false:=aI
   have he:i=(dig b).length:=aA
   subst he;have yt:=Plus2.start hp;clear IH hp;simp (maxSteps:=10^6)+contextual(disch:=try exact dqd)only[ev0,simprocAttr,Ca,Bo,Cb,results89,digA,e0,e5,e23,e24,e25,d2];refine loop1 (P:=prog) (fun x st=>st.T.length=64/\(x.1<=(dig a).length)/\(Plus2 (a+b) (dig a).length x.1 x.2)/\getT st.T 5=.sref 0 0 0 ((dig a).length+1) 1/\getT st.T 39=.int (dig a).length/\getT st.T 40=.int (x.1:Nat)/\st.S=[⟨0,x.2.map numC⟩]) (fun x=>(dig a).length - x.1) (fun x=>digA (dig (a+b))) (0,out) ?_ ?_;case refine_2=>exact ⟨rfl,Ci _,yt,rfl,rfl,rfl,rfl⟩
   rintro ⟨i,out⟩ ⟨T,S',tk',n'⟩ ⟨hl,hi,hp,e5,e39,e40,eS⟩ IH;simp only at hi hp e5 e39 e40 eS;subst eS;obtain ⟨g,hg,hT⟩:=Ap hl;rw [hg] at e5 e39 e40;subst hT;clear hg hl;clear hlen;have hlen:=hp.len;by_cases hlt:i<(dig a).length
   ·have d2:decide ((i:Int)<((dig a).length:Int))=true:=aI
    have bg:=Aw (i:=i) aA;obtain ⟨x,hx⟩:=Ab (show i<out.length by omega);have hx':=D6 hx;have dd:i<(dig a).length+1:=aA
    have kq:i+1<(dig a).length+1:=aA
    exact Ya7
   ·have d2:decide ((i:Int)<((dig a).length:Int))=false:=aI
    have he:i=(dig a).length:=aA
    exact Yav
end
end
section
open Go Tryz
set_option maxRecDepth 100000
theorem Ac2 {l:List Int} (h:okD l):val l<10000 ^ l.length:=by
 induction l with
 | nil=>simp [val]
 | cons d l ih =>
  have h1:=h d (by simp);have h2:=ih fun x hx=>h x bP;simp only [val,Cj,Nw]; omega
theorem Au3 {l:List Int} {i:Nat} {x:Int} (hl:l.length=i+1) (hx:nth l i=some x) (hk:∀ j y,j<i->nth l j=some y->0<=y/\y<10000) (h0:x<0):val l<0:=by
 have e:l=l.take i++[x]:=by
  apply List.ext_getElem?;intro j;rcases Sc j i with hj|hj|hj
  ·rw [Cy aC,Ij hj]
  ·subst hj;have hlj:(l.take j).length=j:=aC
   rw [Fi aA,hlj,Oj,<- Af,hx]; rfl
  ·rw [C3 aA,C3 aC]
 have wm:okD (l.take i):=Vu fun j y hy=>by
  have hj:=Bl hy;have yo:j<i:=by rw [Im] at hj; omega
  refine hk j y yo ?_;rw [Af] at hy ⊢;rw [Ij yo] at hy; exact hy
 have h1:=Ac2 wm;have hlen:(l.take i).length=i:=aC
 rw [hlen] at h1;rw [e,Ew,hlen];have hp:=Jh i;have:(10000:Int) ^ i*val [x]<=10000 ^ i*(-1):=Int.mul_le_mul_of_nonneg_left (by simp [val]; omega) aA;omega
structure R6 (a b la i:Nat) (out:List Int):Prop where
 len:out.length=la
 eqv:val out - 10000 ^ i*val ((dig b).drop i)=(a:Int) - b
 ok:∀ j x,nth out j=some x->-9999<=x/\x<=9999/\(i<=j->0<=x)
theorem R6.start {a b:Nat} : R6 a b (dig a).length 0 (padL (dig a) (dig a).length):=by
 refine ⟨Ze aA,?_,fun j x hx=>?_⟩
 ·rw [Zf,Bq,Fz,Bq]; simp
 ·rcases Am9 hx with h|⟨h,rfl⟩
  ·have:=Bs (A5 a) h; exact ⟨aA,aA,fun _=>this.1⟩
  ·exact ⟨aA,aA,fun _=>aA⟩
theorem R6.step {a b la i:Nat} {out:List Int} {x d:Int} (h:R6 a b la i out) (hx:nth out i=some x) (hd:nth (dig b) i=some d):R6 a b la (i+1) (out.set i (x - d)):=by
 have lw:=Bs (A5 b) hd;refine ⟨bS,?_,fun j y hy=>?_⟩
 ·have hv:=h.eqv;rw [Ax hd,val] at hv;rw [Hz hx,<- hv,Nw,I1];have e1:x - d - x=-d:=aA
  rw [e1,Rp,Fy d,H9]; omega
 ·rcases B5 hy with ⟨rfl,rfl⟩|⟨hne,hy⟩
  ·have:=h.ok _ x hx;exact ⟨by have:=this.2.2 (Ce _); omega,aA,aA⟩
  ·have:=h.ok j y hy;exact ⟨this.1,this.2.1,fun hj=>this.2.2 aA⟩
structure J8 (v:Nat) (la i:Nat) (out:List Int):Prop where
 len:out.length=la
 eqv:val out=v
 ok:∀ j x,nth out j=some x->x<=9999/\(j<i->0<=x)/\(j=i->-10000<=x)/\(i<j->-9999<=x)
theorem J8.start {a b la:Nat} {out:List Int} (h:R6 a b la (dig b).length out) (hab:b<=a):J8 (a - b) la 0 out:=by
 refine ⟨h.len,?_,fun j x hx=>?_⟩
 ·have:=h.eqv;rw [Fp,val] at this; omega
 ·have:=h.ok j x hx; exact ⟨this.2.1,aA,aA,aA⟩
theorem J8.small {v la i:Nat} {out:List Int} {x:Int} (h:J8 v la i out) (hx:nth out i=some x) (h1:0<=x):J8 v la (i+1) out:=by
 refine ⟨h.len,h.eqv,fun j y hy=>?_⟩;have:=h.ok j y hy;refine ⟨this.1,fun hj=>?_,fun hj=>by have:=this.2.2.2 aA; omega,fun hj=>this.2.2.2 aA⟩;exact Ya4n
theorem J8.room {v la i:Nat} {out:List Int} {x:Int} (h:J8 v la i out) (hx:nth out i=some x) (h1:x<0):i+1<la:=by
 have hi:=Bl hx;have hl:=h.len;rcases Ia (i+1) la with h2|h2
 ·exact h2
 ·exfalso;have:=Au3 (l:=out) (i:=i) aA hx (fun j y hj hy=>by have:=h.ok j y hy; exact ⟨this.2.1 hj,aA⟩) h1;have:=h.eqv; omega
theorem J8.neg {v la i:Nat} {out:List Int} {x y:Int} (h:J8 v la i out) (hx:nth out i=some x) (h1:x<0) (hy:nth (out.set i (x+10000)) (i+1)=some y):J8 v la (i+1) ((out.set i (x+10000)).set (i+1) (y - 1)):=by
 have hyo:nth out (i+1)=some y:=by
  rcases B5 hy with ⟨e,-⟩|⟨-,hy⟩
  ·omega
  ·exact hy
 have hk:=h.ok i x hx;have hky:=h.ok (i+1) y hyo;refine ⟨Za36,?_,fun j z hz=>?_⟩
 ·rw [Hz hy,Hz hx,<- h.eqv,Nw];have e1:x+10000 - x=10000:=aA
  have e2:y - 1 - y=-1:=aA
  rw [e1,e2,Fy (10000 ^ i) 10000]; omega
 ·rcases B5 hz with ⟨rfl,rfl⟩|⟨hne,hz⟩
  ·exact ⟨aA,aA,fun _=>by have:=hky.2.2.2 aA; omega,aA⟩
  ·rcases B5 hz with ⟨rfl,rfl⟩|⟨yu,hz⟩
   ·exact ⟨aA,fun _=>by have:=hk.2.2.1 rfl; omega,aA,aA⟩
   ·have:=h.ok j z hz;exact ⟨this.1,fun hj=>this.2.1 aA,fun hj=>aA,fun hj=>this.2.2.2 aA⟩
theorem J8.done {v la:Nat} {out:List Int} (h:J8 v la la out):Dj out=dig v:=by
 have hk:okD out:=Vu fun j x hx=>by
  have:=h.ok j x hx;have hl:=Bl hx;rw [h.len] at hl;exact ⟨this.2.1 hl,aA⟩
 rw [Dz hk,h.eqv]; congr 1
theorem Ub (l:List Int) (i:Nat):val (l.drop i)=(nth l i).getD 0+10000*val (l.drop (i+1)):=by
 by_cases h:i<l.length
 ·obtain ⟨x,hx⟩:=Ab h;rw [Ax hx,hx]; rfl
 ·rw [Fm aA,Fm aA,Af,C3 aA]; rfl
theorem M5 (a i:Nat):0<=(nth (dig a) i).getD 0/\(nth (dig a) i).getD 0<10000:=by
 cases h:nth (dig a) i with
 | none=>simp
 | some x=>exact Bs (A5 a) h
theorem Qo {l:List Int} {x:Int} (h:okD l) (h0:0<=x) (h1:x<10000):okD (l++[x]):=fun d hd=>by
 rcases Cu.1 hd with hd|hd
 ·exact h d hd
 ·simp at hd; subst hd; exact ⟨h0,h1⟩
theorem Nn (l:List Int) (x:Int):val (l++[x])=val l+10000 ^ l.length*x:=by rw [Ew]; simp [val]
theorem Ki (i:Nat) (x r:Int):(10000:Int) ^ i*x+10000 ^ (i+1)*r=10000 ^ i*(x+10000*r):=by rw [Nw,I1,H9]
structure Sum1 (a b i:Nat) (c:Int) (out:List Int):Prop where
 len:out.length=i
 ok:okD out
 c0:0<=c/\c<=1
 eqv:val out+10000 ^ i*(c+val ((dig a).drop i)+val ((dig b).drop i))=(a+b:Nat)
theorem Sum1.step {a b i:Nat} {c n:Int} {out:List Int} (h:Sum1 a b i c out) (hn:n=(nth (dig a) i).getD 0+(nth (dig b) i).getD 0+c):Sum1 a b (i+1) (n.tdiv 10000) (out++[n.tmod 10000])/\0<=n/\n<=19999/\0<=n.tmod 10000/\n.tmod 10000<10000:=by
 have h1:=M5 a i;have h2:=M5 b i;have h3:=h.c0;have e1:n.tdiv 10000=n / 10000:=Cz aA;have e2:n.tmod 10000=n % 10000:=Gm aA;refine ⟨⟨eU,Qo h.ok aA aA,aA,?_⟩,aA,aA,aA,aA⟩;have hv:=h.eqv;rw [Ub (dig a) i,Ub (dig b) i] at hv;have:n.tmod 10000+10000*(n.tdiv 10000+val ((dig a).drop (i+1))+val ((dig b).drop (i+1)))=c+((nth (dig a) i).getD 0+10000*val ((dig a).drop (i+1)))+((nth (dig b) i).getD 0+10000*val ((dig b).drop (i+1))):=aA
 exact Ya3c
theorem Sum1.done {a b i:Nat} {c:Int} {out:List Int} (h:Sum1 a b i c out) (h1:(dig a).length<=i) (h2:(dig b).length<=i) (h3:c=0):Dj out=dig (a+b):=by
 have hv:=h.eqv;rw [Fm h1,Fm h2,h3] at hv;simp only [val] at hv;rw [Dz h.ok];congr 1; omega
structure Dif1 (a b i:Nat) (c:Int) (out:List Int):Prop where
 len:out.length=i
 ok:okD out
 c0:0<=c/\c<=1
 eqv:val out+10000 ^ i*(val ((dig a).drop i) - val ((dig b).drop i) - c)=(a:Int) - b
theorem Dif1.step {a b i:Nat} {c n d:Int} {out:List Int} (h:Dif1 a b i c out) (hd:nth (dig a) i=some d) (hn:n=d - (nth (dig b) i).getD 0 - c):(n<0->Dif1 a b (i+1) 1 (out++[n+10000]))/\(¬ n<0->Dif1 a b (i+1) 0 (out++[n]))/\-10000<=n/\n<10000:=by
 have h1:=Bs (A5 a) hd;have h2:=M5 b i;have h3:=h.c0;have hv:=h.eqv;rw [Ub (dig b) i,Ax hd,val] at hv;refine ⟨fun ek=>⟨eU,Qo h.ok aA aA,aA,?_⟩,fun ek=>⟨eU,Qo h.ok aA aA,aA,?_⟩,aA,aA⟩
 ·have:n+10000+10000*(val ((dig a).drop (i+1)) - val ((dig b).drop (i+1)) - 1)=d+10000*val ((dig a).drop (i+1)) - ((nth (dig b) i).getD 0+10000*val ((dig b).drop (i+1))) - c:=aA
  exact Ya3c
 ·have:n+10000*(val ((dig a).drop (i+1)) - val ((dig b).drop (i+1)) - 0)=d+10000*val ((dig a).drop (i+1)) - ((nth (dig b) i).getD 0+10000*val ((dig b).drop (i+1))) - c:=aA
  exact Ya3c
theorem E9 {a b:Nat} (h:b<=a):(dig b).length<=(dig a).length:=by
 rw [A9];have:=(A9 (n:=a) (k:=(dig a).length)).1 (Ce _);omega
theorem Dif1.done {a b:Nat} {c:Int} {out:List Int} (h:Dif1 a b (dig a).length c out) (hab:b<=a):Dj out=dig (a - b):=by
 have hv:=h.eqv;have h3:=h.c0;rw [Fp,Fm (E9 hab)] at hv;simp only [val] at hv;have hlt:=Ac2 h.ok;rw [h.len] at hlt;have hp:=Jh (dig a).length;have hc:c=0:=by
  rcases Int.lt_or_le c 1 with h1|h1
  ·omega
  ·have:c=1:=aA
   subst this;have:(10000:Int) ^ (dig a).length*(0 - 0 - 1)=-(10000 ^ (dig a).length):=aA
   omega
 subst hc;rw [Dz h.ok];congr 1;have:(10000:Int) ^ (dig a).length*(0 - 0 - 0)=0:=by simp
 omega
section
variable (S:List Ent) (tk:List Nat) (k:Nat)
theorem Akz (a b:Nat) (ha:(dig a).length<=100000) (hab:b<=a):cL prog 90 [digA (dig a),digA (dig b)] S tk k=some (digA (dig (a - b)),S,tk,k):=by
 refine opP func90 ntmps90 ?_;have hba:=E9 hab;have mc:(A6 prog 58).bind (Ey prog)=some 8:=aK
 have gd:=Nx (P:=prog) (t:=58) (n:=(dig a).length) aT aT mc aA;have xx:=Afq (P:=prog) (t:=58) (n:=(dig a).length) (id:=0) (ep:=0) (l:=dig a) (c:=.unk) (S:=[⟨0,W3 (dig a).length⟩]) aT aA rfl;simp (maxSteps:=10^6)+contextual(disch:=try exact dqd)only[ev0,simprocAttr,Ca,Bo,Cb,results90,digA,gd,xx];refine loop1 (P:=prog) (fun x st=>st.T.length=56/\(x.1<=(dig b).length)/\(R6 a b (dig a).length x.1 x.2)/\getT st.T 5=.sref 0 0 0 (dig a).length 1/\getT st.T 15=digA (dig b)/\getT st.T 16=.int (dig b).length/\getT st.T 17=.int (x.1:Nat)/\st.S=[⟨0,x.2.map numC⟩]) (fun x=>(dig b).length - x.1) (fun x=>digA (dig (a - b))) (0,padL (dig a) (dig a).length) ?_ ?_;case refine_2=>exact ⟨rfl,Ci _,R6.start,rfl,rfl,rfl,rfl,rfl⟩
 rintro ⟨i,out⟩ ⟨T,S',tk',n'⟩ ⟨hl,hi,hp,e5,e15,e16,e17,eS⟩ IH;simp only at hi hp e5 e15 e16 e17 eS;subst eS;obtain ⟨g,hg,hT⟩:=Ap hl;rw [hg] at e5 e15 e16 e17;subst hT;clear hg hl;have hlen:=hp.len;by_cases hlt:i<(dig b).length
 ·have d2:decide ((i:Int)<((dig b).length:Int))=true:=aI
  obtain ⟨d,hd⟩:=Ab hlt;have d8:=Bd hd;have bg:=Aw (i:=i) aA;obtain ⟨x,hx⟩:=Ab (show i<out.length by omega);have hx':=D6 hx;have dd:i<(dig a).length:=aA
  have hxk:=hp.ok i x hx;have lw:=Bs (A5 b) hd;have hws:B8.wrap (x - d)=x - d:=Aa aD;have c9:=Dn (v:=x - d) hx;simp (maxSteps:=10^6)+contextual(disch:=try exact dqd)only[ev0,simprocAttr,Ca,Bo,Cb,results90,digA,e5,e15,e16,e17,d2,d8,bg,hx',dd,hws,c9,Cw];exact IH (i+1,out.set i (x - d)) _ aF ⟨rfl,aE,hp.step hx hd,aB,aB,aB,aB,aB⟩
 ·have d2:decide ((i:Int)<((dig b).length:Int))=false:=aI
  have he:i=(dig b).length:=aA
  subst he;have yt:=J8.start hp hab;clear IH hp;simp (maxSteps:=10^6)+contextual(disch:=try exact dqd)only[ev0,simprocAttr,Ca,Bo,Cb,results90,digA,e5,e15,e16,e17,d2];refine loop1 (P:=prog) (fun x st=>st.T.length=56/\(x.1<=(dig a).length)/\(J8 (a - b) (dig a).length x.1 x.2)/\getT st.T 5=.sref 0 0 0 (dig a).length 1/\getT st.T 31=.int (dig a).length/\getT st.T 32=.int (x.1:Nat)/\st.S=[⟨0,x.2.map numC⟩]) (fun x=>(dig a).length - x.1) (fun x=>digA (dig (a - b))) (0,out) ?_ ?_;case refine_2=>exact ⟨rfl,Ci _,yt,rfl,rfl,rfl,rfl⟩
  rintro ⟨i,out⟩ ⟨T,S',tk',n'⟩ ⟨hl,hi,hp,e5,e31,e32,eS⟩ IH;simp only at hi hp e5 e31 e32 eS;subst eS;obtain ⟨g,hg,hT⟩:=Ap hl;rw [hg] at e5 e31 e32;subst hT;clear hg hl;clear hlen;have hlen:=hp.len;by_cases hlt:i<(dig a).length
  ·have d2:decide ((i:Int)<((dig a).length:Int))=true:=aI
   have bg:=Aw (i:=i) aA;obtain ⟨x,hx⟩:=Ab (show i<out.length by omega);have hx':=D6 hx;have hk:=hp.ok i x hx;by_cases hneg:x<0
   ·have d3:decide (x<0)=true:=bA
    have kq:=hp.room hx hneg;obtain ⟨y,hy⟩:=Ab (show i+1<(out.set i (x+10000)).length by rw [jJ]; omega);have eg:=D6 hy;have hyk:=hp.ok (i+1) y (by
     rcases B5 hy with ⟨e,-⟩|⟨-,hy⟩
     ·omega
     ·exact hy)
    have hy2:=hyk.2.2.2 aA;have wt:=hk.2.2.1 rfl;have hw1:B8.wrap (x+10000)=x+10000:=Aa aD;have hw2:B8.wrap (y - 1)=y - 1:=Aa aD;have c9:=Dn (v:=x+10000) hx;have yv:=Dn (v:=y - 1) hy;simp (maxSteps:=10^6)+contextual(disch:=try exact dqd)only[ev0,simprocAttr,Ca,Bo,Cb,results90,digA,e5,e31,e32,d2,d3,bg,hx',eg,hlt,kq,hw1,hw2,c9,yv,Cw];exact IH (i+1,(out.set i (x+10000)).set (i+1) (y - 1)) _ aF ⟨rfl,aE,hp.neg hx hneg hy,aB,aB,aB,aB⟩
   ·have d3:decide (x<0)=false:=aC
    simp (maxSteps:=10^6)+contextual(disch:=try exact dqd)only[ev0,simprocAttr,Ca,Bo,Cb,results90,digA,e5,e31,e32,d2,d3,bg,hx',hlt,Cw];exact IH (i+1,out) _ aF ⟨rfl,aE,hp.small hx aE,aB,aB,aB,aB⟩
  ·have d2:decide ((i:Int)<((dig a).length:Int))=false:=aI
   have he:i=(dig a).length:=aA
   subst he;have dn:=hp.done;have hT:=fun tk k=>Gc [⟨0,out.map numC⟩] tk k out 0 0 aA rfl;rw [hlen] at hT;have jo:=Td (m:=0) (id:=0) (ep:=0) (S:=[⟨0,out.map numC⟩]) (Ce _) rfl (G9 out);rw [<- Dl,dn] at jo;rw [dn] at hT;simp (maxSteps:=10^6)+contextual(disch:=try exact dqd)only[ev0,simprocAttr,Ca,Bo,Cb,results90,digA,e5,e31,e32,d2,hT,jo]
end
end
section
open Go Tryz
set_option maxRecDepth 100000
theorem Pd {l:List Int} {i:Nat} {x:Int} (h:okD l) (h0:0<=x) (h1:x<10000):okD (l.set i x):=fun d hd=>by
 rcases List.mem_or_eq_of_mem_set hd with hd|rfl
 ·exact h d hd
 ·exact ⟨h0,h1⟩
structure Mul1 (X Y i:Nat) (out:List Int):Prop where
 len:out.length=(dig X).length+(dig Y).length
 ok:okD out
 zero:∀ j x,i+(dig Y).length<=j->nth out j=some x->x=0
 eqv:val out+10000 ^ i*(val ((dig X).drop i)*Y)=X*Y
theorem Mul1.start (X Y:Nat):Mul1 X Y 0 (Cg ((dig X).length+(dig Y).length) 0):=by
 have hz:∀ (n j:Nat) (x:Int),nth (Cg n (0:Int)) j=some x->x=0:=fun n j x h=>by
  exact Ya3z
 refine ⟨by simp,Vu fun j x hx=>by rw [hz _ _ _ hx]; omega,fun j x _ hx=>hz _ _ _ hx,?_⟩;rw [Jk,Fz,Bq]; simp
structure Mul2 (X Y i k:Nat) (v d c:Int) (out:List Int):Prop where
 len:out.length=(dig X).length+(dig Y).length
 ok:okD out
 zero:∀ j x,i+(dig Y).length<=j->(k<=(dig Y).length\/i+(dig Y).length<j)->nth out j=some x->x=0
 c0:0<=c/\c<10000
 eqv:val out+10000 ^ (i+k)*(c+d*val ((dig Y).drop k))=v
theorem Mul2.start {X Y i:Nat} {d:Int} {out:List Int} (h:Mul1 X Y i out):Mul2 X Y i 0 (val out+10000 ^ i*(d*Y)) d 0 out :=
 ⟨h.len,h.ok,fun j x hj _ hx=>h.zero j x hj hx,aA,by rw [Fz,Bq]; simp⟩
theorem Mul2.step {X Y i k:Nat} {v d c x n:Int} {out:List Int} (h:Mul2 X Y i k v d c out) (hk:k<=(dig Y).length) (hd:0<=d/\d<10000) (hx:nth out (i+k)=some x) (hn:n=c+x+d*(nth (dig Y) k).getD 0) :
  Mul2 X Y i (k+1) v d (n.tdiv 10000) (out.set (i+k) (n.tmod 10000))/\0<=n/\n<=99999999/\n.tdiv 10000=n / 10000:=by
 have h1:=M5 Y k;have h2:=Bs h.ok hx;have h3:=h.c0;have vz:0<=d*(nth (dig Y) k).getD 0:=Ox hd.1 h1.1;have hp1:d*(nth (dig Y) k).getD 0<=9999*9999:=Int.mul_le_mul aA aA h1.1 aA;have e1:n.tdiv 10000=n / 10000:=Cz aA;have e2:n.tmod 10000=n % 10000:=Gm aA;refine ⟨⟨bS,Pd h.ok aA aA,fun j y hj hjk hy=>?_,aA,?_⟩,aA,aA,e1⟩
 ·rcases B5 hy with ⟨rfl,rfl⟩|⟨hne,hy⟩
  ·have hkk:k=(dig Y).length:=aA
   omega
  ·exact h.zero j y hj aA hy
 ·have hv:=h.eqv;rw [Ub (dig Y) k] at hv;have jy:d*((nth (dig Y) k).getD 0+10000*val ((dig Y).drop (k+1)))=d*(nth (dig Y) k).getD 0+10000*(d*val ((dig Y).drop (k+1))):=by
   rw [I1,Int.mul_left_comm]
  rw [jy] at hv;rw [Hz hx,iK,<- O4,Fy (n.tmod 10000 - x),Ki,<- hv];congr 2;omega
theorem Mul2.next {X Y i:Nat} {d c x:Int} {o out:List Int} (h:Mul2 X Y i (dig Y).length (val o+10000 ^ i*(d*Y)) d c out) (h0:Mul1 X Y i o) (hd:nth (dig X) i=some d) (hx:nth out (i+(dig Y).length)=some x):x=0/\Mul1 X Y (i+1) (out.set (i+(dig Y).length) (x+c)):=by
 have fh:=h.zero _ x (Ce _) (.inl (Ce _)) hx;subst fh;have h3:=h.c0;refine ⟨rfl,bS,Pd h.ok aA aA,fun j y hj hy=>?_,?_⟩
 ·rcases B5 hy with ⟨rfl,rfl⟩|⟨hne,hy⟩
  ·omega
  ·exact h.zero j y aA (.inl (Ce _)) hy
 ·have hv:=h.eqv;rw [Fp] at hv;simp only [val,Si,Sv] at hv;have ly:=h0.eqv;rw [Ax hd,val] at ly;rw [Hz hx,<- ly];have e1:(0:Int)+c - 0=c:=aA
  rw [e1,Fy c,hv,iK,Ki];congr 2;rw [Int.add_mul,H9]
theorem Mul2.last {X Y i k:Nat} {d c:Int} {o out:List Int} (h:Mul2 X Y i k (val o+10000 ^ i*(d*Y)) d c out) (hk:(dig Y).length<=k) (hc:c=0) (h0:Mul1 X Y i o) (hd:nth (dig X) i=some d):Mul1 X Y (i+1) out:=by
 refine ⟨h.len,h.ok,fun j y hj hy=>h.zero j y aA aA hy,?_⟩;have hv:=h.eqv;rw [Fm hk,hc] at hv;simp only [val,Si,Sv] at hv;have ly:=h0.eqv;rw [Ax hd,val] at ly;rw [<- ly,hv,iK,Ki];congr 2;rw [Int.add_mul,H9]
theorem Mul1.done {X Y:Nat} {out:List Int} (h:Mul1 X Y (dig X).length out):Dj out=dig (X*Y):=by
 have hv:=h.eqv;rw [Fp] at hv;simp only [val,Int.zero_mul,Si,Sv] at hv;rw [Dz h.ok,hv];congr 1
section
variable (S:List Ent) (tk:List Nat) (k:Nat)
def Wf (neg:Bool) (id ep n:Nat):AV:=if 200<n then .tup [.agg [.bool false,.frz [] .nilc],.bool false] else if n=0 then .tup [.agg [.bool false,.frz [] .nilc],.bool true] else .tup [.agg [.bool neg,.sref id ep 0 n 1],.bool true]
theorem Wr (neg:Bool) (id ep n:Nat) (hid:id<S.length):cL prog 91 [.bool neg,.sref id ep 0 n 1] S tk k=some (Wf neg id ep n,S,tk,k+1):=by
 refine opS func91 ntmps91 ?_;by_cases h1:200<n
 ·have d1:decide ((n:Int) > 200)=true:=aC
  simp (maxSteps:=10^6)+contextual(disch:=try exact dqd)only[evs0,simprocAttr,Ca,Bo,Cb,results91,d1];simp [Wf,h1]
 have d1:decide ((n:Int) > 200)=false:=aC
 by_cases h2:n=0
 ·have d2:((n:Int) == 0)=true:=aC
  simp (maxSteps:=10^6)+contextual(disch:=try exact dqd)only[evs0,simprocAttr,Ca,Bo,Cb,results91,d1,d2];simp [Wf,h2]
 ·have d2:((n:Int) == 0)=false:=aC
  simp (maxSteps:=10^6)+contextual(disch:=try exact dqd)only[evs0,simprocAttr,Ca,Bo,Cb,results91,d1,d2];simp [Wf,h1,h2]
theorem Acx {l:List Int} (h:l≠[]):l.length≠0:=fun h'=>h (C5.1 h')
theorem Atd (p q:Bool) (l r:List Int) (hl:l.length<=1000000) (hr:r.length<=1000000):cL prog 53 [bigA p l,bigA q r] S tk k=some (sgnF (p != q) (dig ((V p l).natAbs*(V q r).natAbs)),S,tk,k):=by
 have rr:=fun S tk k=>Jo S tk k p l .unk hl;have mi:=fun S tk k=>Jo S tk k q r .unk hr;have ha:=Wq p l;have hb:=Wq q r;generalize (V p l).natAbs=X at *;generalize (V q r).natAbs=Y at *;simp only [digA] at rr mi;refine opP func53 ntmps53 (hp3:=Ahc _ _) ?_;have hw:B8.wrap (((dig X).length:Int)+((dig Y).length:Int))=(((dig X).length+(dig Y).length:Nat):Int):=aP
 have mc:(A6 prog 58).bind (Ey prog)=some 8:=aK
 have gd:=Nx (P:=prog) (t:=58) (n:=(dig X).length+(dig Y).length) aT aT mc aA;simp (maxSteps:=10^6)+contextual(disch:=try exact dqd)only[ev0,simprocAttr,Ca,Bo,Cb,results53,bigA,digA,rr,mi,hw,gd];refine loop1 (P:=prog) (fun x st=>st.T.length=81/\(x.1<=(dig X).length)/\(Mul1 X Y x.1 x.2)/\getT st.T 2=.ref 0 0 0/\getT st.T 3=.ref 1 1 0/\getT st.T 4=.ref 2 2 0/\getT st.T 6=digA (dig X)/\getT st.T 7=digA (dig Y)/\getT st.T 8=.sref 3 3 0 ((dig X).length+(dig Y).length) 1/\getT st.T 24=digA (dig X)/\getT st.T 25=.int (dig X).length/\getT st.T 26=.int (x.1:Nat)/\st.S=[⟨0,[.bool p,digA l]⟩,⟨1,[.bool q,digA r]⟩,⟨2,[.bool false,.frz [] .nilc]⟩,⟨3,x.2.map numC⟩]) (fun x=>(dig X).length - x.1) (fun x=>sgnF (p != q) (dig (X*Y))) (0,Cg ((dig X).length+(dig Y).length) 0) ?_ ?_;case refine_2=>exact ⟨rfl,Ci _,Mul1.start X Y,rfl,rfl,rfl,rfl,rfl,rfl,rfl,rfl,rfl,rfl⟩
 rintro ⟨i,out⟩ ⟨T,S',tk',n'⟩ ⟨hl,hi,hp,e2,e3,e4,e6,e7,e8,e24,e25,e26,eS⟩ IH;simp only at hi hp e2 e3 e4 e6 e7 e8 e24 e25 e26 eS;subst eS;obtain ⟨g,hg,hT⟩:=Ap hl;rw [hg] at e2 e3 e4 e6 e7 e8 e24 e25 e26;subst hT;clear hg hl;have OUT:=IH;clear IH;have hlen:=hp.len;by_cases hlt:i<(dig X).length
 ·have d2:decide ((i:Int)<((dig X).length:Int))=true:=aI
  obtain ⟨d,hd⟩:=Ab hlt;have d8:=Bd hd;have lw:=Bs (A5 X) hd;have bg:=Aw (i:=i) aA;have ai:=Mul2.start (d:=d) hp;simp (maxSteps:=10^6)+contextual(disch:=try exact dqd)only[ev0,simprocAttr,Ca,Bo,Cb,results53,digA,e2,e3,e4,e6,e7,e8,e24,e25,e26,d2,d8];refine loop1 (P:=prog) (fun x st=>st.T.length=81/\(x.1<=(dig Y).length)/\(Mul2 X Y i x.1 (val out+10000 ^ i*(d*Y)) d x.2.1 x.2.2)/\getT st.T 2=.ref 0 0 0/\getT st.T 3=.ref 1 1 0/\getT st.T 4=.ref 2 2 0/\getT st.T 6=digA (dig X)/\getT st.T 7=digA (dig Y)/\getT st.T 8=.sref 3 3 0 ((dig X).length+(dig Y).length) 1/\getT st.T 9=.int (i:Nat)/\getT st.T 10=.int d/\getT st.T 11=.int x.2.1/\getT st.T 24=digA (dig X)/\getT st.T 25=.int (dig X).length/\getT st.T 26=.int (i:Nat)/\getT st.T 31=digA (dig Y)/\getT st.T 32=.int (dig Y).length/\getT st.T 33=.int (x.1:Nat)/\st.S=[⟨0,[.bool p,digA l]⟩,⟨1,[.bool q,digA r]⟩,⟨2,[.bool false,.frz [] .nilc]⟩,⟨3,x.2.2.map numC⟩]) (fun x=>(dig Y).length - x.1) (fun x=>sgnF (p != q) (dig (X*Y))) (0,0,out) ?_ ?_;case refine_2=>exact ⟨rfl,Ci _,ai,rfl,rfl,rfl,rfl,rfl,rfl,rfl,rfl,rfl,rfl,rfl,rfl,rfl,rfl,rfl,rfl⟩
  rintro ⟨m,c,o2⟩ ⟨T,S',tk',n'⟩ ⟨hl,hm,hq,e2,e3,e4,e6,e7,e8,e9,e10,e11,e24,e25,e26,e31,e32,e33,eS⟩ IH;simp only at hm hq e2 e3 e4 e6 e7 e8 e9 e10 e11 e24 e25 e26 e31 e32 e33 eS;subst eS;obtain ⟨g,hg,hT⟩:=Ap hl;rw [hg] at e2 e3 e4 e6 e7 e8 e9 e10 e11 e24 e25 e26 e31 e32 e33;subst hT;clear hg hl;have a2r:=hq.len;have hc0:=hq.c0;have j5:=Aw (i:=m) aA;have tm:B8.wrap ((i:Int)+(m:Int))=((i+m:Nat):Int):=aP
  by_cases cm:m<(dig Y).length
  ·have d3:decide ((m:Int)<((dig Y).length:Int))=true:=gL
   obtain ⟨y,hy⟩:=Ab cm;have eg:=Bd hy;obtain ⟨x,hx⟩:=Ab (show i+m<o2.length by omega);have hx':=D6 hx;have dd:i+m<(dig X).length+(dig Y).length:=aA
   obtain ⟨n,hn⟩:∃ n,n=c+x+d*(nth (dig Y) m).getD 0:=⟨_,rfl⟩;obtain ⟨hq2,ek,b7,bm⟩:=hq.step aA lw hx hn;rw [hy] at hn;simp only [Oi] at hn;have hxk:=Bs hq.ok hx;have hyk:=Bs (A5 Y) hy;have vz:0<=d*y:=Ox lw.1 hyk.1;have hw1:B8.wrap (d*y)=d*y:=Aa aD;have hw2:B8.wrap (x+d*y)=x+d*y:=Aa aD;have hw3:B8.wrap (c+(x+d*y))=n:=by rw [hn,Aa aD]; omega
   have po:B8.wrap (n.tdiv 10000)=n.tdiv 10000:=by rw [bm,Aa aD]
   have eo:¬ ((10000:Int)=0):=aA
   have c9:=Dn (v:=n.tmod 10000) hx;simp (maxSteps:=10^6)+contextual(disch:=try exact dqd)only[ev0,simprocAttr,Ca,Bo,Cb,results53,digA,e2,e3,e4,e6,e7,e8,e9,e10,e11,e24,e25,e26,e31,e32,e33,d3,eg,j5,tm,dd,hx',hw1,hw2,hw3,po,eo,c9,Cw];exact IH (m+1,n.tdiv 10000,o2.set (i+m) (n.tmod 10000)) _ aF ⟨rfl,aE,hq2,aB,aB,aB,aB,aB,aB,aB,aB,aB,aB,aB,aB,aB,aB,aB,aB⟩
  ·have d3:decide ((m:Int)<((dig Y).length:Int))=false:=gL
   have yw:m=(dig Y).length:=aA
   subst yw;have dd:i+(dig Y).length<(dig X).length+(dig Y).length:=aA
   obtain ⟨x,hx⟩:=Ab (show i+(dig Y).length<o2.length by omega);have hx':=D6 hx;obtain ⟨hxz,pp⟩:=hq.next hp hd hx
   have c9:=Dn (v:=x+c) hx;have hw1:B8.wrap (x+c)=x+c:=Aa aD;simp (maxSteps:=10^6)+contextual(disch:=try exact dqd)only[ev0,simprocAttr,Ca,Bo,Cb,results53,digA,e2,e3,e4,e6,e7,e8,e9,e10,e11,e24,e25,e26,e31,e32,e33,d3,bg,tm,dd,hx',c9,hw1,Cw];exact OUT (i+1,o2.set (i+(dig Y).length) (x+c)) _ aF ⟨rfl,aE,pp,aB,aB,aB,aB,aB,aB,aB,aB,aB,aB⟩
 ·have d2:decide ((i:Int)<((dig X).length:Int))=false:=aI
  have he:i=(dig X).length:=aA
  subst he;have dn:=hp.done;have hT:=fun tk k=>Gc [⟨0,[.bool p,digA l]⟩,⟨1,[.bool q,digA r]⟩,⟨2,[.bool false,.frz [] .nilc]⟩,⟨3,out.map numC⟩] tk k out 3 3 aA rfl;have hG:=fun tk k=>Wr [⟨0,[.bool p,digA l]⟩,⟨1,[.bool q,digA r]⟩,⟨2,[.bool false,.frz [] .nilc]⟩,⟨3,out.map numC⟩] tk k (!(p == q)) 3 3 (dig (X*Y)).length (by simp);have jo:=Td (m:=0) (id:=3) (ep:=3) (S:=[⟨0,[.bool p,digA l]⟩,⟨1,[.bool q,digA r]⟩,⟨2,[.bool (!(p == q)),.sref 3 3 0 (dig (X*Y)).length 1]⟩,⟨3,out.map numC⟩]) (Ci _) rfl (G9 out);rw [<- Dl,dn] at jo;rw [hlen,dn] at hT;simp only [digA] at jo hT hG;have dy:=Auw;have du:=Anx;by_cases h1:200<(dig (X*Y)).length
  ·simp only [Wf,h1,if_true] at hG;simp (maxSteps:=10^6)+contextual(disch:=try exact dqd)only[ev0,simprocAttr,Ca,Bo,Cb,results53,digA,e2,e3,e4,e6,e7,e8,e24,e25,e26,d2,hT,hG,dy.1,dy.2.1,dy.2.2,du.1,du.2.1,du.2.2];simp [sgnF,h1,bigA,digA,bne]
  ·by_cases h2:dig (X*Y)=[]
   ·simp only [Wf,h2,Cv,if_true,Nat.not_lt_zero,if_false] at hG hT;simp (maxSteps:=10^6)+contextual(disch:=try exact dqd)only[ev0,simprocAttr,Ca,Bo,Cb,results53,digA,e2,e3,e4,e6,e7,e8,e24,e25,e26,d2,hT,hG,dy.1,dy.2.1,dy.2.2,du.1,du.2.1,du.2.2];simp [sgnF,h2,bigA,digA,bne]
   ·simp only [Wf,h1,Acx h2,if_false] at hG;simp (maxSteps:=10^6)+contextual(disch:=try exact dqd)only[ev0,simprocAttr,Ca,Bo,Cb,results53,digA,e2,e3,e4,e6,e7,e8,e24,e25,e26,d2,hT,hG,dy.1,dy.2.1,dy.2.2,du.1,du.2.1,du.2.2,jo];simp [sgnF,h1,h2,bigA,digA,bne]
end
end
section
open Go
theorem V_bad {p:Bool} {l:List Int} (h:D1 p l=false):V p l=0:=by simp [V,h]
section
variable (S:List Ent) (tk:List Nat) (k:Nat)
theorem N2 {X Y m n:Nat} (ha:(dig X).length<=m) (hb:(dig Y).length<=n):(dig (X*Y)).length<=m+n:=by
 rw [A9] at ha hb ⊢;rw [Nat.pow_add];exact Nat.mul_lt_mul'' ha hb
end
end
section
open Go Tryz
def sg (p:Bool) (n:Nat):Int:=if p=true then -(n:Int) else n
def okZ (z:Int):Bool:=!decide (200<(dig z.natAbs).length)
def fitZ (z:Int):Int:=if okZ z=true then z else 0
def sgnZ (z:Int):AV:=.tup [zA (fitZ z),.bool (okZ z)]
theorem Au7:zA 0=bigA false []:=rfl
theorem Anv (p:Bool) (n:Nat):(sg p n).natAbs=n:=by unfold sg; split <;> omega
theorem Asi (p:Bool) (n:Nat):sgnF p (dig n)=sgnZ (sg p n):=by
 have ha:=Anv p n;unfold sgnF sgnZ fitZ okZ zA;rw [ha];by_cases h:200<(dig n).length
 ·simp [h,Bp]
 ·have e:decide (sg p n<0)=(p && !decide (dig n=[])):=by
   have h1:(dig n=[])↔n=0:=D4;cases p with
   | true =>
    simp only [sg,if_true,Fq];by_cases h0:n=0
    ·subst h0; simp [Bp]
    ·have h2:¬ dig n=[]:=fun h=>h0 (h1.1 h);simp [h2]; omega
   | false=>simp [sg]
  simp only [h,decide_false,Fu,if_true,if_false,ha,e]
theorem V_sg (p:Bool) (l:List Int):V p l=sg p (V p l).natAbs:=by
 unfold V;cases h:D1 p l with
 | false=>cases p <;> simp [sg]
 | true =>
  have h3:=El (J0 h).2.1;cases p <;> simp [sg] <;> omega
theorem Asa (p q:Bool) (X Y:Nat):sg (p != q) (X*Y)=sg p X*sg q Y:=by
 cases p <;> cases q <;> simp [sg,Rp,Int.mul_neg]
theorem Arv {p q:Bool} (h:p≠q) {X Y:Nat} (hl:Y<=X):sg p (X - Y)=sg p X+sg q Y:=by
 cases p <;> cases q <;> simp [sg] at h ⊢ <;> omega
theorem Avz {p q:Bool} (h:p≠q) {X Y:Nat} (hl:X<=Y):sg q (Y - X)=sg p X+sg q Y:=by
 cases p <;> cases q <;> simp [sg] at h ⊢ <;> omega
theorem Auc (z:Int):okZ (fitZ z)=true:=by
 unfold fitZ; split
 ·assumption
 ·rfl
theorem Af5 {z:Int} (h:okZ z=true):fitZ z=z:=by simp [fitZ,h]
def cmpZ (x y:Int):Int:=if x<y then -1 else if y<x then 1 else 0
section
variable (S:List Ent) (tk:List Nat) (k:Nat)
theorem K6 (neg:Bool) (n:Nat) (c:Cap):cL prog 91 [.bool neg,.frz ((dig n).map digC) c] S tk k=some (sgnZ (sg neg n),S,tk,k):=by
 rw [Ah1,Asi]
theorem Akm {l:List Int} (hl:l.length<=1000000) (tk:List Nat):apB (some 1) [] Cap.nilc (l.map digC) tk=some (.frz (l.map digC) (Ay tk Cap.nilc 1),Eh tk Cap.nilc):=by
 rw [apB_all rfl rfl (Df l) aC]; rfl
theorem Lb (X:Nat):decide (((dig X).length:Int) > 0)=!decide (X=0):=by
 by_cases h:X=0
 ·subst h; simp [Bp]
 ·have h2:¬ dig X=[]:=fun h'=>h (D4.1 h');rw [Pb h2]; simp [h]
end
end
section
open Go Tryz
set_option maxRecDepth 100000
section
variable (S:List Ent) (tk:List Nat) (k:Nat)
theorem Qt (a b:Nat) (ha:(dig a).length<=1000000) (hb:(dig b).length<=1000000):cL prog 233 [digA (dig a),digA (dig b)] S tk k=some (.int (cmpN a b),S,tk,k):=by
 refine opP func233 ntmps233 ?_;by_cases hl:(dig a).length=(dig b).length;case neg =>
  have d1:(((dig a).length:Int) != ((dig b).length:Int))=true:=aC
  rcases Ia (dig a).length (dig b).length with h|h
  ·have d2:decide (((dig a).length:Int)<((dig b).length:Int))=true:=aO
   have:=Hx h
   simp (maxSteps:=10^6)+contextual(disch:=try exact dqd)only[ev0,simprocAttr,Ca,Bo,Cb,results233,digA,d1,d2]
   simp [cmpN,this]
  ·have d2:decide (((dig a).length:Int)<((dig b).length:Int))=false:=aC
   have:=Hx (a:=b) (b:=a) aA
   simp (maxSteps:=10^6)+contextual(disch:=try exact dqd)only[ev0,simprocAttr,Ca,Bo,Cb,results233,digA,d1,d2]
   rw [cmpN,if_neg aA,if_pos this]
 have d1:(((dig a).length:Int) != ((dig b).length:Int))=false:=aC
 have d3:=E2 ha;simp (maxSteps:=10^6)+contextual(disch:=try exact dqd)only[ev0,simprocAttr,Ca,Bo,Cb,results233,digA,d1,d3];refine loop1 (P:=prog) (fun x st=>st.T.length=41/\(x<=(dig a).length)/\(∀ j,x<=j->nth (dig a) j=nth (dig b) j)/\getT st.T 0=digA (dig a)/\getT st.T 1=digA (dig b)/\getT st.T 5=.int ((x:Int) - 1)/\st.S=[]) (fun x=>x) (fun x=>.int (cmpN a b)) ((dig a).length) ?_ ?_;case refine_2=>exact ⟨rfl,Ce _,fun j hj=>by rw [Af,Af,C3 hj,C3 aA],rfl,rfl,rfl,rfl⟩
 rintro n ⟨T,S',tk',n'⟩ ⟨hl,hn,he,e0,e1,e5,eS⟩ IH;subst eS;obtain ⟨g,hg,hT⟩:=Ap hl;rw [hg] at e0 e1 e5;subst hT;clear hg hl;by_cases h0:n=0
 ·have d2:decide ((n:Int) - 1 >= 0)=false:=aC
  have:=Yn fun j=>he j aA;subst this;simp (maxSteps:=10^6)+contextual(disch:=try exact dqd)only[ev0,simprocAttr,Ca,Bo,Cb,results233,e0,e1,e5,d2,digA];simp [cmpN]
 ·have d2:decide ((n:Int) - 1 >= 0)=true:=aC
  have hi:(n:Int) - 1=((n - 1:Nat):Int):=aA
  obtain ⟨x,hx⟩:=Ab (show n - 1<(dig a).length by omega);obtain ⟨y,hy⟩:=Ab (show n - 1<(dig b).length by omega);have hx':=Bd hx;have eg:=Bd hy;have mf:∀ j,n - 1<j->nth (dig a) j=nth (dig b) j:=fun j hj=>he j aA;have hp:=E2 (n:=n - 1) aA;rw [hi] at e5 d2;by_cases iw:x=y
  ·have d4:(x != y)=false:=gN
   simp (maxSteps:=10^6)+contextual(disch:=try exact dqd)only[ev0,simprocAttr,Ca,Bo,Cb,results233,e0,e1,e5,d2,d4,digA,hx',eg,hp];exact Ya1r
  ·have d4:(x != y)=true:=gN
   by_cases h1:x<y
   ·have d5:decide (x<y)=true:=aY
    have:=Xf hl hx hy h1 mf;simp (maxSteps:=10^6)+contextual(disch:=try exact dqd)only[ev0,simprocAttr,Ca,Bo,Cb,results233,e0,e1,e5,d2,d4,d5,digA,hx',eg,hp];simp [cmpN,this]
   ·have d5:decide (x<y)=false:=aY
    have:=Xf hl.symm hy hx aA fun j hj=>(mf j hj).symm;simp (maxSteps:=10^6)+contextual(disch:=try exact dqd)only[ev0,simprocAttr,Ca,Bo,Cb,results233,e0,e1,e5,d2,d4,d5,digA,hx',eg,hp];rw [cmpN,if_neg aA,if_pos this]
theorem Acm (l:List Int) (id ep:Nat) (hlen:l.length<=1000000) (h:entAt S id ep=some (l.map numC)):cL prog 234 [.sref id ep 0 l.length 1] S tk k=some (.sref id ep 0 (Dj l).length 1,S,tk,k):=by
 refine opS func234 ntmps234 ?_;have hid:id<S.length:=by
  exact Ya46
 simp (maxSteps:=10^6)+contextual(disch:=try exact dqd)only[evs0,simprocAttr,Ca,Bo,Cb,results234];refine Vq (P:=prog) (fun x st=>st.T.length=21/\(x<=l.length)/\(∀ j,x<=j->∀ x,nth l j=some x->x=0)/\getT st.T 0=.sref id ep 0 x 1/\st.S=S/\st.tk=tk/\st.n=k) (fun x=>x) (fun x=>(.sref id ep 0 (Dj l).length 1,S,tk,k)) (l.length) ?_ ?_;case refine_2=>exact ⟨rfl,Ce _,K9 l,rfl,rfl,rfl,rfl⟩
 rintro n ⟨T,S',tk',n'⟩ ⟨hl,hn,hz,e0,eS,eT,eN⟩ IH;subst eS eT eN;obtain ⟨g,hg,hT⟩:=Ap hl;rw [hg] at e0;subst hT;clear hg hl;by_cases h0:n=0
 ·have d1:decide ((n:Int) > 0)=false:=aC
  have ht:=Ed hn hz (.inl h0);simp (maxSteps:=10^6)+contextual(disch:=try exact dqd)only[evs0,simprocAttr,Ca,Bo,Cb,results234,e0,d1];rw [ht]; simp [h0]
 ·have d1:decide ((n:Int) > 0)=true:=aC
  have hp:=Ni h0 aA;have b7:n - 1<l.length:=aA
  have bm:n - 1<n:=aA
  have cl:n - 1<=n:=aA
  obtain ⟨x,hx⟩:=Ab b7;have hx':=D6 hx;by_cases fh:x=0
  ·have d2:(x == 0)=true:=bU
   simp (maxSteps:=10^6)+contextual(disch:=try exact dqd)only[evs0,simprocAttr,Ca,Bo,Cb,results234,e0,d1,d2,hp,hx',h,b7,bm,cl,Cw,Gw,bound,intN_cast,Ce,Ci,Oh,jV,Ie];exact Ya2q
  ·have d2:(x == 0)=false:=bU
   have ht:=Ed hn hz (.inr ⟨x,hx,fh⟩);simp (maxSteps:=10^6)+contextual(disch:=try exact dqd)only[evs0,simprocAttr,Ca,Bo,Cb,results234,e0,d1,d2,hp,hx',h,b7,bm,Cw,Gw,bound,intN_cast,hn,Ce,Ci,Oh,jV,Ie];rw [ht]; simp; omega
theorem V6 (X Y:Nat) (ha:(dig X).length<=100000) (hb:(dig Y).length<=100000):cL prog 236 [digA (dig X),digA (dig Y)] S tk k=some (digA (dig (X*Y)),S,tk,k):=by
 refine opP func236 ntmps236 ?_;have hw:B8.wrap (((dig X).length:Int)+((dig Y).length:Int))=(((dig X).length+(dig Y).length:Nat):Int):=aP
 have mc:(A6 prog 58).bind (Ey prog)=some 8:=aK
 have gd:=Nx (P:=prog) (t:=58) (n:=(dig X).length+(dig Y).length) aT aT mc aA;simp (maxSteps:=10^6)+contextual(disch:=try exact dqd)only[ev0,simprocAttr,Ca,Bo,Cb,results236,digA,hw,gd];refine loop1 (P:=prog) (fun x st=>st.T.length=67/\(x.1<=(dig X).length)/\(Mul1 X Y x.1 x.2)/\getT st.T 0=digA (dig X)/\getT st.T 1=digA (dig Y)/\getT st.T 5=.sref 0 0 0 ((dig X).length+(dig Y).length) 1/\getT st.T 18=digA (dig X)/\getT st.T 19=.int (dig X).length/\getT st.T 20=.int (x.1:Nat)/\st.S=[⟨0,x.2.map numC⟩]) (fun x=>(dig X).length - x.1) (fun x=>digA (dig (X*Y))) (0,Cg ((dig X).length+(dig Y).length) 0) ?_ ?_;case refine_2=>exact ⟨rfl,Ci _,Mul1.start X Y,rfl,rfl,rfl,rfl,rfl,rfl,rfl⟩
 rintro ⟨i,out⟩ ⟨T,S',tk',n'⟩ ⟨hl,hi,hp,e0,e1,e5,e18,e19,e20,eS⟩ IH;simp only at hi hp e0 e1 e5 e18 e19 e20 eS;subst eS;obtain ⟨g,hg,hT⟩:=Ap hl;rw [hg] at e0 e1 e5 e18 e19 e20;subst hT;clear hg hl;have OUT:=IH;clear IH;have hlen:=hp.len;by_cases hlt:i<(dig X).length
 ·have d2:decide ((i:Int)<((dig X).length:Int))=true:=aI
  obtain ⟨d,hd⟩:=Ab hlt;have d8:=Bd hd;have lw:=Bs (A5 X) hd;have bg:=Aw (i:=i) aA;have ai:=Mul2.start (d:=d) hp;simp (maxSteps:=10^6)+contextual(disch:=try exact dqd)only[ev0,simprocAttr,Ca,Bo,Cb,results236,digA,e0,e1,e5,e18,e19,e20,d2,d8];refine loop1 (P:=prog) (fun x st=>st.T.length=67/\(x.1<=(dig Y).length)/\(Mul2 X Y i x.1 (val out+10000 ^ i*(d*Y)) d x.2.1 x.2.2)/\getT st.T 0=digA (dig X)/\getT st.T 1=digA (dig Y)/\getT st.T 5=.sref 0 0 0 ((dig X).length+(dig Y).length) 1/\getT st.T 6=.int (i:Nat)/\getT st.T 7=.int d/\getT st.T 8=.int x.2.1/\getT st.T 18=digA (dig X)/\getT st.T 19=.int (dig X).length/\getT st.T 20=.int (i:Nat)/\getT st.T 25=digA (dig Y)/\getT st.T 26=.int (dig Y).length/\getT st.T 27=.int (x.1:Nat)/\st.S=[⟨0,x.2.2.map numC⟩]) (fun x=>(dig Y).length - x.1) (fun x=>digA (dig (X*Y))) (0,0,out) ?_ ?_;case refine_2=>exact ⟨rfl,Ci _,ai,rfl,rfl,rfl,rfl,rfl,rfl,rfl,rfl,rfl,rfl,rfl,rfl,rfl⟩
  rintro ⟨m,c,o2⟩ ⟨T,S',tk',n'⟩ ⟨hl,hm,hq,e0,e1,e5,e6,e7,e8,e18,e19,e20,e25,e26,e27,eS⟩ IH;simp only at hm hq e0 e1 e5 e6 e7 e8 e18 e19 e20 e25 e26 e27 eS;subst eS;obtain ⟨g,hg,hT⟩:=Ap hl;rw [hg] at e0 e1 e5 e6 e7 e8 e18 e19 e20 e25 e26 e27;subst hT;clear hg hl;have a2r:=hq.len;have hc0:=hq.c0;have j5:=Aw (i:=m) aA;obtain ⟨x,hx⟩:=Ab (show i+m<o2.length by omega);have hx':=D6 hx;have dd:i+m<(dig X).length+(dig Y).length:=aA
  have tm:B8.wrap ((i:Int)+(m:Int))=((i+m:Nat):Int):=aP
  have hxk:=Bs hq.ok hx;by_cases cm:m<(dig Y).length
  ·have d3:decide ((m:Int)<((dig Y).length:Int))=true:=gL
   obtain ⟨y,hy⟩:=Ab cm;have eg:=Bd hy;have hyk:=Bs (A5 Y) hy;obtain ⟨n,hn⟩:∃ n,n=c+x+d*y:=⟨_,rfl⟩;obtain ⟨hq2,ek,b7,bm⟩:=hq.step (n:=n) aA lw hx (by rw [hn,hy]; rfl);have vz:0<=d*y:=Ox lw.1 hyk.1;have hw1:B8.wrap (d*y)=d*y:=Aa aD;have hw2:B8.wrap (x+d*y)=x+d*y:=Aa aD;have hw3:B8.wrap (x+d*y+c)=n:=by rw [hn,Aa aD]; omega
   have po:B8.wrap (n.tdiv 10000)=n.tdiv 10000:=by rw [bm,Aa aD]
   have eo:¬ ((10000:Int)=0):=aA
   have c9:=Dn (v:=n.tmod 10000) hx;simp (maxSteps:=10^6)+contextual(disch:=try exact dqd)only[ev0,simprocAttr,Ca,Bo,Cb,results236,digA,e0,e1,e5,e6,e7,e8,e18,e19,e20,e25,e26,e27,d3,eg,j5,tm,dd,hx',hw1,hw2,hw3,po,eo,c9,Cw];exact IH (m+1,n.tdiv 10000,o2.set (i+m) (n.tmod 10000)) _ aF ⟨rfl,aE,hq2,aB,aB,aB,aB,aB,aB,aB,aB,aB,aB,aB,aB,aB⟩
  ·have d3:decide ((m:Int)<((dig Y).length:Int))=false:=gL
   have yw:m=(dig Y).length:=aA
   subst yw;obtain ⟨-,ot⟩:=hq.next hp hd hx
   have hw4:B8.wrap (x+c)=x+c:=Aa aD;have c9:=Dn (v:=x+c) hx;simp (maxSteps:=10^6)+contextual(disch:=try exact dqd)only[ev0,simprocAttr,Ca,Bo,Cb,results236,digA,e0,e1,e5,e6,e7,e8,e18,e19,e20,e25,e26,e27,d3,bg,tm,dd,hx',hw4,c9,Cw];exact OUT (i+1,o2.set (i+(dig Y).length) (x+c)) _ aF ⟨rfl,aE,ot,aB,aB,aB,aB,aB,aB,aB⟩
 ·have d2:decide ((i:Int)<((dig X).length:Int))=false:=aI
  have he:i=(dig X).length:=aA
  subst he;have dn:=hp.done;have hT:=Acm [⟨0,out.map numC⟩] tk' n' out 0 0 aA rfl;rw [hlen] at hT;rw [dn] at hT;simp (maxSteps:=10^6)+contextual(disch:=try exact dqd)only[ev0,simprocAttr,Ca,Bo,Cb,results236,digA,e0,e1,e5,e18,e19,e20,d2,hT];have dk:Ms (Jc 1 (dig (X*Y)).length (out.map numC))=.frz ((dig (X*Y)).map digC) .unk:=by
   rw [<- dn,Rz (G9 out),R0,<- Dl]
  rw [dk]
end
end
end Go.Proofs.YthelkgdmgihhiaaGreat
