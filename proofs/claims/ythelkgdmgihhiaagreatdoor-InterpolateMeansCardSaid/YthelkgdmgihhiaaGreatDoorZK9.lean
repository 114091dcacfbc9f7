/- Part 9. -/
import Derived.Test.YthelkgdmgihhiaaGreatDoorZK8
import Derived.Test.YthelkgdmgihhiaaGreatDoorChecked
import Derived.IntWalk
namespace Go.Proofs.YthelkgdmgihhiaaGreatDoor
section
theorem mixed:Tryz.prog.follows .mixedOrders=true:=by kernel_rfl
set_option maxRecDepth 100000 in
theorem tys :
  szOf Tryz.prog 1=some 1 /\
  aggT Tryz.prog 1=some false /\
  Ae Tryz.prog 1=some [.prim .nilFunc] /\
  Aj Tryz.prog 1=false /\
  szOf Tryz.prog 2=some 1 /\
  aggT Tryz.prog 2=some false /\
  Ae Tryz.prog 2=some [.prim (.int .i64 0)] /\
  Ef Tryz.prog 2=some .i64 /\
  Aj Tryz.prog 2=false /\
  szOf Tryz.prog 3=some 1 /\
  aggT Tryz.prog 3=some false /\
  Ae Tryz.prog 3=some [.prim (.int .i64 0)] /\
  Ef Tryz.prog 3=some .i64 /\
  Aj Tryz.prog 3=false /\
  szOf Tryz.prog 4=some 1 /\
  aggT Tryz.prog 4=some false /\
  Ae Tryz.prog 4=some [.prim (.bool false)] /\
  Aj Tryz.prog 4=false /\
  Zr Tryz.prog 4=true /\
  szOf Tryz.prog 5=some 1 /\
  aggT Tryz.prog 5=some false /\
  Ae Tryz.prog 5=some [.prim (.int .u8 0)] /\
  Ef Tryz.prog 5=some .u8 /\
  Aj Tryz.prog 5=false /\
  szOf Tryz.prog 9=some 1 /\
  aggT Tryz.prog 9=some false /\
  Ae Tryz.prog 9=some [.prim (.string ⟨#[]⟩)] /\
  Aj Tryz.prog 9=true /\
  szOf Tryz.prog 12=some 1 /\
  aggT Tryz.prog 12=some false /\
  Ae Tryz.prog 12=some [.prim (.int .u64 0)] /\
  Ef Tryz.prog 12=some .u64 /\
  Aj Tryz.prog 12=false /\
  szOf Tryz.prog 20=some 1 /\
  aggT Tryz.prog 20=some false /\
  Ae Tryz.prog 20=some [.prim .nilIface] /\
  Aj Tryz.prog 20=false /\
  szOf Tryz.prog 21=some 1 /\
  aggT Tryz.prog 21=some false /\
  Ae Tryz.prog 21=some [.prim (.int .i32 0)] /\
  Ef Tryz.prog 21=some .i32 /\
  Aj Tryz.prog 21=false /\
  szOf Tryz.prog 22=some 1 /\
  aggT Tryz.prog 22=some false /\
  Ae Tryz.prog 22=some [.frz [] .nilc] /\
  Au Tryz.prog 22=some 45 /\
  apT Tryz.prog 22=some 2 /\
  Aj Tryz.prog 22=false /\
  szOf Tryz.prog 23=some 2 /\
  aggT Tryz.prog 23=some true /\
  Ae Tryz.prog 23=some [.frz [] .nilc,.prim (.int .i64 0)] /\
  Aj Tryz.prog 23=false /\
  Aw Tryz.prog 23 0=some (0,1,false) /\
  Aw Tryz.prog 23 1=some (1,1,false) /\
  fieldsOf Tryz.prog 23=some [(0,1),(1,1)] /\
  szOf Tryz.prog 24=some 2 /\
  aggT Tryz.prog 24=some true /\
  Ae Tryz.prog 24=some [.frz [] .nilc,.prim (.int .i64 0)] /\
  Aj Tryz.prog 24=false /\
  Aw Tryz.prog 24 0=some (0,1,false) /\
  Aw Tryz.prog 24 1=some (1,1,false) /\
  fieldsOf Tryz.prog 24=some [(0,1),(1,1)] /\
  szOf Tryz.prog 25=some 3 /\
  aggT Tryz.prog 25=some true /\
  Ae Tryz.prog 25=some [.frz [] .nilc,.prim (.int .i64 0),.prim (.bool false)] /\
  Aj Tryz.prog 25=false /\
  Aw Tryz.prog 25 0=some (0,2,true) /\
  Aw Tryz.prog 25 1=some (2,1,false) /\
  fieldsOf Tryz.prog 25=some [(0,2),(2,1)] /\
  szOf Tryz.prog 26=some 3 /\
  aggT Tryz.prog 26=some true /\
  Ae Tryz.prog 26=some [.frz [] .nilc,.prim (.int .i64 0),.prim (.bool false)] /\
  Aj Tryz.prog 26=false /\
  Aw Tryz.prog 26 0=some (0,2,true) /\
  Aw Tryz.prog 26 1=some (2,1,false) /\
  fieldsOf Tryz.prog 26=some [(0,2),(2,1)] /\
  szOf Tryz.prog 27=some 1 /\
  aggT Tryz.prog 27=some false /\
  Ae Tryz.prog 27=some [.frz [] .nilc] /\
  Au Tryz.prog 27=some 45 /\
  apT Tryz.prog 27=some 2 /\
  Aj Tryz.prog 27=false /\
  szOf Tryz.prog 28=some 1 /\
  aggT Tryz.prog 28=some false /\
  Ae Tryz.prog 28=some [.prim .nilFunc] /\
  Aj Tryz.prog 28=false /\
  szOf Tryz.prog 29=some 1 /\
  aggT Tryz.prog 29=some false /\
  Ae Tryz.prog 29=some [.frz [] .nilc] /\
  Au Tryz.prog 29=some 26 /\
  apT Tryz.prog 29=some 3 /\
  Aj Tryz.prog 29=false /\
  szOf Tryz.prog 30=some 1 /\
  aggT Tryz.prog 30=some false /\
  Ae Tryz.prog 30=some [.prim (.int .i64 0)] /\
  Ef Tryz.prog 30=some .i64 /\
  Aj Tryz.prog 30=false /\
  szOf Tryz.prog 31=some 1 /\
  aggT Tryz.prog 31=some false /\
  Ae Tryz.prog 31=some [.prim .nilFunc] /\
  Aj Tryz.prog 31=false /\
  szOf Tryz.prog 32=some 1 /\
  aggT Tryz.prog 32=some false /\
  Ae Tryz.prog 32=some [.prim .nilFunc] /\
  Aj Tryz.prog 32=false /\
  szOf Tryz.prog 33=some 1 /\
  aggT Tryz.prog 33=some false /\
  Ae Tryz.prog 33=some [.prim (.int .i64 0)] /\
  Ef Tryz.prog 33=some .i64 /\
  Aj Tryz.prog 33=false /\
  szOf Tryz.prog 34=some 1 /\
  aggT Tryz.prog 34=some false /\
  Ae Tryz.prog 34=some [.frz [] .nilc] /\
  Au Tryz.prog 34=some 36 /\
  apT Tryz.prog 34=some 4 /\
  Aj Tryz.prog 34=false /\
  szOf Tryz.prog 35=some 4 /\
  aggT Tryz.prog 35=some true /\
  Ae Tryz.prog 35=some [.prim (.int .i64 0),.prim (.string ⟨#[]⟩),.prim (.int .i64 0),.frz [] .nilc] /\
  Aj Tryz.prog 35=false /\
  Aw Tryz.prog 35 0=some (0,1,false) /\
  Aw Tryz.prog 35 1=some (1,1,false) /\
  Aw Tryz.prog 35 2=some (2,1,false) /\
  Aw Tryz.prog 35 3=some (3,1,false) /\
  fieldsOf Tryz.prog 35=some [(0,1),(1,1),(2,1),(3,1)] /\
  szOf Tryz.prog 36=some 4 /\
  aggT Tryz.prog 36=some true /\
  Ae Tryz.prog 36=some [.prim (.int .i64 0),.prim (.string ⟨#[]⟩),.prim (.int .i64 0),.frz [] .nilc] /\
  Aj Tryz.prog 36=false /\
  Aw Tryz.prog 36 0=some (0,1,false) /\
  Aw Tryz.prog 36 1=some (1,1,false) /\
  Aw Tryz.prog 36 2=some (2,1,false) /\
  Aw Tryz.prog 36 3=some (3,1,false) /\
  fieldsOf Tryz.prog 36=some [(0,1),(1,1),(2,1),(3,1)] /\
  szOf Tryz.prog 37=some 1 /\
  aggT Tryz.prog 37=some false /\
  Ae Tryz.prog 37=some [.prim .nilFunc] /\
  Aj Tryz.prog 37=false /\
  szOf Tryz.prog 39=some 1 /\
  aggT Tryz.prog 39=some false /\
  Ae Tryz.prog 39=some [.prim .nilFunc] /\
  Aj Tryz.prog 39=false /\
  szOf Tryz.prog 40=some 1 /\
  aggT Tryz.prog 40=some false /\
  Ae Tryz.prog 40=some [.prim .nilFunc] /\
  Aj Tryz.prog 40=false /\
  szOf Tryz.prog 41=some 1 /\
  aggT Tryz.prog 41=some false /\
  Ae Tryz.prog 41=some [.prim .nilFunc] /\
  Aj Tryz.prog 41=false /\
  szOf Tryz.prog 42=some 1 /\
  aggT Tryz.prog 42=some false /\
  Ae Tryz.prog 42=some [.prim .nilFunc] /\
  Aj Tryz.prog 42=false /\
  szOf Tryz.prog 45=some 2 /\
  aggT Tryz.prog 45=some true /\
  Ae Tryz.prog 45=some [.prim (.string ⟨#[]⟩),.prim (.int .i64 0)] /\
  Aj Tryz.prog 45=false /\
  Aw Tryz.prog 45 0=some (0,1,false) /\
  Aw Tryz.prog 45 1=some (1,1,false) /\
  fieldsOf Tryz.prog 45=some [(0,1),(1,1)] /\
  Ace Tryz.prog 45=some [2,1] /\
  szOf Tryz.prog 50=some 1 /\
  aggT Tryz.prog 50=some false /\
  Ae Tryz.prog 50=some [.frz [] .nilc] /\
  Au Tryz.prog 50=some 9 /\
  apT Tryz.prog 50=some 1 /\
  Aj Tryz.prog 50=false /\
  szOf Tryz.prog 58=some 1 /\
  aggT Tryz.prog 58=some false /\
  Ae Tryz.prog 58=some [.frz [] .nilc] /\
  Au Tryz.prog 58=some 170 /\
  Aj Tryz.prog 58=false /\
  szOf Tryz.prog 59=some 1 /\
  aggT Tryz.prog 59=some false /\
  Ae Tryz.prog 59=some [.prim .nilFunc] /\
  Aj Tryz.prog 59=false /\
  szOf Tryz.prog 67=some 1 /\
  aggT Tryz.prog 67=some false /\
  Ae Tryz.prog 67=some [.prim .nilFunc] /\
  Aj Tryz.prog 67=false /\
  szOf Tryz.prog 69=some 1 /\
  aggT Tryz.prog 69=some false /\
  Ae Tryz.prog 69=some [.frz [] .nilc] /\
  Au Tryz.prog 69=some 3 /\
  apT Tryz.prog 69=some 1 /\
  Aj Tryz.prog 69=false /\
  szOf Tryz.prog 70=some 2 /\
  aggT Tryz.prog 70=some true /\
  Ae Tryz.prog 70=some [.prim (.bool false),.frz [] .nilc] /\
  Aj Tryz.prog 70=false /\
  Aw Tryz.prog 70 0=some (0,1,false) /\
  Aw Tryz.prog 70 1=some (1,1,false) /\
  fieldsOf Tryz.prog 70=some [(0,1),(1,1)] /\
  szOf Tryz.prog 73=some 1 /\
  aggT Tryz.prog 73=some false /\
  Ae Tryz.prog 73=some [.prim .nilFunc] /\
  Aj Tryz.prog 73=false /\
  szOf Tryz.prog 82=some 1 /\
  aggT Tryz.prog 82=some false /\
  Ae Tryz.prog 82=some [.prim .nilFunc] /\
  Aj Tryz.prog 82=false /\
  szOf Tryz.prog 86=some 2 /\
  aggT Tryz.prog 86=some true /\
  Ae Tryz.prog 86=some [.frz [] .nilc,.frz [] .nilc] /\
  Aj Tryz.prog 86=false /\
  Aw Tryz.prog 86 0=some (0,1,false) /\
  Aw Tryz.prog 86 1=some (1,1,false) /\
  fieldsOf Tryz.prog 86=some [(0,1),(1,1)] /\
  szOf Tryz.prog 97=some 1 /\
  aggT Tryz.prog 97=some false /\
  Ae Tryz.prog 97=some [.prim .nilFunc] /\
  Aj Tryz.prog 97=false /\
  szOf Tryz.prog 98=some 1 /\
  aggT Tryz.prog 98=some false /\
  Ae Tryz.prog 98=some [.prim .nilFunc] /\
  Aj Tryz.prog 98=false /\
  szOf Tryz.prog 100=some 1 /\
  aggT Tryz.prog 100=some false /\
  Ae Tryz.prog 100=some [.prim .nilFunc] /\
  Aj Tryz.prog 100=false /\
  szOf Tryz.prog 101=some 1 /\
  aggT Tryz.prog 101=some false /\
  Ae Tryz.prog 101=some [.prim .nilFunc] /\
  Aj Tryz.prog 101=false /\
  szOf Tryz.prog 102=some 1 /\
  aggT Tryz.prog 102=some false /\
  Ae Tryz.prog 102=some [.prim .nilFunc] /\
  Aj Tryz.prog 102=false /\
  szOf Tryz.prog 104=some 1 /\
  aggT Tryz.prog 104=some false /\
  Ae Tryz.prog 104=some [.prim .nilFunc] /\
  Aj Tryz.prog 104=false /\
  szOf Tryz.prog 105=some 1 /\
  aggT Tryz.prog 105=some false /\
  Ae Tryz.prog 105=some [.prim .nilFunc] /\
  Aj Tryz.prog 105=false /\
  szOf Tryz.prog 108=some 1 /\
  aggT Tryz.prog 108=some false /\
  Ae Tryz.prog 108=some [.prim .nilFunc] /\
  Aj Tryz.prog 108=false /\
  szOf Tryz.prog 109=some 1 /\
  aggT Tryz.prog 109=some false /\
  Ae Tryz.prog 109=some [.prim .nilFunc] /\
  Aj Tryz.prog 109=false /\
  szOf Tryz.prog 110=some 1 /\
  aggT Tryz.prog 110=some false /\
  Ae Tryz.prog 110=some [.prim .nilFunc] /\
  Aj Tryz.prog 110=false /\
  szOf Tryz.prog 111=some 1 /\
  aggT Tryz.prog 111=some false /\
  Ae Tryz.prog 111=some [.prim .nilFunc] /\
  Aj Tryz.prog 111=false /\
  szOf Tryz.prog 113=some 1 /\
  aggT Tryz.prog 113=some false /\
  Ae Tryz.prog 113=some [.prim .nilFunc] /\
  Aj Tryz.prog 113=false /\
  szOf Tryz.prog 114=some 1 /\
  aggT Tryz.prog 114=some false /\
  Ae Tryz.prog 114=some [.prim .nilFunc] /\
  Aj Tryz.prog 114=false /\
  szOf Tryz.prog 115=some 1 /\
  aggT Tryz.prog 115=some false /\
  Ae Tryz.prog 115=some [.prim .nilFunc] /\
  Aj Tryz.prog 115=false /\
  szOf Tryz.prog 116=some 1 /\
  aggT Tryz.prog 116=some false /\
  Ae Tryz.prog 116=some [.prim .nilFunc] /\
  Aj Tryz.prog 116=false /\
  szOf Tryz.prog 118=some 1 /\
  aggT Tryz.prog 118=some false /\
  Ae Tryz.prog 118=some [.prim .nilFunc] /\
  Aj Tryz.prog 118=false /\
  szOf Tryz.prog 119=some 1 /\
  aggT Tryz.prog 119=some false /\
  Ae Tryz.prog 119=some [.prim .nilFunc] /\
  Aj Tryz.prog 119=false /\
  szOf Tryz.prog 131=some 1 /\
  aggT Tryz.prog 131=some false /\
  Ae Tryz.prog 131=some [.prim .nilFunc] /\
  Aj Tryz.prog 131=false /\
  szOf Tryz.prog 170=some 3 /\
  aggT Tryz.prog 170=some true /\
  Ae Tryz.prog 170=some [.prim (.string ⟨#[]⟩),.frz [] .nilc,.prim (.int .i64 0)] /\
  Aj Tryz.prog 170=false /\
  Aw Tryz.prog 170 0=some (0,1,false) /\
  Aw Tryz.prog 170 1=some (1,1,false) /\
  Aw Tryz.prog 170 2=some (2,1,false) /\
  fieldsOf Tryz.prog 170=some [(0,1),(1,1),(2,1)] /\
  szOf Tryz.prog 236=some 42 /\
  aggT Tryz.prog 236=some true /\
  Yq Tryz.prog 236=some (42,1) /\
  Aj Tryz.prog 236=false :=
 by and_intros <;> kernel_rfl
def val:List Int->Int
 | []=>0
 | d :: r=>d+10000*val r
def digN:Nat->Nat->List Int
 | 0,_=>[]
 | f+1,n=>if n=0 then [] else ((n % 10000:Nat):Int) :: digN f (n / 10000)
def dig (n:Nat):List Int:=digN n n
def okD (l:List Int):Prop:=∀ d ∈ l,0<=d/\d<10000
theorem Rc:∀ {f g n:Nat},n<=f->n<=g->digN f n=digN g n
 | 0,0,_,_,_=>rfl
 | 0,g+1,n,h,_=>by
   have:n=0:=by omega
   subst this; simp [digN]
 | f+1,0,n,_,h=>by
   have:n=0:=by omega
   subst this; simp [digN]
 | f+1,g+1,n,h1,h2=>by
  simp only [digN]
  by_cases h:n=0
  ·simp [h]
  ·rw [if_neg h,if_neg h,Rc (f:=f) (g:=g) (n:=n / 10000) (by omega) (by omega)]
theorem Gj:dig 0=[]:=rfl
theorem Hp {n:Nat} (h:n≠0):dig n=((n % 10000:Nat):Int) :: dig (n / 10000):=by
 unfold dig
 cases n with
 | zero=>exact absurd rfl h
 | succ n =>
  rw [digN,if_neg h]
  congr 1
  exact Rc (by omega) (Nat.le_refl _)
theorem Dr (n:Nat):val (dig n)=n:=by
 induction n using Nat.strongRecOn with
 | _ n ih =>
  by_cases h:n=0
  ·subst h; rfl
  ·rw [Hp h,val,ih (n / 10000) (by omega)]; omega
theorem Dp (n:Nat):okD (dig n):=by
 induction n using Nat.strongRecOn with
 | _ n ih =>
  by_cases h:n=0
  ·subst h; intro d hd; simp [Gj] at hd
  ·rw [Hp h]
   intro d hd
   rcases List.mem_cons.1 hd with rfl|hd
   ·omega
   ·exact ih (n / 10000) (by omega) d hd
theorem T2 {d:Int} (h0:0<d) (h1:d<10000):dig d.toNat=[d]:=by
 rw [Hp (by omega)]
 have e1:d.toNat % 10000=d.toNat:=Nat.mod_eq_of_lt (by omega)
 have e2:d.toNat / 10000=0:=by omega
 rw [e1,e2,Gj]
 congr 1; omega
theorem Hy:∀ {l:List Int},okD l->0<=val l
 | [],_=>by simp [val]
 | d :: r,h=>by
  have h1:=h d (by simp)
  have h2:=Hy (l:=r) fun x hx=>h x (by simp [hx])
  simp only [val]; omega
def Bo:List Int->List Int
 | []=>[]
 | d :: r=>if Bo r=[]/\d=0 then [] else d :: Bo r
theorem Y4 {n:Nat} : dig n=[]↔n=0:=by
 constructor
 ·intro h
  by_cases h0:n=0
  ·exact h0
  ·rw [Hp h0] at h; simp at h
 ·rintro rfl; rfl
theorem D9:∀ {l:List Int},okD l->Bo l=dig (val l).toNat
 | [],_=>rfl
 | d :: r,h=>by
  have h1:=h d (by simp)
  have hr:okD r:=fun x hx=>h x (by simp [hx])
  have h2:=Hy hr
  rw [Bo,D9 hr]
  simp only [val]
  by_cases hv:val r=0
  ·by_cases hd:d=0
   ·rw [if_pos ⟨by rw [hv]; rfl,hd⟩,hv,hd]; rfl
   ·rw [if_neg (fun h=>hd h.2),hv]
    have e:(d+10000*0).toNat=d.toNat:=by omega
    rw [e,T2 (by omega) h1.2]; rfl
  ·have hn:¬ (val r).toNat=0:=by omega
   rw [if_neg (fun h=>hn (Y4.1 h.1)),Hp (n:=(d+10000*val r).toNat) (by omega)]
   have e1:(d+10000*val r).toNat / 10000=(val r).toNat:=by omega
   have e2:(((d+10000*val r).toNat % 10000:Nat):Int)=d:=by omega
   rw [e1,e2]
theorem D5 {n k:Nat} : (dig n).length<=k↔n<10000 ^ k:=by
 induction k generalizing n with
 | zero =>
  rw [Nat.pow_zero]
  constructor
  ·intro h
   have:dig n=[]:=List.eq_nil_of_length_eq_zero (by omega)
   have:=Y4.1 this; omega
  ·intro h
   have:n=0:=by omega
   subst this; simp [Gj]
 | succ k ih =>
  by_cases h:n=0
  ·subst h; simp [Gj,Nat.pow_pos]
  ·rw [Hp h,List.length_cons,Nat.add_le_add_iff_right,ih,Nat.pow_succ,Nat.div_lt_iff_lt_mul (by omega)]
theorem Aek {a b:Nat} (h:dig a=dig b):a=b:=by
 have h1:=Dr a
 have h2:=Dr b
 rw [h] at h1; omega
theorem Gc (l r:List Int):val (l++r)=val l+10000 ^ l.length*val r:=by
 induction l with
 | nil=>simp [val]
 | cons d l ih=>simp only [List.cons_append,val,ih,List.length_cons,Int.pow_succ]; rw [Int.mul_add,Int.mul_comm (10000 ^ l.length) 10000,Int.mul_assoc]; omega
theorem Gu (n:Nat):val (List.replicate n 0)=0:=by
 induction n with
 | zero=>rfl
 | succ n ih=>rw [List.replicate_succ,val,ih]; rfl
theorem Gv {l:List Int} {i:Nat} {x v:Int} (h:nth l i=some x):val (l.set i v)=val l+(v - x)*10000 ^ i:=by
 induction l generalizing i with
 | nil=>simp [nth] at h
 | cons d l ih =>
  cases i with
  | zero=>simp only [nth,Option.some.injEq] at h; subst h; simp only [List.set_cons_zero,val,Int.pow_zero]; omega
  | succ i =>
   simp only [nth] at h
   simp only [List.set_cons_succ,val,ih h,Int.pow_succ]
   rw [Int.mul_add,Int.mul_comm (10000 ^ i) 10000,<- Int.mul_assoc,<- Int.mul_assoc,Int.mul_comm 10000 (v - x)]; omega
theorem Qi (l:List Int):(Bo l).length<=l.length:=by
 induction l with
 | nil=>simp [Bo]
 | cons d l ih=>rw [Bo]; split <;> simp; exact ih
theorem M0:∀ (n:Nat) (l:List Int),n<=l.length->(∀ j,n<=j->∀ x,nth l j=some x->x=0)->Bo l=Bo (l.take n)
 | 0,[],_,_=>rfl
 | 0,d :: l,_,h=>by
  have hd:=h 0 (Nat.le_refl _) d rfl
  have:=M0 0 l (Nat.zero_le _) fun j _ x hx=>h (j+1) (Nat.zero_le _) x hx
  rw [Bo,this,hd]; simp [Bo]
 | n+1,[],h,_=>by simp at h
 | n+1,d :: l,hn,h=>by
  have:=M0 n l (by simpa using hn) fun j hj x hx=>h (j+1) (by omega) x hx
  rw [List.take_succ_cons,Bo,Bo,this]
theorem Wg:∀ (l:List Int) (n:Nat) (x:Int),nth l n=some x->l.length=n+1->x≠0->Bo l=l
 | [],_,_,h,_,_=>by simp [nth] at h
 | d :: l,0,x,h,hl,hx=>by
  have:l=[]:=List.eq_nil_of_length_eq_zero (by simpa using hl)
  subst this
  simp only [nth,Option.some.injEq] at h; subst h
  simp [Bo,hx]
 | d :: l,n+1,x,h,hl,hx=>by
  have ih:=Wg l n x h (by simpa using hl) hx
  have hne:l≠[]:=by rintro rfl; simp [nth] at h
  rw [Bo,ih,if_neg (fun h=>hne h.1)]
/- which numbers are valid,and what they stand for -/
def lastZ (l:List Int):Bool:=match nth l (l.length - 1) with|some x=>x == 0|none=>false
def allD:List Int->Bool
 | []=>true
 | d :: r=>if (decide (d<0) || decide (d >= 10000))=true then false else allD r
def Agz (neg:Bool) (l:List Int):Bool:=if (decide (200<l.length) || (decide (l=[]) && neg) || lastZ l)=true then false else allD l
def V (neg:Bool) (l:List Int):Int:=if Agz neg l=true then (if neg=true then -(val l) else val l) else 0
end
section
open Go
def digC (x:Int):List AV:=[.prim (.int .i64 x)]
def digA (l:List Int):AV:=.frz (l.map digC) .unk
def kwL:List ByteArray:=[
 ⟨#[97,110,100]⟩,
 ⟨#[97,115,115,117,109,101]⟩,
 ⟨#[98,111,111,108]⟩,
 ⟨#[98,111,117,110,100]⟩,
 ⟨#[99,97,115,101]⟩,
 ⟨#[99,101,108,108]⟩,
 ⟨#[99,108,97,115,115]⟩,
 ⟨#[100,97,116,97]⟩,
 ⟨#[100,101,102]⟩,
 ⟨#[100,105,118]⟩,
 ⟨#[101,108,115,101]⟩,
 ⟨#[101,110,100]⟩,
 ⟨#[102,97,108,115,101]⟩,
 ⟨#[102,111,114,97,108,108]⟩,
 ⟨#[102,117,110]⟩,
 ⟨#[103,101,116]⟩,
 ⟨#[105,102]⟩,
 ⟨#[105,110]⟩,
 ⟨#[105,110,115,116]⟩,
 ⟨#[105,110,116]⟩,
 ⟨#[105,110,118,97,114,105,97,110,116]⟩,
 ⟨#[108,101,116]⟩,
 ⟨#[109,97,116,99,104]⟩,
 ⟨#[109,101,97,115,117,114,101]⟩,
 ⟨#[109,101,116,114,105,99]⟩,
 ⟨#[109,111,100]⟩,
 ⟨#[109,117]⟩,
 ⟨#[110,101,119]⟩,
 ⟨#[110,111,116]⟩,
 ⟨#[111,102]⟩,
 ⟨#[111,114]⟩,
 ⟨#[113,117,97,108]⟩,
 ⟨#[114,101,102,108,101,99,116]⟩,
 ⟨#[115,101,116]⟩,
 ⟨#[116,104,101,110]⟩,
 ⟨#[116,114,117,101]⟩,
 ⟨#[117,115,101]⟩,
 ⟨#[118]⟩,
 ⟨#[118,97,108]⟩,
 ⟨#[116,97,103]⟩,
 ⟨#[119,104,101,114,101]⟩,
 ⟨#[119,105,116,104]⟩]
def kwF (s:ByteArray):Bool:=kwL.any fun k=>sEq k s
inductive PT where
 | node (op:Int) (name:ByteArray) (n:Int) (kids:List PT)
mutual
def predC:PT->List AV
 | .node o s n ks=>[.prim (.int .i64 o),.prim (.string s),.prim (.int .i64 n),.frz (Bj ks) .unk]
def Bj:List PT->List (List AV)
 | []=>[]
 | k :: ks=>predC k :: Bj ks
end
mutual
theorem R8:∀ {p q:PT},predC p=predC q->p=q
 | .node o s n ks,.node o' s' n' ks',h=>by
  simp only [predC,List.cons.injEq,AV.prim.injEq,Value.int.injEq,Value.string.injEq,AV.frz.injEq,and_true,true_and] at h
  obtain ⟨rfl,rfl,rfl,h⟩:=h
  rw [Rt h]
theorem Rt:∀ {ks ls:List PT},Bj ks=Bj ls->ks=ls
 | [],[],_=>rfl
 | [],_ :: _,h=>by simp [Bj] at h
 | _ :: _,[],h=>by simp [Bj] at h
 | k :: ks,l :: ls,h=>by
  simp only [Bj,List.cons.injEq] at h
  rw [R8 h.1,Rt h.2]
end
theorem Hd:∀ ks:List PT,Bj ks=ks.map predC
 | []=>rfl
 | k :: ks=>by rw [Bj,List.map_cons,Hd ks]
theorem J4:∀ p:PT,(predC p).length=4
 | .node _ _ _ _=>rfl
def PT.op:PT->Int|.node o _ _ _=>o
def PT.name:PT->ByteArray|.node _ s _ _=>s
def PT.n:PT->Int|.node _ _ n _=>n
def PT.kids:PT->List PT|.node _ _ _ ks=>ks
def ownF:Option Tmp->TypeId->Bool
 | some 92,90|some 105,90|some 31,90|some 57,90|some 88,90|some 96,90=>true
 | some 32,190|some 240,190=>true
 | some 45,69|some 255,69=>true
 | some 240,202=>true
 | _,_=>false
def lkF0 (f:FuncId):Bool:=f == 260 || f == 261 || f == 262 || f == 263 || f == 264 || f == 265 || f == 266 || f == 267 ||
 f == 176 || f == 182 || f == 157
def anF0 (f:FuncId):Bool:=f == 156 || f == 217 || f == 193 || f == 160 || f == 310 ||
 f == 178 || f == 184
def mvF0 (f:FuncId):Bool:=f == 156 || f == 217 || f == 193 || f == 160 || f == 310 || f == 122 ||
 f == 134 || f == 140
instance:Globs:=⟨[],fun f=>f == 107 || f == 104 || f == 278,true,ownF,lkF0,anF0,true,false⟩
end
section
def inB (n:Int):Bool:=decide (-1000000000000<=n/\n<=1000000000000)
theorem Dy {n:Int} : inB n=true↔-1000000000000<=n/\n<=1000000000000:=by simp [inB]
theorem Zm {n:Int} : inB n=false↔¬ (-1000000000000<=n/\n<=1000000000000):=by simp [inB]
def chk (ok:Bool) (n:Int):Int × Bool:=if ok && inB n then (n,true) else (0,false)
def addS (a b:Int):Int × Bool:=chk (inB a && inB b) (a+b)
def mulS (a b:Int):Int × Bool:=chk (inB a && inB b) (a*b)
def absS (n:Int):Int:=if n=-9223372036854775808 then 1000000000000 else if 0<=n then n else -n
theorem Aec {n:Int} (h:inB n=true):absS n=n.natAbs:=by
 rw [Dy] at h; unfold absS; split
 ·omega
 ·split <;> omega
theorem Acr (a b:Int) (h:a≠0) :
  (decide (1000000000000 / (a.natAbs:Int)<(b.natAbs:Int))=false/\-1000000000000<=a*b/\a*b<=1000000000000/\inB (a*b)=true) \/
  (decide (1000000000000 / (a.natAbs:Int)<(b.natAbs:Int))=true/\inB (a*b)=false):=by
 have hp:0<(a.natAbs:Int):=by omega
 have hab:((a*b).natAbs:Int)=(b.natAbs:Int)*a.natAbs:=by rw [Int.natAbs_mul]; push_cast; rw [Int.mul_comm]
 by_cases hc:1000000000000 / (a.natAbs:Int)<(b.natAbs:Int)
 ·right
  refine ⟨by simpa using hc,?_⟩
  rw [Int.ediv_lt_iff_lt_mul hp] at hc
  rw [Zm]
  omega
 ·left
  have hd:=hc
  rw [Int.ediv_lt_iff_lt_mul hp] at hc
  rw [Dy]
  refine ⟨by simpa using hd,?_⟩
  omega
theorem drop_nil {α:Type} {l:List α} {n:Nat} (h:l.length<=n):l.drop n=[]:=List.drop_eq_nil_of_le h
end
section
open Go
mutual
def nodesP:PT->Nat
 | .node _ _ _ ks=>1+nodesL ks
def nodesL:List PT->Nat
 | []=>0
 | k :: ks=>nodesP k+nodesL ks
end
mutual
def depthP:PT->Nat
 | .node _ _ _ ks=>E2 ks+1
def E2:List PT->Nat
 | []=>0
 | k :: ks=>max (depthP k) (E2 ks)
end
def Bm (b:UInt8):Bool:=decide (97<=b.toNat) && decide (b.toNat<=122)
def capB (b:UInt8):Bool:=decide (65<=b.toNat) && decide (b.toNat<=90)
def digB (b:UInt8):Bool:=decide (48<=b.toNat) && decide (b.toNat<=57)
def lowB (b:UInt8):Bool:=Bm b || digB b || decide (b.toNat=95)
def alnB (b:UInt8):Bool:=Bm b || capB b || digB b
def bsL (s:ByteArray):List UInt8:=s.data.toList
def B2 (s:ByteArray):Bool:=decide (1<=s.size) && decide (s.size<=24)
def Aer (f:UInt8->Bool):List UInt8->Bool
 | []=>false
 | b :: _=>f b
def Ei (s:ByteArray):Bool:=B2 s && Aer Bm (bsL s) && !kwF s && (bsL s).all lowB
def bInt:ByteArray:=⟨#[73,110,116]⟩
def Aby:ByteArray:=⟨#[66,111,111,108]⟩
def Abz:ByteArray:=⟨#[67,101,108,108]⟩
def bFun:ByteArray:=⟨#[70,117,110]⟩
def Dj (s:ByteArray):Bool:=B2 s && Aer capB (bsL s) && (bsL s).all alnB && !(sEq s bInt || sEq s Aby || sEq s Abz || sEq s bFun)
def M2:List UInt8->Bool
 | []=>true
 | b :: r=>Bm b && r.all lowB
def J0 (s:ByteArray):Bool:=B2 s && ((bsL s).all alnB || M2 (bsL s))
def H0:List UInt8->List (List UInt8)
 | []=>[[]]
 | b :: r=>if b.toNat=46 then [] :: H0 r else match H0 r with
  | f :: fs=>(b :: f) :: fs
  | []=>[[b]]
def ofL (l:List UInt8):ByteArray:=⟨l.toArray⟩
def Nd (s:ByteArray):List ByteArray:=(H0 (bsL s)).map ofL
def bV:ByteArray:=⟨#[118]⟩
def bTag:ByteArray:=⟨#[116,97,103]⟩
def bVal:ByteArray:=⟨#[118,97,108]⟩
def Af8:List ByteArray->Bool
 | []=>false
 | f :: fs=>(Ei f || Dj f || (sEq f bV && !fs.isEmpty)) && fs.all J0
def Ha (s:ByteArray):Bool:=decide (s.size<=120) && Af8 (Nd s)
/- predicates -/
def Bz (o:Int):Bool:=decide (o=3) || decide (o=4) || decide (o=5)
def Dt (o:Int) (k:Nat):Bool :=
 if o=1\/o=2\/o=3 then decide (k=0) else if o=4\/o=5 then decide (1<=k) && decide (k<=24) else if o=9\/o=14 then decide (k=1) else decide (k=2)
def B8 (o:Int) (s:ByteArray):Bool :=
 if o=3 then sEq s bV || Ha s else if o=4 then sEq s bTag || sEq s bVal || Ha s else if o=5 then Ha s else true
def Bk:PT->Int
 | .node o s n ks =>
  if o<1\/18<o\/(Bz o=false/\s.size≠0)\/(o≠1/\o≠2/\n≠0)\/Dt o ks.length=false then 1
  else if (o=1/\inB n=false)\/(o=2/\n≠0/\n≠1) then 2
  else if B8 o s=false then 3
  else if o=8/\(match ks with | []=>true|k :: _=>k.op != 1)=true then 6
  else 0
mutual
def Ba:PT->Int
 | .node o s n ks=>if Bk (.node o s n ks)≠0 then Bk (.node o s n ks) else Dm ks
def Dm:List PT->Int
 | []=>0
 | k :: ks=>if Ba k≠0 then Ba k else Dm ks
end
mutual
def Bu:PT->Int
 | .node _ _ _ ks=>E5 1 ks
def E5:Int->List PT->Int
 | n,[]=>n
 | n,k :: ks=>E5 (IntKind.i64.wrap (n+Bu k)) ks
end
mutual
def Bg:PT->Int
 | .node _ _ _ ks=>IntKind.i64.wrap (E4 0 ks+1)
def E4:Int->List PT->Int
 | n,[]=>n
 | n,k :: ks=>E4 (if Bg k > n then Bg k else n) ks
end
mutual
def Ai:PT->Prop
 | .node _ _ _ ks=>ks.length<=9223372036854775807/\Bd ks
def Bd:List PT->Prop
 | []=>True
 | k :: ks=>Ai k/\Bd ks
end
def Bc (p:PT):Int:=if 400<Bu p then 7 else if 40<Bg p then 8 else Ba p
end
section
open Go
variable {P:Program}
@[reducible] def Ext.quiet (E:Ext P):Ext P:={ on:=E.on,mv:=E.mv,call:=fun _ _ _ _ _=>none }
theorem Ac1 [Globs] (E:Ext P):@Qn _ P (Ext.quiet E):=by
 letI:=Ext.quiet E
 refine ⟨fun f args S tk n r S' tk' n' h=>?_,fun M f args S tk n r S' tk' n' h=>?_⟩
 ·unfold extC at h; split at h <;> simp at h
 ·unfold Bq at h; split at h
  ·unfold extC at h; split at h <;> simp at h
  ·simp at h
end
section
open Go Tryz
def K0:List (List AV)->Option (List Int)
 | []=>some []
 | [.prim (.int .i64 x)] :: r=>(K0 r).map (x :: ·)
 | _=>none
theorem Nx:∀ l:List Int,K0 (l.map digC)=some l
 | []=>rfl
 | x :: l=>by simp only [List.map_cons,digC,K0,Nx l,Option.map_some]
def strC (s:ByteArray):List AV:=[.prim (.string s)]
def Xt (l:List ByteArray):AV:=.frz (l.map strC) .unk
def Mv:List (List AV)->Option (List ByteArray)
 | []=>some []
 | [.prim (.string x)] :: r=>(Mv r).map (x :: ·)
 | _=>none
theorem Pc:∀ l:List ByteArray,Mv (l.map strC)=some l
 | []=>rfl
 | x :: l=>by simp only [List.map_cons,strC,Mv,Pc l,Option.map_some]
theorem Mw:∀ {es:List (List AV)} {l:List ByteArray},Mv es=some l->es=l.map strC
 | [],l,h=>by simp only [Mv,Option.some.injEq] at h; subst h; rfl
 | e :: es,l,h=>by
  unfold Mv at h
  split at h
  ·rename_i he; simp at he
  ·rename_i x r he
   simp only [List.cons.injEq] at he
   obtain ⟨rfl,rfl⟩:=he
   simp only [Option.map_eq_some_iff] at h
   obtain ⟨l',h1,rfl⟩:=h
   rw [Mw h1]; rfl
  ·simp at h
def putS (l:List ByteArray) (s:ByteArray):List ByteArray :=
 match l with
 | []=>[s]
 | x :: r=>if sLt x s=true then x :: putS r s else if sEq x s=true then x :: r else s :: x :: r
def uniS (l:List ByteArray):List ByteArray:=l.foldl putS []
def Vw:Cap->Bool
 | .nilc=>true
 | _=>false
def quoF (l r:List Int):Option AV :=
 if l=dig (val l).toNat/\r=dig (val r).toNat/\r≠[]/\l.length<=90000/\r.length<=90000 then
  some (.tup [digA (dig ((val l).toNat / (val r).toNat)),digA (dig ((val l).toNat % (val r).toNat))]) else none
def quoC (args:List AV) (S:List Ent) (tk:List Nat) (n:Nat):Option (AV × List Ent × List Nat × Nat):=match args with
  | [.frz es _,.frz ys _]=>match K0 es,K0 ys with
   | some l,some r=>match quoF l r with
    | some v=>some (v,S,tk,n)
    | none=>none
   | _,_=>none
  | _=>none
def uniC (args:List AV) (S:List Ent) (tk:List Nat) (n:Nat):Option (AV × List Ent × List Nat × Nat):=match args with
  | [.frz es c,.frz [] .nilc]=>match Mv es with
   | some l=>if (decide (l.length<=1000000) && (!l.isEmpty || Vw c))=true then some (Xt (uniS l),S,tk,n) else none
   | none=>none
  | _=>none
@[reducible] noncomputable def E1:Ext prog where
 on:=fun f=>f == 98 || f == 272
 mv:=mvF0
 call:=fun f args S tk n=>if f == 98 then uniC args S tk n else if f == 272 then quoC args S tk n else none
@[reducible] noncomputable instance E0:Ext prog:=Ext.quiet E1
instance:Qn prog:=Ac1 E1
theorem ext_mv (f:FuncId) (h:mvF0 f=false):Ext.mv prog f=false:=h
set_option linter.defProp false in
def ev0:=And.intro ext_mv <| And.intro @entAt.eq_def <| And.intro evt tys
set_option linter.defProp false in
def evs0:=And.intro ext_mv <| And.intro @Rf <| And.intro @Jq <| And.intro @Wv <| And.intro @List.take_left.{0} <| And.intro @List.take_length.{0} <| And.intro evt tys
end
section
open Go
def i64 (n:Int):Prop:=-9223372036854775808<=n/\n<=9223372036854775807
theorem Ay {n:Int} (h:i64 n):IntKind.i64.wrap n=n:=Go.IntWalk.i64_in n h
theorem A0 {i:Nat} (h:i<=1048576):IntKind.i64.wrap ((i:Int)+1)=((i+1:Nat):Int):=by rw [Ay (by unfold i64; omega)]; omega
theorem Tn {j:Nat} (h:j<=1048576):IntKind.i64.wrap (((j+1:Nat):Int) - 1)=(j:Int):=by rw [Ay (by unfold i64; omega)]; omega
theorem Bl {α β:Type} (f:α->β):∀ (l:List α) (i:Nat),nth (l.map f) i=(nth l i).map f
 | [],_=>rfl
 | _ :: _,0=>rfl
 | _ :: l,i+1=>Bl f l i
theorem Al {α:Type} : ∀ {l:List α} {i:Nat} {x:α},nth l i=some x->l.drop i=x :: l.drop (i+1)
 | y :: l,0,x,h=>by simp only [nth,Option.some.injEq] at h; subst h; rfl
 | _ :: l,i+1,x,h=>Al (l:=l) (i:=i) h
 | [],_,_,h=>by simp [nth] at h
theorem P8 {l:List Int} {i:Nat} {x:Int} (h:nth l i=some x):nth (l.map digC) i=some [.prim (.int .i64 x)]:=by rw [Bl,h]; rfl
def numC (x:Int):AV:=.prim (.int .i64 x)
theorem Z3 {l:List Int} {i:Nat} {x:Int} (h:nth l i=some x):nth ((l.map numC).drop i) 0=some (.prim (.int .i64 x)):=by
 have:nth (l.map numC) i=some (numC x):=by rw [Bl,h]; rfl
 exact Ab7 this
theorem Vz {l:List Int} {i:Nat} {x v:Int} (h:nth l i=some x):over (l.map numC) i [.prim (.int .i64 v)]=some ((l.set i v).map numC):=by
 have h1:nth (l.map numC) i=some (numC x):=by rw [Bl,h]; rfl
 rw [Acx h1]
 have:(.prim (.int .i64 v):AV)=numC v:=rfl
 rw [this,Aac,Uo]
theorem Xp {l:List Int} {n:Nat} (h:n<=l.length):E8 1 n (l.map numC)=some ((l.take n).map digC):=Pa h
theorem Xq (l:List Int):K3 (some (l.map digC))=.frz (l.map digC) .unk:=by
 unfold K3
 simp only
 rw [if_pos (by simp [digC,pure1,w1,Value.oneCell'])]
 congr 1
 simp [w1,digC]
theorem Kc {l:List Int} {n:Nat} (hn:n<=l.length) (hz:∀ j,n<=j->∀ x,nth l j=some x->x=0) (he:n=0\/∃ x,nth l (n - 1)=some x/\x≠0):Bo l=l.take n:=by
 rw [M0 n l hn hz]
 rcases he with rfl|⟨x,hx,h0⟩
 ·simp [Bo]
 ·by_cases h1:n=0
  ·subst h1; simp [Bo]
  ·refine Wg _ (n - 1) x ?_ (by simp; omega) h0
   rw [Ab,List.getElem?_take_of_lt (by omega),<- Ab]; exact hx
theorem Acz {n:Nat} (h:n≠0) (hl:n<=1000000):IntKind.i64.wrap ((n:Int) - 1)=((n - 1:Nat):Int):=by
 rw [Ay (by unfold i64; omega)]; omega
theorem Zl {l:List Int} {n:Nat} {x:Int} (hz:∀ j,n<=j->∀ x,nth l j=some x->x=0) (hx:nth l (n - 1)=some x) (gn:x=0):∀ j,n - 1<=j->∀ y,nth l j=some y->y=0:=fun j hj y hy=>by
 by_cases e:j=n - 1
 ·rw [e,hx] at hy; simp only [Option.some.injEq] at hy; omega
 ·exact hz j (by omega) y hy
theorem Vt (l:List Int):∀ j,l.length<=j->∀ x,nth l j=some x->x=0:=fun j hj x hx=>by have:=A7 hx; omega
theorem Adq:∀ {l r:List Int} {i:Nat} {x y:Int},l.length=r.length->okD l->okD r->nth l i=some x->nth r i=some y->x<y->(∀ j,i<j->nth l j=nth r j)->val l<val r
 | d :: l,e :: r,0,x,y,hl,h1,h2,hx,hy,cj,he=>by
  simp only [nth,Option.some.injEq] at hx hy; subst hx hy
  have:l=r:=by
   apply List.ext_getElem?
   intro j
   have:=he (j+1) (by omega)
   simp only [nth,Ab] at this; exact this
  subst this; simp only [val]; omega
 | d :: l,e :: r,i+1,x,y,hl,h1,h2,hx,hy,cj,he=>by
  have ih:=Adq (l:=l) (r:=r) (i:=i) (by simpa using hl) (fun z hz=>h1 z (by simp [hz])) (fun z hz=>h2 z (by simp [hz])) hx hy cj fun j hj=>he (j+1) (by omega)
  have g1:=h1 d (by simp)
  have g2:=h2 e (by simp)
  simp only [val]; omega
 | [],_,_,_,_,_,_,_,hx,_,_,_=>by simp [nth] at hx
 | _ :: _,[],_,_,_,_,_,_,_,hy,_,_=>by simp [nth] at hy
def cmpN (a b:Nat):Int:=if a<b then -1 else if b<a then 1 else 0
theorem Ls {a b:Nat} (h:(dig a).length<(dig b).length):a<b:=by
 have h1:=D5 (n:=a) (k:=(dig a).length)
 have h2:=D5 (n:=b) (k:=(dig a).length)
 have h3:¬ (dig b).length<=(dig a).length:=by omega
 rw [h2] at h3
 have:=h1.1 (Nat.le_refl _)
 omega
theorem Adi {a b i:Nat} {x y:Int} (hl:(dig a).length=(dig b).length) (hx:nth (dig a) i=some x) (hy:nth (dig b) i=some y) (h:x<y) (he:∀ j,i<j->nth (dig a) j=nth (dig b) j):a<b:=by
 have:=Adq hl (Dp a) (Dp b) hx hy h he
 rw [Dr,Dr] at this; omega
theorem Ab4 {a b:Nat} (he:∀ j,nth (dig a) j=nth (dig b) j):a=b:=by
 refine Aek (List.ext_getElem? fun j=>?_)
 rw [<- Ab,<- Ab]; exact he j
theorem Aa2 {n:Nat} (hl:n<=1000000):IntKind.i64.wrap ((n:Int) - 1)=(n:Int) - 1:=Ay (by unfold i64; omega)
theorem Dq {l:List Int} {i j:Nat} {x v:Int} (h:nth (l.set i v) j=some x):(j=i/\x=v)\/(j≠i/\nth l j=some x):=by
 rw [<- Uo] at h
 by_cases e:i=j
 ·subst e; exact .inl ⟨rfl,Bp h⟩
 ·rw [Bi e] at h; exact .inr ⟨fun h=>e h.symm,h⟩
theorem R5 {l:List Int} (h:∀ j x,nth l j=some x->0<=x/\x<10000):okD l:=fun d hd=>by
 obtain ⟨j,hj⟩:=List.mem_iff_getElem?.1 hd
 exact h j d (by rw [Ab]; exact hj)
theorem G1 {l:List Int} (h:okD l) {j:Nat} {x:Int} (hx:nth l j=some x):0<=x/\x<10000:=h x (by rw [Ab] at hx; exact List.mem_of_getElem? hx)
def padL (l:List Int) (n:Nat):List Int:=l++List.replicate (n - l.length) 0
theorem V2 {l:List Int} {n:Nat} (h:l.length<=n):(padL l n).length=n:=by simp [padL]; omega
theorem V3 (l:List Int) (n:Nat):val (padL l n)=val l:=by rw [padL,Gc,Gu]; omega
theorem Z7 {l:List Int} {n j:Nat} {x:Int} (h:nth (padL l n) j=some x):nth l j=some x\/(l.length<=j/\x=0):=by
 rw [Ab,padL] at h
 by_cases hj:j<l.length
 ·rw [List.getElem?_append_left hj] at h; left; rw [Ab]; exact h
 ·rw [List.getElem?_append_right (by omega)] at h
  right
  refine ⟨by omega,?_⟩
  have:=List.mem_of_getElem? h
  exact (List.mem_replicate.1 this).2
theorem Aa9 (n:Nat):(List.replicate n [(.prim (.int .i64 0):AV)]).flatten=(List.replicate n (0:Int)).map numC:=by
 rw [Acf,List.map_replicate]; rfl
def zeroC (n:Nat):List AV:=(List.replicate n (0:Int)).map numC
theorem Agj {P:Program} {t:TypeId} {n:Nat} (hz:(Au P t).bind (Ae P)=some [.prim (.int .i64 0)]) (hs:(Au P t).bind (szOf P)=some 1) (hb:(Au P t).bind (Pr P)=some 8) (hn:n<=1048576) :
  mkA P t (.prim (.int .i64 (n:Int))) (.prim (.int .i64 (n:Int)))=some (n,1,zeroC n):=by
 unfold mkA
 rw [hz,hs,hb,intN_cast]
 simp only [mkB]
 rw [if_pos ⟨Nat.le_refl _,hn,by omega,rfl⟩,Aa9]; rfl
theorem Et:∀ l:List Int,Bo l=l.take (Bo l).length
 | []=>rfl
 | d :: l=>by
  rw [Bo]
  split
  ·rfl
  ·simp only [List.length_cons,List.take_succ_cons]
   rw [<- Et l]
theorem V4 (n:Nat):(0:Int)<10000 ^ n:=Int.pow_pos (by omega)
structure Plus1 (a b la i:Nat) (out:List Int):Prop where
 len:out.length=la+1
 val:val out+10000 ^ i*val ((dig b).drop i)=(a+b:Nat)
 ok:∀ j x,nth out j=some x->0<=x/\(j<i->x<=19998)/\(i<=j->x<10000)/\(j=la->x=0)
theorem Plus1.start {a b:Nat} : Plus1 a b (dig a).length 0 (padL (dig a) ((dig a).length+1)):=by
 refine ⟨V2 (by omega),?_,fun j x hx=>?_⟩
 ·rw [V3,Dr,List.drop_zero,Dr]; simp
 ·rcases Z7 hx with h|⟨h,rfl⟩
  ·have:=G1 (Dp a) h
   have hl:=A7 h
   exact ⟨this.1,by omega,fun _=>this.2,fun e=>by omega⟩
  ·exact ⟨by omega,by omega,by omega,fun _=>rfl⟩
theorem Plus1.step {a b la i:Nat} {out:List Int} {x d:Int} (h:Plus1 a b la i out) (hb:i<la) (hx:nth out i=some x) (hd:nth (dig b) i=some d):Plus1 a b la (i+1) (out.set i (x+d)):=by
 have jo:=G1 (Dp b) hd
 refine ⟨by rw [List.length_set]; exact h.len,?_,fun j y hy=>?_⟩
 ·have hv:=h.val
  rw [Al hd,Go.Proofs.YthelkgdmgihhiaaGreatDoor.val] at hv
  rw [Gv hx,<- hv,Int.pow_succ,Int.mul_add]
  have e1:x+d - x=d:=by omega
  rw [e1,Int.mul_comm d,Int.mul_assoc]; omega
 ·rcases Dq hy with ⟨rfl,rfl⟩|⟨hne,hy⟩
  ·have:=h.ok _ x hx
   exact ⟨by omega,by omega,by omega,by omega⟩
  ·have:=h.ok j y hy
   exact ⟨this.1,fun hj=>this.2.1 (by omega),fun hj=>this.2.2.1 (by omega),this.2.2.2⟩
structure Plus2 (v la i:Nat) (out:List Int):Prop where
 len:out.length=la+1
 val:val out=v
 ok:∀ j x,nth out j=some x->0<=x/\(j<i->x<10000)/\(j=i->x<=19999)/\(i<j->x<=19998)/\(j=la->x<=1/\(i<la->x=0))
theorem Plus2.start {a b la:Nat} {out:List Int} (h:Plus1 a b la (dig b).length out):Plus2 (a+b) la 0 out:=by
 refine ⟨h.len,?_,fun j x hx=>?_⟩
 ·have:=h.val
  rw [List.drop_length,Go.Proofs.YthelkgdmgihhiaaGreatDoor.val] at this; omega
 ·have:=h.ok j x hx
  refine ⟨this.1,by omega,fun _=>?_,fun _=>?_,fun e=>⟨by have:=this.2.2.2 e; omega,fun _=>this.2.2.2 e⟩⟩
  ·rcases Nat.lt_or_ge j (dig b).length with hj|hj
   ·have:=this.2.1 hj; omega
   ·have:=this.2.2.1 hj; omega
  ·rcases Nat.lt_or_ge j (dig b).length with hj|hj
   ·exact this.2.1 hj
   ·have:=this.2.2.1 hj; omega
theorem Plus2.small {v la i:Nat} {out:List Int} {x:Int} (h:Plus2 v la i out) (hi:i<la) (hx:nth out i=some x) (h1:x<10000):Plus2 v la (i+1) out:=by
 refine ⟨h.len,h.val,fun j y hy=>?_⟩
 have:=h.ok j y hy
 refine ⟨this.1,fun hj=>?_,fun hj=>by have:=this.2.2.2.1 (by omega); omega,fun hj=>this.2.2.2.1 (by omega),fun e=>⟨(this.2.2.2.2 e).1,fun _=>(this.2.2.2.2 e).2 hi⟩⟩
 by_cases e:j=i
 ·subst e; rw [hx] at hy; simp only [Option.some.injEq] at hy; omega
 ·exact this.2.1 (by omega)
theorem Plus2.big {v la i:Nat} {out:List Int} {x y:Int} (h:Plus2 v la i out) (hi:i<la) (hx:nth out i=some x) (h1:10000<=x) (hy:nth (out.set i (x - 10000)) (i+1)=some y):Plus2 v la (i+1) ((out.set i (x - 10000)).set (i+1) (y+1)):=by
 refine ⟨by rw [List.length_set,List.length_set]; exact h.len,?_,fun j z hz=>?_⟩
 ·rw [Gv hy,Gv hx,<- h.val,Int.pow_succ]
  have e1:x - 10000 - x=-10000:=by omega
  have e2:y+1 - y=1:=by omega
  rw [e1,e2,Int.one_mul,Int.mul_comm (10000 ^ i) 10000,Int.neg_mul]; omega
 ·have nz:nth out (i+1)=some y:=by
   rcases Dq hy with ⟨e,-⟩|⟨-,hy⟩
   ·omega
   ·exact hy
  have hk:=h.ok i x hx
  have l8:=h.ok (i+1) y nz
  rcases Dq hz with ⟨rfl,rfl⟩|⟨hne,hz⟩
  ·refine ⟨by omega,by omega,fun _=>by have:=l8.2.2.2.1 (by omega); omega,by omega,fun e=>?_⟩
   have:=(l8.2.2.2.2 e).2 hi
   exact ⟨by omega,by omega⟩
  ·rcases Dq hz with ⟨rfl,rfl⟩|⟨n6,hz⟩
   ·exact ⟨by omega,fun _=>by omega,by omega,by omega,by omega⟩
   ·have:=h.ok j z hz
    exact ⟨this.1,fun hj=>this.2.1 (by omega),fun hj=>by omega,fun hj=>this.2.2.2.1 (by omega),fun e=>⟨(this.2.2.2.2 e).1,fun _=>(this.2.2.2.2 e).2 hi⟩⟩
theorem Plus2.done {v la:Nat} {out:List Int} (h:Plus2 v la la out):Bo out=dig v:=by
 have hk:okD out:=R5 fun j x hx=>by
  have:=h.ok j x hx
  have hl:=A7 hx
  rw [h.len] at hl
  refine ⟨this.1,?_⟩
  rcases Nat.lt_or_ge j la with hj|hj
  ·exact this.2.1 hj
  ·have:=(this.2.2.2.2 (by omega)).1; omega
 rw [D9 hk,h.val]; congr 1
theorem Aa6 {l:List Int} (h:okD l):val l<10000 ^ l.length:=by
 induction l with
 | nil=>simp [val]
 | cons d l ih =>
  have h1:=h d (by simp)
  have h2:=ih fun x hx=>h x (by simp [hx])
  simp only [val,List.length_cons,Int.pow_succ]; omega
theorem Afd {l:List Int} {i:Nat} {x:Int} (hl:l.length=i+1) (hx:nth l i=some x) (hk:∀ j y,j<i->nth l j=some y->0<=y/\y<10000) (h0:x<0):val l<0:=by
 have e:l=l.take i++[x]:=by
  apply List.ext_getElem?
  intro j
  rcases Nat.lt_trichotomy j i with hj|hj|hj
  ·rw [List.getElem?_append_left (by simp; omega),List.getElem?_take_of_lt hj]
  ·subst hj
   have qv:(l.take j).length=j:=by simp; omega
   rw [List.getElem?_append_right (by omega),qv,Nat.sub_self,<- Ab,hx]; rfl
  ·rw [List.getElem?_eq_none (by omega),List.getElem?_eq_none (by simp; omega)]
 have jc:okD (l.take i):=R5 fun j y hy=>by
  have hj:=A7 hy
  have l5:j<i:=by rw [List.length_take] at hj; omega
  refine hk j y l5 ?_
  rw [Ab] at hy ⊢
  rw [List.getElem?_take_of_lt l5] at hy; exact hy
 have h1:=Aa6 jc
 have hlen:(l.take i).length=i:=by simp; omega
 rw [hlen] at h1
 rw [e,Gc,hlen]
 have hp:=V4 i
 have:(10000:Int) ^ i*val [x]<=10000 ^ i*(-1):=Int.mul_le_mul_of_nonneg_left (by simp [val]; omega) (by omega)
 omega
structure Ng (a b la i:Nat) (out:List Int):Prop where
 len:out.length=la
 eqv:val out - 10000 ^ i*val ((dig b).drop i)=(a:Int) - b
 ok:∀ j x,nth out j=some x->-9999<=x/\x<=9999/\(i<=j->0<=x)
theorem Ng.start {a b:Nat} : Ng a b (dig a).length 0 (padL (dig a) (dig a).length):=by
 refine ⟨V2 (by omega),?_,fun j x hx=>?_⟩
 ·rw [V3,Dr,List.drop_zero,Dr]; simp
 ·rcases Z7 hx with h|⟨h,rfl⟩
  ·have:=G1 (Dp a) h; exact ⟨by omega,by omega,fun _=>this.1⟩
  ·exact ⟨by omega,by omega,fun _=>by omega⟩
theorem Ng.step {a b la i:Nat} {out:List Int} {x d:Int} (h:Ng a b la i out) (hx:nth out i=some x) (hd:nth (dig b) i=some d):Ng a b la (i+1) (out.set i (x - d)):=by
 have jo:=G1 (Dp b) hd
 refine ⟨by rw [List.length_set]; exact h.len,?_,fun j y hy=>?_⟩
 ·have hv:=h.eqv
  rw [Al hd,val] at hv
  rw [Gv hx,<- hv,Int.pow_succ,Int.mul_add]
  have e1:x - d - x=-d:=by omega
  rw [e1,Int.neg_mul,Int.mul_comm d,Int.mul_assoc]; omega
 ·rcases Dq hy with ⟨rfl,rfl⟩|⟨hne,hy⟩
  ·have:=h.ok _ x hx
   exact ⟨by have:=this.2.2 (Nat.le_refl _); omega,by omega,by omega⟩
  ·have:=h.ok j y hy
   exact ⟨this.1,this.2.1,fun hj=>this.2.2 (by omega)⟩
structure Gw (v:Nat) (la i:Nat) (out:List Int):Prop where
 len:out.length=la
 eqv:val out=v
 ok:∀ j x,nth out j=some x->x<=9999/\(j<i->0<=x)/\(j=i->-10000<=x)/\(i<j->-9999<=x)
theorem Gw.start {a b la:Nat} {out:List Int} (h:Ng a b la (dig b).length out) (hab:b<=a):Gw (a - b) la 0 out:=by
 refine ⟨h.len,?_,fun j x hx=>?_⟩
 ·have:=h.eqv
  rw [List.drop_length,val] at this; omega
 ·have:=h.ok j x hx; exact ⟨this.2.1,by omega,by omega,by omega⟩
theorem Gw.small {v la i:Nat} {out:List Int} {x:Int} (h:Gw v la i out) (hx:nth out i=some x) (h1:0<=x):Gw v la (i+1) out:=by
 refine ⟨h.len,h.eqv,fun j y hy=>?_⟩
 have:=h.ok j y hy
 refine ⟨this.1,fun hj=>?_,fun hj=>by have:=this.2.2.2 (by omega); omega,fun hj=>this.2.2.2 (by omega)⟩
 by_cases e:j=i
 ·subst e; rw [hx] at hy; simp only [Option.some.injEq] at hy; omega
 ·exact this.2.1 (by omega)
theorem Gw.room {v la i:Nat} {out:List Int} {x:Int} (h:Gw v la i out) (hx:nth out i=some x) (h1:x<0):i+1<la:=by
 have hi:=A7 hx
 have hl:=h.len
 rcases Nat.lt_or_ge (i+1) la with h2|h2
 ·exact h2
 ·exfalso
  have:=Afd (l:=out) (i:=i) (by omega) hx (fun j y hj hy=>by have:=h.ok j y hy; exact ⟨this.2.1 hj,by omega⟩) h1
  have:=h.eqv; omega
theorem Gw.neg {v la i:Nat} {out:List Int} {x y:Int} (h:Gw v la i out) (hx:nth out i=some x) (h1:x<0) (hy:nth (out.set i (x+10000)) (i+1)=some y):Gw v la (i+1) ((out.set i (x+10000)).set (i+1) (y - 1)):=by
 have nz:nth out (i+1)=some y:=by
  rcases Dq hy with ⟨e,-⟩|⟨-,hy⟩
  ·omega
  ·exact hy
 have hk:=h.ok i x hx
 have l8:=h.ok (i+1) y nz
 refine ⟨by rw [List.length_set,List.length_set]; exact h.len,?_,fun j z hz=>?_⟩
 ·rw [Gv hy,Gv hx,<- h.eqv,Int.pow_succ]
  have e1:x+10000 - x=10000:=by omega
  have e2:y - 1 - y=-1:=by omega
  rw [e1,e2,Int.mul_comm (10000 ^ i) 10000]; omega
 ·rcases Dq hz with ⟨rfl,rfl⟩|⟨hne,hz⟩
  ·exact ⟨by omega,by omega,fun _=>by have:=l8.2.2.2 (by omega); omega,by omega⟩
  ·rcases Dq hz with ⟨rfl,rfl⟩|⟨n6,hz⟩
   ·exact ⟨by omega,fun _=>by have:=hk.2.2.1 rfl; omega,by omega,by omega⟩
   ·have:=h.ok j z hz
    exact ⟨this.1,fun hj=>this.2.1 (by omega),fun hj=>by omega,fun hj=>this.2.2.2 (by omega)⟩
theorem Gw.done {v la:Nat} {out:List Int} (h:Gw v la la out):Bo out=dig v:=by
 have hk:okD out:=R5 fun j x hx=>by
  have:=h.ok j x hx
  have hl:=A7 hx
  rw [h.len] at hl
  exact ⟨this.2.1 hl,by omega⟩
 rw [D9 hk,h.eqv]; congr 1
theorem Lf (l:List Int) (i:Nat):val (l.drop i)=(nth l i).getD 0+10000*val (l.drop (i+1)):=by
 by_cases h:i<l.length
 ·obtain ⟨x,hx⟩:=Af h
  rw [Al hx,hx]; rfl
 ·rw [List.drop_eq_nil_of_le (by omega),List.drop_eq_nil_of_le (by omega),Ab,List.getElem?_eq_none (by omega)]; rfl
theorem K9 (a i:Nat):0<=(nth (dig a) i).getD 0/\(nth (dig a) i).getD 0<10000:=by
 cases h:nth (dig a) i with
 | none=>simp
 | some x=>exact G1 (Dp a) h
theorem P9 {l:List Int} {x:Int} (h:okD l) (h0:0<=x) (h1:x<10000):okD (l++[x]):=fun d hd=>by
 rcases List.mem_append.1 hd with hd|hd
 ·exact h d hd
 ·simp at hd; subst hd; exact ⟨h0,h1⟩
theorem Ql (l:List Int) (x:Int):val (l++[x])=val l+10000 ^ l.length*x:=by rw [Gc]; simp [val]
theorem J3 (i:Nat) (x r:Int):(10000:Int) ^ i*x+10000 ^ (i+1)*r=10000 ^ i*(x+10000*r):=by rw [Int.pow_succ,Int.mul_add,Int.mul_assoc]
structure Sum1 (a b i:Nat) (c:Int) (out:List Int):Prop where
 len:out.length=i
 ok:okD out
 c0:0<=c/\c<=1
 eqv:val out+10000 ^ i*(c+val ((dig a).drop i)+val ((dig b).drop i))=(a+b:Nat)
theorem Sum1.step {a b i:Nat} {c n:Int} {out:List Int} (h:Sum1 a b i c out) (hn:n=(nth (dig a) i).getD 0+(nth (dig b) i).getD 0+c):Sum1 a b (i+1) (n.tdiv 10000) (out++[n.tmod 10000])/\0<=n/\n<=19999/\0<=n.tmod 10000/\n.tmod 10000<10000:=by
 have h1:=K9 a i
 have h2:=K9 b i
 have h3:=h.c0
 have e1:n.tdiv 10000=n / 10000:=Int.tdiv_eq_ediv_of_nonneg (by omega)
 have e2:n.tmod 10000=n % 10000:=Int.tmod_eq_emod_of_nonneg (by omega)
 refine ⟨⟨by simp [h.len],P9 h.ok (by omega) (by omega),by omega,?_⟩,by omega,by omega,by omega,by omega⟩
 have hv:=h.eqv
 rw [Lf (dig a) i,Lf (dig b) i] at hv
 have:n.tmod 10000+10000*(n.tdiv 10000+val ((dig a).drop (i+1))+val ((dig b).drop (i+1)))=c+((nth (dig a) i).getD 0+10000*val ((dig a).drop (i+1)))+((nth (dig b) i).getD 0+10000*val ((dig b).drop (i+1))):=by omega
 rw [Ql,h.len,Int.add_assoc,J3,this]
 exact hv
theorem Sum1.done {a b i:Nat} {c:Int} {out:List Int} (h:Sum1 a b i c out) (h1:(dig a).length<=i) (h2:(dig b).length<=i) (h3:c=0):Bo out=dig (a+b):=by
 have hv:=h.eqv
 rw [List.drop_eq_nil_of_le h1,List.drop_eq_nil_of_le h2,h3] at hv
 simp only [val] at hv
 rw [D9 h.ok]
 congr 1; omega
structure Dif1 (a b i:Nat) (c:Int) (out:List Int):Prop where
 len:out.length=i
 ok:okD out
 c0:0<=c/\c<=1
 eqv:val out+10000 ^ i*(val ((dig a).drop i) - val ((dig b).drop i) - c)=(a:Int) - b
theorem Dif1.step {a b i:Nat} {c n d:Int} {out:List Int} (h:Dif1 a b i c out) (hd:nth (dig a) i=some d) (hn:n=d - (nth (dig b) i).getD 0 - c):(n<0->Dif1 a b (i+1) 1 (out++[n+10000]))/\(¬ n<0->Dif1 a b (i+1) 0 (out++[n]))/\-10000<=n/\n<10000:=by
 have h1:=G1 (Dp a) hd
 have h2:=K9 b i
 have h3:=h.c0
 have hv:=h.eqv
 rw [Lf (dig b) i,Al hd,val] at hv
 refine ⟨fun lr=>⟨by simp [h.len],P9 h.ok (by omega) (by omega),by omega,?_⟩,fun lr=>⟨by simp [h.len],P9 h.ok (by omega) (by omega),by omega,?_⟩,by omega,by omega⟩
 ·have:n+10000+10000*(val ((dig a).drop (i+1)) - val ((dig b).drop (i+1)) - 1)=d+10000*val ((dig a).drop (i+1)) - ((nth (dig b) i).getD 0+10000*val ((dig b).drop (i+1))) - c:=by omega
  rw [Ql,h.len,Int.add_assoc,J3,this]
  exact hv
 ·have:n+10000*(val ((dig a).drop (i+1)) - val ((dig b).drop (i+1)) - 0)=d+10000*val ((dig a).drop (i+1)) - ((nth (dig b) i).getD 0+10000*val ((dig b).drop (i+1))) - c:=by omega
  rw [Ql,h.len,Int.add_assoc,J3,this]
  exact hv
theorem Acl {a b:Nat} (h:b<=a):(dig b).length<=(dig a).length:=by
 rw [D5]
 have:=(D5 (n:=a) (k:=(dig a).length)).1 (Nat.le_refl _)
 omega
theorem Dif1.done {a b:Nat} {c:Int} {out:List Int} (h:Dif1 a b (dig a).length c out) (hab:b<=a):Bo out=dig (a - b):=by
 have hv:=h.eqv
 have h3:=h.c0
 rw [List.drop_length,List.drop_eq_nil_of_le (Acl hab)] at hv
 simp only [val] at hv
 have hlt:=Aa6 h.ok
 rw [h.len] at hlt
 have hp:=V4 (dig a).length
 have hc:c=0:=by
  rcases Int.lt_or_le c 1 with h1|h1
  ·omega
  ·have:c=1:=by omega
   subst this
   have:(10000:Int) ^ (dig a).length*(0 - 0 - 1)=-(10000 ^ (dig a).length):=by omega
   omega
 subst hc
 rw [D9 h.ok]
 congr 1
 have:(10000:Int) ^ (dig a).length*(0 - 0 - 0)=0:=by simp
 omega
theorem Uh {l:List Int} {i:Nat} {x:Int} (h:okD l) (h0:0<=x) (h1:x<10000):okD (l.set i x):=fun d hd=>by
 rcases List.mem_or_eq_of_mem_set hd with hd|rfl
 ·exact h d hd
 ·exact ⟨h0,h1⟩
structure Mul1 (X Y i:Nat) (out:List Int):Prop where
 len:out.length=(dig X).length+(dig Y).length
 ok:okD out
 zero:∀ j x,i+(dig Y).length<=j->nth out j=some x->x=0
 eqv:val out+10000 ^ i*(val ((dig X).drop i)*Y)=X*Y
theorem Mul1.start (X Y:Nat):Mul1 X Y 0 (List.replicate ((dig X).length+(dig Y).length) 0):=by
 have hz:∀ (n j:Nat) (x:Int),nth (List.replicate n (0:Int)) j=some x->x=0:=fun n j x h=>by
  rw [Ab] at h
  exact (List.mem_replicate.1 (List.mem_of_getElem? h)).2
 refine ⟨by simp,R5 fun j x hx=>by rw [hz _ _ _ hx]; omega,fun j x _ hx=>hz _ _ _ hx,?_⟩
 rw [Gu,List.drop_zero,Dr]; simp
structure Mul2 (X Y i k:Nat) (v d c:Int) (out:List Int):Prop where
 len:out.length=(dig X).length+(dig Y).length
 ok:okD out
 zero:∀ j x,i+(dig Y).length<=j->(k<=(dig Y).length\/i+(dig Y).length<j)->nth out j=some x->x=0
 c0:0<=c/\c<10000
 eqv:val out+10000 ^ (i+k)*(c+d*val ((dig Y).drop k))=v
theorem Mul2.start {X Y i:Nat} {d:Int} {out:List Int} (h:Mul1 X Y i out):Mul2 X Y i 0 (val out+10000 ^ i*(d*Y)) d 0 out :=
 ⟨h.len,h.ok,fun j x hj _ hx=>h.zero j x hj hx,by omega,by rw [List.drop_zero,Dr]; simp⟩
theorem Mul2.step {X Y i k:Nat} {v d c x n:Int} {out:List Int} (h:Mul2 X Y i k v d c out) (hk:k<=(dig Y).length) (hd:0<=d/\d<10000) (hx:nth out (i+k)=some x) (hn:n=c+x+d*(nth (dig Y) k).getD 0) :
  Mul2 X Y i (k+1) v d (n.tdiv 10000) (out.set (i+k) (n.tmod 10000))/\0<=n/\n<=99999999/\n.tdiv 10000=n / 10000:=by
 have h1:=K9 Y k
 have h2:=G1 h.ok hx
 have h3:=h.c0
 have qw:0<=d*(nth (dig Y) k).getD 0:=Int.mul_nonneg hd.1 h1.1
 have m4:d*(nth (dig Y) k).getD 0<=9999*9999:=Int.mul_le_mul (by omega) (by omega) h1.1 (by omega)
 have e1:n.tdiv 10000=n / 10000:=Int.tdiv_eq_ediv_of_nonneg (by omega)
 have e2:n.tmod 10000=n % 10000:=Int.tmod_eq_emod_of_nonneg (by omega)
 refine ⟨⟨by rw [List.length_set]; exact h.len,Uh h.ok (by omega) (by omega),fun j y hj hjk hy=>?_,by omega,?_⟩,by omega,by omega,e1⟩
 ·rcases Dq hy with ⟨rfl,rfl⟩|⟨hne,hy⟩
  ·have hkk:k=(dig Y).length:=by omega
   omega
  ·exact h.zero j y hj (by omega) hy
 ·have hv:=h.eqv
  rw [Lf (dig Y) k] at hv
  have ej:d*((nth (dig Y) k).getD 0+10000*val ((dig Y).drop (k+1)))=d*(nth (dig Y) k).getD 0+10000*(d*val ((dig Y).drop (k+1))):=by
   rw [Int.mul_add,Int.mul_left_comm]
  rw [ej] at hv
  rw [Gv hx,Int.add_assoc,<- Nat.add_assoc,Int.mul_comm (n.tmod 10000 - x),J3,<- hv]
  congr 2
  omega
theorem Mul2.next {X Y i:Nat} {d c x:Int} {o out:List Int} (h:Mul2 X Y i (dig Y).length (val o+10000 ^ i*(d*Y)) d c out) (h0:Mul1 X Y i o) (hd:nth (dig X) i=some d) (hx:nth out (i+(dig Y).length)=some x):x=0/\Mul1 X Y (i+1) (out.set (i+(dig Y).length) (x+c)):=by
 have gn:=h.zero _ x (Nat.le_refl _) (.inl (Nat.le_refl _)) hx
 subst gn
 have h3:=h.c0
 refine ⟨rfl,by rw [List.length_set]; exact h.len,Uh h.ok (by omega) (by omega),fun j y hj hy=>?_,?_⟩
 ·rcases Dq hy with ⟨rfl,rfl⟩|⟨hne,hy⟩
  ·omega
  ·exact h.zero j y (by omega) (.inl (Nat.le_refl _)) hy
 ·have hv:=h.eqv
  rw [List.drop_length] at hv
  simp only [val,Int.mul_zero,Int.add_zero] at hv
  have kb:=h0.eqv
  rw [Al hd,val] at kb
  rw [Gv hx,<- kb]
  have e1:(0:Int)+c - 0=c:=by omega
  rw [e1,Int.mul_comm c,hv,Int.add_assoc,J3]
  congr 2
  rw [Int.add_mul,Int.mul_assoc]
theorem Mul1.done {X Y:Nat} {out:List Int} (h:Mul1 X Y (dig X).length out):Bo out=dig (X*Y):=by
 have hv:=h.eqv
 rw [List.drop_length] at hv
 simp only [val,Int.zero_mul,Int.mul_zero,Int.add_zero] at hv
 rw [D9 h.ok,hv]
 congr 1
end
section
open Go
end
section
open Go
end
section
open Go Tryz
section
variable (S:List Ent) (tk:List Nat) (k:Nat)
theorem Aaf (a b:Nat) (ha:(dig a).length<=1000000) (hb:(dig b).length<=1000000):cL prog 277 [digA (dig a),digA (dig b)] S tk k=some (.int (cmpN a b),S,tk,k):=by
 refine opP func277 ntmps277 ?_
 by_cases hl:(dig a).length=(dig b).length
 case neg =>
  have d1:(((dig a).length:Int) != ((dig b).length:Int))=true:=by simp; omega
  rcases Nat.lt_or_ge (dig a).length (dig b).length with h|h
  ·have d2:decide (((dig a).length:Int)<((dig b).length:Int))=true:=by simpa using h
   have:=Ls h
   simp (maxSteps:=10^6)+contextual(disch:=try exact dqd)only[ev0,simprocAttr,AV.int,AV.bool,AV.str,results277,digA,d1,d2]
   simp [cmpN,this]
  ·have d2:decide (((dig a).length:Int)<((dig b).length:Int))=false:=by simp; omega
   have:=Ls (a:=b) (b:=a) (by omega)
   simp (maxSteps:=10^6)+contextual(disch:=try exact dqd)only[ev0,simprocAttr,AV.int,AV.bool,AV.str,results277,digA,d1,d2]
   rw [cmpN,if_neg (by omega),if_pos this]
 have d1:(((dig a).length:Int) != ((dig b).length:Int))=false:=by simp; omega
 have d3:=Aa2 ha
 simp (maxSteps:=10^6)+contextual(disch:=try exact dqd)only[ev0,simprocAttr,AV.int,AV.bool,AV.str,results277,digA,d1,d3]
 refine loop1 (P:=prog) (fun x st=>st.T.length=41/\(x<=(dig a).length)/\(∀ j,x<=j->nth (dig a) j=nth (dig b) j)/\getT st.T 0=digA (dig a)/\getT st.T 1=digA (dig b)/\getT st.T 5=.int ((x:Int) - 1)/\st.S=[]) (fun x=>x) (fun x=>.int (cmpN a b)) ((dig a).length) ?_ ?_
 case refine_2=>exact ⟨rfl,Nat.le_refl _,fun j hj=>by rw [Ab,Ab,List.getElem?_eq_none hj,List.getElem?_eq_none (by omega)],rfl,rfl,rfl,rfl⟩
 rintro n ⟨T,S',tk',n'⟩ ⟨hl,hn,he,e0,e1,e5,eS⟩ IH
 subst eS
 obtain ⟨g,hg,hT⟩:=A4 hl
 rw [hg] at e0 e1 e5
 subst hT
 clear hg hl
 by_cases h0:n=0
 ·have d2:decide ((n:Int) - 1 >= 0)=false:=by simp; omega
  have:=Ab4 fun j=>he j (by omega)
  subst this
  simp (maxSteps:=10^6)+contextual(disch:=try exact dqd)only[ev0,simprocAttr,AV.int,AV.bool,AV.str,results277,e0,e1,e5,d2,digA]
  simp [cmpN]
 ·have d2:decide ((n:Int) - 1 >= 0)=true:=by simp; omega
  have hi:(n:Int) - 1=((n - 1:Nat):Int):=by omega
  obtain ⟨x,hx⟩:=Af (show n - 1<(dig a).length by omega)
  obtain ⟨y,hy⟩:=Af (show n - 1<(dig b).length by omega)
  have hx':=P8 hx
  have fj:=P8 hy
  have et:∀ j,n - 1<j->nth (dig a) j=nth (dig b) j:=fun j hj=>he j (by omega)
  have hp:=Aa2 (n:=n - 1) (by omega)
  rw [hi] at e5 d2
  by_cases cj:x=y
  ·have d4:(x != y)=false:=by simpa using cj
   simp (maxSteps:=10^6)+contextual(disch:=try exact dqd)only[ev0,simprocAttr,AV.int,AV.bool,AV.str,results277,e0,e1,e5,d2,d4,digA,hx',fj,hp]
   exact IH (n - 1) _ (by first|omega|(simp only; omega)) ⟨rfl,by first|omega|(dsimp only; omega),fun j hj=>by by_cases e:j=n - 1; (· rw [e,hx,hy,cj]); exact et j (by first|omega|(dsimp only; omega)),(by first|rfl|simp only [getT,List.map_append,List.map_cons,List.map_nil,digC,digA]),(by first|rfl|simp only [getT,List.map_append,List.map_cons,List.map_nil,digC,digA]),(by first|rfl|simp only [getT,List.map_append,List.map_cons,List.map_nil,digC,digA]),(by first|rfl|simp only [getT,List.map_append,List.map_cons,List.map_nil,digC,digA])⟩
  ·have d4:(x != y)=true:=by simpa using cj
   by_cases h1:x<y
   ·have d5:decide (x<y)=true:=by simpa using h1
    have:=Adi hl hx hy h1 et
    simp (maxSteps:=10^6)+contextual(disch:=try exact dqd)only[ev0,simprocAttr,AV.int,AV.bool,AV.str,results277,e0,e1,e5,d2,d4,d5,digA,hx',fj,hp]
    simp [cmpN,this]
   ·have d5:decide (x<y)=false:=by simpa using h1
    have:=Adi hl.symm hy hx (by omega) fun j hj=>(et j hj).symm
    simp (maxSteps:=10^6)+contextual(disch:=try exact dqd)only[ev0,simprocAttr,AV.int,AV.bool,AV.str,results277,e0,e1,e5,d2,d4,d5,digA,hx',fj,hp]
    rw [cmpN,if_neg (by omega),if_pos this]
theorem Tc (l:List Int) (id ep:Nat) (hlen:l.length<=1000000) (h:entAt S id ep=some (l.map numC)):cL prog 278 [.sref id ep 0 l.length 1] S tk k=some (.sref id ep 0 (Bo l).length 1,S,tk,k):=by
 refine opS func278 ntmps278 ?_
 have hid:id<S.length:=by
  obtain ⟨e,h1,-⟩:=Bw h
  exact A7 h1
 simp (maxSteps:=10^6)+contextual(disch:=try exact dqd)only[evs0,simprocAttr,AV.int,AV.bool,AV.str,results278]
 refine Agi (P:=prog) (fun x st=>st.T.length=21/\(x<=l.length)/\(∀ j,x<=j->∀ x,nth l j=some x->x=0)/\getT st.T 0=.sref id ep 0 x 1/\st.S=S/\st.tk=tk/\st.n=k) (fun x=>x) (fun x=>(.sref id ep 0 (Bo l).length 1,S,tk,k)) (l.length) ?_ ?_
 case refine_2=>exact ⟨rfl,Nat.le_refl _,Vt l,rfl,rfl,rfl,rfl⟩
 rintro n ⟨T,S',tk',n'⟩ ⟨hl,hn,hz,e0,eS,eT,eN⟩ IH
 subst eS eT eN
 obtain ⟨g,hg,hT⟩:=A4 hl
 rw [hg] at e0
 subst hT
 clear hg hl
 by_cases h0:n=0
 ·have d1:decide ((n:Int) > 0)=false:=by simp; omega
  have ht:=Kc hn hz (.inl h0)
  simp (maxSteps:=10^6)+contextual(disch:=try exact dqd)only[evs0,simprocAttr,AV.int,AV.bool,AV.str,results278,e0,d1]
  rw [ht]; simp [h0]
 ·have d1:decide ((n:Int) > 0)=true:=by simp; omega
  have hp:=Acz h0 (by omega)
  have bv:n - 1<l.length:=by omega
  have hn2:n - 1<n:=by omega
  have ji:n - 1<=n:=by omega
  obtain ⟨x,hx⟩:=Af bv
  have hx':=Z3 hx
  by_cases gn:x=0
  ·have d2:(x == 0)=true:=by simpa using gn
   simp (maxSteps:=10^6)+contextual(disch:=try exact dqd)only[evs0,simprocAttr,AV.int,AV.bool,AV.str,results278,e0,d1,d2,hp,hx',h,bv,hn2,ji,Nat.mul_one,Du,bound,intN_cast,Nat.le_refl,Nat.zero_le,Nat.zero_mul,Nat.sub_zero,Nat.add_zero]
   exact IH (n - 1) _ (by first|omega|(simp only; omega)) ⟨rfl,by first|omega|(dsimp only; omega),Zl hz hx gn,by and_intros <;> first|rfl|simp only [getT,List.map_append,List.map_cons,List.map_nil,digC,digA]⟩
  ·have d2:(x == 0)=false:=by simpa using gn
   have ht:=Kc hn hz (.inr ⟨x,hx,gn⟩)
   simp (maxSteps:=10^6)+contextual(disch:=try exact dqd)only[evs0,simprocAttr,AV.int,AV.bool,AV.str,results278,e0,d1,d2,hp,hx',h,bv,hn2,Nat.mul_one,Du,bound,intN_cast,hn,Nat.le_refl,Nat.zero_le,Nat.zero_mul,Nat.sub_zero,Nat.add_zero]
   rw [ht]; simp; omega
set_option maxRecDepth 100000 in
theorem Up (X Y:Nat) (ha:(dig X).length<=100000) (hb:(dig Y).length<=100000):cL prog 280 [digA (dig X),digA (dig Y)] S tk k=some (digA (dig (X*Y)),S,tk,k):=by
 refine opP func280 ntmps280 ?_
 have hw:IntKind.i64.wrap (((dig X).length:Int)+((dig Y).length:Int))=(((dig X).length+(dig Y).length:Nat):Int):=by rw [Ay (by unfold i64; omega)]; omega
 have qx:(Au prog 69).bind (Pr prog)=some 8:=by kernel_rfl
 have f5:=Agj (P:=prog) (t:=69) (n:=(dig X).length+(dig Y).length) (by simp only [tys,Option.bind_some]) (by simp only [tys,Option.bind_some]) qx (by omega)
 simp (maxSteps:=10^6)+contextual(disch:=try exact dqd)only[ev0,simprocAttr,AV.int,AV.bool,AV.str,results280,digA,hw,f5]
 refine loop1 (P:=prog) (fun x st=>st.T.length=67/\(x.1<=(dig X).length)/\(Mul1 X Y x.1 x.2)/\getT st.T 0=digA (dig X)/\getT st.T 1=digA (dig Y)/\getT st.T 5=.sref 0 0 0 ((dig X).length+(dig Y).length) 1/\getT st.T 18=digA (dig X)/\getT st.T 19=.int (dig X).length/\getT st.T 20=.int (x.1:Nat)/\st.S=[⟨0,x.2.map numC⟩]) (fun x=>(dig X).length - x.1) (fun x=>digA (dig (X*Y))) (0,List.replicate ((dig X).length+(dig Y).length) 0) ?_ ?_
 case refine_2=>exact ⟨rfl,Nat.zero_le _,Mul1.start X Y,rfl,rfl,rfl,rfl,rfl,rfl,rfl⟩
 rintro ⟨i,out⟩ ⟨T,S',tk',n'⟩ ⟨hl,hi,hp,e0,e1,e5,e18,e19,e20,eS⟩ IH
 simp only at hi hp e0 e1 e5 e18 e19 e20 eS
 subst eS
 obtain ⟨g,hg,hT⟩:=A4 hl
 rw [hg] at e0 e1 e5 e18 e19 e20
 subst hT
 clear hg hl
 have OUT:=IH
 clear IH
 have hlen:=hp.len
 by_cases hlt:i<(dig X).length
 ·have d2:decide ((i:Int)<((dig X).length:Int))=true:=by simpa using hlt
  obtain ⟨d,hd⟩:=Af hlt
  have cf:=P8 hd
  have jo:=G1 (Dp X) hd
  have eh:=A0 (i:=i) (by omega)
  have am:=Mul2.start (d:=d) hp
  simp (maxSteps:=10^6)+contextual(disch:=try exact dqd)only[ev0,simprocAttr,AV.int,AV.bool,AV.str,results280,digA,e0,e1,e5,e18,e19,e20,d2,cf]
  refine loop1 (P:=prog) (fun x st=>st.T.length=67/\(x.1<=(dig Y).length)/\(Mul2 X Y i x.1 (val out+10000 ^ i*(d*Y)) d x.2.1 x.2.2)/\getT st.T 0=digA (dig X)/\getT st.T 1=digA (dig Y)/\getT st.T 5=.sref 0 0 0 ((dig X).length+(dig Y).length) 1/\getT st.T 6=.int (i:Nat)/\getT st.T 7=.int d/\getT st.T 8=.int x.2.1/\getT st.T 18=digA (dig X)/\getT st.T 19=.int (dig X).length/\getT st.T 20=.int (i:Nat)/\getT st.T 25=digA (dig Y)/\getT st.T 26=.int (dig Y).length/\getT st.T 27=.int (x.1:Nat)/\st.S=[⟨0,x.2.2.map numC⟩]) (fun x=>(dig Y).length - x.1) (fun x=>digA (dig (X*Y))) (0,0,out) ?_ ?_
  case refine_2=>exact ⟨rfl,Nat.zero_le _,am,rfl,rfl,rfl,rfl,rfl,rfl,rfl,rfl,rfl,rfl,rfl,rfl,rfl⟩
  rintro ⟨m,c,o2⟩ ⟨T,S',tk',n'⟩ ⟨hl,hm,hq,e0,e1,e5,e6,e7,e8,e18,e19,e20,e25,e26,e27,eS⟩ IH
  simp only at hm hq e0 e1 e5 e6 e7 e8 e18 e19 e20 e25 e26 e27 eS
  subst eS
  obtain ⟨g,hg,hT⟩:=A4 hl
  rw [hg] at e0 e1 e5 e6 e7 e8 e18 e19 e20 e25 e26 e27
  subst hT
  clear hg hl
  have o9:=hq.len
  have hc0:=hq.c0
  have qy:=A0 (i:=m) (by omega)
  obtain ⟨x,hx⟩:=Af (show i+m<o2.length by omega)
  have hx':=Z3 hx
  have ek:i+m<(dig X).length+(dig Y).length:=by omega
  have pb:IntKind.i64.wrap ((i:Int)+(m:Int))=((i+m:Nat):Int):=by rw [Ay (by unfold i64; omega)]; omega
  have hxk:=G1 hq.ok hx
  by_cases cm:m<(dig Y).length
  ·have d3:decide ((m:Int)<((dig Y).length:Int))=true:=by simpa using cm
   obtain ⟨y,hy⟩:=Af cm
   have fj:=P8 hy
   have hyk:=G1 (Dp Y) hy
   obtain ⟨n,hn⟩:∃ n,n=c+x+d*y:=⟨_,rfl⟩
   obtain ⟨hq2,lr,bv,hn2⟩:=hq.step (n:=n) (by omega) jo hx (by rw [hn,hy]; rfl)
   have qw:0<=d*y:=Int.mul_nonneg jo.1 hyk.1
   have hw1:IntKind.i64.wrap (d*y)=d*y:=Ay (by unfold i64; omega)
   have hw2:IntKind.i64.wrap (x+d*y)=x+d*y:=Ay (by unfold i64; omega)
   have hw3:IntKind.i64.wrap (x+d*y+c)=n:=by rw [hn,Ay (by unfold i64; omega)]; omega
   have qz:IntKind.i64.wrap (n.tdiv 10000)=n.tdiv 10000:=by rw [hn2,Ay (by unfold i64; omega)]
   have k8:¬ ((10000:Int)=0):=by omega
   have i6:=Vz (v:=n.tmod 10000) hx
   simp (maxSteps:=10^6)+contextual(disch:=try exact dqd)only[ev0,simprocAttr,AV.int,AV.bool,AV.str,results280,digA,e0,e1,e5,e6,e7,e8,e18,e19,e20,e25,e26,e27,d3,fj,qy,pb,ek,hx',hw1,hw2,hw3,qz,k8,i6,Nat.mul_one]
   exact IH (m+1,n.tdiv 10000,o2.set (i+m) (n.tmod 10000)) _ (by first|omega|(simp only; omega)) ⟨rfl,by first|omega|(dsimp only; omega),hq2,(by first|rfl|simp only [getT,List.map_append,List.map_cons,List.map_nil,digC,digA]),(by first|rfl|simp only [getT,List.map_append,List.map_cons,List.map_nil,digC,digA]),(by first|rfl|simp only [getT,List.map_append,List.map_cons,List.map_nil,digC,digA]),(by first|rfl|simp only [getT,List.map_append,List.map_cons,List.map_nil,digC,digA]),(by first|rfl|simp only [getT,List.map_append,List.map_cons,List.map_nil,digC,digA]),(by first|rfl|simp only [getT,List.map_append,List.map_cons,List.map_nil,digC,digA]),(by first|rfl|simp only [getT,List.map_append,List.map_cons,List.map_nil,digC,digA]),(by first|rfl|simp only [getT,List.map_append,List.map_cons,List.map_nil,digC,digA]),(by first|rfl|simp only [getT,List.map_append,List.map_cons,List.map_nil,digC,digA]),(by first|rfl|simp only [getT,List.map_append,List.map_cons,List.map_nil,digC,digA]),(by first|rfl|simp only [getT,List.map_append,List.map_cons,List.map_nil,digC,digA]),(by first|rfl|simp only [getT,List.map_append,List.map_cons,List.map_nil,digC,digA]),(by first|rfl|simp only [getT,List.map_append,List.map_cons,List.map_nil,digC,digA])⟩
  ·have d3:decide ((m:Int)<((dig Y).length:Int))=false:=by simpa using cm
   have q6:m=(dig Y).length:=by omega
   subst q6
   obtain ⟨-,q7⟩:=hq.next hp hd hx
   have hw4:IntKind.i64.wrap (x+c)=x+c:=Ay (by unfold i64; omega)
   have i6:=Vz (v:=x+c) hx
   simp (maxSteps:=10^6)+contextual(disch:=try exact dqd)only[ev0,simprocAttr,AV.int,AV.bool,AV.str,results280,digA,e0,e1,e5,e6,e7,e8,e18,e19,e20,e25,e26,e27,d3,eh,pb,ek,hx',hw4,i6,Nat.mul_one]
   exact OUT (i+1,o2.set (i+(dig Y).length) (x+c)) _ (by first|omega|(simp only; omega)) ⟨rfl,by first|omega|(dsimp only; omega),q7,(by first|rfl|simp only [getT,List.map_append,List.map_cons,List.map_nil,digC,digA]),(by first|rfl|simp only [getT,List.map_append,List.map_cons,List.map_nil,digC,digA]),(by first|rfl|simp only [getT,List.map_append,List.map_cons,List.map_nil,digC,digA]),(by first|rfl|simp only [getT,List.map_append,List.map_cons,List.map_nil,digC,digA]),(by first|rfl|simp only [getT,List.map_append,List.map_cons,List.map_nil,digC,digA]),(by first|rfl|simp only [getT,List.map_append,List.map_cons,List.map_nil,digC,digA]),(by first|rfl|simp only [getT,List.map_append,List.map_cons,List.map_nil,digC,digA])⟩
 ·have d2:decide ((i:Int)<((dig X).length:Int))=false:=by simpa using hlt
  have he:i=(dig X).length:=by omega
  subst he
  have iw:=hp.done
  have hT:=Tc [⟨0,out.map numC⟩] tk' n' out 0 0 (by omega) rfl
  rw [hlen] at hT
  rw [iw] at hT
  simp (maxSteps:=10^6)+contextual(disch:=try exact dqd)only[ev0,simprocAttr,AV.int,AV.bool,AV.str,results280,digA,e0,e1,e5,e18,e19,e20,d2,hT]
  have c5:K3 (E8 1 (dig (X*Y)).length (out.map numC))=.frz ((dig (X*Y)).map digC) .unk:=by
   rw [<- iw,Xp (Qi out),Xq,<- Et]
  rw [c5]
end
end
end Go.Proofs.YthelkgdmgihhiaaGreatDoor
