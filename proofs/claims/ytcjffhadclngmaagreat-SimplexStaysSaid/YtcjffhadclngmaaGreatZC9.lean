/- Ty BNum BGlob EvTold BExt FName Plain B1 B2 B3 B4 B5 B6 B7 B8 R1 -/
import Derived.Test.YtcjffhadclngmaaGreatZC8
import Derived.Test.YtcjffhadclngmaaGreatChecked
import Derived.IntWalk
namespace Go.Proofs.YtcjffhadclngmaaGreat
section
theorem mixed:Tryz.prog.follows .mixedOrders=true:=by kernel_rfl
set_option maxRecDepth 100000 in
theorem tys :
  szOf Tryz.prog 1=some 1 /\
  aggT Tryz.prog 1=some false /\
  Aw Tryz.prog 1=some [.prim .nilFunc] /\
  B5 Tryz.prog 1=false /\
  szOf Tryz.prog 2=some 1 /\
  aggT Tryz.prog 2=some false /\
  Aw Tryz.prog 2=some [.prim (.int .i64 0)] /\
  Jo Tryz.prog 2=some .i64 /\
  B5 Tryz.prog 2=false /\
  szOf Tryz.prog 3=some 1 /\
  aggT Tryz.prog 3=some false /\
  Aw Tryz.prog 3=some [.prim (.int .i64 0)] /\
  Jo Tryz.prog 3=some .i64 /\
  B5 Tryz.prog 3=false /\
  szOf Tryz.prog 4=some 1 /\
  aggT Tryz.prog 4=some false /\
  Aw Tryz.prog 4=some [.prim (.bool false)] /\
  B5 Tryz.prog 4=false /\
  Ah4 Tryz.prog 4=true /\
  szOf Tryz.prog 5=some 1 /\
  aggT Tryz.prog 5=some false /\
  Aw Tryz.prog 5=some [.prim (.int .u8 0)] /\
  Jo Tryz.prog 5=some .u8 /\
  B5 Tryz.prog 5=false /\
  szOf Tryz.prog 9=some 1 /\
  aggT Tryz.prog 9=some false /\
  Aw Tryz.prog 9=some [.prim (.string ⟨#[]⟩)] /\
  B5 Tryz.prog 9=true /\
  szOf Tryz.prog 22=some 1 /\
  aggT Tryz.prog 22=some false /\
  Aw Tryz.prog 22=some [.frz [] .nilc] /\
  A8 Tryz.prog 22=some 27 /\
  apT Tryz.prog 22=some 3 /\
  B5 Tryz.prog 22=false /\
  szOf Tryz.prog 23=some 1 /\
  aggT Tryz.prog 23=some false /\
  Aw Tryz.prog 23=some [.frz [] .nilc] /\
  A8 Tryz.prog 23=some 70 /\
  apT Tryz.prog 23=some 2 /\
  B5 Tryz.prog 23=false /\
  szOf Tryz.prog 25=some 2 /\
  aggT Tryz.prog 25=some true /\
  Aw Tryz.prog 25=some [.frz [] .nilc,.prim (.int .i64 0)] /\
  B5 Tryz.prog 25=false /\
  A0 Tryz.prog 25 0=some (0,1,false) /\
  A0 Tryz.prog 25 1=some (1,1,false) /\
  fieldsOf Tryz.prog 25=some [(0,1),(1,1)] /\
  szOf Tryz.prog 27=some 3 /\
  aggT Tryz.prog 27=some true /\
  Aw Tryz.prog 27=some [.frz [] .nilc,.prim (.int .i64 0),.prim (.bool false)] /\
  B5 Tryz.prog 27=false /\
  A0 Tryz.prog 27 0=some (0,2,true) /\
  A0 Tryz.prog 27 1=some (2,1,false) /\
  fieldsOf Tryz.prog 27=some [(0,2),(2,1)] /\
  szOf Tryz.prog 29=some 1 /\
  aggT Tryz.prog 29=some false /\
  Aw Tryz.prog 29=some [.prim (.int .i64 0)] /\
  Jo Tryz.prog 29=some .i64 /\
  B5 Tryz.prog 29=false /\
  szOf Tryz.prog 32=some 1 /\
  aggT Tryz.prog 32=some false /\
  Aw Tryz.prog 32=some [.frz [] .nilc] /\
  A8 Tryz.prog 32=some 9 /\
  apT Tryz.prog 32=some 1 /\
  B5 Tryz.prog 32=false /\
  szOf Tryz.prog 37=some 1 /\
  aggT Tryz.prog 37=some false /\
  Aw Tryz.prog 37=some [.frz [] .nilc] /\
  A8 Tryz.prog 37=some 3 /\
  apT Tryz.prog 37=some 1 /\
  B5 Tryz.prog 37=false /\
  szOf Tryz.prog 39=some 2 /\
  aggT Tryz.prog 39=some true /\
  Aw Tryz.prog 39=some [.prim (.bool false),.frz [] .nilc] /\
  B5 Tryz.prog 39=false /\
  A0 Tryz.prog 39 0=some (0,1,false) /\
  A0 Tryz.prog 39 1=some (1,1,false) /\
  fieldsOf Tryz.prog 39=some [(0,1),(1,1)] /\
  szOf Tryz.prog 41=some 4 /\
  aggT Tryz.prog 41=some true /\
  Aw Tryz.prog 41=some [.prim (.bool false),.frz [] .nilc,.prim (.bool false),.frz [] .nilc] /\
  B5 Tryz.prog 41=false /\
  A0 Tryz.prog 41 0=some (0,2,true) /\
  A0 Tryz.prog 41 1=some (2,2,true) /\
  fieldsOf Tryz.prog 41=some [(0,2),(2,2)] /\
  szOf Tryz.prog 51=some 1 /\
  aggT Tryz.prog 51=some false /\
  Aw Tryz.prog 51=some [.frz [] .nilc] /\
  A8 Tryz.prog 51=some 39 /\
  apT Tryz.prog 51=some 2 /\
  B5 Tryz.prog 51=false /\
  szOf Tryz.prog 54=some 1 /\
  aggT Tryz.prog 54=some false /\
  Aw Tryz.prog 54=some [.frz [] .nilc] /\
  A8 Tryz.prog 54=some 41 /\
  apT Tryz.prog 54=some 4 /\
  B5 Tryz.prog 54=false /\
  szOf Tryz.prog 64=some 8 /\
  aggT Tryz.prog 64=some true /\
  Aw Tryz.prog 64=some [.prim (.bool false),.frz [] .nilc,.frz [] .nilc,.prim (.bool false),.frz [] .nilc,.prim (.bool false),.frz [] .nilc,.prim (.bool false)] /\
  B5 Tryz.prog 64=false /\
  A0 Tryz.prog 64 0=some (0,1,false) /\
  A0 Tryz.prog 64 1=some (1,1,false) /\
  A0 Tryz.prog 64 2=some (2,1,false) /\
  A0 Tryz.prog 64 3=some (3,4,true) /\
  A0 Tryz.prog 64 4=some (7,1,false) /\
  fieldsOf Tryz.prog 64=some [(0,1),(1,1),(2,1),(3,4),(7,1)] /\
  szOf Tryz.prog 68=some 1 /\
  aggT Tryz.prog 68=some false /\
  Aw Tryz.prog 68=some [.prim (.pointer none)] /\
  B5 Tryz.prog 68=false /\
  szOf Tryz.prog 70=some 2 /\
  aggT Tryz.prog 70=some true /\
  Aw Tryz.prog 70=some [.prim (.string ⟨#[]⟩),.prim (.int .i64 0)] /\
  B5 Tryz.prog 70=false /\
  A0 Tryz.prog 70 0=some (0,1,false) /\
  A0 Tryz.prog 70 1=some (1,1,false) /\
  fieldsOf Tryz.prog 70=some [(0,1),(1,1)] /\
  Xp Tryz.prog 70=some [2,1] /\
  szOf Tryz.prog 72=some 1 /\
  aggT Tryz.prog 72=some false /\
  Aw Tryz.prog 72=some [.frz [] .nilc] /\
  A8 Tryz.prog 72=some 54 /\
  apT Tryz.prog 72=some 1 /\
  B5 Tryz.prog 72=false /\
  szOf Tryz.prog 73=some 1 /\
  aggT Tryz.prog 73=some false /\
  Aw Tryz.prog 73=some [.frz [] .nilc] /\
  A8 Tryz.prog 73=some 4 /\
  apT Tryz.prog 73=some 1 /\
  B5 Tryz.prog 73=false /\
  szOf Tryz.prog 94=some 2 /\
  aggT Tryz.prog 94=some true /\
  Aw Tryz.prog 94=some [.prim (.int .i64 0),.prim (.int .i64 0)] /\
  B5 Tryz.prog 94=false /\
  A0 Tryz.prog 94 0=some (0,1,false) /\
  A0 Tryz.prog 94 1=some (1,1,false) /\
  fieldsOf Tryz.prog 94=some [(0,1),(1,1)] /\
  Xp Tryz.prog 94=some [1,1] /\
  szOf Tryz.prog 95=some 1 /\
  aggT Tryz.prog 95=some false /\
  Aw Tryz.prog 95=some [.prim (.pointer none)] /\
  B5 Tryz.prog 95=false /\
  szOf Tryz.prog 97=some 1 /\
  aggT Tryz.prog 97=some true /\
  Aw Tryz.prog 97=some [.prim (.bool false)] /\
  B5 Tryz.prog 97=false /\
  A0 Tryz.prog 97 0=some (0,1,false) /\
  fieldsOf Tryz.prog 97=some [(0,1)] /\
  Xp Tryz.prog 97=some [0] /\
  szOf Tryz.prog 100=some 0 /\
  aggT Tryz.prog 100=some true /\
  Aw Tryz.prog 100=some [] /\
  B5 Tryz.prog 100=false /\
  szOf Tryz.prog 120=some 1 /\
  aggT Tryz.prog 120=some false /\
  Aw Tryz.prog 120=some [.prim .nilIface] /\
  B5 Tryz.prog 120=false /\
  szOf Tryz.prog 121=some 1 /\
  aggT Tryz.prog 121=some false /\
  Aw Tryz.prog 121=some [.prim .nilIface] /\
  B5 Tryz.prog 121=false /\
  szOf Tryz.prog 122=some 1 /\
  aggT Tryz.prog 122=some false /\
  Aw Tryz.prog 122=some [.prim (.pointer none)] /\
  B5 Tryz.prog 122=false /\
  szOf Tryz.prog 127=some 1 /\
  aggT Tryz.prog 127=some false /\
  Aw Tryz.prog 127=some [.prim .nilIface] /\
  B5 Tryz.prog 127=false /\
  szOf Tryz.prog 128=some 1 /\
  aggT Tryz.prog 128=some false /\
  Aw Tryz.prog 128=some [.prim (.pointer none)] /\
  B5 Tryz.prog 128=false /\
  szOf Tryz.prog 130=some 1 /\
  aggT Tryz.prog 130=some false /\
  Aw Tryz.prog 130=some [.prim (.int .u64 0)] /\
  Jo Tryz.prog 130=some .u64 /\
  B5 Tryz.prog 130=false /\
  szOf Tryz.prog 137=some 1 /\
  aggT Tryz.prog 137=some false /\
  Aw Tryz.prog 137=some [.frz [] .nilc] /\
  A8 Tryz.prog 137=some 138 /\
  apT Tryz.prog 137=some 1 /\
  B5 Tryz.prog 137=false /\
  szOf Tryz.prog 138=some 1 /\
  aggT Tryz.prog 138=some false /\
  Aw Tryz.prog 138=some [.frz [] .nilc] /\
  A8 Tryz.prog 138=some 94 /\
  apT Tryz.prog 138=some 2 /\
  B5 Tryz.prog 138=false /\
  szOf Tryz.prog 140=some 7 /\
  aggT Tryz.prog 140=some true /\
  Aw Tryz.prog 140=some [.prim .nilIface,.prim (.int .i64 0),.prim (.int .i64 0),.frz [] .nilc,.frz [] .nilc,.frz [] .nilc,.frz [] .nilc] /\
  B5 Tryz.prog 140=false /\
  A0 Tryz.prog 140 0=some (0,1,false) /\
  A0 Tryz.prog 140 1=some (1,1,false) /\
  A0 Tryz.prog 140 2=some (2,1,false) /\
  A0 Tryz.prog 140 3=some (3,1,false) /\
  A0 Tryz.prog 140 4=some (4,1,false) /\
  A0 Tryz.prog 140 5=some (5,1,false) /\
  A0 Tryz.prog 140 6=some (6,1,false) /\
  fieldsOf Tryz.prog 140=some [(0,1),(1,1),(2,1),(3,1),(4,1),(5,1),(6,1)] /\
  szOf Tryz.prog 147=some 7 /\
  aggT Tryz.prog 147=some true /\
  Aw Tryz.prog 147=some [.prim .nilIface,.prim (.int .i64 0),.prim (.int .i64 0),.frz [] .nilc,.frz [] .nilc,.frz [] .nilc,.frz [] .nilc] /\
  B5 Tryz.prog 147=false /\
  A0 Tryz.prog 147 0=some (0,1,false) /\
  A0 Tryz.prog 147 1=some (1,1,false) /\
  A0 Tryz.prog 147 2=some (2,1,false) /\
  A0 Tryz.prog 147 3=some (3,1,false) /\
  A0 Tryz.prog 147 4=some (4,1,false) /\
  A0 Tryz.prog 147 5=some (5,1,false) /\
  A0 Tryz.prog 147 6=some (6,1,false) /\
  fieldsOf Tryz.prog 147=some [(0,1),(1,1),(2,1),(3,1),(4,1),(5,1),(6,1)] /\
  szOf Tryz.prog 189=some 2 /\
  aggT Tryz.prog 189=some true /\
  Aw Tryz.prog 189=some [.prim (.bool false),.frz [] .nilc] /\
  B5 Tryz.prog 189=false /\
  A0 Tryz.prog 189 0=some (0,1,false) /\
  A0 Tryz.prog 189 1=some (1,1,false) /\
  fieldsOf Tryz.prog 189=some [(0,1),(1,1)] /\
  szOf Tryz.prog 199=some 4 /\
  aggT Tryz.prog 199=some true /\
  Aw Tryz.prog 199=some [.prim (.int .i64 0),.prim (.int .i64 0),.prim (.int .i64 0),.prim (.int .i64 0)] /\
  B5 Tryz.prog 199=false /\
  A0 Tryz.prog 199 0=some (0,1,false) /\
  A0 Tryz.prog 199 1=some (1,1,false) /\
  A0 Tryz.prog 199 2=some (2,1,false) /\
  A0 Tryz.prog 199 3=some (3,1,false) /\
  fieldsOf Tryz.prog 199=some [(0,1),(1,1),(2,1),(3,1)] /\
  Xp Tryz.prog 199=some [1,1,1,1] /\
  szOf Tryz.prog 206=some 2 /\
  aggT Tryz.prog 206=some true /\
  Aw Tryz.prog 206=some [.prim (.bool false),.prim (.int .i64 0)] /\
  B5 Tryz.prog 206=false /\
  A0 Tryz.prog 206 0=some (0,1,false) /\
  A0 Tryz.prog 206 1=some (1,1,false) /\
  fieldsOf Tryz.prog 206=some [(0,1),(1,1)] /\
  Xp Tryz.prog 206=some [0,1] :=
 by and_intros <;> kernel_rfl
end
section
def val:List Int->Int
 | []=>0
 | d :: r=>d+10000*val r
def digN:Nat->Nat->List Int
 | 0,_=>[]
 | f+1,n=>if n=0 then [] else ((n % 10000:Nat):Int) :: digN f (n / 10000)
def dig (n:Nat):List Int:=digN n n
def okD (l:List Int):Prop:=∀ d ∈ l,0<=d/\d<10000
theorem Wi:∀ {f g n:Nat},n<=f->n<=g->digN f n=digN g n
 | 0,0,_,_,_=>rfl
 | 0,g+1,n,h,_=>by
   have:n=0:=by omega
   subst this; simp [digN]
 | f+1,0,n,_,h=>by
   have:n=0:=by omega
   subst this; simp [digN]
 | f+1,g+1,n,h1,h2=>by
  simp only [digN]
  by_cases h:n=0
  ·simp [h]
  ·rw [if_neg h,if_neg h,Wi (f:=f) (g:=g) (n:=n / 10000) (by omega) (by omega)]
theorem Ds:dig 0=[]:=rfl
theorem Hx {n:Nat} (h:n≠0):dig n=((n % 10000:Nat):Int) :: dig (n / 10000):=by
 unfold dig
 cases n with
 | zero=>exact absurd rfl h
 | succ n =>
  rw [digN,if_neg h]
  congr 1
  exact Wi (by omega) (Nat.le_refl _)
theorem Dk (n:Nat):val (dig n)=n:=by
 induction n using Nat.strongRecOn with
 | _ n ih =>
  by_cases h:n=0
  ·subst h; rfl
  ·rw [Hx h,val,ih (n / 10000) (by omega)]; omega
theorem B4 (n:Nat):okD (dig n):=by
 induction n using Nat.strongRecOn with
 | _ n ih =>
  by_cases h:n=0
  ·subst h; intro d hd; simp [Ds] at hd
  ·rw [Hx h]
   intro d hd
   rcases List.mem_cons.1 hd with rfl|hd
   ·omega
   ·exact ih (n / 10000) (by omega) d hd
theorem Vi {d:Int} (h0:0<d) (h1:d<10000):dig d.toNat=[d]:=by
 rw [Hx (by omega)]
 have e1:d.toNat % 10000=d.toNat:=Nat.mod_eq_of_lt (by omega)
 have e2:d.toNat / 10000=0:=by omega
 rw [e1,e2,Ds]
 congr 1; omega
theorem Gg:∀ {l:List Int},okD l->0<=val l
 | [],_=>by simp [val]
 | d :: r,h=>by
  have h1:=h d (by simp)
  have h2:=Gg (l:=r) fun x hx=>h x (by simp [hx])
  simp only [val]; omega
def Dw:List Int->List Int
 | []=>[]
 | d :: r=>if Dw r=[]/\d=0 then [] else d :: Dw r
theorem Hs {n:Nat} : dig n=[]↔n=0:=by
 constructor
 ·intro h
  by_cases h0:n=0
  ·exact h0
  ·rw [Hx h0] at h; simp at h
 ·rintro rfl; rfl
theorem Ei:∀ {l:List Int},okD l->Dw l=dig (val l).toNat
 | [],_=>rfl
 | d :: r,h=>by
  have h1:=h d (by simp)
  have hr:okD r:=fun x hx=>h x (by simp [hx])
  have h2:=Gg hr
  rw [Dw,Ei hr]
  simp only [val]
  by_cases hv:val r=0
  ·by_cases hd:d=0
   ·rw [if_pos ⟨by rw [hv]; rfl,hd⟩,hv,hd]; rfl
   ·rw [if_neg (fun h=>hd h.2),hv]
    have e:(d+10000*0).toNat=d.toNat:=by omega
    rw [e,Vi (by omega) h1.2]; rfl
  ·have hn:¬ (val r).toNat=0:=by omega
   rw [if_neg (fun h=>hn (Hs.1 h.1)),Hx (n:=(d+10000*val r).toNat) (by omega)]
   have e1:(d+10000*val r).toNat / 10000=(val r).toNat:=by omega
   have e2:(((d+10000*val r).toNat % 10000:Nat):Int)=d:=by omega
   rw [e1,e2]
theorem Bo {n k:Nat} : (dig n).length<=k↔n<10000 ^ k:=by
 induction k generalizing n with
 | zero =>
  rw [Nat.pow_zero]
  constructor
  ·intro h
   have:dig n=[]:=List.eq_nil_of_length_eq_zero (by omega)
   have:=Hs.1 this; omega
  ·intro h
   have:n=0:=by omega
   subst this; simp [Ds]
 | succ k ih =>
  by_cases h:n=0
  ·subst h; simp [Ds,Nat.pow_pos]
  ·rw [Hx h,List.length_cons,Nat.add_le_add_iff_right,ih,Nat.pow_succ,Nat.div_lt_iff_lt_mul (by omega)]
theorem Ani {a b:Nat} (h:dig a=dig b):a=b:=by
 have h1:=Dk a
 have h2:=Dk b
 rw [h] at h1; omega
theorem G0 (l r:List Int):val (l++r)=val l+10000 ^ l.length*val r:=by
 induction l with
 | nil=>simp [val]
 | cons d l ih=>simp only [List.cons_append,val,ih,List.length_cons,Int.pow_succ]; rw [Int.mul_add,Int.mul_comm (10000 ^ l.length) 10000,Int.mul_assoc]; omega
theorem Hc (n:Nat):val (List.replicate n 0)=0:=by
 induction n with
 | zero=>rfl
 | succ n ih=>rw [List.replicate_succ,val,ih]; rfl
theorem J2 {l:List Int} {i:Nat} {x v:Int} (h:nth l i=some x):val (l.set i v)=val l+(v - x)*10000 ^ i:=by
 induction l generalizing i with
 | nil=>simp [nth] at h
 | cons d l ih =>
  cases i with
  | zero=>simp only [nth,Option.some.injEq] at h; subst h; simp only [List.set_cons_zero,val,Int.pow_zero]; omega
  | succ i =>
   simp only [nth] at h
   simp only [List.set_cons_succ,val,ih h,Int.pow_succ]
   rw [Int.mul_add,Int.mul_comm (10000 ^ i) 10000,<- Int.mul_assoc,<- Int.mul_assoc,Int.mul_comm 10000 (v - x)]; omega
theorem P0 (l:List Int):(Dw l).length<=l.length:=by
 induction l with
 | nil=>simp [Dw]
 | cons d l ih=>rw [Dw]; split <;> simp; exact ih
theorem Nb:∀ (n:Nat) (l:List Int),n<=l.length->(∀ j,n<=j->∀ x,nth l j=some x->x=0)->Dw l=Dw (l.take n)
 | 0,[],_,_=>rfl
 | 0,d :: l,_,h=>by
  have hd:=h 0 (Nat.le_refl _) d rfl
  have:=Nb 0 l (Nat.zero_le _) fun j _ x hx=>h (j+1) (Nat.zero_le _) x hx
  rw [Dw,this,hd]; simp [Dw]
 | n+1,[],h,_=>by simp at h
 | n+1,d :: l,hn,h=>by
  have:=Nb n l (by simpa using hn) fun j hj x hx=>h (j+1) (by omega) x hx
  rw [List.take_succ_cons,Dw,Dw,this]
theorem Um:∀ (l:List Int) (n:Nat) (x:Int),nth l n=some x->l.length=n+1->x≠0->Dw l=l
 | [],_,_,h,_,_=>by simp [nth] at h
 | d :: l,0,x,h,hl,hx=>by
  have:l=[]:=List.eq_nil_of_length_eq_zero (by simpa using hl)
  subst this
  simp only [nth,Option.some.injEq] at h; subst h
  simp [Dw,hx]
 | d :: l,n+1,x,h,hl,hx=>by
  have ih:=Um l n x h (by simpa using hl) hx
  have hne:l≠[]:=by rintro rfl; simp [nth] at h
  rw [Dw,ih,if_neg (fun h=>hne h.1)]
/- which numbers are valid,and what they stand for -/
def Yp (l:List Int):Bool:=match nth l (l.length - 1) with|some x=>x == 0|none=>false
def allD:List Int->Bool
 | []=>true
 | d :: r=>if (decide (d<0) || decide (d >= 10000))=true then false else allD r
theorem Af8 {l:List Int} : allD l=true↔okD l:=by
 induction l with
 | nil=>simp [allD,okD]
 | cons d l ih =>
  rw [allD]
  by_cases h:d<0\/d >= 10000
  ·have:(decide (d<0) || decide (d >= 10000))=true:=by simpa using h
   simp only [this,if_true,Bool.false_eq_true,false_iff]
   intro hk
   have:=hk d (by simp); omega
  ·have:(decide (d<0) || decide (d >= 10000))=false:=by simp; omega
   simp only [this,Bool.false_eq_true,if_false,ih]
   constructor
   ·intro hk x hx
    rcases List.mem_cons.1 hx with rfl|hx
    ·omega
    ·exact hk x hx
   ·exact fun hk x hx=>hk x (by simp [hx])
def Eb (neg:Bool) (l:List Int):Bool:=if (decide (200<l.length) || (decide (l=[]) && neg) || Yp l)=true then false else allD l
def V (neg:Bool) (l:List Int):Int:=if Eb neg l=true then (if neg=true then -(val l) else val l) else 0
theorem Kl {neg:Bool} {l:List Int} (h:Eb neg l=true):l=dig (val l).toNat/\okD l/\l.length<=200:=by
 unfold Eb at h
 split at h
 ·simp at h
 ·rename_i hh
  have hk:=Af8.1 h
  simp only [Bool.or_eq_true,decide_eq_true_eq,not_or] at hh
  refine ⟨?_,hk,by omega⟩
  rw [<- Ei hk]
  by_cases hl:l=[]
  ·subst hl; rfl
  ·have hpos:0<l.length:=List.length_pos_iff.2 hl
   obtain ⟨x,hx⟩:=Ag (l:=l) (i:=l.length - 1) (by omega)
   have hz:=hh.2
   unfold Yp at hz
   rw [hx] at hz
   exact (Um l (l.length - 1) x hx (by omega) (by simpa using hz)).symm
theorem Aoi (neg:Bool) (l:List Int):dig (V neg l).natAbs=if Eb neg l=true then l else []:=by
 unfold V
 by_cases h:Eb neg l=true
 ·obtain ⟨h1,h2,-⟩:=Kl h
  have h3:=Gg h2
  rw [if_pos h,if_pos h]
  conv=>rhs; rw [h1]
  congr 1
  split <;> omega
 ·rw [if_neg h,if_neg h]; rfl
theorem Ajb (neg:Bool) (l:List Int):(dig (V neg l).natAbs).length<=200:=by
 rw [Aoi]
 split
 ·rename_i h; exact (Kl h).2.2
 ·simp
theorem Pq (z:Int) (h:(dig z.natAbs).length<=200):Eb (decide (z<0)) (dig z.natAbs)=true:=by
 unfold Eb
 have hk:=B4 z.natAbs
 rw [if_neg]
 ·exact Af8.2 hk
 ·simp only [Bool.or_eq_true,decide_eq_true_eq,Bool.and_eq_true,not_or]
  refine ⟨⟨by omega,fun h=>?_⟩,fun hz=>?_⟩
  ·have:=Hs.1 h.1; omega
  ·unfold Yp at hz
   split at hz
   ·rename_i x hx
    have ta:x=0:=by simpa using hz
    subst ta
    have ht:=Ei hk
    rw [Dk] at ht
    have e:((z.natAbs:Int)).toNat=z.natAbs:=by omega
    rw [e] at ht
    have hl:=Bk hx
    have h1:=Nb ((dig z.natAbs).length - 1) (dig z.natAbs) (by omega) (fun j hj y hy=>by
     have:j=(dig z.natAbs).length - 1:=by have:=Bk hy; omega
     subst this
     rw [hx] at hy; simpa using hy.symm)
    have h2:=P0 ((dig z.natAbs).take ((dig z.natAbs).length - 1))
    rw [<- h1,ht] at h2
    simp at h2; omega
   ·simp at hz
theorem V_of (z:Int) (h:(dig z.natAbs).length<=200):V (decide (z<0)) (dig z.natAbs)=z:=by
 unfold V
 rw [if_pos (Pq z h),Dk]
 by_cases hz:z<0 <;> simp [hz] <;> omega
end
section
open Go
def digC (x:Int):List AV:=[.prim (.int .i64 x)]
def digA (l:List Int):AV:=.frz (l.map digC) .unk
def bigA (neg:Bool) (l:List Int):AV:=.agg [.prim (.bool neg),digA l]
def zA (z:Int):AV:=bigA (decide (z<0)) (dig z.natAbs)
def ownF:Option Tmp->TypeId->Bool
 | some 92,54|some 105,54|some 31,54|some 57,54|some 88,54|some 96,54=>true
 | some 32,72|some 240,72=>true
 | some 45,37|some 255,37=>true
 | some 240,137=>true
 | _,_=>false
def lkF0 (f:FuncId):Bool:=f == 157 || f == 158 || f == 159 || f == 160 || f == 161 || f == 162 || f == 163 || f == 164 ||
 f == 110 || f == 115 || f == 37
def anF0 (f:FuncId):Bool:=f == 60 || f == 39 || f == 63 || f == 40 || f == 36 ||
 f == 112 || f == 117
def mvF0 (f:FuncId):Bool:=f == 60 || f == 39 || f == 63 || f == 40 || f == 36 || f == 32 ||
 f == 81 || f == 87
instance:Globs:=⟨[],fun f=>f == 104 || f == 103 || f == 175,true,ownF,lkF0,anF0,true,false⟩
end
section
open Go
variable {P:Program}
@[reducible] def Ext.quiet (E:Ext P):Ext P:={ on:=E.on,mv:=E.mv,call:=fun _ _ _ _ _=>none }
theorem G5 [Globs] (E:Ext P) {call:Dh} {ok:St->List Oper->Bool} {n:Nat} : ∀ (c:Code) (st:St),@evC _ P (Ext.quiet E) call ok n c st=@evC _ P E call ok n c st
 | .skip,_=>by simp only [evC]
 | .region _ ops draw,st=>by simp only [evC]; rfl
 | .seq a b,st=>by
  simp only [evC,G5 E a]
  split <;> first|exact G5 E b _|rfl
 | .cond c a b,st=>by simp only [evC,G5 E a,G5 E b]
 | .block _ c,st=>by simp only [evC,G5 E c]
 | .loop c,st=>by
  simp only [evC]
  congr 1
  funext s
  exact G5 E c s
 | .exit _,_=>by simp only [evC]
 | .ret,_=>by simp only [evC]
 | .scope c,st=>by simp only [evC]; exact G5 E c st
 | .label _,_=>by simp only [evC]
 | .goto _,_=>by simp only [evC]
 | .rangeFunc _ _ _ _,_=>by simp only [evC]
 | .refuse _,_=>by simp only [evC]
theorem Ym [Globs] (E:Ext P) {ok:St->List Oper->Bool} : ∀ k,CLe (@evF _ P (Ext.quiet E) ok k) (@evF _ P E ok k)
 | 0=>by intro f args S tk n r he; simp [evF] at he
 | k+1=>by
  have ih:=Ym E (ok:=ok) k
  intro f args S tk n r he
  simp only [evF] at he ⊢
  split at he
  ·simp at he
  rename_i tq
  rw [if_neg (show ¬ @Ext.on P E f=true from tq)]
  split at he
  ·rename_i fn hf
   split at he
   ·rename_i c hb
    split at he
    ·simp at he
    ·rename_i aq
     rw [if_neg aq]
     have out:∀ {st0:St} {r0:AV × St},outA P fn (@evC _ P (Ext.quiet E) (@evF _ P (Ext.quiet E) ok k) ok k c st0)=some r0->outA P fn (@evC _ P E (@evF _ P E ok k) ok k c st0)=some r0:=by
      intro st0 r0 h
      rw [G5 E] at h
      exact Ki (fun z hz=>Df ih (Nat.le_refl _) c _ z hz) h
     split at he
     ·rename_i tu
      rw [if_pos (show @Ext.mv P E f=true from tu)]
      split at he
      ·rename_i r' s1 ho
       rw [out ho]
       exact he
      ·simp at he
     rename_i tu
     rw [if_neg (show ¬ @Ext.mv P E f=true from tu)]
     split at he
     ·rename_i hp
      rw [if_pos hp]
      have one:∀ {xs0:List AV} {r0:AV},@runP _ P (Ext.quiet E) ok (@evF _ P (Ext.quiet E) ok k) k fn c xs0=some r0->@runP _ P E ok (@evF _ P E ok k) k fn c xs0=some r0:=by
       intro xs0 r0 hrun
       unfold runP at hrun ⊢
       split at hrun
       ·rename_i r' s1 ho
        rw [out ho]
        exact hrun
       ·simp at hrun
      split at he
      ·rename_i r' ho
       have:(if Ht c=true then runN (@runP _ P E ok (@evF _ P E ok k) k fn c) (args.map w2) else @runP _ P E ok (@evF _ P E ok k) k fn c (args.map w2))=some r':=by
        split at ho
        ·rename_i hn
         rw [if_pos hn]
         unfold runN at ho ⊢
         split at ho
         ·split at ho
          ·rename_i q1 q2
           rw [one q1,one q2]; exact ho
          ·simp at ho
         ·exact one ho
        ·rename_i hn
         rw [if_neg hn]
         exact one ho
       rw [this]; exact he
      ·simp at he
     ·rename_i hp
      rw [if_neg hp]
      split at he
      ·rename_i r' s1 ho
       rw [out ho]
       exact he
      ·simp at he
   ·simp at he
  ·simp at he
theorem told [Globs] {E:Ext P} {f:FuncId} {args:List AV} {S:List Ent} {tk:List Nat} {n:Nat} {r:AV × List Ent × List Nat × Nat} (h:@cL _ P (Ext.quiet E) f args S tk n=some r):@cL _ P E f args S tk n=some r:=by
 obtain ⟨k,hk⟩:=(@Jq P _ (Ext.quiet E) _ _ _ _ _ _).1 h
 exact (@Jq P _ E _ _ _ _ _ _).2 ⟨k,Ym E k _ _ _ _ _ _ hk⟩
theorem Akg [Globs] (E:Ext P):@Acg _ P (Ext.quiet E):=by
 letI:=Ext.quiet E
 refine ⟨fun f args S tk n r S' tk' n' h=>?_,fun M f args S tk n r S' tk' n' h=>?_⟩
 ·unfold extC at h; split at h <;> simp at h
 ·unfold Ep at h; split at h
  ·unfold extC at h; split at h <;> simp at h
  ·simp at h
end
section
open Go Tryz
def N3:List (List AV)->Option (List Int)
 | []=>some []
 | [.prim (.int .i64 x)] :: r=>(N3 r).map (x :: ·)
 | _=>none
theorem Ns:∀ l:List Int,N3 (l.map digC)=some l
 | []=>rfl
 | x :: l=>by simp only [List.map_cons,digC,N3,Ns l,Option.map_some]
def strC (s:ByteArray):List AV:=[.prim (.string s)]
def Am (l:List ByteArray):AV:=.frz (l.map strC) .unk
def Qc:List (List AV)->Option (List ByteArray)
 | []=>some []
 | [.prim (.string x)] :: r=>(Qc r).map (x :: ·)
 | _=>none
theorem T7:∀ l:List ByteArray,Qc (l.map strC)=some l
 | []=>rfl
 | x :: l=>by simp only [List.map_cons,strC,Qc,T7 l,Option.map_some]
theorem Q5:∀ {es:List (List AV)} {l:List ByteArray},Qc es=some l->es=l.map strC
 | [],l,h=>by simp only [Qc,Option.some.injEq] at h; subst h; rfl
 | e :: es,l,h=>by
  unfold Qc at h
  split at h
  ·rename_i he; simp at he
  ·rename_i x r he
   simp only [List.cons.injEq] at he
   obtain ⟨rfl,rfl⟩:=he
   simp only [Option.map_eq_some_iff] at h
   obtain ⟨l',h1,rfl⟩:=h
   rw [Q5 h1]; rfl
  ·simp at h
def putS (l:List ByteArray) (s:ByteArray):List ByteArray :=
 match l with
 | []=>[s]
 | x :: r=>if sLt x s=true then x :: putS r s else if sEq x s=true then x :: r else s :: x :: r
def uniS (l:List ByteArray):List ByteArray:=l.foldl putS []
def Qd:Cap->Bool
 | .nilc=>true
 | _=>false
def quoF (l r:List Int):Option AV :=
 if l=dig (val l).toNat/\r=dig (val r).toNat/\r≠[]/\l.length<=90000/\r.length<=90000 then
  some (.tup [digA (dig ((val l).toNat / (val r).toNat)),digA (dig ((val l).toNat % (val r).toNat))]) else none
def quoC (args:List AV) (S:List Ent) (tk:List Nat) (n:Nat):Option (AV × List Ent × List Nat × Nat):=match args with
  | [.frz es _,.frz ys _]=>match N3 es,N3 ys with
   | some l,some r=>match quoF l r with
    | some v=>some (v,S,tk,n)
    | none=>none
   | _,_=>none
  | _=>none
def uniC (args:List AV) (S:List Ent) (tk:List Nat) (n:Nat):Option (AV × List Ent × List Nat × Nat):=match args with
  | [.frz es c,.frz [] .nilc]=>match Qc es with
   | some l=>if (decide (l.length<=1000000) && (!l.isEmpty || Qd c))=true then some (Am (uniS l),S,tk,n) else none
   | none=>none
  | _=>none
@[reducible] noncomputable def E1:Ext prog where
 on:=fun f=>f == 55 || f == 169
 mv:=mvF0
 call:=fun f args S tk n=>if f == 55 then uniC args S tk n else if f == 169 then quoC args S tk n else none
@[reducible] noncomputable instance E0:Ext prog:=Ext.quiet E1
instance:Acg prog:=Akg E1
theorem ext_mv (f:FuncId) (h:mvF0 f=false):Ext.mv prog f=false:=h
set_option linter.defProp false in
def ev0:=And.intro ext_mv <| And.intro @entAt.eq_def <| And.intro evt tys
set_option linter.defProp false in
def evs0:=And.intro ext_mv <| And.intro @Bf <| And.intro @Na <| And.intro @Ac9 <| And.intro @List.take_left.{0} <| And.intro @List.take_length.{0} <| And.intro evt tys
end
section
open Go
theorem Aju (s:ByteArray):∀ (n i:Nat) (r:List UInt8),s.size - i=n->ByteArray.toList.loop s i r=r.reverse++s.data.toList.drop i:=by
 intro n
 induction n with
 | zero =>
  intro i r h
  rw [ByteArray.toList.loop,if_neg (by omega),List.drop_eq_nil_of_le (by simp; omega),List.append_nil]
 | succ n ih =>
  intro i r h
  have hi:i<s.data.size:=by simp; omega
  rw [ByteArray.toList.loop,if_pos (by omega),ih (i+1) _ (by omega),List.reverse_cons,List.append_assoc]
  congr 1
  have e:s.data.toList.drop i=s.data[i] :: s.data.toList.drop (i+1):=by
   rw [<- Array.getElem_toList hi,List.getElem_cons_drop]
  rw [e,List.singleton_append]
  congr 1
  show s.data[i]! = _
  rw [getElem!_pos s.data i hi]
def nm (s:ByteArray):List UInt8:=s.data.toList
theorem Vz (s:ByteArray):s.toList=nm s:=by rw [ByteArray.toList,Aju s _ 0 [] rfl]; simp [nm]
theorem Aeq {a b:ByteArray} (h:nm a=nm b):a=b:=by
 apply ByteArray.ext; exact Array.ext' h
theorem Nz:∀ (x y:List UInt8),Op.bytesLess x y=decide (x<y)
 | [],[]=>by simp [Op.bytesLess]
 | a :: x,[]=>by simp [Op.bytesLess]
 | [],b :: y=>by simp [Op.bytesLess]
 | a :: x,b :: y=>by
  rw [Op.bytesLess,Nz x y]
  by_cases h1:a<b
  ·simp [h1,List.cons_lt_cons_iff]
  ·by_cases h2:a=b
   ·subst h2; simp [List.cons_lt_cons_iff]
   ·simp [h1,h2,List.cons_lt_cons_iff]
theorem Abr (a b:ByteArray):sLt a b=decide (nm a<nm b):=by
 unfold sLt; rw [Vz,Vz,Nz]
theorem Qp (a b:ByteArray):sEq a b=decide (a=b):=by
 unfold sEq; rw [Vz,Vz]
 by_cases h:a=b
 ·subst h; simp
 ·have:nm a≠nm b:=fun h'=>h (Aeq h')
  simp [h,this]
theorem X6 {a b c:List UInt8} (h1:a<b) (h2:b<c):a<c:=List.lt_trans h1 h2
theorem Nl (a:List UInt8):¬ a<a:=List.lt_irrefl a
theorem Agm (a b:ByteArray):nm a<nm b\/a=b\/nm b<nm a:=by
 by_cases h1:nm a<nm b
 ·exact .inl h1
 ·by_cases h2:nm b<nm a
  ·exact .inr (.inr h2)
  ·exact .inr (.inl (Aeq (List.le_antisymm (List.not_lt.1 h2) (List.not_lt.1 h1))))
def Inc (l:List ByteArray):Prop:=l.Pairwise fun a b=>nm a<nm b
theorem Y8 (s x:ByteArray):∀ l:List ByteArray,x ∈ putS l s↔x=s\/x ∈ l
 | []=>by simp [putS]
 | y :: r=>by
  rw [putS]
  split
  ·rw [List.mem_cons,Y8 s x r,List.mem_cons]
   constructor
   ·rintro (h|h|h) <;> simp [h]
   ·rintro (h|h|h) <;> simp [h]
  ·split
   ·rename_i h
    rw [Qp] at h
    have:y=s:=by simpa using h
    subst this
    simp
   ·simp [or_comm,or_left_comm]
theorem Afo (s:ByteArray):∀ {l:List ByteArray},Inc l->Inc (putS l s)
 | [],_=>by simp [putS,Inc]
 | y :: r,h=>by
  have h0:=List.pairwise_cons.1 h
  rw [putS]
  split
  ·rename_i h1
   rw [Abr] at h1
   refine List.pairwise_cons.2 ⟨fun x hx=>?_,Afo s h0.2⟩
   rcases (Y8 s x r).1 hx with rfl|hx
   ·simpa using h1
   ·exact h0.1 x hx
  ·rename_i h1
   rw [Abr] at h1
   split
   ·exact h
   ·rename_i h2
    rw [Qp] at h2
    have h3:nm s<nm y:=by
     rcases Agm s y with h|h|h
     ·exact h
     ·exact absurd (by simpa using h.symm) h2
     ·exact absurd (by simpa using h) h1
    refine List.pairwise_cons.2 ⟨fun x hx=>?_,h⟩
    rcases List.mem_cons.1 hx with rfl|hx
    ·exact h3
    ·exact X6 h3 (h0.1 x hx)
theorem Yr (s:ByteArray):∀ l:List ByteArray,(putS l s).length<=l.length+1
 | []=>by simp [putS]
 | y :: r=>by
  rw [putS]
  have:=Yr s r
  split
  ·simp; exact this
  ·split <;> simp
theorem Aat (l:List ByteArray) (s:ByteArray):uniS (l++[s])=putS (uniS l) s:=by simp [uniS,List.foldl_append]
theorem Jg (l:List ByteArray):Inc (uniS l)/\(∀ x,x ∈ uniS l↔x ∈ l)/\(uniS l).length<=l.length:=by
 have key:∀ (l acc:List ByteArray),Inc acc->Inc (l.foldl putS acc)/\(∀ x,x ∈ l.foldl putS acc↔x ∈ acc\/x ∈ l)/\(l.foldl putS acc).length<=acc.length+l.length:=by
  intro l
  induction l with
  | nil=>intro acc h; exact ⟨h,fun x=>by simp,by simp⟩
  | cons s l ih =>
   intro acc h
   obtain ⟨h1,h2,h3⟩:=ih (putS acc s) (Afo s h)
   refine ⟨h1,fun x=>?_,?_⟩
   ·rw [List.foldl_cons,h2 x,Y8,List.mem_cons]
    constructor
    ·rintro ((h|h)|h) <;> simp [h]
    ·rintro (h|h|h) <;> simp [h]
   ·have:=Yr s acc
    simp only [List.foldl_cons,List.length_cons]; omega
 have:=key l [] (by simp [Inc])
 exact ⟨this.1,fun x=>by simpa [uniS] using this.2.1 x,by simpa [uniS] using this.2.2⟩
theorem Aai {s:ByteArray} : ∀ {l:List ByteArray},(∀ x ∈ l,nm x<nm s)->putS l s=l++[s]
 | [],_=>rfl
 | y :: r,h=>by
  rw [putS,if_pos (by rw [Abr]; simpa using h y (by simp)),Aai fun x hx=>h x (by simp [hx])]; rfl
theorem Ahv:∀ {l r:List ByteArray},Inc l->Inc r->(∀ x,x ∈ l↔x ∈ r)->l=r
 | [],[],_,_,_=>rfl
 | [],y :: r,_,_,h=>by have:=(h y).2 (by simp); simp at this
 | x :: l,[],_,_,h=>by have:=(h x).1 (by simp); simp at this
 | x :: l,y :: r,h1,h2,h=>by
  have a1:=List.pairwise_cons.1 h1
  have a2:=List.pairwise_cons.1 h2
  have ji:x=y:=by
   have m1:=(h x).1 (by simp)
   have m2:=(h y).2 (by simp)
   rcases List.mem_cons.1 m1 with e|m1
   ·exact e
   ·rcases List.mem_cons.1 m2 with e|m2
    ·exact e.symm
    ·exact absurd (X6 (a1.1 y m2) (a2.1 x m1)) (Nl _)
  subst ji
  congr 1
  refine Ahv a1.2 a2.2 fun z=>?_
  have hz:=h z
  simp only [List.mem_cons] at hz
  constructor
  ·intro hm
   rcases hz.1 (.inr hm) with e|ed
   ·subst e; exact absurd (a1.1 z hm) (Nl _)
   ·exact ed
  ·intro hm
   rcases hz.2 (.inr hm) with e|ed
   ·subst e; exact absurd (a2.1 z hm) (Nl _)
   ·exact ed
end
section
def inB (n:Int):Bool:=decide (-1000000000000<=n/\n<=1000000000000)
theorem Hy {n:Int} : inB n=true↔-1000000000000<=n/\n<=1000000000000:=by simp [inB]
theorem drop_nil {α:Type} {l:List α} {n:Nat} (h:l.length<=n):l.drop n=[]:=List.drop_eq_nil_of_le h
end
section
open Go Tryz
def i64 (n:Int):Prop:=-9223372036854775808<=n/\n<=9223372036854775807
theorem Ad {n:Int} (h:i64 n):IntKind.i64.wrap n=n:=Go.IntWalk.i64_in n h
theorem B9 {i:Nat} (h:i<=1048576):IntKind.i64.wrap ((i:Int)+1)=((i+1:Nat):Int):=by rw [Ad (by unfold i64; omega)]; omega
theorem Wd {j:Nat} (h:j<=1048576):IntKind.i64.wrap (((j+1:Nat):Int) - 1)=(j:Int):=by rw [Ad (by unfold i64; omega)]; omega
theorem El {α β:Type} (f:α->β):∀ (l:List α) (i:Nat),nth (l.map f) i=(nth l i).map f
 | [],_=>rfl
 | _ :: _,0=>rfl
 | _ :: l,i+1=>El f l i
theorem Bc {α:Type} : ∀ {l:List α} {i:Nat} {x:α},nth l i=some x->l.drop i=x :: l.drop (i+1)
 | y :: l,0,x,h=>by simp only [nth,Option.some.injEq] at h; subst h; rfl
 | _ :: l,i+1,x,h=>Bc (l:=l) (i:=i) h
 | [],_,_,h=>by simp [nth] at h
theorem Gv (l:List Int):Da 1 (l.map digC)=true:=Gx (f:=digC) (sz:=1) (fun _=>rfl) l
theorem Ga {l:List Int} {i:Nat} {x:Int} (h:nth l i=some x):nth (l.map digC) i=some [.prim (.int .i64 x)]:=by rw [El,h]; rfl
theorem Z3 {l:List Int} (h:l≠[]):((l.length:Int) == 0)=false:=by
 have:l.length≠0:=fun h'=>h (List.length_eq_zero_iff.1 h')
 simp; omega
theorem Zl {l:List Int} (h:l≠[]):decide ((l.length:Int) > 0)=true:=by
 have:l.length≠0:=fun h'=>h (List.length_eq_zero_iff.1 h')
 simp; omega
theorem Aia {l:List Int} (h:l≠[]) (hl:l.length<=1000000):IntKind.i64.wrap ((l.length:Int) - 1)=((l.length - 1:Nat):Int):=by
 have:l.length≠0:=fun h'=>h (List.length_eq_zero_iff.1 h')
 rw [Ad (by unfold i64; omega)]; omega
section
variable (S:List Ent) (tk:List Nat) (k:Nat)
theorem M6 (neg:Bool) (l:List Int) (c:Cap) (hlen:l.length<=1000000):cL prog 119 [.agg [.bool neg,.frz (l.map digC) c]] S tk k=some (.bool (Eb neg l),S,tk,k):=by
 refine opP func119 ntmps119 ?_
 by_cases h1:200<l.length
 ·have d1:decide ((l.length:Int) > 200)=true:=by simp; omega
  simp (maxSteps:=10^6)+contextual(disch:=try exact dqd)only[ev0,simprocAttr,AV.int,AV.bool,AV.str,results119,d1]
  all_goals simp [Eb,h1]
 have d1:decide ((l.length:Int) > 200)=false:=by simp; omega
 have hv:Eb neg l=if ((decide (l=[]) && neg) || Yp l)=true then false else allD l:=by simp [Eb,h1]
 rw [hv]
 by_cases h2:l=[]
 ·have d2:(((0:Nat):Int) == 0)=true:=rfl
  have d3:decide (((0:Nat):Int) > 0)=false:=rfl
  cases neg with
  | true =>
   subst h2
   simp (maxSteps:=10^6)+contextual(disch:=try exact dqd)only[ev0,simprocAttr,AV.int,AV.bool,AV.str,results119,d1,d2,d3,List.map_nil]
   all_goals simp
  | false =>
   have hz:Yp l=false:=by subst h2; rfl
   rw [hz]
   simp only [Bool.and_false,Bool.or_false,Bool.false_eq_true,if_false]
   have dt:l.length=0:=by rw [h2]; rfl
   have d2:((l.length:Int) == 0)=true:=by rw [dt]; rfl
   have d3:decide ((l.length:Int) > 0)=false:=by rw [dt]; rfl
   simp (maxSteps:=10^6)+contextual(disch:=try exact dqd)only[ev0,simprocAttr,AV.int,AV.bool,AV.str,results119,d1,d2,d3]
   refine loop1 (P:=prog) (fun x st=>st.T.length=46/\(x<=l.length)/\(allD l=allD (l.drop x))/\getT st.T 33=digA l/\getT st.T 34=.int l.length/\getT st.T 35=.int (x:Nat)/\st.S=[⟨0,[.bool false,digA l]⟩]) (fun x=>l.length - x) (fun x=>.bool (allD l)) (0) ?_ ?_
   case refine_2=>exact ⟨rfl,Nat.zero_le _,rfl,rfl,rfl,rfl,rfl⟩
   rintro i ⟨T,S',tk',n'⟩ ⟨hl,hi,hn,e33,e34,e35,eS⟩ IH
   subst eS
   obtain ⟨g,hg,hT⟩:=Av hl
   rw [hg] at e33 e34 e35
   subst hT
   clear hg hl
   by_cases hlt:i<l.length
   ·have d1:decide ((i:Int)<(l.length:Int))=true:=by simpa using hlt
    obtain ⟨x,hx⟩:=Ag hlt
    have hx':=Ga hx
    have hw:=B9 (i:=i) (by omega)
    rw [Bc hx] at hn
    simp only [allD] at hn
    simp (maxSteps:=10^6)+contextual(disch:=try exact dqd)only[ev0,simprocAttr,AV.int,AV.bool,AV.str,results119,e33,e34,e35,d1,digA,hx',hw]
    refine ⟨fun h1=>?_,fun h1=>⟨fun h2=>?_,fun h2=>?_⟩⟩
    ·rw [hn,if_pos (by simp [h1])]
    ·rw [hn,if_pos (by simp only [h1,h2]; rfl)]
    ·exact IH (i+1) _ (by first|omega|(simp only; omega)) ⟨rfl,hlt,by rw [hn,if_neg (by simp only [h1,h2]; simp)],(by first|rfl|simp only [getT,List.map_append,List.map_cons,List.map_nil,digC,digA]),(by first|rfl|simp only [getT,List.map_append,List.map_cons,List.map_nil,digC,digA]),(by first|rfl|simp only [getT,List.map_append,List.map_cons,List.map_nil,digC,digA]),(by first|rfl|simp only [getT,List.map_append,List.map_cons,List.map_nil,digC,digA])⟩
   ·have d1:decide ((i:Int)<(l.length:Int))=false:=by simpa using hlt
    have he:i=l.length:=by omega
    rw [he,List.drop_length] at hn
    simp (maxSteps:=10^6)+contextual(disch:=try exact dqd)only[ev0,simprocAttr,AV.int,AV.bool,AV.str,results119,e33,e34,e35,d1,digA]
    exact hn.symm
 ·have d2:=Z3 h2
  have d3:=Zl h2
  have d4:=Aia h2 hlen
  have hp:l.length≠0:=fun h'=>h2 (List.length_eq_zero_iff.1 h')
  obtain ⟨x,hx⟩:=Ag (l:=l) (i:=l.length - 1) (by omega)
  have hx':=Ga hx
  have hz:Yp l=(x == 0):=by unfold Yp; rw [hx]
  rw [hz]
  cases d5:x == 0 with
  | true =>
   simp (maxSteps:=10^6)+contextual(disch:=try exact dqd)only[ev0,simprocAttr,AV.int,AV.bool,AV.str,results119,d1,d2,d3,d4,hx',d5]
   all_goals simp
  | false =>
   simp only [h2,decide_false,Bool.false_and,Bool.or_false,Bool.false_eq_true,if_false]
   simp (maxSteps:=10^6)+contextual(disch:=try exact dqd)only[ev0,simprocAttr,AV.int,AV.bool,AV.str,results119,d1,d2,d3,d4,hx',d5]
   refine loop1 (P:=prog) (fun x st=>st.T.length=46/\(x<=l.length)/\(allD l=allD (l.drop x))/\getT st.T 33=digA l/\getT st.T 34=.int l.length/\getT st.T 35=.int (x:Nat)/\st.S=[⟨0,[.bool neg,digA l]⟩]) (fun x=>l.length - x) (fun x=>.bool (allD l)) (0) ?_ ?_
   case refine_2=>exact ⟨rfl,Nat.zero_le _,rfl,rfl,rfl,rfl,rfl⟩
   rintro i ⟨T,S',tk',n'⟩ ⟨hl,hi,hn,e33,e34,e35,eS⟩ IH
   subst eS
   obtain ⟨g,hg,hT⟩:=Av hl
   rw [hg] at e33 e34 e35
   subst hT
   clear hg hl
   by_cases hlt:i<l.length
   ·have d1:decide ((i:Int)<(l.length:Int))=true:=by simpa using hlt
    obtain ⟨x,hx⟩:=Ag hlt
    have hx':=Ga hx
    have hw:=B9 (i:=i) (by omega)
    rw [Bc hx] at hn
    simp only [allD] at hn
    simp (maxSteps:=10^6)+contextual(disch:=try exact dqd)only[ev0,simprocAttr,AV.int,AV.bool,AV.str,results119,e33,e34,e35,d1,digA,hx',hw]
    refine ⟨fun h1=>?_,fun h1=>⟨fun h2=>?_,fun h2=>?_⟩⟩
    ·rw [hn,if_pos (by simp [h1])]
    ·rw [hn,if_pos (by simp only [h1,h2]; rfl)]
    ·exact IH (i+1) _ (by first|omega|(simp only; omega)) ⟨rfl,hlt,by rw [hn,if_neg (by simp only [h1,h2]; simp)],(by first|rfl|simp only [getT,List.map_append,List.map_cons,List.map_nil,digC,digA]),(by first|rfl|simp only [getT,List.map_append,List.map_cons,List.map_nil,digC,digA]),(by first|rfl|simp only [getT,List.map_append,List.map_cons,List.map_nil,digC,digA]),(by first|rfl|simp only [getT,List.map_append,List.map_cons,List.map_nil,digC,digA])⟩
   ·have d1:decide ((i:Int)<(l.length:Int))=false:=by simpa using hlt
    have he:i=l.length:=by omega
    rw [he,List.drop_length] at hn
    simp (maxSteps:=10^6)+contextual(disch:=try exact dqd)only[ev0,simprocAttr,AV.int,AV.bool,AV.str,results119,e33,e34,e35,d1,digA]
    exact hn.symm
end
end
section
open Go
def numC (x:Int):AV:=.prim (.int .i64 x)
theorem Afy {l:List Int} {i:Nat} {x:Int} (h:nth l i=some x):nth ((l.map numC).drop i) 0=some (.prim (.int .i64 x)):=by
 have:nth (l.map numC) i=some (numC x):=by rw [El,h]; rfl
 exact Dj this
theorem Aa5 {l:List Int} {i:Nat} {x v:Int} (h:nth l i=some x):over (l.map numC) i [.prim (.int .i64 v)]=some ((l.set i v).map numC):=by
 have h1:nth (l.map numC) i=some (numC x):=by rw [El,h]; rfl
 rw [Uk h1]
 have:(.prim (.int .i64 v):AV)=numC v:=rfl
 rw [this,R2,Rl]
theorem Acr {l:List Int} {n:Nat} (h:n<=l.length):Jt 1 n (l.map numC)=some ((l.take n).map digC):=Tz h
theorem Ac5 (l:List Int):N0 (some (l.map digC))=.frz (l.map digC) .unk:=by
 unfold N0
 simp only
 rw [if_pos (by simp [digC,pure1,w1,Value.oneCell'])]
 congr 1
 simp [w1,digC]
theorem Jd {l:List Int} {n:Nat} (hn:n<=l.length) (hz:∀ j,n<=j->∀ x,nth l j=some x->x=0) (he:n=0\/∃ x,nth l (n - 1)=some x/\x≠0):Dw l=l.take n:=by
 rw [Nb n l hn hz]
 rcases he with rfl|⟨x,hx,h0⟩
 ·simp [Dw]
 ·by_cases h1:n=0
  ·subst h1; simp [Dw]
  ·refine Um _ (n - 1) x ?_ (by simp; omega) h0
   rw [Ae,List.getElem?_take_of_lt (by omega),<- Ae]; exact hx
theorem Aaf {n:Nat} (h:n≠0) (hl:n<=1000000):IntKind.i64.wrap ((n:Int) - 1)=((n - 1:Nat):Int):=by
 rw [Ad (by unfold i64; omega)]; omega
theorem Yw {l:List Int} {n:Nat} {x:Int} (hz:∀ j,n<=j->∀ x,nth l j=some x->x=0) (hx:nth l (n - 1)=some x) (ta:x=0):∀ j,n - 1<=j->∀ y,nth l j=some y->y=0:=fun j hj y hy=>by
 by_cases e:j=n - 1
 ·rw [e,hx] at hy; simp only [Option.some.injEq] at hy; omega
 ·exact hz j (by omega) y hy
theorem Vj (l:List Int):∀ j,l.length<=j->∀ x,nth l j=some x->x=0:=fun j hj x hx=>by have:=Bk hx; omega
end
section
open Go
theorem Ak8:∀ {l r:List Int} {i:Nat} {x y:Int},l.length=r.length->okD l->okD r->nth l i=some x->nth r i=some y->x<y->(∀ j,i<j->nth l j=nth r j)->val l<val r
 | d :: l,e :: r,0,x,y,hl,h1,h2,hx,hy,ji,he=>by
  simp only [nth,Option.some.injEq] at hx hy; subst hx hy
  have:l=r:=by
   apply List.ext_getElem?
   intro j
   have:=he (j+1) (by omega)
   simp only [nth,Ae] at this; exact this
  subst this; simp only [val]; omega
 | d :: l,e :: r,i+1,x,y,hl,h1,h2,hx,hy,ji,he=>by
  have ih:=Ak8 (l:=l) (r:=r) (i:=i) (by simpa using hl) (fun z hz=>h1 z (by simp [hz])) (fun z hz=>h2 z (by simp [hz])) hx hy ji fun j hj=>he (j+1) (by omega)
  have g1:=h1 d (by simp)
  have g2:=h2 e (by simp)
  simp only [val]; omega
 | [],_,_,_,_,_,_,_,hx,_,_,_=>by simp [nth] at hx
 | _ :: _,[],_,_,_,_,_,_,_,hy,_,_=>by simp [nth] at hy
def cmpN (a b:Nat):Int:=if a<b then -1 else if b<a then 1 else 0
theorem Q6 {a b:Nat} (h:(dig a).length<(dig b).length):a<b:=by
 have h1:=Bo (n:=a) (k:=(dig a).length)
 have h2:=Bo (n:=b) (k:=(dig a).length)
 have h3:¬ (dig b).length<=(dig a).length:=by omega
 rw [h2] at h3
 have:=h1.1 (Nat.le_refl _)
 omega
theorem Ak4 {a b i:Nat} {x y:Int} (hl:(dig a).length=(dig b).length) (hx:nth (dig a) i=some x) (hy:nth (dig b) i=some y) (h:x<y) (he:∀ j,i<j->nth (dig a) j=nth (dig b) j):a<b:=by
 have:=Ak8 hl (B4 a) (B4 b) hx hy h he
 rw [Dk,Dk] at this; omega
theorem Aio {a b:Nat} (he:∀ j,nth (dig a) j=nth (dig b) j):a=b:=by
 refine Ani (List.ext_getElem? fun j=>?_)
 rw [<- Ae,<- Ae]; exact he j
theorem Us {n:Nat} (hl:n<=1000000):IntKind.i64.wrap ((n:Int) - 1)=(n:Int) - 1:=Ad (by unfold i64; omega)
end
section
open Go
theorem Gn {l:List Int} {i j:Nat} {x v:Int} (h:nth (l.set i v) j=some x):(j=i/\x=v)\/(j≠i/\nth l j=some x):=by
 rw [<- Rl] at h
 by_cases e:i=j
 ·subst e; exact .inl ⟨rfl,D7 h⟩
 ·rw [Ac e] at h; exact .inr ⟨fun h=>e h.symm,h⟩
theorem W3 {l:List Int} {i:Nat} {v:Int} (h:i<l.length):nth (l.set i v) i=some v:=by
 rw [Ae,List.getElem?_set_self h]
theorem Abg {l:List Int} (h:∀ j x,nth l j=some x->0<=x/\x<10000):okD l:=fun d hd=>by
 obtain ⟨j,hj⟩:=List.mem_iff_getElem?.1 hd
 exact h j d (by rw [Ae]; exact hj)
theorem E2 {l:List Int} (h:okD l) {j:Nat} {x:Int} (hx:nth l j=some x):0<=x/\x<10000:=h x (by rw [Ae] at hx; exact List.mem_of_getElem? hx)
def padL (l:List Int) (n:Nat):List Int:=l++List.replicate (n - l.length) 0
theorem Ab2 {l:List Int} {n:Nat} (h:l.length<=n):(padL l n).length=n:=by simp [padL]; omega
theorem Ab6 (l:List Int) (n:Nat):val (padL l n)=val l:=by rw [padL,G0,Hc]; omega
theorem Ahd {l:List Int} {n j:Nat} {x:Int} (h:nth (padL l n) j=some x):nth l j=some x\/(l.length<=j/\x=0):=by
 rw [Ae,padL] at h
 by_cases hj:j<l.length
 ·rw [List.getElem?_append_left hj] at h; left; rw [Ae]; exact h
 ·rw [List.getElem?_append_right (by omega)] at h
  right
  refine ⟨by omega,?_⟩
  have:=List.mem_of_getElem? h
  exact (List.mem_replicate.1 this).2
theorem W9 (n:Nat):(List.replicate n [(.prim (.int .i64 0):AV)]).flatten=(List.replicate n (0:Int)).map numC:=by
 rw [Aiu,List.map_replicate]; rfl
def An3 (n:Nat):List AV:=(List.replicate n (0:Int)).map numC
theorem An5 {P:Program} {t:TypeId} {n:Nat} (hz:(A8 P t).bind (Aw P)=some [.prim (.int .i64 0)]) (hs:(A8 P t).bind (szOf P)=some 1) (hb:(A8 P t).bind (bytesOf P)=some 8) (hn:n<=1048576) :
  mkA P t (.prim (.int .i64 (n:Int))) (.prim (.int .i64 (n:Int)))=some (n,1,An3 n):=by
 unfold mkA
 rw [hz,hs,hb,intN_cast]
 simp only [mkB]
 rw [if_pos ⟨Nat.le_refl _,hn,by omega,rfl⟩,W9]; rfl
theorem H2:∀ l:List Int,Dw l=l.take (Dw l).length
 | []=>rfl
 | d :: l=>by
  rw [Dw]
  split
  ·rfl
  ·simp only [List.length_cons,List.take_succ_cons]
   rw [<- H2 l]
theorem Aa1 (n:Nat):(0:Int)<10000 ^ n:=Int.pow_pos (by omega)
structure Plus1 (a b la i:Nat) (out:List Int):Prop where
 len:out.length=la+1
 val:val out+10000 ^ i*val ((dig b).drop i)=(a+b:Nat)
 ok:∀ j x,nth out j=some x->0<=x/\(j<i->x<=19998)/\(i<=j->x<10000)/\(j=la->x=0)
theorem Plus1.start {a b:Nat} : Plus1 a b (dig a).length 0 (padL (dig a) ((dig a).length+1)):=by
 refine ⟨Ab2 (by omega),?_,fun j x hx=>?_⟩
 ·rw [Ab6,Dk,List.drop_zero,Dk]; simp
 ·rcases Ahd hx with h|⟨h,rfl⟩
  ·have:=E2 (B4 a) h
   have hl:=Bk h
   exact ⟨this.1,by omega,fun _=>this.2,fun e=>by omega⟩
  ·exact ⟨by omega,by omega,by omega,fun _=>rfl⟩
theorem Plus1.step {a b la i:Nat} {out:List Int} {x d:Int} (h:Plus1 a b la i out) (hb:i<la) (hx:nth out i=some x) (hd:nth (dig b) i=some d):Plus1 a b la (i+1) (out.set i (x+d)):=by
 have wl:=E2 (B4 b) hd
 refine ⟨by rw [List.length_set]; exact h.len,?_,fun j y hy=>?_⟩
 ·have hv:=h.val
  rw [Bc hd,Go.Proofs.YtcjffhadclngmaaGreat.val] at hv
  rw [J2 hx,<- hv,Int.pow_succ,Int.mul_add]
  have e1:x+d - x=d:=by omega
  rw [e1,Int.mul_comm d,Int.mul_assoc]; omega
 ·rcases Gn hy with ⟨rfl,rfl⟩|⟨hne,hy⟩
  ·have:=h.ok _ x hx
   exact ⟨by omega,by omega,by omega,by omega⟩
  ·have:=h.ok j y hy
   exact ⟨this.1,fun hj=>this.2.1 (by omega),fun hj=>this.2.2.1 (by omega),this.2.2.2⟩
structure Plus2 (v la i:Nat) (out:List Int):Prop where
 len:out.length=la+1
 val:val out=v
 ok:∀ j x,nth out j=some x->0<=x/\(j<i->x<10000)/\(j=i->x<=19999)/\(i<j->x<=19998)/\(j=la->x<=1/\(i<la->x=0))
theorem Plus2.start {a b la:Nat} {out:List Int} (h:Plus1 a b la (dig b).length out):Plus2 (a+b) la 0 out:=by
 refine ⟨h.len,?_,fun j x hx=>?_⟩
 ·have:=h.val
  rw [List.drop_length,Go.Proofs.YtcjffhadclngmaaGreat.val] at this; omega
 ·have:=h.ok j x hx
  refine ⟨this.1,by omega,fun _=>?_,fun _=>?_,fun e=>⟨by have:=this.2.2.2 e; omega,fun _=>this.2.2.2 e⟩⟩
  ·rcases Nat.lt_or_ge j (dig b).length with hj|hj
   ·have:=this.2.1 hj; omega
   ·have:=this.2.2.1 hj; omega
  ·rcases Nat.lt_or_ge j (dig b).length with hj|hj
   ·exact this.2.1 hj
   ·have:=this.2.2.1 hj; omega
theorem Plus2.small {v la i:Nat} {out:List Int} {x:Int} (h:Plus2 v la i out) (hi:i<la) (hx:nth out i=some x) (h1:x<10000):Plus2 v la (i+1) out:=by
 refine ⟨h.len,h.val,fun j y hy=>?_⟩
 have:=h.ok j y hy
 refine ⟨this.1,fun hj=>?_,fun hj=>by have:=this.2.2.2.1 (by omega); omega,fun hj=>this.2.2.2.1 (by omega),fun e=>⟨(this.2.2.2.2 e).1,fun _=>(this.2.2.2.2 e).2 hi⟩⟩
 by_cases e:j=i
 ·subst e; rw [hx] at hy; simp only [Option.some.injEq] at hy; omega
 ·exact this.2.1 (by omega)
theorem Plus2.big {v la i:Nat} {out:List Int} {x y:Int} (h:Plus2 v la i out) (hi:i<la) (hx:nth out i=some x) (h1:10000<=x) (hy:nth (out.set i (x - 10000)) (i+1)=some y):Plus2 v la (i+1) ((out.set i (x - 10000)).set (i+1) (y+1)):=by
 refine ⟨by rw [List.length_set,List.length_set]; exact h.len,?_,fun j z hz=>?_⟩
 ·rw [J2 hy,J2 hx,<- h.val,Int.pow_succ]
  have e1:x - 10000 - x=-10000:=by omega
  have e2:y+1 - y=1:=by omega
  rw [e1,e2,Int.one_mul,Int.mul_comm (10000 ^ i) 10000,Int.neg_mul]; omega
 ·have hyo:nth out (i+1)=some y:=by
   rcases Gn hy with ⟨e,-⟩|⟨-,hy⟩
   ·omega
   ·exact hy
  have hk:=h.ok i x hx
  have hky:=h.ok (i+1) y hyo
  rcases Gn hz with ⟨rfl,rfl⟩|⟨hne,hz⟩
  ·refine ⟨by omega,by omega,fun _=>by have:=hky.2.2.2.1 (by omega); omega,by omega,fun e=>?_⟩
   have:=(hky.2.2.2.2 e).2 hi
   exact ⟨by omega,by omega⟩
  ·rcases Gn hz with ⟨rfl,rfl⟩|⟨wt,hz⟩
   ·exact ⟨by omega,fun _=>by omega,by omega,by omega,by omega⟩
   ·have:=h.ok j z hz
    exact ⟨this.1,fun hj=>this.2.1 (by omega),fun hj=>by omega,fun hj=>this.2.2.2.1 (by omega),fun e=>⟨(this.2.2.2.2 e).1,fun _=>(this.2.2.2.2 e).2 hi⟩⟩
theorem Plus2.done {v la:Nat} {out:List Int} (h:Plus2 v la la out):Dw out=dig v:=by
 have hk:okD out:=Abg fun j x hx=>by
  have:=h.ok j x hx
  have hl:=Bk hx
  rw [h.len] at hl
  refine ⟨this.1,?_⟩
  rcases Nat.lt_or_ge j la with hj|hj
  ·exact this.2.1 hj
  ·have:=(this.2.2.2.2 (by omega)).1; omega
 rw [Ei hk,h.val]; congr 1
end
section
open Go
theorem Alb {l:List Int} (h:okD l):val l<10000 ^ l.length:=by
 induction l with
 | nil=>simp [val]
 | cons d l ih =>
  have h1:=h d (by simp)
  have h2:=ih fun x hx=>h x (by simp [hx])
  simp only [val,List.length_cons,Int.pow_succ]; omega
structure Tm (a b la i:Nat) (out:List Int):Prop where
 len:out.length=la
 eqv:val out - 10000 ^ i*val ((dig b).drop i)=(a:Int) - b
 ok:∀ j x,nth out j=some x->-9999<=x/\x<=9999/\(i<=j->0<=x)
theorem Tm.start {a b:Nat} : Tm a b (dig a).length 0 (padL (dig a) (dig a).length):=by
 refine ⟨Ab2 (by omega),?_,fun j x hx=>?_⟩
 ·rw [Ab6,Dk,List.drop_zero,Dk]; simp
 ·rcases Ahd hx with h|⟨h,rfl⟩
  ·have:=E2 (B4 a) h; exact ⟨by omega,by omega,fun _=>this.1⟩
  ·exact ⟨by omega,by omega,fun _=>by omega⟩
theorem Tm.step {a b la i:Nat} {out:List Int} {x d:Int} (h:Tm a b la i out) (hx:nth out i=some x) (hd:nth (dig b) i=some d):Tm a b la (i+1) (out.set i (x - d)):=by
 have wl:=E2 (B4 b) hd
 refine ⟨by rw [List.length_set]; exact h.len,?_,fun j y hy=>?_⟩
 ·have hv:=h.eqv
  rw [Bc hd,val] at hv
  rw [J2 hx,<- hv,Int.pow_succ,Int.mul_add]
  have e1:x - d - x=-d:=by omega
  rw [e1,Int.neg_mul,Int.mul_comm d,Int.mul_assoc]; omega
 ·rcases Gn hy with ⟨rfl,rfl⟩|⟨hne,hy⟩
  ·have:=h.ok _ x hx
   exact ⟨by have:=this.2.2 (Nat.le_refl _); omega,by omega,by omega⟩
  ·have:=h.ok j y hy
   exact ⟨this.1,this.2.1,fun hj=>this.2.2 (by omega)⟩
structure Ln (v:Nat) (la i:Nat) (out:List Int):Prop where
 len:out.length=la
 eqv:val out=v
 ok:∀ j x,nth out j=some x->x<=9999/\(j<i->0<=x)/\(j=i->-10000<=x)/\(i<j->-9999<=x)
theorem Ln.start {a b la:Nat} {out:List Int} (h:Tm a b la (dig b).length out) (hab:b<=a):Ln (a - b) la 0 out:=by
 refine ⟨h.len,?_,fun j x hx=>?_⟩
 ·have:=h.eqv
  rw [List.drop_length,val] at this; omega
 ·have:=h.ok j x hx; exact ⟨this.2.1,by omega,by omega,by omega⟩
theorem Ln.small {v la i:Nat} {out:List Int} {x:Int} (h:Ln v la i out) (hx:nth out i=some x) (h1:0<=x):Ln v la (i+1) out:=by
 refine ⟨h.len,h.eqv,fun j y hy=>?_⟩
 have:=h.ok j y hy
 refine ⟨this.1,fun hj=>?_,fun hj=>by have:=this.2.2.2 (by omega); omega,fun hj=>this.2.2.2 (by omega)⟩
 by_cases e:j=i
 ·subst e; rw [hx] at hy; simp only [Option.some.injEq] at hy; omega
 ·exact this.2.1 (by omega)
theorem Ln.neg {v la i:Nat} {out:List Int} {x y:Int} (h:Ln v la i out) (hx:nth out i=some x) (h1:x<0) (hy:nth (out.set i (x+10000)) (i+1)=some y):Ln v la (i+1) ((out.set i (x+10000)).set (i+1) (y - 1)):=by
 have hyo:nth out (i+1)=some y:=by
  rcases Gn hy with ⟨e,-⟩|⟨-,hy⟩
  ·omega
  ·exact hy
 have hk:=h.ok i x hx
 have hky:=h.ok (i+1) y hyo
 refine ⟨by rw [List.length_set,List.length_set]; exact h.len,?_,fun j z hz=>?_⟩
 ·rw [J2 hy,J2 hx,<- h.eqv,Int.pow_succ]
  have e1:x+10000 - x=10000:=by omega
  have e2:y - 1 - y=-1:=by omega
  rw [e1,e2,Int.mul_comm (10000 ^ i) 10000]; omega
 ·rcases Gn hz with ⟨rfl,rfl⟩|⟨hne,hz⟩
  ·exact ⟨by omega,by omega,fun _=>by have:=hky.2.2.2 (by omega); omega,by omega⟩
  ·rcases Gn hz with ⟨rfl,rfl⟩|⟨wt,hz⟩
   ·exact ⟨by omega,fun _=>by have:=hk.2.2.1 rfl; omega,by omega,by omega⟩
   ·have:=h.ok j z hz
    exact ⟨this.1,fun hj=>this.2.1 (by omega),fun hj=>by omega,fun hj=>this.2.2.2 (by omega)⟩
theorem Ln.done {v la:Nat} {out:List Int} (h:Ln v la la out):Dw out=dig v:=by
 have hk:okD out:=Abg fun j x hx=>by
  have:=h.ok j x hx
  have hl:=Bk hx
  rw [h.len] at hl
  exact ⟨this.2.1 hl,by omega⟩
 rw [Ei hk,h.eqv]; congr 1
theorem Pv (l:List Int) (i:Nat):val (l.drop i)=(nth l i).getD 0+10000*val (l.drop (i+1)):=by
 by_cases h:i<l.length
 ·obtain ⟨x,hx⟩:=Ag h
  rw [Bc hx,hx]; rfl
 ·rw [List.drop_eq_nil_of_le (by omega),List.drop_eq_nil_of_le (by omega),Ae,List.getElem?_eq_none (by omega)]; rfl
theorem P1 (a i:Nat):0<=(nth (dig a) i).getD 0/\(nth (dig a) i).getD 0<10000:=by
 cases h:nth (dig a) i with
 | none=>simp
 | some x=>exact E2 (B4 a) h
theorem Pw {l:List Int} {x:Int} (h:okD l) (h0:0<=x) (h1:x<10000):okD (l++[x]):=fun d hd=>by
 rcases List.mem_append.1 hd with hd|hd
 ·exact h d hd
 ·simp at hd; subst hd; exact ⟨h0,h1⟩
theorem Pu (l:List Int) (x:Int):val (l++[x])=val l+10000 ^ l.length*x:=by rw [G0]; simp [val]
theorem Lg (i:Nat) (x r:Int):(10000:Int) ^ i*x+10000 ^ (i+1)*r=10000 ^ i*(x+10000*r):=by rw [Int.pow_succ,Int.mul_add,Int.mul_assoc]
structure Sum1 (a b i:Nat) (c:Int) (out:List Int):Prop where
 len:out.length=i
 ok:okD out
 c0:0<=c/\c<=1
 eqv:val out+10000 ^ i*(c+val ((dig a).drop i)+val ((dig b).drop i))=(a+b:Nat)
theorem Sum1.step {a b i:Nat} {c n:Int} {out:List Int} (h:Sum1 a b i c out) (hn:n=(nth (dig a) i).getD 0+(nth (dig b) i).getD 0+c):Sum1 a b (i+1) (n.tdiv 10000) (out++[n.tmod 10000])/\0<=n/\n<=19999/\0<=n.tmod 10000/\n.tmod 10000<10000:=by
 have h1:=P1 a i
 have h2:=P1 b i
 have h3:=h.c0
 have e1:n.tdiv 10000=n / 10000:=Int.tdiv_eq_ediv_of_nonneg (by omega)
 have e2:n.tmod 10000=n % 10000:=Int.tmod_eq_emod_of_nonneg (by omega)
 refine ⟨⟨by simp [h.len],Pw h.ok (by omega) (by omega),by omega,?_⟩,by omega,by omega,by omega,by omega⟩
 have hv:=h.eqv
 rw [Pv (dig a) i,Pv (dig b) i] at hv
 have:n.tmod 10000+10000*(n.tdiv 10000+val ((dig a).drop (i+1))+val ((dig b).drop (i+1)))=c+((nth (dig a) i).getD 0+10000*val ((dig a).drop (i+1)))+((nth (dig b) i).getD 0+10000*val ((dig b).drop (i+1))):=by omega
 rw [Pu,h.len,Int.add_assoc,Lg,this]
 exact hv
theorem Sum1.done {a b i:Nat} {c:Int} {out:List Int} (h:Sum1 a b i c out) (h1:(dig a).length<=i) (h2:(dig b).length<=i) (h3:c=0):Dw out=dig (a+b):=by
 have hv:=h.eqv
 rw [List.drop_eq_nil_of_le h1,List.drop_eq_nil_of_le h2,h3] at hv
 simp only [val] at hv
 rw [Ei h.ok]
 congr 1; omega
structure Dif1 (a b i:Nat) (c:Int) (out:List Int):Prop where
 len:out.length=i
 ok:okD out
 c0:0<=c/\c<=1
 eqv:val out+10000 ^ i*(val ((dig a).drop i) - val ((dig b).drop i) - c)=(a:Int) - b
theorem Dif1.step {a b i:Nat} {c n d:Int} {out:List Int} (h:Dif1 a b i c out) (hd:nth (dig a) i=some d) (hn:n=d - (nth (dig b) i).getD 0 - c):(n<0->Dif1 a b (i+1) 1 (out++[n+10000]))/\(¬ n<0->Dif1 a b (i+1) 0 (out++[n]))/\-10000<=n/\n<10000:=by
 have h1:=E2 (B4 a) hd
 have h2:=P1 b i
 have h3:=h.c0
 have hv:=h.eqv
 rw [Pv (dig b) i,Bc hd,val] at hv
 refine ⟨fun jk=>⟨by simp [h.len],Pw h.ok (by omega) (by omega),by omega,?_⟩,fun jk=>⟨by simp [h.len],Pw h.ok (by omega) (by omega),by omega,?_⟩,by omega,by omega⟩
 ·have:n+10000+10000*(val ((dig a).drop (i+1)) - val ((dig b).drop (i+1)) - 1)=d+10000*val ((dig a).drop (i+1)) - ((nth (dig b) i).getD 0+10000*val ((dig b).drop (i+1))) - c:=by omega
  rw [Pu,h.len,Int.add_assoc,Lg,this]
  exact hv
 ·have:n+10000*(val ((dig a).drop (i+1)) - val ((dig b).drop (i+1)) - 0)=d+10000*val ((dig a).drop (i+1)) - ((nth (dig b) i).getD 0+10000*val ((dig b).drop (i+1))) - c:=by omega
  rw [Pu,h.len,Int.add_assoc,Lg,this]
  exact hv
theorem Aib {a b:Nat} (h:b<=a):(dig b).length<=(dig a).length:=by
 rw [Bo]
 have:=(Bo (n:=a) (k:=(dig a).length)).1 (Nat.le_refl _)
 omega
theorem Dif1.done {a b:Nat} {c:Int} {out:List Int} (h:Dif1 a b (dig a).length c out) (hab:b<=a):Dw out=dig (a - b):=by
 have hv:=h.eqv
 have h3:=h.c0
 rw [List.drop_length,List.drop_eq_nil_of_le (Aib hab)] at hv
 simp only [val] at hv
 have hlt:=Alb h.ok
 rw [h.len] at hlt
 have hp:=Aa1 (dig a).length
 have hc:c=0:=by
  rcases Int.lt_or_le c 1 with h1|h1
  ·omega
  ·have:c=1:=by omega
   subst this
   have:(10000:Int) ^ (dig a).length*(0 - 0 - 1)=-(10000 ^ (dig a).length):=by omega
   omega
 subst hc
 rw [Ei h.ok]
 congr 1
 have:(10000:Int) ^ (dig a).length*(0 - 0 - 0)=0:=by simp
 omega
end
section
open Go
theorem U0 {l:List Int} {i:Nat} {x:Int} (h:okD l) (h0:0<=x) (h1:x<10000):okD (l.set i x):=fun d hd=>by
 rcases List.mem_or_eq_of_mem_set hd with hd|rfl
 ·exact h d hd
 ·exact ⟨h0,h1⟩
structure Mul1 (X Y i:Nat) (out:List Int):Prop where
 len:out.length=(dig X).length+(dig Y).length
 ok:okD out
 zero:∀ j x,i+(dig Y).length<=j->nth out j=some x->x=0
 eqv:val out+10000 ^ i*(val ((dig X).drop i)*Y)=X*Y
theorem Mul1.start (X Y:Nat):Mul1 X Y 0 (List.replicate ((dig X).length+(dig Y).length) 0):=by
 have hz:∀ (n j:Nat) (x:Int),nth (List.replicate n (0:Int)) j=some x->x=0:=fun n j x h=>by
  rw [Ae] at h
  exact (List.mem_replicate.1 (List.mem_of_getElem? h)).2
 refine ⟨by simp,Abg fun j x hx=>by rw [hz _ _ _ hx]; omega,fun j x _ hx=>hz _ _ _ hx,?_⟩
 rw [Hc,List.drop_zero,Dk]; simp
structure Mul2 (X Y i k:Nat) (v d c:Int) (out:List Int):Prop where
 len:out.length=(dig X).length+(dig Y).length
 ok:okD out
 zero:∀ j x,i+(dig Y).length<=j->(k<=(dig Y).length\/i+(dig Y).length<j)->nth out j=some x->x=0
 c0:0<=c/\c<10000
 eqv:val out+10000 ^ (i+k)*(c+d*val ((dig Y).drop k))=v
theorem Mul2.start {X Y i:Nat} {d:Int} {out:List Int} (h:Mul1 X Y i out):Mul2 X Y i 0 (val out+10000 ^ i*(d*Y)) d 0 out :=
 ⟨h.len,h.ok,fun j x hj _ hx=>h.zero j x hj hx,by omega,by rw [List.drop_zero,Dk]; simp⟩
theorem Mul2.step {X Y i k:Nat} {v d c x n:Int} {out:List Int} (h:Mul2 X Y i k v d c out) (hk:k<=(dig Y).length) (hd:0<=d/\d<10000) (hx:nth out (i+k)=some x) (hn:n=c+x+d*(nth (dig Y) k).getD 0) :
  Mul2 X Y i (k+1) v d (n.tdiv 10000) (out.set (i+k) (n.tmod 10000))/\0<=n/\n<=99999999/\n.tdiv 10000=n / 10000:=by
 have h1:=P1 Y k
 have h2:=E2 h.ok hx
 have h3:=h.c0
 have t6:0<=d*(nth (dig Y) k).getD 0:=Int.mul_nonneg hd.1 h1.1
 have hp1:d*(nth (dig Y) k).getD 0<=9999*9999:=Int.mul_le_mul (by omega) (by omega) h1.1 (by omega)
 have e1:n.tdiv 10000=n / 10000:=Int.tdiv_eq_ediv_of_nonneg (by omega)
 have e2:n.tmod 10000=n % 10000:=Int.tmod_eq_emod_of_nonneg (by omega)
 refine ⟨⟨by rw [List.length_set]; exact h.len,U0 h.ok (by omega) (by omega),fun j y hj hjk hy=>?_,by omega,?_⟩,by omega,by omega,e1⟩
 ·rcases Gn hy with ⟨rfl,rfl⟩|⟨hne,hy⟩
  ·have hkk:k=(dig Y).length:=by omega
   omega
  ·exact h.zero j y hj (by omega) hy
 ·have hv:=h.eqv
  rw [Pv (dig Y) k] at hv
  have j2:d*((nth (dig Y) k).getD 0+10000*val ((dig Y).drop (k+1)))=d*(nth (dig Y) k).getD 0+10000*(d*val ((dig Y).drop (k+1))):=by
   rw [Int.mul_add,Int.mul_left_comm]
  rw [j2] at hv
  rw [J2 hx,Int.add_assoc,<- Nat.add_assoc,Int.mul_comm (n.tmod 10000 - x),Lg,<- hv]
  congr 2
  omega
theorem Mul2.next {X Y i:Nat} {d c x:Int} {o out:List Int} (h:Mul2 X Y i (dig Y).length (val o+10000 ^ i*(d*Y)) d c out) (h0:Mul1 X Y i o) (hd:nth (dig X) i=some d) (hx:nth out (i+(dig Y).length)=some x):x=0/\Mul1 X Y (i+1) (out.set (i+(dig Y).length) (x+c)):=by
 have ta:=h.zero _ x (Nat.le_refl _) (.inl (Nat.le_refl _)) hx
 subst ta
 have h3:=h.c0
 refine ⟨rfl,by rw [List.length_set]; exact h.len,U0 h.ok (by omega) (by omega),fun j y hj hy=>?_,?_⟩
 ·rcases Gn hy with ⟨rfl,rfl⟩|⟨hne,hy⟩
  ·omega
  ·exact h.zero j y (by omega) (.inl (Nat.le_refl _)) hy
 ·have hv:=h.eqv
  rw [List.drop_length] at hv
  simp only [val,Int.mul_zero,Int.add_zero] at hv
  have jl:=h0.eqv
  rw [Bc hd,val] at jl
  rw [J2 hx,<- jl]
  have e1:(0:Int)+c - 0=c:=by omega
  rw [e1,Int.mul_comm c,hv,Int.add_assoc,Lg]
  congr 2
  rw [Int.add_mul,Int.mul_assoc]
theorem Mul1.done {X Y:Nat} {out:List Int} (h:Mul1 X Y (dig X).length out):Dw out=dig (X*Y):=by
 have hv:=h.eqv
 rw [List.drop_length] at hv
 simp only [val,Int.zero_mul,Int.mul_zero,Int.add_zero] at hv
 rw [Ei h.ok,hv]
 congr 1
end
section
open Go
theorem V_bad {p:Bool} {l:List Int} (h:Eb p l=false):V p l=0:=by simp [V,h]
end
section
open Go
def sg (p:Bool) (n:Nat):Int:=if p=true then -(n:Int) else n
def okZ (z:Int):Bool:=!decide (200<(dig z.natAbs).length)
theorem Apk (p:Bool) (n:Nat):(sg p n).natAbs=n:=by unfold sg; split <;> omega
theorem V_sg (p:Bool) (l:List Int):V p l=sg p (V p l).natAbs:=by
 unfold V
 cases h:Eb p l with
 | false=>cases p <;> simp [sg]
 | true =>
  have h3:=Gg (Kl h).2.1
  cases p <;> simp [sg] <;> omega
theorem Aow (p q:Bool) (X Y:Nat):sg (p != q) (X*Y)=sg p X*sg q Y:=by
 cases p <;> cases q <;> simp [sg,Int.neg_mul,Int.mul_neg]
theorem Apt {p q:Bool} (h:p≠q) {X Y:Nat} (hl:Y<=X):sg p (X - Y)=sg p X+sg q Y:=by
 cases p <;> cases q <;> simp [sg] at h ⊢ <;> omega
theorem An4 {p q:Bool} (h:p≠q) {X Y:Nat} (hl:X<=Y):sg q (Y - X)=sg p X+sg q Y:=by
 cases p <;> cases q <;> simp [sg] at h ⊢ <;> omega
def cmpZ (x y:Int):Int:=if x<y then -1 else if y<x then 1 else 0
end
section
open Go Tryz
section
variable (S:List Ent) (tk:List Nat) (k:Nat)
theorem L9 (a b:Nat) (ha:(dig a).length<=1000000) (hb:(dig b).length<=1000000):cL prog 174 [digA (dig a),digA (dig b)] S tk k=some (.int (cmpN a b),S,tk,k):=by
 refine opP func174 ntmps174 ?_
 by_cases hl:(dig a).length=(dig b).length
 case neg =>
  have d1:(((dig a).length:Int) != ((dig b).length:Int))=true:=by simp; omega
  rcases Nat.lt_or_ge (dig a).length (dig b).length with h|h
  ·have d2:decide (((dig a).length:Int)<((dig b).length:Int))=true:=by simpa using h
   have:=Q6 h
   simp (maxSteps:=10^6)+contextual(disch:=try exact dqd)only[ev0,simprocAttr,AV.int,AV.bool,AV.str,results174,digA,d1,d2]
   simp [cmpN,this]
  ·have d2:decide (((dig a).length:Int)<((dig b).length:Int))=false:=by simp; omega
   have:=Q6 (a:=b) (b:=a) (by omega)
   simp (maxSteps:=10^6)+contextual(disch:=try exact dqd)only[ev0,simprocAttr,AV.int,AV.bool,AV.str,results174,digA,d1,d2]
   rw [cmpN,if_neg (by omega),if_pos this]
 have d1:(((dig a).length:Int) != ((dig b).length:Int))=false:=by simp; omega
 have d3:=Us ha
 simp (maxSteps:=10^6)+contextual(disch:=try exact dqd)only[ev0,simprocAttr,AV.int,AV.bool,AV.str,results174,digA,d1,d3]
 refine loop1 (P:=prog) (fun x st=>st.T.length=41/\(x<=(dig a).length)/\(∀ j,x<=j->nth (dig a) j=nth (dig b) j)/\getT st.T 0=digA (dig a)/\getT st.T 1=digA (dig b)/\getT st.T 5=.int ((x:Int) - 1)/\st.S=[]) (fun x=>x) (fun x=>.int (cmpN a b)) ((dig a).length) ?_ ?_
 case refine_2=>exact ⟨rfl,Nat.le_refl _,fun j hj=>by rw [Ae,Ae,List.getElem?_eq_none hj,List.getElem?_eq_none (by omega)],rfl,rfl,rfl,rfl⟩
 rintro n ⟨T,S',tk',n'⟩ ⟨hl,hn,he,e0,e1,e5,eS⟩ IH
 subst eS
 obtain ⟨g,hg,hT⟩:=Av hl
 rw [hg] at e0 e1 e5
 subst hT
 clear hg hl
 by_cases h0:n=0
 ·have d2:decide ((n:Int) - 1 >= 0)=false:=by simp; omega
  have:=Aio fun j=>he j (by omega)
  subst this
  simp (maxSteps:=10^6)+contextual(disch:=try exact dqd)only[ev0,simprocAttr,AV.int,AV.bool,AV.str,results174,e0,e1,e5,d2,digA]
  simp [cmpN]
 ·have d2:decide ((n:Int) - 1 >= 0)=true:=by simp; omega
  have hi:(n:Int) - 1=((n - 1:Nat):Int):=by omega
  obtain ⟨x,hx⟩:=Ag (show n - 1<(dig a).length by omega)
  obtain ⟨y,hy⟩:=Ag (show n - 1<(dig b).length by omega)
  have hx':=Ga hx
  have qu:=Ga hy
  have qy:∀ j,n - 1<j->nth (dig a) j=nth (dig b) j:=fun j hj=>he j (by omega)
  have hp:=Us (n:=n - 1) (by omega)
  rw [hi] at e5 d2
  by_cases ji:x=y
  ·have d4:(x != y)=false:=by simpa using ji
   simp (maxSteps:=10^6)+contextual(disch:=try exact dqd)only[ev0,simprocAttr,AV.int,AV.bool,AV.str,results174,e0,e1,e5,d2,d4,digA,hx',qu,hp]
   exact IH (n - 1) _ (by first|omega|(simp only; omega)) ⟨rfl,by first|omega|(dsimp only; omega),fun j hj=>by by_cases e:j=n - 1; (· rw [e,hx,hy,ji]); exact qy j (by first|omega|(dsimp only; omega)),(by first|rfl|simp only [getT,List.map_append,List.map_cons,List.map_nil,digC,digA]),(by first|rfl|simp only [getT,List.map_append,List.map_cons,List.map_nil,digC,digA]),(by first|rfl|simp only [getT,List.map_append,List.map_cons,List.map_nil,digC,digA]),(by first|rfl|simp only [getT,List.map_append,List.map_cons,List.map_nil,digC,digA])⟩
  ·have d4:(x != y)=true:=by simpa using ji
   by_cases h1:x<y
   ·have d5:decide (x<y)=true:=by simpa using h1
    have:=Ak4 hl hx hy h1 qy
    simp (maxSteps:=10^6)+contextual(disch:=try exact dqd)only[ev0,simprocAttr,AV.int,AV.bool,AV.str,results174,e0,e1,e5,d2,d4,d5,digA,hx',qu,hp]
    simp [cmpN,this]
   ·have d5:decide (x<y)=false:=by simpa using h1
    have:=Ak4 hl.symm hy hx (by omega) fun j hj=>(qy j hj).symm
    simp (maxSteps:=10^6)+contextual(disch:=try exact dqd)only[ev0,simprocAttr,AV.int,AV.bool,AV.str,results174,e0,e1,e5,d2,d4,d5,digA,hx',qu,hp]
    rw [cmpN,if_neg (by omega),if_pos this]
theorem W8 (l:List Int) (id ep:Nat) (hlen:l.length<=1000000) (h:entAt S id ep=some (l.map numC)):cL prog 175 [.sref id ep 0 l.length 1] S tk k=some (.sref id ep 0 (Dw l).length 1,S,tk,k):=by
 refine opS func175 ntmps175 ?_
 have hid:id<S.length:=by
  obtain ⟨e,h1,-⟩:=Dy h
  exact Bk h1
 simp (maxSteps:=10^6)+contextual(disch:=try exact dqd)only[evs0,simprocAttr,AV.int,AV.bool,AV.str,results175]
 refine Agj (P:=prog) (fun x st=>st.T.length=21/\(x<=l.length)/\(∀ j,x<=j->∀ x,nth l j=some x->x=0)/\getT st.T 0=.sref id ep 0 x 1/\st.S=S/\st.tk=tk/\st.n=k) (fun x=>x) (fun x=>(.sref id ep 0 (Dw l).length 1,S,tk,k)) (l.length) ?_ ?_
 case refine_2=>exact ⟨rfl,Nat.le_refl _,Vj l,rfl,rfl,rfl,rfl⟩
 rintro n ⟨T,S',tk',n'⟩ ⟨hl,hn,hz,e0,eS,eT,eN⟩ IH
 subst eS eT eN
 obtain ⟨g,hg,hT⟩:=Av hl
 rw [hg] at e0
 subst hT
 clear hg hl
 by_cases h0:n=0
 ·have d1:decide ((n:Int) > 0)=false:=by simp; omega
  have ht:=Jd hn hz (.inl h0)
  simp (maxSteps:=10^6)+contextual(disch:=try exact dqd)only[evs0,simprocAttr,AV.int,AV.bool,AV.str,results175,e0,d1]
  rw [ht]; simp [h0]
 ·have d1:decide ((n:Int) > 0)=true:=by simp; omega
  have hp:=Aaf h0 (by omega)
  have bl:n - 1<l.length:=by omega
  have a7:n - 1<n:=by omega
  have b6:n - 1<=n:=by omega
  obtain ⟨x,hx⟩:=Ag bl
  have hx':=Afy hx
  by_cases ta:x=0
  ·have d2:(x == 0)=true:=by simpa using ta
   simp (maxSteps:=10^6)+contextual(disch:=try exact dqd)only[evs0,simprocAttr,AV.int,AV.bool,AV.str,results175,e0,d1,d2,hp,hx',h,bl,a7,b6,Nat.mul_one,J9,bound,intN_cast,Nat.le_refl,Nat.zero_le,Nat.zero_mul,Nat.sub_zero,Nat.add_zero]
   exact IH (n - 1) _ (by first|omega|(simp only; omega)) ⟨rfl,by first|omega|(dsimp only; omega),Yw hz hx ta,by and_intros <;> first|rfl|simp only [getT,List.map_append,List.map_cons,List.map_nil,digC,digA]⟩
  ·have d2:(x == 0)=false:=by simpa using ta
   have ht:=Jd hn hz (.inr ⟨x,hx,ta⟩)
   simp (maxSteps:=10^6)+contextual(disch:=try exact dqd)only[evs0,simprocAttr,AV.int,AV.bool,AV.str,results175,e0,d1,d2,hp,hx',h,bl,a7,Nat.mul_one,J9,bound,intN_cast,hn,Nat.le_refl,Nat.zero_le,Nat.zero_mul,Nat.sub_zero,Nat.add_zero]
   rw [ht]; simp; omega
set_option maxRecDepth 100000 in
theorem P9 (X Y:Nat) (ha:(dig X).length<=100000) (hb:(dig Y).length<=100000):cL prog 177 [digA (dig X),digA (dig Y)] S tk k=some (digA (dig (X*Y)),S,tk,k):=by
 refine opP func177 ntmps177 ?_
 have hw:IntKind.i64.wrap (((dig X).length:Int)+((dig Y).length:Int))=(((dig X).length+(dig Y).length:Nat):Int):=by rw [Ad (by unfold i64; omega)]; omega
 have hbo:(A8 prog 37).bind (bytesOf prog)=some 8:=by kernel_rfl
 have kv:=An5 (P:=prog) (t:=37) (n:=(dig X).length+(dig Y).length) (by simp only [tys,Option.bind_some]) (by simp only [tys,Option.bind_some]) hbo (by omega)
 simp (maxSteps:=10^6)+contextual(disch:=try exact dqd)only[ev0,simprocAttr,AV.int,AV.bool,AV.str,results177,digA,hw,kv]
 refine loop1 (P:=prog) (fun x st=>st.T.length=67/\(x.1<=(dig X).length)/\(Mul1 X Y x.1 x.2)/\getT st.T 0=digA (dig X)/\getT st.T 1=digA (dig Y)/\getT st.T 5=.sref 0 0 0 ((dig X).length+(dig Y).length) 1/\getT st.T 18=digA (dig X)/\getT st.T 19=.int (dig X).length/\getT st.T 20=.int (x.1:Nat)/\st.S=[⟨0,x.2.map numC⟩]) (fun x=>(dig X).length - x.1) (fun x=>digA (dig (X*Y))) (0,List.replicate ((dig X).length+(dig Y).length) 0) ?_ ?_
 case refine_2=>exact ⟨rfl,Nat.zero_le _,Mul1.start X Y,rfl,rfl,rfl,rfl,rfl,rfl,rfl⟩
 rintro ⟨i,out⟩ ⟨T,S',tk',n'⟩ ⟨hl,hi,hp,e0,e1,e5,e18,e19,e20,eS⟩ IH
 simp only at hi hp e0 e1 e5 e18 e19 e20 eS
 subst eS
 obtain ⟨g,hg,hT⟩:=Av hl
 rw [hg] at e0 e1 e5 e18 e19 e20
 subst hT
 clear hg hl
 have OUT:=IH
 clear IH
 have hlen:=hp.len
 by_cases hlt:i<(dig X).length
 ·have d2:decide ((i:Int)<((dig X).length:Int))=true:=by simpa using hlt
  obtain ⟨d,hd⟩:=Ag hlt
  have ev:=Ga hd
  have wl:=E2 (B4 X) hd
  have jf:=B9 (i:=i) (by omega)
  have aj:=Mul2.start (d:=d) hp
  simp (maxSteps:=10^6)+contextual(disch:=try exact dqd)only[ev0,simprocAttr,AV.int,AV.bool,AV.str,results177,digA,e0,e1,e5,e18,e19,e20,d2,ev]
  refine loop1 (P:=prog) (fun x st=>st.T.length=67/\(x.1<=(dig Y).length)/\(Mul2 X Y i x.1 (val out+10000 ^ i*(d*Y)) d x.2.1 x.2.2)/\getT st.T 0=digA (dig X)/\getT st.T 1=digA (dig Y)/\getT st.T 5=.sref 0 0 0 ((dig X).length+(dig Y).length) 1/\getT st.T 6=.int (i:Nat)/\getT st.T 7=.int d/\getT st.T 8=.int x.2.1/\getT st.T 18=digA (dig X)/\getT st.T 19=.int (dig X).length/\getT st.T 20=.int (i:Nat)/\getT st.T 25=digA (dig Y)/\getT st.T 26=.int (dig Y).length/\getT st.T 27=.int (x.1:Nat)/\st.S=[⟨0,x.2.2.map numC⟩]) (fun x=>(dig Y).length - x.1) (fun x=>digA (dig (X*Y))) (0,0,out) ?_ ?_
  case refine_2=>exact ⟨rfl,Nat.zero_le _,aj,rfl,rfl,rfl,rfl,rfl,rfl,rfl,rfl,rfl,rfl,rfl,rfl,rfl⟩
  rintro ⟨m,c,o2⟩ ⟨T,S',tk',n'⟩ ⟨hl,hm,hq,e0,e1,e5,e6,e7,e8,e18,e19,e20,e25,e26,e27,eS⟩ IH
  simp only at hm hq e0 e1 e5 e6 e7 e8 e18 e19 e20 e25 e26 e27 eS
  subst eS
  obtain ⟨g,hg,hT⟩:=Av hl
  rw [hg] at e0 e1 e5 e6 e7 e8 e18 e19 e20 e25 e26 e27
  subst hT
  clear hg hl
  have a3q:=hq.len
  have hc0:=hq.c0
  have fj:=B9 (i:=m) (by omega)
  obtain ⟨x,hx⟩:=Ag (show i+m<o2.length by omega)
  have hx':=Afy hx
  have gn:i+m<(dig X).length+(dig Y).length:=by omega
  have him:IntKind.i64.wrap ((i:Int)+(m:Int))=((i+m:Nat):Int):=by rw [Ad (by unfold i64; omega)]; omega
  have hxk:=E2 hq.ok hx
  by_cases cm:m<(dig Y).length
  ·have d3:decide ((m:Int)<((dig Y).length:Int))=true:=by simpa using cm
   obtain ⟨y,hy⟩:=Ag cm
   have qu:=Ga hy
   have hyk:=E2 (B4 Y) hy
   obtain ⟨n,hn⟩:∃ n,n=c+x+d*y:=⟨_,rfl⟩
   obtain ⟨hq2,jk,bl,a7⟩:=hq.step (n:=n) (by omega) wl hx (by rw [hn,hy]; rfl)
   have t6:0<=d*y:=Int.mul_nonneg wl.1 hyk.1
   have hw1:IntKind.i64.wrap (d*y)=d*y:=Ad (by unfold i64; omega)
   have hw2:IntKind.i64.wrap (x+d*y)=x+d*y:=Ad (by unfold i64; omega)
   have hw3:IntKind.i64.wrap (x+d*y+c)=n:=by rw [hn,Ad (by unfold i64; omega)]; omega
   have zc:IntKind.i64.wrap (n.tdiv 10000)=n.tdiv 10000:=by rw [a7,Ad (by unfold i64; omega)]
   have ml:¬ ((10000:Int)=0):=by omega
   have kt:=Aa5 (v:=n.tmod 10000) hx
   simp (maxSteps:=10^6)+contextual(disch:=try exact dqd)only[ev0,simprocAttr,AV.int,AV.bool,AV.str,results177,digA,e0,e1,e5,e6,e7,e8,e18,e19,e20,e25,e26,e27,d3,qu,fj,him,gn,hx',hw1,hw2,hw3,zc,ml,kt,Nat.mul_one]
   exact IH (m+1,n.tdiv 10000,o2.set (i+m) (n.tmod 10000)) _ (by first|omega|(simp only; omega)) ⟨rfl,by first|omega|(dsimp only; omega),hq2,(by first|rfl|simp only [getT,List.map_append,List.map_cons,List.map_nil,digC,digA]),(by first|rfl|simp only [getT,List.map_append,List.map_cons,List.map_nil,digC,digA]),(by first|rfl|simp only [getT,List.map_append,List.map_cons,List.map_nil,digC,digA]),(by first|rfl|simp only [getT,List.map_append,List.map_cons,List.map_nil,digC,digA]),(by first|rfl|simp only [getT,List.map_append,List.map_cons,List.map_nil,digC,digA]),(by first|rfl|simp only [getT,List.map_append,List.map_cons,List.map_nil,digC,digA]),(by first|rfl|simp only [getT,List.map_append,List.map_cons,List.map_nil,digC,digA]),(by first|rfl|simp only [getT,List.map_append,List.map_cons,List.map_nil,digC,digA]),(by first|rfl|simp only [getT,List.map_append,List.map_cons,List.map_nil,digC,digA]),(by first|rfl|simp only [getT,List.map_append,List.map_cons,List.map_nil,digC,digA]),(by first|rfl|simp only [getT,List.map_append,List.map_cons,List.map_nil,digC,digA]),(by first|rfl|simp only [getT,List.map_append,List.map_cons,List.map_nil,digC,digA]),(by first|rfl|simp only [getT,List.map_append,List.map_cons,List.map_nil,digC,digA])⟩
  ·have d3:decide ((m:Int)<((dig Y).length:Int))=false:=by simpa using cm
   have zd:m=(dig Y).length:=by omega
   subst zd
   obtain ⟨-,t7⟩:=hq.next hp hd hx
   have ze:IntKind.i64.wrap (x+c)=x+c:=Ad (by unfold i64; omega)
   have kt:=Aa5 (v:=x+c) hx
   simp (maxSteps:=10^6)+contextual(disch:=try exact dqd)only[ev0,simprocAttr,AV.int,AV.bool,AV.str,results177,digA,e0,e1,e5,e6,e7,e8,e18,e19,e20,e25,e26,e27,d3,jf,him,gn,hx',ze,kt,Nat.mul_one]
   exact OUT (i+1,o2.set (i+(dig Y).length) (x+c)) _ (by first|omega|(simp only; omega)) ⟨rfl,by first|omega|(dsimp only; omega),t7,(by first|rfl|simp only [getT,List.map_append,List.map_cons,List.map_nil,digC,digA]),(by first|rfl|simp only [getT,List.map_append,List.map_cons,List.map_nil,digC,digA]),(by first|rfl|simp only [getT,List.map_append,List.map_cons,List.map_nil,digC,digA]),(by first|rfl|simp only [getT,List.map_append,List.map_cons,List.map_nil,digC,digA]),(by first|rfl|simp only [getT,List.map_append,List.map_cons,List.map_nil,digC,digA]),(by first|rfl|simp only [getT,List.map_append,List.map_cons,List.map_nil,digC,digA]),(by first|rfl|simp only [getT,List.map_append,List.map_cons,List.map_nil,digC,digA])⟩
 ·have d2:decide ((i:Int)<((dig X).length:Int))=false:=by simpa using hlt
  have he:i=(dig X).length:=by omega
  subst he
  have a0e:=hp.done
  have hT:=W8 [⟨0,out.map numC⟩] tk' n' out 0 0 (by omega) rfl
  rw [hlen] at hT
  rw [a0e] at hT
  simp (maxSteps:=10^6)+contextual(disch:=try exact dqd)only[ev0,simprocAttr,AV.int,AV.bool,AV.str,results177,digA,e0,e1,e5,e18,e19,e20,d2,hT]
  have dn:N0 (Jt 1 (dig (X*Y)).length (out.map numC))=.frz ((dig (X*Y)).map digC) .unk:=by
   rw [<- a0e,Acr (P0 out),Ac5,<- H2]
  rw [dn]
end
end
end Go.Proofs.YtcjffhadclngmaaGreat
