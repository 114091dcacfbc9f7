/- Part 9. -/
import Derived.Test.YtcandeobhlfkbaaGreatZM8
import Derived.Test.YtcandeobhlfkbaaGreatChecked
import Derived.IntWalk
namespace Go.Proofs.YtcandeobhlfkbaaGreat
section
theorem mixed:Tryz.prog.follows .mixedOrders=true:=by kernel_rfl
set_option maxRecDepth 100000 in
theorem tys :
  szOf Tryz.prog 1=some 1 /\
  aggT Tryz.prog 1=some false /\
  Az Tryz.prog 1=some [.prim .nilFunc] /\
  B5 Tryz.prog 1=false /\
  szOf Tryz.prog 2=some 1 /\
  aggT Tryz.prog 2=some false /\
  Az Tryz.prog 2=some [.prim (.int .i64 0)] /\
  Hp Tryz.prog 2=some .i64 /\
  B5 Tryz.prog 2=false /\
  szOf Tryz.prog 3=some 1 /\
  aggT Tryz.prog 3=some false /\
  Az Tryz.prog 3=some [.prim (.int .i64 0)] /\
  Hp Tryz.prog 3=some .i64 /\
  B5 Tryz.prog 3=false /\
  szOf Tryz.prog 4=some 1 /\
  aggT Tryz.prog 4=some false /\
  Az Tryz.prog 4=some [.prim (.bool false)] /\
  B5 Tryz.prog 4=false /\
  Ahd Tryz.prog 4=true /\
  szOf Tryz.prog 5=some 1 /\
  aggT Tryz.prog 5=some false /\
  Az Tryz.prog 5=some [.prim (.int .u8 0)] /\
  Hp Tryz.prog 5=some .u8 /\
  B5 Tryz.prog 5=false /\
  szOf Tryz.prog 9=some 1 /\
  aggT Tryz.prog 9=some false /\
  Az Tryz.prog 9=some [.prim (.string ⟨#[]⟩)] /\
  B5 Tryz.prog 9=true /\
  szOf Tryz.prog 22=some 1 /\
  aggT Tryz.prog 22=some false /\
  Az Tryz.prog 22=some [.frz [] .nilc] /\
  A8 Tryz.prog 22=some 38 /\
  apT Tryz.prog 22=some 3 /\
  B5 Tryz.prog 22=false /\
  szOf Tryz.prog 25=some 1 /\
  aggT Tryz.prog 25=some false /\
  Az Tryz.prog 25=some [.frz [] .nilc] /\
  A8 Tryz.prog 25=some 48 /\
  apT Tryz.prog 25=some 2 /\
  B5 Tryz.prog 25=false /\
  szOf Tryz.prog 26=some 1 /\
  aggT Tryz.prog 26=some false /\
  Az Tryz.prog 26=some [.frz [] .nilc] /\
  A8 Tryz.prog 26=some 48 /\
  apT Tryz.prog 26=some 2 /\
  B5 Tryz.prog 26=false /\
  szOf Tryz.prog 30=some 1 /\
  aggT Tryz.prog 30=some false /\
  Az Tryz.prog 30=some [.prim (.int .i64 0)] /\
  Hp Tryz.prog 30=some .i64 /\
  B5 Tryz.prog 30=false /\
  szOf Tryz.prog 36=some 2 /\
  aggT Tryz.prog 36=some true /\
  Az Tryz.prog 36=some [.frz [] .nilc,.prim (.int .i64 0)] /\
  B5 Tryz.prog 36=false /\
  B4 Tryz.prog 36 0=some (0,1,false) /\
  B4 Tryz.prog 36 1=some (1,1,false) /\
  fieldsOf Tryz.prog 36=some [(0,1),(1,1)] /\
  szOf Tryz.prog 38=some 3 /\
  aggT Tryz.prog 38=some true /\
  Az Tryz.prog 38=some [.frz [] .nilc,.prim (.int .i64 0),.prim (.bool false)] /\
  B5 Tryz.prog 38=false /\
  B4 Tryz.prog 38 0=some (0,2,true) /\
  B4 Tryz.prog 38 1=some (2,1,false) /\
  fieldsOf Tryz.prog 38=some [(0,2),(2,1)] /\
  szOf Tryz.prog 41=some 1 /\
  aggT Tryz.prog 41=some false /\
  Az Tryz.prog 41=some [.frz [] .nilc] /\
  A8 Tryz.prog 41=some 9 /\
  apT Tryz.prog 41=some 1 /\
  B5 Tryz.prog 41=false /\
  szOf Tryz.prog 45=some 1 /\
  aggT Tryz.prog 45=some false /\
  Az Tryz.prog 45=some [.frz [] .nilc] /\
  A8 Tryz.prog 45=some 3 /\
  apT Tryz.prog 45=some 1 /\
  B5 Tryz.prog 45=false /\
  szOf Tryz.prog 48=some 2 /\
  aggT Tryz.prog 48=some true /\
  Az Tryz.prog 48=some [.prim (.string ⟨#[]⟩),.prim (.int .i64 0)] /\
  B5 Tryz.prog 48=false /\
  B4 Tryz.prog 48 0=some (0,1,false) /\
  B4 Tryz.prog 48 1=some (1,1,false) /\
  fieldsOf Tryz.prog 48=some [(0,1),(1,1)] /\
  Ako Tryz.prog 48=some [2,1] /\
  szOf Tryz.prog 57=some 1 /\
  aggT Tryz.prog 57=some false /\
  Az Tryz.prog 57=some [.frz [] .nilc] /\
  A8 Tryz.prog 57=some 61 /\
  apT Tryz.prog 57=some 4 /\
  B5 Tryz.prog 57=false /\
  szOf Tryz.prog 59=some 2 /\
  aggT Tryz.prog 59=some true /\
  Az Tryz.prog 59=some [.prim (.bool false),.frz [] .nilc] /\
  B5 Tryz.prog 59=false /\
  B4 Tryz.prog 59 0=some (0,1,false) /\
  B4 Tryz.prog 59 1=some (1,1,false) /\
  fieldsOf Tryz.prog 59=some [(0,1),(1,1)] /\
  szOf Tryz.prog 61=some 4 /\
  aggT Tryz.prog 61=some true /\
  Az Tryz.prog 61=some [.prim (.bool false),.frz [] .nilc,.prim (.bool false),.frz [] .nilc] /\
  B5 Tryz.prog 61=false /\
  B4 Tryz.prog 61 0=some (0,2,true) /\
  B4 Tryz.prog 61 1=some (2,2,true) /\
  fieldsOf Tryz.prog 61=some [(0,2),(2,2)] /\
  szOf Tryz.prog 66=some 1 /\
  aggT Tryz.prog 66=some false /\
  Az Tryz.prog 66=some [.prim .nilFunc] /\
  B5 Tryz.prog 66=false /\
  szOf Tryz.prog 68=some 1 /\
  aggT Tryz.prog 68=some false /\
  Az Tryz.prog 68=some [.prim (.int .u64 0)] /\
  Hp Tryz.prog 68=some .u64 /\
  B5 Tryz.prog 68=false /\
  szOf Tryz.prog 70=some 1 /\
  aggT Tryz.prog 70=some false /\
  Az Tryz.prog 70=some [.frz [] .nilc] /\
  A8 Tryz.prog 70=some 26 /\
  apT Tryz.prog 70=some 1 /\
  B5 Tryz.prog 70=false /\
  szOf Tryz.prog 73=some 1 /\
  aggT Tryz.prog 73=some false /\
  Az Tryz.prog 73=some [.prim .nilFunc] /\
  B5 Tryz.prog 73=false /\
  szOf Tryz.prog 74=some 1 /\
  aggT Tryz.prog 74=some false /\
  Az Tryz.prog 74=some [.prim .nilFunc] /\
  B5 Tryz.prog 74=false /\
  szOf Tryz.prog 76=some 1 /\
  aggT Tryz.prog 76=some false /\
  Az Tryz.prog 76=some [.prim (.pointer none)] /\
  B5 Tryz.prog 76=false /\
  szOf Tryz.prog 93=some 1 /\
  aggT Tryz.prog 93=some false /\
  Az Tryz.prog 93=some [.frz [] .nilc] /\
  A8 Tryz.prog 93=some 57 /\
  apT Tryz.prog 93=some 1 /\
  B5 Tryz.prog 93=false /\
  szOf Tryz.prog 94=some 1 /\
  aggT Tryz.prog 94=some false /\
  Az Tryz.prog 94=some [.frz [] .nilc] /\
  A8 Tryz.prog 94=some 4 /\
  apT Tryz.prog 94=some 1 /\
  B5 Tryz.prog 94=false /\
  szOf Tryz.prog 96=some 6 /\
  aggT Tryz.prog 96=some true /\
  Az Tryz.prog 96=some [.frz [] .nilc,.frz [] .nilc,.frz [] .nilc,.frz [] .nilc,.frz [] .nilc,.prim (.int .i64 0)] /\
  B5 Tryz.prog 96=false /\
  B4 Tryz.prog 96 0=some (0,1,false) /\
  B4 Tryz.prog 96 1=some (1,1,false) /\
  B4 Tryz.prog 96 2=some (2,1,false) /\
  B4 Tryz.prog 96 3=some (3,1,false) /\
  B4 Tryz.prog 96 4=some (4,1,false) /\
  B4 Tryz.prog 96 5=some (5,1,false) /\
  fieldsOf Tryz.prog 96=some [(0,1),(1,1),(2,1),(3,1),(4,1),(5,1)] /\
  szOf Tryz.prog 120=some 1 /\
  aggT Tryz.prog 120=some false /\
  Az Tryz.prog 120=some [.prim .nilFunc] /\
  B5 Tryz.prog 120=false /\
  szOf Tryz.prog 121=some 1 /\
  aggT Tryz.prog 121=some false /\
  Az Tryz.prog 121=some [.prim .nilFunc] /\
  B5 Tryz.prog 121=false :=
 by and_intros <;> kernel_rfl
def val:List Int->Int
 | []=>0
 | d :: r=>d+10000*val r
def digN:Nat->Nat->List Int
 | 0,_=>[]
 | f+1,n=>if n=0 then [] else ((n % 10000:Nat):Int) :: digN f (n / 10000)
def dig (n:Nat):List Int:=digN n n
def okD (l:List Int):Prop:=∀ d ∈ l,0<=d/\d<10000
theorem Xj:∀ {f g n:Nat},n<=f->n<=g->digN f n=digN g n
 | 0,0,_,_,_=>rfl
 | 0,g+1,n,h,_=>by
   have:n=0:=by omega
   subst this; simp [digN]
 | f+1,0,n,_,h=>by
   have:n=0:=by omega
   subst this; simp [digN]
 | f+1,g+1,n,h1,h2=>by
  simp only [digN]
  by_cases h:n=0
  ·simp [h]
  ·rw [if_neg h,if_neg h,Xj (f:=f) (g:=g) (n:=n / 10000) (by omega) (by omega)]
theorem Dc:dig 0=[]:=rfl
theorem H0 {n:Nat} (h:n≠0):dig n=((n % 10000:Nat):Int) :: dig (n / 10000):=by
 unfold dig
 cases n with
 | zero=>exact absurd rfl h
 | succ n =>
  rw [digN,if_neg h]
  congr 1
  exact Xj (by omega) (Nat.le_refl _)
theorem Bj (n:Nat):val (dig n)=n:=by
 induction n using Nat.strongRecOn with
 | _ n ih =>
  by_cases h:n=0
  ·subst h; rfl
  ·rw [H0 h,val,ih (n / 10000) (by omega)]; omega
theorem Ba (n:Nat):okD (dig n):=by
 induction n using Nat.strongRecOn with
 | _ n ih =>
  by_cases h:n=0
  ·subst h; intro d hd; simp [Dc] at hd
  ·rw [H0 h]
   intro d hd
   rcases List.mem_cons.1 hd with rfl|hd
   ·omega
   ·exact ih (n / 10000) (by omega) d hd
theorem Nf {d:Int} (h0:0<d) (h1:d<10000):dig d.toNat=[d]:=by
 rw [H0 (by omega)]
 have e1:d.toNat % 10000=d.toNat:=Nat.mod_eq_of_lt (by omega)
 have e2:d.toNat / 10000=0:=by omega
 rw [e1,e2,Dc]
 congr 1; omega
theorem Dv:∀ {l:List Int},okD l->0<=val l
 | [],_=>by simp [val]
 | d :: r,h=>by
  have h1:=h d (by simp)
  have h2:=Dv (l:=r) fun x hx=>h x (by simp [hx])
  simp only [val]; omega
def B0:List Int->List Int
 | []=>[]
 | d :: r=>if B0 r=[]/\d=0 then [] else d :: B0 r
theorem Gc {n:Nat} : dig n=[]↔n=0:=by
 constructor
 ·intro h
  by_cases h0:n=0
  ·exact h0
  ·rw [H0 h0] at h; simp at h
 ·rintro rfl; rfl
theorem Dp:∀ {l:List Int},okD l->B0 l=dig (val l).toNat
 | [],_=>rfl
 | d :: r,h=>by
  have h1:=h d (by simp)
  have hr:okD r:=fun x hx=>h x (by simp [hx])
  have h2:=Dv hr
  rw [B0,Dp hr]
  simp only [val]
  by_cases hv:val r=0
  ·by_cases hd:d=0
   ·rw [if_pos ⟨by rw [hv]; rfl,hd⟩,hv,hd]; rfl
   ·rw [if_neg (fun h=>hd h.2),hv]
    have e:(d+10000*0).toNat=d.toNat:=by omega
    rw [e,Nf (by omega) h1.2]; rfl
  ·have hn:¬ (val r).toNat=0:=by omega
   rw [if_neg (fun h=>hn (Gc.1 h.1)),H0 (n:=(d+10000*val r).toNat) (by omega)]
   have e1:(d+10000*val r).toNat / 10000=(val r).toNat:=by omega
   have e2:(((d+10000*val r).toNat % 10000:Nat):Int)=d:=by omega
   rw [e1,e2]
theorem Bf {n k:Nat} : (dig n).length<=k↔n<10000 ^ k:=by
 induction k generalizing n with
 | zero =>
  rw [Nat.pow_zero]
  constructor
  ·intro h
   have:dig n=[]:=List.eq_nil_of_length_eq_zero (by omega)
   have:=Gc.1 this; omega
  ·intro h
   have:n=0:=by omega
   subst this; simp [Dc]
 | succ k ih =>
  by_cases h:n=0
  ·subst h; simp [Dc,Nat.pow_pos]
  ·rw [H0 h,List.length_cons,Nat.add_le_add_iff_right,ih,Nat.pow_succ,Nat.div_lt_iff_lt_mul (by omega)]
theorem Anj {a b:Nat} (h:dig a=dig b):a=b:=by
 have h1:=Bj a
 have h2:=Bj b
 rw [h] at h1; omega
theorem D5 (l r:List Int):val (l++r)=val l+10000 ^ l.length*val r:=by
 induction l with
 | nil=>simp [val]
 | cons d l ih=>simp only [List.cons_append,val,ih,List.length_cons,Int.pow_succ]; rw [Int.mul_add,Int.mul_comm (10000 ^ l.length) 10000,Int.mul_assoc]; omega
theorem Gs (n:Nat):val (List.replicate n 0)=0:=by
 induction n with
 | zero=>rfl
 | succ n ih=>rw [List.replicate_succ,val,ih]; rfl
theorem Jd {l:List Int} {i:Nat} {x v:Int} (h:nth l i=some x):val (l.set i v)=val l+(v - x)*10000 ^ i:=by
 induction l generalizing i with
 | nil=>simp [nth] at h
 | cons d l ih =>
  cases i with
  | zero=>simp only [nth,Option.some.injEq] at h; subst h; simp only [List.set_cons_zero,val,Int.pow_zero]; omega
  | succ i =>
   simp only [nth] at h
   simp only [List.set_cons_succ,val,ih h,Int.pow_succ]
   rw [Int.mul_add,Int.mul_comm (10000 ^ i) 10000,<- Int.mul_assoc,<- Int.mul_assoc,Int.mul_comm 10000 (v - x)]; omega
theorem M1 (l:List Int):(B0 l).length<=l.length:=by
 induction l with
 | nil=>simp [B0]
 | cons d l ih=>rw [B0]; split <;> simp; exact ih
theorem M2:∀ (n:Nat) (l:List Int),n<=l.length->(∀ j,n<=j->∀ x,nth l j=some x->x=0)->B0 l=B0 (l.take n)
 | 0,[],_,_=>rfl
 | 0,d :: l,_,h=>by
  have hd:=h 0 (Nat.le_refl _) d rfl
  have:=M2 0 l (Nat.zero_le _) fun j _ x hx=>h (j+1) (Nat.zero_le _) x hx
  rw [B0,this,hd]; simp [B0]
 | n+1,[],h,_=>by simp at h
 | n+1,d :: l,hn,h=>by
  have:=M2 n l (by simpa using hn) fun j hj x hx=>h (j+1) (by omega) x hx
  rw [List.take_succ_cons,B0,B0,this]
theorem V6:∀ (l:List Int) (n:Nat) (x:Int),nth l n=some x->l.length=n+1->x≠0->B0 l=l
 | [],_,_,h,_,_=>by simp [nth] at h
 | d :: l,0,x,h,hl,hx=>by
  have:l=[]:=List.eq_nil_of_length_eq_zero (by simpa using hl)
  subst this
  simp only [nth,Option.some.injEq] at h; subst h
  simp [B0,hx]
 | d :: l,n+1,x,h,hl,hx=>by
  have ih:=V6 l n x h (by simpa using hl) hx
  have hne:l≠[]:=by rintro rfl; simp [nth] at h
  rw [B0,ih,if_neg (fun h=>hne h.1)]
/- which numbers are valid,and what they stand for -/
def Zs (l:List Int):Bool:=match nth l (l.length - 1) with|some x=>x == 0|none=>false
def allD:List Int->Bool
 | []=>true
 | d :: r=>if (decide (d<0) || decide (d >= 10000))=true then false else allD r
theorem Afq {l:List Int} : allD l=true↔okD l:=by
 induction l with
 | nil=>simp [allD,okD]
 | cons d l ih =>
  rw [allD]
  by_cases h:d<0\/d >= 10000
  ·have:(decide (d<0) || decide (d >= 10000))=true:=by simpa using h
   simp only [this,if_true,Bool.false_eq_true,false_iff]
   intro hk
   have:=hk d (by simp); omega
  ·have:(decide (d<0) || decide (d >= 10000))=false:=by simp; omega
   simp only [this,Bool.false_eq_true,if_false,ih]
   constructor
   ·intro hk x hx
    rcases List.mem_cons.1 hx with rfl|hx
    ·omega
    ·exact hk x hx
   ·exact fun hk x hx=>hk x (by simp [hx])
def Ej (neg:Bool) (l:List Int):Bool:=if (decide (200<l.length) || (decide (l=[]) && neg) || Zs l)=true then false else allD l
def V (neg:Bool) (l:List Int):Int:=if Ej neg l=true then (if neg=true then -(val l) else val l) else 0
theorem Kc {neg:Bool} {l:List Int} (h:Ej neg l=true):l=dig (val l).toNat/\okD l/\l.length<=200:=by
 unfold Ej at h
 split at h
 ·simp at h
 ·rename_i hh
  have hk:=Afq.1 h
  simp only [Bool.or_eq_true,decide_eq_true_eq,not_or] at hh
  refine ⟨?_,hk,by omega⟩
  rw [<- Dp hk]
  by_cases hl:l=[]
  ·subst hl; rfl
  ·have hpos:0<l.length:=List.length_pos_iff.2 hl
   obtain ⟨x,hx⟩:=Ab (l:=l) (i:=l.length - 1) (by omega)
   have hz:=hh.2
   unfold Zs at hz
   rw [hx] at hz
   exact (V6 l (l.length - 1) x hx (by omega) (by simpa using hz)).symm
theorem Api (neg:Bool) (l:List Int):dig (V neg l).natAbs=if Ej neg l=true then l else []:=by
 unfold V
 by_cases h:Ej neg l=true
 ·obtain ⟨h1,h2,-⟩:=Kc h
  have h3:=Dv h2
  rw [if_pos h,if_pos h]
  conv=>rhs; rw [h1]
  congr 1
  split <;> omega
 ·rw [if_neg h,if_neg h]; rfl
theorem Apj (neg:Bool) (l:List Int):(dig (V neg l).natAbs).length<=200:=by
 rw [Api]
 split
 ·rename_i h; exact (Kc h).2.2
 ·simp
theorem V9 (z:Int) (h:(dig z.natAbs).length<=200):Ej (decide (z<0)) (dig z.natAbs)=true:=by
 unfold Ej
 have hk:=Ba z.natAbs
 rw [if_neg]
 ·exact Afq.2 hk
 ·simp only [Bool.or_eq_true,decide_eq_true_eq,Bool.and_eq_true,not_or]
  refine ⟨⟨by omega,fun h=>?_⟩,fun hz=>?_⟩
  ·have:=Gc.1 h.1; omega
  ·unfold Zs at hz
   split at hz
   ·rename_i x hx
    have fy:x=0:=by simpa using hz
    subst fy
    have ht:=Dp hk
    rw [Bj] at ht
    have e:((z.natAbs:Int)).toNat=z.natAbs:=by omega
    rw [e] at ht
    have hl:=Bb hx
    have h1:=M2 ((dig z.natAbs).length - 1) (dig z.natAbs) (by omega) (fun j hj y hy=>by
     have:j=(dig z.natAbs).length - 1:=by have:=Bb hy; omega
     subst this
     rw [hx] at hy; simpa using hy.symm)
    have h2:=M1 ((dig z.natAbs).take ((dig z.natAbs).length - 1))
    rw [<- h1,ht] at h2
    simp at h2; omega
   ·simp at hz
theorem V_of (z:Int) (h:(dig z.natAbs).length<=200):V (decide (z<0)) (dig z.natAbs)=z:=by
 unfold V
 rw [if_pos (V9 z h),Bj]
 by_cases hz:z<0 <;> simp [hz] <;> omega
end
section
open Go
def digC (x:Int):List AV:=[.prim (.int .i64 x)]
def digA (l:List Int):AV:=.frz (l.map digC) .unk
def bigA (neg:Bool) (l:List Int):AV:=.agg [.prim (.bool neg),digA l]
def zA (z:Int):AV:=bigA (decide (z<0)) (dig z.natAbs)
def ownF:Option Tmp->TypeId->Bool
 | some 92,57|some 105,57|some 31,57|some 57,57|some 88,57|some 96,57=>true
 | some 32,93|some 240,93=>true
 | some 45,45|some 255,45=>true
 | some 240,123=>true
 | _,_=>false
def lkF0 (f:FuncId):Bool:=f == 161 || f == 162 || f == 163 || f == 164 || f == 165 || f == 166 || f == 167 || f == 168 ||
 f == 89 || f == 95 || f == 55
def anF0 (f:FuncId):Bool:=f == 54 || f == 104 || f == 82 || f == 58 || f == 160 ||
 f == 91 || f == 97
def mvF0 (f:FuncId):Bool:=f == 54 || f == 104 || f == 82 || f == 58 || f == 160 || f == 41 ||
 f == 61 || f == 67
instance:Globs:=⟨[],fun f=>f == 180,true,ownF,lkF0,anF0,true,false⟩
end
section
open Go
variable {P:Program}
@[reducible] def Ext.quiet (E:Ext P):Ext P:={ on:=E.on,mv:=E.mv,call:=fun _ _ _ _ _=>none }
theorem E3 [Globs] (E:Ext P) {call:Bm} {ok:St->List Oper->Bool} {n:Nat} : ∀ (c:Code) (st:St),@evC _ P (Ext.quiet E) call ok n c st=@evC _ P E call ok n c st
 | .skip,_=>by simp only [evC]
 | .region _ ops draw,st=>by simp only [evC]; rfl
 | .seq a b,st=>by
  simp only [evC,E3 E a]
  split <;> first|exact E3 E b _|rfl
 | .cond c a b,st=>by simp only [evC,E3 E a,E3 E b]
 | .block _ c,st=>by simp only [evC,E3 E c]
 | .loop c,st=>by
  simp only [evC]
  congr 1
  funext s
  exact E3 E c s
 | .exit _,_=>by simp only [evC]
 | .ret,_=>by simp only [evC]
 | .scope c,st=>by simp only [evC]; exact E3 E c st
 | .label _,_=>by simp only [evC]
 | .goto _,_=>by simp only [evC]
 | .rangeFunc _ _ _ _,_=>by simp only [evC]
 | .refuse _,_=>by simp only [evC]
theorem Xn [Globs] (E:Ext P) {ok:St->List Oper->Bool} : ∀ k,CLe (@evF _ P (Ext.quiet E) ok k) (@evF _ P E ok k)
 | 0=>by intro f args S tk n r he; simp [evF] at he
 | k+1=>by
  have ih:=Xn E (ok:=ok) k
  intro f args S tk n r he
  simp only [evF] at he ⊢
  split at he
  ·simp at he
  rename_i fv
  rw [if_neg (show ¬ @Ext.on P E f=true from fv)]
  split at he
  ·rename_i fn hf
   split at he
   ·rename_i c hb
    split at he
    ·simp at he
    ·rename_i ak
     rw [if_neg ak]
     have out:∀ {st0:St} {r0:AV × St},outA P fn (@evC _ P (Ext.quiet E) (@evF _ P (Ext.quiet E) ok k) ok k c st0)=some r0->outA P fn (@evC _ P E (@evF _ P E ok k) ok k c st0)=some r0:=by
      intro st0 r0 h
      rw [E3 E] at h
      exact Jz (fun z hz=>Bq ih (Nat.le_refl _) c _ z hz) h
     split at he
     ·rename_i fw
      rw [if_pos (show @Ext.mv P E f=true from fw)]
      split at he
      ·rename_i r' s1 ho
       rw [out ho]
       exact he
      ·simp at he
     rename_i fw
     rw [if_neg (show ¬ @Ext.mv P E f=true from fw)]
     split at he
     ·rename_i hp
      rw [if_pos hp]
      have one:∀ {xs0:List AV} {r0:AV},@runP _ P (Ext.quiet E) ok (@evF _ P (Ext.quiet E) ok k) k fn c xs0=some r0->@runP _ P E ok (@evF _ P E ok k) k fn c xs0=some r0:=by
       intro xs0 r0 hrun
       unfold runP at hrun ⊢
       split at hrun
       ·rename_i r' s1 ho
        rw [out ho]
        exact hrun
       ·simp at hrun
      split at he
      ·rename_i r' ho
       have:(if Hq c=true then runN (@runP _ P E ok (@evF _ P E ok k) k fn c) (args.map w2) else @runP _ P E ok (@evF _ P E ok k) k fn c (args.map w2))=some r':=by
        split at ho
        ·rename_i hn
         rw [if_pos hn]
         unfold runN at ho ⊢
         split at ho
         ·split at ho
          ·rename_i q1 q2
           rw [one q1,one q2]; exact ho
          ·simp at ho
         ·exact one ho
        ·rename_i hn
         rw [if_neg hn]
         exact one ho
       rw [this]; exact he
      ·simp at he
     ·rename_i hp
      rw [if_neg hp]
      split at he
      ·rename_i r' s1 ho
       rw [out ho]
       exact he
      ·simp at he
   ·simp at he
  ·simp at he
theorem told [Globs] {E:Ext P} {f:FuncId} {args:List AV} {S:List Ent} {tk:List Nat} {n:Nat} {r:AV × List Ent × List Nat × Nat} (h:@cL _ P (Ext.quiet E) f args S tk n=some r):@cL _ P E f args S tk n=some r:=by
 obtain ⟨k,hk⟩:=(@Jg P _ (Ext.quiet E) _ _ _ _ _ _).1 h
 exact (@Jg P _ E _ _ _ _ _ _).2 ⟨k,Xn E k _ _ _ _ _ _ hk⟩
theorem Alb [Globs] (E:Ext P):@Y3 _ P (Ext.quiet E):=by
 letI:=Ext.quiet E
 refine ⟨fun f args S tk n r S' tk' n' h=>?_,fun M f args S tk n r S' tk' n' h=>?_⟩
 ·unfold extC at h; split at h <;> simp at h
 ·unfold Dq at h; split at h
  ·unfold extC at h; split at h <;> simp at h
  ·simp at h
end
section
open Go Tryz
def Ny:List (List AV)->Option (List Int)
 | []=>some []
 | [.prim (.int .i64 x)] :: r=>(Ny r).map (x :: ·)
 | _=>none
theorem Tx:∀ l:List Int,Ny (l.map digC)=some l
 | []=>rfl
 | x :: l=>by simp only [List.map_cons,digC,Ny,Tx l,Option.map_some]
def strC (s:ByteArray):List AV:=[.prim (.string s)]
def Al (l:List ByteArray):AV:=.frz (l.map strC) .unk
def Rp:List (List AV)->Option (List ByteArray)
 | []=>some []
 | [.prim (.string x)] :: r=>(Rp r).map (x :: ·)
 | _=>none
theorem Uc:∀ l:List ByteArray,Rp (l.map strC)=some l
 | []=>rfl
 | x :: l=>by simp only [List.map_cons,strC,Rp,Uc l,Option.map_some]
theorem Rq:∀ {es:List (List AV)} {l:List ByteArray},Rp es=some l->es=l.map strC
 | [],l,h=>by simp only [Rp,Option.some.injEq] at h; subst h; rfl
 | e :: es,l,h=>by
  unfold Rp at h
  split at h
  ·rename_i he; simp at he
  ·rename_i x r he
   simp only [List.cons.injEq] at he
   obtain ⟨rfl,rfl⟩:=he
   simp only [Option.map_eq_some_iff] at h
   obtain ⟨l',h1,rfl⟩:=h
   rw [Rq h1]; rfl
  ·simp at h
def putS (l:List ByteArray) (s:ByteArray):List ByteArray :=
 match l with
 | []=>[s]
 | x :: r=>if sLt x s=true then x :: putS r s else if sEq x s=true then x :: r else s :: x :: r
def uniS (l:List ByteArray):List ByteArray:=l.foldl putS []
def Qr:Cap->Bool
 | .nilc=>true
 | _=>false
def quoF (l r:List Int):Option AV :=
 if l=dig (val l).toNat/\r=dig (val r).toNat/\r≠[]/\l.length<=90000/\r.length<=90000 then
  some (.tup [digA (dig ((val l).toNat / (val r).toNat)),digA (dig ((val l).toNat % (val r).toNat))]) else none
def quoC (args:List AV) (S:List Ent) (tk:List Nat) (n:Nat):Option (AV × List Ent × List Nat × Nat):=match args with
  | [.frz es _,.frz ys _]=>match Ny es,Ny ys with
   | some l,some r=>match quoF l r with
    | some v=>some (v,S,tk,n)
    | none=>none
   | _,_=>none
  | _=>none
def uniC (args:List AV) (S:List Ent) (tk:List Nat) (n:Nat):Option (AV × List Ent × List Nat × Nat):=match args with
  | [.frz es c,.frz [] .nilc]=>match Rp es with
   | some l=>if (decide (l.length<=1000000) && (!l.isEmpty || Qr c))=true then some (Al (uniS l),S,tk,n) else none
   | none=>none
  | _=>none
@[reducible] noncomputable def E1:Ext prog where
 on:=fun f=>f == 48 || f == 174 || f == 7
 mv:=mvF0
 call:=fun f args S tk n=>if f == 48 then uniC args S tk n else if f == 174 then quoC args S tk n else none
@[reducible] noncomputable instance E0:Ext prog:=Ext.quiet E1
instance:Y3 prog:=Alb E1
theorem ext_mv (f:FuncId) (h:mvF0 f=false):Ext.mv prog f=false:=h
set_option linter.defProp false in
def ev0:=And.intro ext_mv <| And.intro @entAt.eq_def <| And.intro evt tys
set_option linter.defProp false in
def evs0:=And.intro ext_mv <| And.intro @Dr <| And.intro @L7 <| And.intro @Adv <| And.intro @List.take_left.{0} <| And.intro @List.take_length.{0} <| And.intro evt tys
def i64 (n:Int):Prop:=-9223372036854775808<=n/\n<=9223372036854775807
theorem Ad {n:Int} (h:i64 n):IntKind.i64.wrap n=n:=Go.IntWalk.i64_in n h
theorem Av {i:Nat} (h:i<=1048576):IntKind.i64.wrap ((i:Int)+1)=((i+1:Nat):Int):=by rw [Ad (by unfold i64; omega)]; omega
theorem Y2 {j:Nat} (h:j<=1048576):IntKind.i64.wrap (((j+1:Nat):Int) - 1)=(j:Int):=by rw [Ad (by unfold i64; omega)]; omega
theorem Bt {α β:Type} (f:α->β):∀ (l:List α) (i:Nat),nth (l.map f) i=(nth l i).map f
 | [],_=>rfl
 | _ :: _,0=>rfl
 | _ :: l,i+1=>Bt f l i
theorem Ar {α:Type} : ∀ {l:List α} {i:Nat} {x:α},nth l i=some x->l.drop i=x :: l.drop (i+1)
 | y :: l,0,x,h=>by simp only [nth,Option.some.injEq] at h; subst h; rfl
 | _ :: l,i+1,x,h=>Ar (l:=l) (i:=i) h
 | [],_,_,h=>by simp [nth] at h
theorem Gv (l:List Int):Bl 1 (l.map digC)=true:=Du (f:=digC) (sz:=1) (fun _=>rfl) l
theorem B9 {l:List Int} {i:Nat} {x:Int} (h:nth l i=some x):nth (l.map digC) i=some [.prim (.int .i64 x)]:=by rw [Bt,h]; rfl
theorem Zt {l:List Int} (h:l≠[]):((l.length:Int) == 0)=false:=by
 have:l.length≠0:=fun h'=>h (List.length_eq_zero_iff.1 h')
 simp; omega
theorem Zu {l:List Int} (h:l≠[]):decide ((l.length:Int) > 0)=true:=by
 have:l.length≠0:=fun h'=>h (List.length_eq_zero_iff.1 h')
 simp; omega
theorem Akv {l:List Int} (h:l≠[]) (hl:l.length<=1000000):IntKind.i64.wrap ((l.length:Int) - 1)=((l.length - 1:Nat):Int):=by
 have:l.length≠0:=fun h'=>h (List.length_eq_zero_iff.1 h')
 rw [Ad (by unfold i64; omega)]; omega
section
variable (S:List Ent) (tk:List Nat) (k:Nat)
theorem Wl (neg:Bool) (l:List Int) (c:Cap) (hlen:l.length<=1000000):cL prog 142 [.agg [.bool neg,.frz (l.map digC) c]] S tk k=some (.bool (Ej neg l),S,tk,k):=by
 refine opP func142 ntmps142 ?_
 by_cases h1:200<l.length
 ·have d1:decide ((l.length:Int) > 200)=true:=by simp; omega
  simp (maxSteps:=10^6)+contextual(disch:=try exact dqd)only[ev0,simprocAttr,AV.int,AV.bool,AV.str,results142,d1]
  all_goals simp [Ej,h1]
 have d1:decide ((l.length:Int) > 200)=false:=by simp; omega
 have hv:Ej neg l=if ((decide (l=[]) && neg) || Zs l)=true then false else allD l:=by simp [Ej,h1]
 rw [hv]
 by_cases h2:l=[]
 ·have d2:(((0:Nat):Int) == 0)=true:=rfl
  have d3:decide (((0:Nat):Int) > 0)=false:=rfl
  cases neg with
  | true =>
   subst h2
   simp (maxSteps:=10^6)+contextual(disch:=try exact dqd)only[ev0,simprocAttr,AV.int,AV.bool,AV.str,results142,d1,d2,d3,List.map_nil]
   all_goals simp
  | false =>
   have hz:Zs l=false:=by subst h2; rfl
   rw [hz]
   simp only [Bool.and_false,Bool.or_false,Bool.false_eq_true,if_false]
   have c8:l.length=0:=by rw [h2]; rfl
   have d2:((l.length:Int) == 0)=true:=by rw [c8]; rfl
   have d3:decide ((l.length:Int) > 0)=false:=by rw [c8]; rfl
   simp (maxSteps:=10^6)+contextual(disch:=try exact dqd)only[ev0,simprocAttr,AV.int,AV.bool,AV.str,results142,d1,d2,d3]
   refine loop1 (P:=prog) (fun x st=>st.T.length=50/\(x<=l.length)/\(allD l=allD (l.drop x))/\getT st.T 1=.ref 0 0 0/\getT st.T 3=.int l.length/\getT st.T 4=.int (x:Nat)/\st.S=[⟨0,[.bool false,digA l]⟩]) (fun x=>l.length - x) (fun x=>.bool (allD l)) (0) ?_ ?_
   case refine_2=>exact ⟨rfl,Nat.zero_le _,rfl,rfl,rfl,rfl,rfl⟩
   rintro i ⟨T,S',tk',n'⟩ ⟨hl,hi,hn,e1,e3,e4,eS⟩ IH
   subst eS
   obtain ⟨g,hg,hT⟩:=Ap hl
   rw [hg] at e1 e3 e4
   subst hT
   clear hg hl
   by_cases hlt:i<l.length
   ·have d1:decide ((i:Int)<(l.length:Int))=true:=by simpa using hlt
    obtain ⟨x,hx⟩:=Ab hlt
    have hx':=B9 hx
    have hw:=Av (i:=i) (by omega)
    rw [Ar hx] at hn
    simp only [allD] at hn
    simp (maxSteps:=10^6)+contextual(disch:=try exact dqd)only[ev0,simprocAttr,AV.int,AV.bool,AV.str,results142,e1,e3,e4,d1,digA,hx',hw]
    refine ⟨fun h1=>?_,fun h1=>⟨fun h2=>?_,fun h2=>?_⟩⟩
    ·rw [hn,if_pos (by simp [h1])]
    ·rw [hn,if_pos (by simp only [h1,h2]; rfl)]
    ·exact IH (i+1) _ (by first|omega|(simp only; omega)) ⟨rfl,hlt,by rw [hn,if_neg (by simp only [h1,h2]; simp)],(by first|rfl|simp only [getT,List.map_append,List.map_cons,List.map_nil,digC,digA]),(by first|rfl|simp only [getT,List.map_append,List.map_cons,List.map_nil,digC,digA]),(by first|rfl|simp only [getT,List.map_append,List.map_cons,List.map_nil,digC,digA]),(by first|rfl|simp only [getT,List.map_append,List.map_cons,List.map_nil,digC,digA])⟩
   ·have d1:decide ((i:Int)<(l.length:Int))=false:=by simpa using hlt
    have he:i=l.length:=by omega
    rw [he,List.drop_length] at hn
    simp (maxSteps:=10^6)+contextual(disch:=try exact dqd)only[ev0,simprocAttr,AV.int,AV.bool,AV.str,results142,e1,e3,e4,d1,digA]
    exact hn.symm
 ·have d2:=Zt h2
  have d3:=Zu h2
  have d4:=Akv h2 hlen
  have hp:l.length≠0:=fun h'=>h2 (List.length_eq_zero_iff.1 h')
  obtain ⟨x,hx⟩:=Ab (l:=l) (i:=l.length - 1) (by omega)
  have hx':=B9 hx
  have hz:Zs l=(x == 0):=by unfold Zs; rw [hx]
  rw [hz]
  cases d5:x == 0 with
  | true =>
   simp (maxSteps:=10^6)+contextual(disch:=try exact dqd)only[ev0,simprocAttr,AV.int,AV.bool,AV.str,results142,d1,d2,d3,d4,hx',d5]
   all_goals simp
  | false =>
   simp only [h2,decide_false,Bool.false_and,Bool.or_false,Bool.false_eq_true,if_false]
   simp (maxSteps:=10^6)+contextual(disch:=try exact dqd)only[ev0,simprocAttr,AV.int,AV.bool,AV.str,results142,d1,d2,d3,d4,hx',d5]
   refine loop1 (P:=prog) (fun x st=>st.T.length=50/\(x<=l.length)/\(allD l=allD (l.drop x))/\getT st.T 1=.ref 0 0 0/\getT st.T 3=.int l.length/\getT st.T 4=.int (x:Nat)/\st.S=[⟨0,[.bool neg,digA l]⟩]) (fun x=>l.length - x) (fun x=>.bool (allD l)) (0) ?_ ?_
   case refine_2=>exact ⟨rfl,Nat.zero_le _,rfl,rfl,rfl,rfl,rfl⟩
   rintro i ⟨T,S',tk',n'⟩ ⟨hl,hi,hn,e1,e3,e4,eS⟩ IH
   subst eS
   obtain ⟨g,hg,hT⟩:=Ap hl
   rw [hg] at e1 e3 e4
   subst hT
   clear hg hl
   by_cases hlt:i<l.length
   ·have d1:decide ((i:Int)<(l.length:Int))=true:=by simpa using hlt
    obtain ⟨x,hx⟩:=Ab hlt
    have hx':=B9 hx
    have hw:=Av (i:=i) (by omega)
    rw [Ar hx] at hn
    simp only [allD] at hn
    simp (maxSteps:=10^6)+contextual(disch:=try exact dqd)only[ev0,simprocAttr,AV.int,AV.bool,AV.str,results142,e1,e3,e4,d1,digA,hx',hw]
    refine ⟨fun h1=>?_,fun h1=>⟨fun h2=>?_,fun h2=>?_⟩⟩
    ·rw [hn,if_pos (by simp [h1])]
    ·rw [hn,if_pos (by simp only [h1,h2]; rfl)]
    ·exact IH (i+1) _ (by first|omega|(simp only; omega)) ⟨rfl,hlt,by rw [hn,if_neg (by simp only [h1,h2]; simp)],(by first|rfl|simp only [getT,List.map_append,List.map_cons,List.map_nil,digC,digA]),(by first|rfl|simp only [getT,List.map_append,List.map_cons,List.map_nil,digC,digA]),(by first|rfl|simp only [getT,List.map_append,List.map_cons,List.map_nil,digC,digA]),(by first|rfl|simp only [getT,List.map_append,List.map_cons,List.map_nil,digC,digA])⟩
   ·have d1:decide ((i:Int)<(l.length:Int))=false:=by simpa using hlt
    have he:i=l.length:=by omega
    rw [he,List.drop_length] at hn
    simp (maxSteps:=10^6)+contextual(disch:=try exact dqd)only[ev0,simprocAttr,AV.int,AV.bool,AV.str,results142,e1,e3,e4,d1,digA]
    exact hn.symm
end
end
section
open Go
theorem Ak3 (s:ByteArray):∀ (n i:Nat) (r:List UInt8),s.size - i=n->ByteArray.toList.loop s i r=r.reverse++s.data.toList.drop i:=by
 intro n
 induction n with
 | zero =>
  intro i r h
  rw [ByteArray.toList.loop,if_neg (by omega),List.drop_eq_nil_of_le (by simp; omega),List.append_nil]
 | succ n ih =>
  intro i r h
  have hi:i<s.data.size:=by simp; omega
  rw [ByteArray.toList.loop,if_pos (by omega),ih (i+1) _ (by omega),List.reverse_cons,List.append_assoc]
  congr 1
  have e:s.data.toList.drop i=s.data[i] :: s.data.toList.drop (i+1):=by
   rw [<- Array.getElem_toList hi,List.getElem_cons_drop]
  rw [e,List.singleton_append]
  congr 1
  show s.data[i]! = _
  rw [getElem!_pos s.data i hi]
def nm (s:ByteArray):List UInt8:=s.data.toList
theorem Vn (s:ByteArray):s.toList=nm s:=by rw [ByteArray.toList,Ak3 s _ 0 [] rfl]; simp [nm]
theorem Ahw {a b:ByteArray} (h:nm a=nm b):a=b:=by
 apply ByteArray.ext; exact Array.ext' h
theorem Nw:∀ (x y:List UInt8),Op.bytesLess x y=decide (x<y)
 | [],[]=>by simp [Op.bytesLess]
 | a :: x,[]=>by simp [Op.bytesLess]
 | [],b :: y=>by simp [Op.bytesLess]
 | a :: x,b :: y=>by
  rw [Op.bytesLess,Nw x y]
  by_cases h1:a<b
  ·simp [h1,List.cons_lt_cons_iff]
  ·by_cases h2:a=b
   ·subst h2; simp [List.cons_lt_cons_iff]
   ·simp [h1,h2,List.cons_lt_cons_iff]
theorem Ua (a b:ByteArray):sLt a b=decide (nm a<nm b):=by
 unfold sLt; rw [Vn,Vn,Nw]
theorem Gj (a b:ByteArray):sEq a b=decide (a=b):=by
 unfold sEq; rw [Vn,Vn]
 by_cases h:a=b
 ·subst h; simp
 ·have:nm a≠nm b:=fun h'=>h (Ahw h')
  simp [h,this]
theorem E9 {a b c:List UInt8} (h1:a<b) (h2:b<c):a<c:=List.lt_trans h1 h2
theorem Di (a:List UInt8):¬ a<a:=List.lt_irrefl a
theorem Vm (a b:ByteArray):nm a<nm b\/a=b\/nm b<nm a:=by
 by_cases h1:nm a<nm b
 ·exact .inl h1
 ·by_cases h2:nm b<nm a
  ·exact .inr (.inr h2)
  ·exact .inr (.inl (Ahw (List.le_antisymm (List.not_lt.1 h2) (List.not_lt.1 h1))))
def Inc (l:List ByteArray):Prop:=l.Pairwise fun a b=>nm a<nm b
theorem Zy (s x:ByteArray):∀ l:List ByteArray,x ∈ putS l s↔x=s\/x ∈ l
 | []=>by simp [putS]
 | y :: r=>by
  rw [putS]
  split
  ·rw [List.mem_cons,Zy s x r,List.mem_cons]
   constructor
   ·rintro (h|h|h) <;> simp [h]
   ·rintro (h|h|h) <;> simp [h]
  ·split
   ·rename_i h
    rw [Gj] at h
    have:y=s:=by simpa using h
    subst this
    simp
   ·simp [or_comm,or_left_comm]
theorem Ahb (s:ByteArray):∀ {l:List ByteArray},Inc l->Inc (putS l s)
 | [],_=>by simp [putS,Inc]
 | y :: r,h=>by
  have h0:=List.pairwise_cons.1 h
  rw [putS]
  split
  ·rename_i h1
   rw [Ua] at h1
   refine List.pairwise_cons.2 ⟨fun x hx=>?_,Ahb s h0.2⟩
   rcases (Zy s x r).1 hx with rfl|hx
   ·simpa using h1
   ·exact h0.1 x hx
  ·rename_i h1
   rw [Ua] at h1
   split
   ·exact h
   ·rename_i h2
    rw [Gj] at h2
    have h3:nm s<nm y:=by
     rcases Vm s y with h|h|h
     ·exact h
     ·exact absurd (by simpa using h.symm) h2
     ·exact absurd (by simpa using h) h1
    refine List.pairwise_cons.2 ⟨fun x hx=>?_,h⟩
    rcases List.mem_cons.1 hx with rfl|hx
    ·exact h3
    ·exact E9 h3 (h0.1 x hx)
theorem Ahk (s:ByteArray):∀ l:List ByteArray,(putS l s).length<=l.length+1
 | []=>by simp [putS]
 | y :: r=>by
  rw [putS]
  have:=Ahk s r
  split
  ·simp; exact this
  ·split <;> simp
theorem Alq (l:List ByteArray) (s:ByteArray):uniS (l++[s])=putS (uniS l) s:=by simp [uniS,List.foldl_append]
theorem G3 (l:List ByteArray):Inc (uniS l)/\(∀ x,x ∈ uniS l↔x ∈ l)/\(uniS l).length<=l.length:=by
 have key:∀ (l acc:List ByteArray),Inc acc->Inc (l.foldl putS acc)/\(∀ x,x ∈ l.foldl putS acc↔x ∈ acc\/x ∈ l)/\(l.foldl putS acc).length<=acc.length+l.length:=by
  intro l
  induction l with
  | nil=>intro acc h; exact ⟨h,fun x=>by simp,by simp⟩
  | cons s l ih =>
   intro acc h
   obtain ⟨h1,h2,h3⟩:=ih (putS acc s) (Ahb s h)
   refine ⟨h1,fun x=>?_,?_⟩
   ·rw [List.foldl_cons,h2 x,Zy,List.mem_cons]
    constructor
    ·rintro ((h|h)|h) <;> simp [h]
    ·rintro (h|h|h) <;> simp [h]
   ·have:=Ahk s acc
    simp only [List.foldl_cons,List.length_cons]; omega
 have:=key l [] (by simp [Inc])
 exact ⟨this.1,fun x=>by simpa [uniS] using this.2.1 x,by simpa [uniS] using this.2.2⟩
theorem Aci {s:ByteArray} : ∀ {l:List ByteArray},(∀ x ∈ l,nm x<nm s)->putS l s=l++[s]
 | [],_=>rfl
 | y :: r,h=>by
  rw [putS,if_pos (by rw [Ua]; simpa using h y (by simp)),Aci fun x hx=>h x (by simp [hx])]; rfl
theorem Al6:∀ {l r:List ByteArray},Inc l->Inc r->(∀ x,x ∈ l↔x ∈ r)->l=r
 | [],[],_,_,_=>rfl
 | [],y :: r,_,_,h=>by have:=(h y).2 (by simp); simp at this
 | x :: l,[],_,_,h=>by have:=(h x).1 (by simp); simp at this
 | x :: l,y :: r,h1,h2,h=>by
  have a1:=List.pairwise_cons.1 h1
  have a2:=List.pairwise_cons.1 h2
  have dz:x=y:=by
   have m1:=(h x).1 (by simp)
   have m2:=(h y).2 (by simp)
   rcases List.mem_cons.1 m1 with e|m1
   ·exact e
   ·rcases List.mem_cons.1 m2 with e|m2
    ·exact e.symm
    ·exact absurd (E9 (a1.1 y m2) (a2.1 x m1)) (Di _)
  subst dz
  congr 1
  refine Al6 a1.2 a2.2 fun z=>?_
  have hz:=h z
  simp only [List.mem_cons] at hz
  constructor
  ·intro hm
   rcases hz.1 (.inr hm) with e|bq
   ·subst e; exact absurd (a1.1 z hm) (Di _)
   ·exact bq
  ·intro hm
   rcases hz.2 (.inr hm) with e|bq
   ·subst e; exact absurd (a2.1 z hm) (Di _)
   ·exact bq
end
end Go.Proofs.YtcandeobhlfkbaaGreat
