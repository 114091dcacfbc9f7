/- Part 9. -/
import Derived.Test.YthelkgdmgihhiaaGreatZW8
import Derived.Test.YthelkgdmgihhiaaGreatChecked
import Derived.IntWalk
namespace Go.Proofs.YthelkgdmgihhiaaGreat
section
theorem mixed:Tryz.prog.follows .mixedOrders=true:=by kernel_rfl
set_option maxRecDepth 100000 in
theorem tys :
  szOf Tryz.prog 1=some 1 /\
  aggT Tryz.prog 1=some false /\
  Ah Tryz.prog 1=some [.prim .nilFunc] /\
  Bx Tryz.prog 1=false /\
  szOf Tryz.prog 2=some 1 /\
  aggT Tryz.prog 2=some false /\
  Ah Tryz.prog 2=some [.prim (.int .i64 0)] /\
  El Tryz.prog 2=some .i64 /\
  Bx Tryz.prog 2=false /\
  szOf Tryz.prog 3=some 1 /\
  aggT Tryz.prog 3=some false /\
  Ah Tryz.prog 3=some [.prim (.int .i64 0)] /\
  El Tryz.prog 3=some .i64 /\
  Bx Tryz.prog 3=false /\
  szOf Tryz.prog 4=some 1 /\
  aggT Tryz.prog 4=some false /\
  Ah Tryz.prog 4=some [.prim (.bool false)] /\
  Bx Tryz.prog 4=false /\
  Ue Tryz.prog 4=true /\
  szOf Tryz.prog 9=some 1 /\
  aggT Tryz.prog 9=some false /\
  Ah Tryz.prog 9=some [.prim (.string ⟨#[]⟩)] /\
  Bx Tryz.prog 9=true /\
  szOf Tryz.prog 23=some 1 /\
  aggT Tryz.prog 23=some false /\
  Ah Tryz.prog 23=some [.frz [] .nilc] /\
  Aq Tryz.prog 23=some 67 /\
  apT Tryz.prog 23=some 2 /\
  Bx Tryz.prog 23=false /\
  szOf Tryz.prog 28=some 2 /\
  aggT Tryz.prog 28=some true /\
  Ah Tryz.prog 28=some [.frz [] .nilc,.prim (.int .i64 0)] /\
  Bx Tryz.prog 28=false /\
  Bn Tryz.prog 28 0=some (0,1,false) /\
  Bn Tryz.prog 28 1=some (1,1,false) /\
  fieldsOf Tryz.prog 28=some [(0,1),(1,1)] /\
  szOf Tryz.prog 30=some 3 /\
  aggT Tryz.prog 30=some true /\
  Ah Tryz.prog 30=some [.frz [] .nilc,.prim (.int .i64 0),.prim (.bool false)] /\
  Bx Tryz.prog 30=false /\
  Bn Tryz.prog 30 0=some (0,2,true) /\
  Bn Tryz.prog 30 1=some (2,1,false) /\
  fieldsOf Tryz.prog 30=some [(0,2),(2,1)] /\
  szOf Tryz.prog 31=some 1 /\
  aggT Tryz.prog 31=some false /\
  Ah Tryz.prog 31=some [.prim (.int .i64 0)] /\
  El Tryz.prog 31=some .i64 /\
  Bx Tryz.prog 31=false /\
  szOf Tryz.prog 37=some 1 /\
  aggT Tryz.prog 37=some false /\
  Ah Tryz.prog 37=some [.frz [] .nilc] /\
  Aq Tryz.prog 37=some 9 /\
  apT Tryz.prog 37=some 1 /\
  Bx Tryz.prog 37=false /\
  szOf Tryz.prog 42=some 1 /\
  aggT Tryz.prog 42=some false /\
  Ah Tryz.prog 42=some [.prim (.int .i64 0)] /\
  El Tryz.prog 42=some .i64 /\
  Bx Tryz.prog 42=false /\
  szOf Tryz.prog 43=some 1 /\
  aggT Tryz.prog 43=some false /\
  Ah Tryz.prog 43=some [.frz [] .nilc] /\
  Aq Tryz.prog 43=some 45 /\
  apT Tryz.prog 43=some 4 /\
  Bx Tryz.prog 43=false /\
  szOf Tryz.prog 45=some 4 /\
  aggT Tryz.prog 45=some true /\
  Ah Tryz.prog 45=some [.prim (.int .i64 0),.prim (.string ⟨#[]⟩),.prim (.int .i64 0),.frz [] .nilc] /\
  Bx Tryz.prog 45=false /\
  Bn Tryz.prog 45 0=some (0,1,false) /\
  Bn Tryz.prog 45 1=some (1,1,false) /\
  Bn Tryz.prog 45 2=some (2,1,false) /\
  Bn Tryz.prog 45 3=some (3,1,false) /\
  fieldsOf Tryz.prog 45=some [(0,1),(1,1),(2,1),(3,1)] /\
  szOf Tryz.prog 58=some 1 /\
  aggT Tryz.prog 58=some false /\
  Ah Tryz.prog 58=some [.frz [] .nilc] /\
  Aq Tryz.prog 58=some 3 /\
  apT Tryz.prog 58=some 1 /\
  Bx Tryz.prog 58=false /\
  szOf Tryz.prog 67=some 2 /\
  aggT Tryz.prog 67=some true /\
  Ah Tryz.prog 67=some [.prim (.string ⟨#[]⟩),.prim (.int .i64 0)] /\
  Bx Tryz.prog 67=false /\
  Bn Tryz.prog 67 0=some (0,1,false) /\
  Bn Tryz.prog 67 1=some (1,1,false) /\
  fieldsOf Tryz.prog 67=some [(0,1),(1,1)] /\
  Wj Tryz.prog 67=some [2,1] :=
 by and_intros <;> kernel_rfl
def val:List Int->Int
 | []=>0
 | d :: r=>d+10000*val r
def digN:Nat->Nat->List Int
 | 0,_=>[]
 | f+1,n=>if n=0 then [] else ((n % 10000:Nat):Int) :: digN f (n / 10000)
def dig (n:Nat):List Int:=digN n n
def okD (l:List Int):Prop:=∀ d ∈ l,0<=d/\d<10000
theorem Mt:∀ {f g n:Nat},n<=f->n<=g->digN f n=digN g n
 | 0,0,_,_,_=>rfl
 | 0,g+1,n,h,_=>by
   have:n=0:=by omega
   subst this; simp [digN]
 | f+1,0,n,_,h=>by
   have:n=0:=by omega
   subst this; simp [digN]
 | f+1,g+1,n,h1,h2=>by
  simp only [digN]
  by_cases h:n=0
  ·simp [h]
  ·rw [if_neg h,if_neg h,Mt (f:=f) (g:=g) (n:=n / 10000) (by omega) (by omega)]
theorem Ed:dig 0=[]:=rfl
theorem Ga {n:Nat} (h:n≠0):dig n=((n % 10000:Nat):Int) :: dig (n / 10000):=by
 unfold dig
 cases n with
 | zero=>exact absurd rfl h
 | succ n =>
  rw [digN,if_neg h]
  congr 1
  exact Mt (by omega) (Nat.le_refl _)
theorem Bf (n:Nat):val (dig n)=n:=by
 induction n using Nat.strongRecOn with
 | _ n ih =>
  by_cases h:n=0
  ·subst h; rfl
  ·rw [Ga h,val,ih (n / 10000) (by omega)]; omega
theorem Bo (n:Nat):okD (dig n):=by
 induction n using Nat.strongRecOn with
 | _ n ih =>
  by_cases h:n=0
  ·subst h; intro d hd; simp [Ed] at hd
  ·rw [Ga h]
   intro d hd
   rcases List.mem_cons.1 hd with rfl|hd
   ·omega
   ·exact ih (n / 10000) (by omega) d hd
theorem N0 {d:Int} (h0:0<d) (h1:d<10000):dig d.toNat=[d]:=by
 rw [Ga (by omega)]
 have e1:d.toNat % 10000=d.toNat:=Nat.mod_eq_of_lt (by omega)
 have e2:d.toNat / 10000=0:=by omega
 rw [e1,e2,Ed]
 congr 1; omega
theorem Gh:∀ {l:List Int},okD l->0<=val l
 | [],_=>by simp [val]
 | d :: r,h=>by
  have h1:=h d (by simp)
  have h2:=Gh (l:=r) fun x hx=>h x (by simp [hx])
  simp only [val]; omega
def A8:List Int->List Int
 | []=>[]
 | d :: r=>if A8 r=[]/\d=0 then [] else d :: A8 r
theorem Tu {n:Nat} : dig n=[]↔n=0:=by
 constructor
 ·intro h
  by_cases h0:n=0
  ·exact h0
  ·rw [Ga h0] at h; simp at h
 ·rintro rfl; rfl
theorem Bv:∀ {l:List Int},okD l->A8 l=dig (val l).toNat
 | [],_=>rfl
 | d :: r,h=>by
  have h1:=h d (by simp)
  have hr:okD r:=fun x hx=>h x (by simp [hx])
  have h2:=Gh hr
  rw [A8,Bv hr]
  simp only [val]
  by_cases hv:val r=0
  ·by_cases hd:d=0
   ·rw [if_pos ⟨by rw [hv]; rfl,hd⟩,hv,hd]; rfl
   ·rw [if_neg (fun h=>hd h.2),hv]
    have e:(d+10000*0).toNat=d.toNat:=by omega
    rw [e,N0 (by omega) h1.2]; rfl
  ·have hn:¬ (val r).toNat=0:=by omega
   rw [if_neg (fun h=>hn (Tu.1 h.1)),Ga (n:=(d+10000*val r).toNat) (by omega)]
   have e1:(d+10000*val r).toNat / 10000=(val r).toNat:=by omega
   have e2:(((d+10000*val r).toNat % 10000:Nat):Int)=d:=by omega
   rw [e1,e2]
theorem Da {n k:Nat} : (dig n).length<=k↔n<10000 ^ k:=by
 induction k generalizing n with
 | zero =>
  rw [Nat.pow_zero]
  constructor
  ·intro h
   have:dig n=[]:=List.eq_nil_of_length_eq_zero (by omega)
   have:=Tu.1 this; omega
  ·intro h
   have:n=0:=by omega
   subst this; simp [Ed]
 | succ k ih =>
  by_cases h:n=0
  ·subst h; simp [Ed,Nat.pow_pos]
  ·rw [Ga h,List.length_cons,Nat.add_le_add_iff_right,ih,Nat.pow_succ,Nat.div_lt_iff_lt_mul (by omega)]
theorem Yb {a b:Nat} (h:dig a=dig b):a=b:=by
 have h1:=Bf a
 have h2:=Bf b
 rw [h] at h1; omega
theorem Dk (l r:List Int):val (l++r)=val l+10000 ^ l.length*val r:=by
 induction l with
 | nil=>simp [val]
 | cons d l ih=>simp only [List.cons_append,val,ih,List.length_cons,Int.pow_succ]; rw [Int.mul_add,Int.mul_comm (10000 ^ l.length) 10000,Int.mul_assoc]; omega
theorem Dd (n:Nat):val (List.replicate n 0)=0:=by
 induction n with
 | zero=>rfl
 | succ n ih=>rw [List.replicate_succ,val,ih]; rfl
theorem Ej {l:List Int} {i:Nat} {x v:Int} (h:nth l i=some x):val (l.set i v)=val l+(v - x)*10000 ^ i:=by
 induction l generalizing i with
 | nil=>simp [nth] at h
 | cons d l ih =>
  cases i with
  | zero=>simp only [nth,Option.some.injEq] at h; subst h; simp only [List.set_cons_zero,val,Int.pow_zero]; omega
  | succ i =>
   simp only [nth] at h
   simp only [List.set_cons_succ,val,ih h,Int.pow_succ]
   rw [Int.mul_add,Int.mul_comm (10000 ^ i) 10000,<- Int.mul_assoc,<- Int.mul_assoc,Int.mul_comm 10000 (v - x)]; omega
theorem L7 (l:List Int):(A8 l).length<=l.length:=by
 induction l with
 | nil=>simp [A8]
 | cons d l ih=>rw [A8]; split <;> simp; exact ih
theorem Kn:∀ (n:Nat) (l:List Int),n<=l.length->(∀ j,n<=j->∀ x,nth l j=some x->x=0)->A8 l=A8 (l.take n)
 | 0,[],_,_=>rfl
 | 0,d :: l,_,h=>by
  have hd:=h 0 (Nat.le_refl _) d rfl
  have:=Kn 0 l (Nat.zero_le _) fun j _ x hx=>h (j+1) (Nat.zero_le _) x hx
  rw [A8,this,hd]; simp [A8]
 | n+1,[],h,_=>by simp at h
 | n+1,d :: l,hn,h=>by
  have:=Kn n l (by simpa using hn) fun j hj x hx=>h (j+1) (by omega) x hx
  rw [List.take_succ_cons,A8,A8,this]
theorem Qt:∀ (l:List Int) (n:Nat) (x:Int),nth l n=some x->l.length=n+1->x≠0->A8 l=l
 | [],_,_,h,_,_=>by simp [nth] at h
 | d :: l,0,x,h,hl,hx=>by
  have:l=[]:=List.eq_nil_of_length_eq_zero (by simpa using hl)
  subst this
  simp only [nth,Option.some.injEq] at h; subst h
  simp [A8,hx]
 | d :: l,n+1,x,h,hl,hx=>by
  have ih:=Qt l n x h (by simpa using hl) hx
  have hne:l≠[]:=by rintro rfl; simp [nth] at h
  rw [A8,ih,if_neg (fun h=>hne h.1)]
/- which numbers are valid,and what they stand for -/
def lastZ (l:List Int):Bool:=match nth l (l.length - 1) with|some x=>x == 0|none=>false
def allD:List Int->Bool
 | []=>true
 | d :: r=>if (decide (d<0) || decide (d >= 10000))=true then false else allD r
def Z8 (neg:Bool) (l:List Int):Bool:=if (decide (200<l.length) || (decide (l=[]) && neg) || lastZ l)=true then false else allD l
def V (neg:Bool) (l:List Int):Int:=if Z8 neg l=true then (if neg=true then -(val l) else val l) else 0
end
section
open Go
def digC (x:Int):List AV:=[.prim (.int .i64 x)]
def digA (l:List Int):AV:=.frz (l.map digC) .unk
def ownF:Option Tmp->TypeId->Bool
 | some 92,78|some 105,78|some 31,78|some 57,78|some 88,78|some 96,78=>true
 | some 32,168|some 240,168=>true
 | some 45,58|some 255,58=>true
 | some 240,177=>true
 | _,_=>false
def lkF0 (f:FuncId):Bool:=f == 216 || f == 217 || f == 218 || f == 219 || f == 220 || f == 221 || f == 222 || f == 223 ||
 f == 145 || f == 151 || f == 137
def anF0 (f:FuncId):Bool:=f == 136 || f == 180 || f == 170 || f == 140 || f == 266 ||
 f == 147 || f == 153
def mvF0 (f:FuncId):Bool:=f == 136 || f == 180 || f == 170 || f == 140 || f == 266 || f == 113 ||
 f == 115 || f == 121
instance:Globs:=⟨[],fun f=>f == 94 || f == 91 || f == 234,true,ownF,lkF0,anF0,true,false⟩
end
section
open Go
variable {P:Program}
@[reducible] def Ext.quiet (E:Ext P):Ext P:={ on:=E.on,mv:=E.mv,call:=fun _ _ _ _ _=>none }
theorem Wx [Globs] (E:Ext P):@Qx _ P (Ext.quiet E):=by
 letI:=Ext.quiet E
 refine ⟨fun f args S tk n r S' tk' n' h=>?_,fun M f args S tk n r S' tk' n' h=>?_⟩
 ·unfold extC at h; split at h <;> simp at h
 ·unfold Bk at h; split at h
  ·unfold extC at h; split at h <;> simp at h
  ·simp at h
end
section
open Go Tryz
def H4:List (List AV)->Option (List Int)
 | []=>some []
 | [.prim (.int .i64 x)] :: r=>(H4 r).map (x :: ·)
 | _=>none
theorem K4:∀ l:List Int,H4 (l.map digC)=some l
 | []=>rfl
 | x :: l=>by simp only [List.map_cons,digC,H4,K4 l,Option.map_some]
def strC (s:ByteArray):List AV:=[.prim (.string s)]
def Rw (l:List ByteArray):AV:=.frz (l.map strC) .unk
def Kk:List (List AV)->Option (List ByteArray)
 | []=>some []
 | [.prim (.string x)] :: r=>(Kk r).map (x :: ·)
 | _=>none
theorem Lf:∀ l:List ByteArray,Kk (l.map strC)=some l
 | []=>rfl
 | x :: l=>by simp only [List.map_cons,strC,Kk,Lf l,Option.map_some]
theorem Kl:∀ {es:List (List AV)} {l:List ByteArray},Kk es=some l->es=l.map strC
 | [],l,h=>by simp only [Kk,Option.some.injEq] at h; subst h; rfl
 | e :: es,l,h=>by
  unfold Kk at h
  split at h
  ·rename_i he; simp at he
  ·rename_i x r he
   simp only [List.cons.injEq] at he
   obtain ⟨rfl,rfl⟩:=he
   simp only [Option.map_eq_some_iff] at h
   obtain ⟨l',h1,rfl⟩:=h
   rw [Kl h1]; rfl
  ·simp at h
def putS (l:List ByteArray) (s:ByteArray):List ByteArray :=
 match l with
 | []=>[s]
 | x :: r=>if sLt x s=true then x :: putS r s else if sEq x s=true then x :: r else s :: x :: r
def uniS (l:List ByteArray):List ByteArray:=l.foldl putS []
def Qe:Cap->Bool
 | .nilc=>true
 | _=>false
def quoF (l r:List Int):Option AV :=
 if l=dig (val l).toNat/\r=dig (val r).toNat/\r≠[]/\l.length<=90000/\r.length<=90000 then
  some (.tup [digA (dig ((val l).toNat / (val r).toNat)),digA (dig ((val l).toNat % (val r).toNat))]) else none
def quoC (args:List AV) (S:List Ent) (tk:List Nat) (n:Nat):Option (AV × List Ent × List Nat × Nat):=match args with
  | [.frz es _,.frz ys _]=>match H4 es,H4 ys with
   | some l,some r=>match quoF l r with
    | some v=>some (v,S,tk,n)
    | none=>none
   | _,_=>none
  | _=>none
def uniC (args:List AV) (S:List Ent) (tk:List Nat) (n:Nat):Option (AV × List Ent × List Nat × Nat):=match args with
  | [.frz es c,.frz [] .nilc]=>match Kk es with
   | some l=>if (decide (l.length<=1000000) && (!l.isEmpty || Qe c))=true then some (Rw (uniS l),S,tk,n) else none
   | none=>none
  | _=>none
@[reducible] noncomputable def E1:Ext prog where
 on:=fun f=>f == 78 || f == 228
 mv:=mvF0
 call:=fun f args S tk n=>if f == 78 then uniC args S tk n else if f == 228 then quoC args S tk n else none
@[reducible] noncomputable instance E0:Ext prog:=Ext.quiet E1
instance:Qx prog:=Wx E1
theorem ext_mv (f:FuncId) (h:mvF0 f=false):Ext.mv prog f=false:=h
set_option linter.defProp false in
def ev0:=And.intro ext_mv <| And.intro @entAt.eq_def <| And.intro evt tys
set_option linter.defProp false in
def evs0:=And.intro ext_mv <| And.intro @Mw <| And.intro @G3 <| And.intro @Q5 <| And.intro @List.take_left.{0} <| And.intro @List.take_length.{0} <| And.intro evt tys
end
section
open Go
theorem Wq (s:ByteArray):∀ (n i:Nat) (r:List UInt8),s.size - i=n->ByteArray.toList.loop s i r=r.reverse++s.data.toList.drop i:=by
 intro n
 induction n with
 | zero =>
  intro i r h
  rw [ByteArray.toList.loop,if_neg (by omega),List.drop_eq_nil_of_le (by simp; omega),List.append_nil]
 | succ n ih =>
  intro i r h
  have hi:i<s.data.size:=by simp; omega
  rw [ByteArray.toList.loop,if_pos (by omega),ih (i+1) _ (by omega),List.reverse_cons,List.append_assoc]
  congr 1
  have e:s.data.toList.drop i=s.data[i] :: s.data.toList.drop (i+1):=by
   rw [<- Array.getElem_toList hi,List.getElem_cons_drop]
  rw [e,List.singleton_append]
  congr 1
  show s.data[i]! = _
  rw [getElem!_pos s.data i hi]
def nm (s:ByteArray):List UInt8:=s.data.toList
theorem Ly (s:ByteArray):s.toList=nm s:=by rw [ByteArray.toList,Wq s _ 0 [] rfl]; simp [nm]
theorem Up {a b:ByteArray} (h:nm a=nm b):a=b:=by
 apply ByteArray.ext; exact Array.ext' h
theorem H1:∀ (x y:List UInt8),Op.bytesLess x y=decide (x<y)
 | [],[]=>by simp [Op.bytesLess]
 | a :: x,[]=>by simp [Op.bytesLess]
 | [],b :: y=>by simp [Op.bytesLess]
 | a :: x,b :: y=>by
  rw [Op.bytesLess,H1 x y]
  by_cases h1:a<b
  ·simp [h1,List.cons_lt_cons_iff]
  ·by_cases h2:a=b
   ·subst h2; simp [List.cons_lt_cons_iff]
   ·simp [h1,h2,List.cons_lt_cons_iff]
theorem Xm (a b:ByteArray):sLt a b=decide (nm a<nm b):=by
 unfold sLt; rw [Ly,Ly,H1]
theorem Qq (a b:ByteArray):sEq a b=decide (a=b):=by
 unfold sEq; rw [Ly,Ly]
 by_cases h:a=b
 ·subst h; simp
 ·have:nm a≠nm b:=fun h'=>h (Up h')
  simp [h,this]
theorem Nc {a b c:List UInt8} (h1:a<b) (h2:b<c):a<c:=List.lt_trans h1 h2
theorem Hu (a:List UInt8):¬ a<a:=List.lt_irrefl a
theorem Ym (a b:ByteArray):nm a<nm b\/a=b\/nm b<nm a:=by
 by_cases h1:nm a<nm b
 ·exact .inl h1
 ·by_cases h2:nm b<nm a
  ·exact .inr (.inr h2)
  ·exact .inr (.inl (Up (List.le_antisymm (List.not_lt.1 h2) (List.not_lt.1 h1))))
def Inc (l:List ByteArray):Prop:=l.Pairwise fun a b=>nm a<nm b
theorem Pb (s x:ByteArray):∀ l:List ByteArray,x ∈ putS l s↔x=s\/x ∈ l
 | []=>by simp [putS]
 | y :: r=>by
  rw [putS]
  split
  ·rw [List.mem_cons,Pb s x r,List.mem_cons]
   constructor
   ·rintro (h|h|h) <;> simp [h]
   ·rintro (h|h|h) <;> simp [h]
  ·split
   ·rename_i h
    rw [Qq] at h
    have:y=s:=by simpa using h
    subst this
    simp
   ·simp [or_comm,or_left_comm]
theorem Ub (s:ByteArray):∀ {l:List ByteArray},Inc l->Inc (putS l s)
 | [],_=>by simp [putS,Inc]
 | y :: r,h=>by
  have h0:=List.pairwise_cons.1 h
  rw [putS]
  split
  ·rename_i h1
   rw [Xm] at h1
   refine List.pairwise_cons.2 ⟨fun x hx=>?_,Ub s h0.2⟩
   rcases (Pb s x r).1 hx with rfl|hx
   ·simpa using h1
   ·exact h0.1 x hx
  ·rename_i h1
   rw [Xm] at h1
   split
   ·exact h
   ·rename_i h2
    rw [Qq] at h2
    have h3:nm s<nm y:=by
     rcases Ym s y with h|h|h
     ·exact h
     ·exact absurd (by simpa using h.symm) h2
     ·exact absurd (by simpa using h) h1
    refine List.pairwise_cons.2 ⟨fun x hx=>?_,h⟩
    rcases List.mem_cons.1 hx with rfl|hx
    ·exact h3
    ·exact Nc h3 (h0.1 x hx)
theorem Uj (s:ByteArray):∀ l:List ByteArray,(putS l s).length<=l.length+1
 | []=>by simp [putS]
 | y :: r=>by
  rw [putS]
  have:=Uj s r
  split
  ·simp; exact this
  ·split <;> simp
theorem Vk (l:List ByteArray):Inc (uniS l)/\(∀ x,x ∈ uniS l↔x ∈ l)/\(uniS l).length<=l.length:=by
 have key:∀ (l acc:List ByteArray),Inc acc->Inc (l.foldl putS acc)/\(∀ x,x ∈ l.foldl putS acc↔x ∈ acc\/x ∈ l)/\(l.foldl putS acc).length<=acc.length+l.length:=by
  intro l
  induction l with
  | nil=>intro acc h; exact ⟨h,fun x=>by simp,by simp⟩
  | cons s l ih =>
   intro acc h
   obtain ⟨h1,h2,h3⟩:=ih (putS acc s) (Ub s h)
   refine ⟨h1,fun x=>?_,?_⟩
   ·rw [List.foldl_cons,h2 x,Pb,List.mem_cons]
    constructor
    ·rintro ((h|h)|h) <;> simp [h]
    ·rintro (h|h|h) <;> simp [h]
   ·have:=Uj s acc
    simp only [List.foldl_cons,List.length_cons]; omega
 have:=key l [] (by simp [Inc])
 exact ⟨this.1,fun x=>by simpa [uniS] using this.2.1 x,by simpa [uniS] using this.2.2⟩
theorem Xg:∀ {l r:List ByteArray},Inc l->Inc r->(∀ x,x ∈ l↔x ∈ r)->l=r
 | [],[],_,_,_=>rfl
 | [],y :: r,_,_,h=>by have:=(h y).2 (by simp); simp at this
 | x :: l,[],_,_,h=>by have:=(h x).1 (by simp); simp at this
 | x :: l,y :: r,h1,h2,h=>by
  have a1:=List.pairwise_cons.1 h1
  have a2:=List.pairwise_cons.1 h2
  have ck:x=y:=by
   have m1:=(h x).1 (by simp)
   have m2:=(h y).2 (by simp)
   rcases List.mem_cons.1 m1 with e|m1
   ·exact e
   ·rcases List.mem_cons.1 m2 with e|m2
    ·exact e.symm
    ·exact absurd (Nc (a1.1 y m2) (a2.1 x m1)) (Hu _)
  subst ck
  congr 1
  refine Xg a1.2 a2.2 fun z=>?_
  have hz:=h z
  simp only [List.mem_cons] at hz
  constructor
  ·intro hm
   rcases hz.1 (.inr hm) with e|bl
   ·subst e; exact absurd (a1.1 z hm) (Hu _)
   ·exact bl
  ·intro hm
   rcases hz.2 (.inr hm) with e|bl
   ·subst e; exact absurd (a2.1 z hm) (Hu _)
   ·exact bl
section
def eqV:Value->Value->Bool
 | .int k n,.int k' n'=>decide (k=k') && decide (n=n')
 | .bool a,.bool b=>decide (a=b)
 | .string s,.string t=>sEq s t
 | _,_=>false
theorem Zn {a b:Value} (h:eqV a b=true):a=b:=by
 unfold eqV at h
 split at h
 ·simp at h; rw [h.1,h.2]
 ·simp at h; rw [h]
 ·rw [Qq] at h
  congr 1
  simpa using h
 ·cases h
def eqK:Cap->Cap->Bool
 | .unk,.unk=>true
 | .tight,.tight=>true
 | .tok a b c,.tok a' b' c'=>decide (a=a') && decide (b=b') && decide (c=c')
 | .nilc,.nilc=>true
 | .nl,.nl=>true
 | .nn,.nn=>true
 | _,_=>false
theorem Zm {a b:Cap} (h:eqK a b=true):a=b:=by
 unfold eqK at h
 split at h <;> simp_all
mutual
def eqA:AV->AV->Bool
 | .bot,.bot=>true
 | .prim v,.prim v'=>eqV v v'
 | .frz es c,.frz es' c'=>eqMM es es' && eqK c c'
 | .fptr cs,.fptr cs'=>eqM cs cs'
 | .agg cs,.agg cs'=>eqM cs cs'
 | .tup cs,.tup cs'=>eqM cs cs'
 | .ref a b c,.ref a' b' c'=>decide (a=a') && decide (b=b') && decide (c=c')
 | .sref a b c d e,.sref a' b' c' d' e'=>decide (a=a') && decide (b=b') && decide (c=c') && decide (d=d') && decide (e=e')
 | .fn f cs,.fn f' cs'=>decide (f=f') && eqM cs cs'
 | .bfn f cs,.bfn f' cs'=>decide (f=f') && eqM cs cs'
 | .ifc t v,.ifc t' v'=>decide (t=t') && eqA v v'
 | .mfn t m v,.mfn t' m' v'=>decide (t=t') && decide (m=m') && eqA v v'
 | .lit n cs,.lit n' cs'=>decide (n=n') && eqM cs cs'
 | _,_=>false
def eqM:List AV->List AV->Bool
 | [],[]=>true
 | x :: l,y :: m=>eqA x y && eqM l m
 | _,_=>false
def eqMM:List (List AV)->List (List AV)->Bool
 | [],[]=>true
 | x :: l,y :: m=>eqM x y && eqMM l m
 | _,_=>false
end
mutual
theorem Mx:∀ {a b:AV},eqA a b=true->a=b
 | .bot,b,h=>by cases b <;> simp [eqA] at h ⊢
 | .prim v,b,h=>by cases b <;> simp [eqA] at h ⊢; exact Zn h
 | .frz es c,b,h=>by cases b <;> simp [eqA] at h ⊢; exact ⟨T0 h.1,Zm h.2⟩
 | .fptr cs,b,h=>by cases b <;> simp [eqA] at h ⊢; exact Gp h
 | .agg cs,b,h=>by cases b <;> simp [eqA] at h ⊢; exact Gp h
 | .tup cs,b,h=>by cases b <;> simp [eqA] at h ⊢; exact Gp h
 | .ref ..,b,h=>by cases b <;> simp [eqA] at h ⊢; exact ⟨h.1.1,h.1.2,h.2⟩
 | .sref ..,b,h=>by cases b <;> simp [eqA] at h ⊢; exact ⟨h.1.1.1.1,h.1.1.1.2,h.1.1.2,h.1.2,h.2⟩
 | .fn f cs,b,h=>by cases b <;> simp [eqA] at h ⊢; exact ⟨h.1,Gp h.2⟩
 | .bfn f cs,b,h=>by cases b <;> simp [eqA] at h ⊢; exact ⟨h.1,Gp h.2⟩
 | .ifc t v,b,h=>by cases b <;> simp [eqA] at h ⊢; exact ⟨h.1,Mx h.2⟩
 | .mfn t m v,b,h=>by cases b <;> simp [eqA] at h ⊢; exact ⟨h.1.1,h.1.2,Mx h.2⟩
 | .lit n cs,b,h=>by cases b <;> simp [eqA] at h ⊢; exact ⟨h.1,Gp h.2⟩
theorem Gp:∀ {a b:List AV},eqM a b=true->a=b
 | [],b,h=>by cases b <;> simp [eqM] at h ⊢
 | x :: l,b,h=>by cases b <;> simp [eqM] at h ⊢; exact ⟨Mx h.1,Gp h.2⟩
theorem T0:∀ {a b:List (List AV)},eqMM a b=true->a=b
 | [],b,h=>by cases b <;> simp [eqMM] at h ⊢
 | x :: l,b,h=>by cases b <;> simp [eqMM] at h ⊢; exact ⟨Gp h.1,T0 h.2⟩
end
def isB1:List AV->Bool
 | [.prim (.bool _)]=>true
 | _=>false
theorem Ud {l:List AV} (h:isB1 l=true):∃ b,l=[.prim (.bool b)]:=by
 unfold isB1 at h
 split at h
 ·exact ⟨_,rfl⟩
 ·cases h
def gOB:List Ent->List Ent->Bool
 | [],[]=>true
 | e :: S,e' :: S'=>decide (e.ep=e'.ep) && (eqM e.cells e'.cells || (isB1 e.cells && isB1 e'.cells)) && gOB S S'
 | _,_=>false
theorem Xf:∀ {S S':List Ent},gOB S S'=true->Lw S S'
 | [],[],_=>⟨rfl,fun _=>.inl rfl⟩
 | [],_ :: _,h=>by simp [gOB] at h
 | _ :: _,[],h=>by simp [gOB] at h
 | e :: S,e' :: S',h=>by
  simp only [gOB,Bool.and_eq_true,Bool.or_eq_true,decide_eq_true_eq] at h
  obtain ⟨⟨h1,h2⟩,h3⟩:=h
  obtain ⟨g1,g2⟩:=Xf h3
  refine ⟨by simp [g1],fun i=>?_⟩
  cases i with
  | zero =>
   obtain ⟨ep,cs⟩:=e
   obtain ⟨ep',cs'⟩:=e'
   simp only at h1 h2
   subst h1
   rcases h2 with h2|⟨h2,h4⟩
   ·left; rw [Gp h2]; rfl
   ·obtain ⟨b,rfl⟩:=Ud h2
    obtain ⟨b',rfl⟩:=Ud h4
    exact .inr ⟨ep,b,b',rfl,rfl⟩
  | succ i=>exact g2 i
/- slots in a tree -/
inductive Pat where|z|o (p:Pat)|e (p:Pat)
inductive Trs where|l|n (v:AV) (a b:Trs)
def paF:Nat->Nat->Pat
 | 0,_=>.z
 | f+1,k=>if k=0 then .z else if k % 2=1 then .o (paF f (k / 2)) else .e (paF f (k / 2 - 1))
def pth (k:Nat):Pat:=paF k k
theorem Pf:∀ {f g k j:Nat},k<=f->j<=g->paF f k=paF g j->k=j
 | 0,g,k,j,h1,h2,h=>by
  obtain rfl:k=0:=by omega
  cases g with
  | zero=>omega
  | succ g =>
   simp only [paF] at h
   split at h
   ·omega
   ·split at h <;> cases h
 | f+1,0,k,j,h1,h2,h=>by
  obtain rfl:j=0:=by omega
  simp only [paF] at h
  split at h
  ·omega
  ·split at h <;> cases h
 | f+1,g+1,k,j,h1,h2,h=>by
  simp only [paF] at h
  by_cases hk:k=0
  ·by_cases hj:j=0
   ·omega
   ·rw [if_pos hk,if_neg hj] at h; split at h <;> cases h
  ·rw [if_neg hk] at h
   by_cases hj:j=0
   ·rw [if_pos hj] at h; split at h <;> cases h
   ·rw [if_neg hj] at h
    split at h
    ·split at h
     ·have:=Pf (by omega) (by omega) (Pat.o.inj h); omega
     ·cases h
    ·split at h
     ·cases h
     ·have:=Pf (by omega) (by omega) (Pat.e.inj h); omega
theorem Uv {k j:Nat} (h:pth k=pth j):k=j:=Pf (Nat.le_refl _) (Nat.le_refl _) h
noncomputable def gT (p:Pat):Trs->AV :=
 Pat.rec (motive:=fun _=>Trs->AV) (fun t=>Trs.rec (motive:=fun _=>AV) .bot (fun v _ _ _ _=>v) t)
  (fun _ ih t=>ih (Trs.rec (motive:=fun _=>Trs) .l (fun _ a _ _ _=>a) t)) (fun _ ih t=>ih (Trs.rec (motive:=fun _=>Trs) .l (fun _ _ b _ _=>b) t)) p
noncomputable def sT (v:AV) (p:Pat):Trs->Trs :=
 Pat.rec (motive:=fun _=>Trs->Trs) (fun t=>Trs.rec (motive:=fun _=>Trs) (.n v .l .l) (fun _ a b _ _=>.n v a b) t)
  (fun _ ih t=>Trs.rec (motive:=fun _=>Trs) (.n .bot (ih .l) .l) (fun u a b _ _=>.n u (ih a) b) t) (fun _ ih t=>Trs.rec (motive:=fun _=>Trs) (.n .bot .l (ih .l)) (fun u a b _ _=>.n u a (ih b)) t) p
theorem gT_l:∀ {p:Pat},gT p .l=.bot
 | .z=>rfl
 | .o p=>gT_l (p:=p)
 | .e p=>gT_l (p:=p)
theorem Hn {v:AV} : ∀ {p:Pat} {t:Trs},gT p (sT v p t)=v
 | .z,.l=>rfl
 | .z,.n _ _ _=>rfl
 | .o p,.l=>Hn (p:=p) (t:=.l)
 | .o p,.n _ a _=>Hn (p:=p) (t:=a)
 | .e p,.l=>Hn (p:=p) (t:=.l)
 | .e p,.n _ _ b=>Hn (p:=p) (t:=b)
theorem Q9 {v:AV} : ∀ {p q:Pat} {t:Trs},q≠p->gT q (sT v p t)=gT q t
 | .z,.z,_,h=>absurd rfl h
 | .z,.o q,.l,_=>rfl
 | .z,.o q,.n _ _ _,_=>rfl
 | .z,.e q,.l,_=>rfl
 | .z,.e q,.n _ _ _,_=>rfl
 | .o p,.z,.l,_=>rfl
 | .o p,.z,.n _ _ _,_=>rfl
 | .o p,.o q,.l,h=>(Q9 (p:=p) (q:=q) (t:=.l) fun e=>h (e ▸ rfl))
 | .o p,.o q,.n _ a _,h=>(Q9 (p:=p) (q:=q) (t:=a) fun e=>h (e ▸ rfl))
 | .o p,.e q,.l,_=>rfl
 | .o p,.e q,.n _ _ _,_=>rfl
 | .e p,.z,.l,_=>rfl
 | .e p,.z,.n _ _ _,_=>rfl
 | .e p,.o q,.l,_=>rfl
 | .e p,.o q,.n _ _ _,_=>rfl
 | .e p,.e q,.l,h=>(Q9 (p:=p) (q:=q) (t:=.l) fun e=>h (e ▸ rfl))
 | .e p,.e q,.n _ _ b,h=>(Q9 (p:=p) (q:=q) (t:=b) fun e=>h (e ▸ rfl))
noncomputable def opT (t:Trs):Operand->AV
 | .tmp k=>gT (pth k) t
 | .const v=>cst v
 | .global _=>.bot
 | .func f=>.fn f []
structure Rl (N:Nat) (T:List AV) (t:Trs):Prop where
 len:T.length=N
 get:∀ k,getT T k=gT (pth k) t
theorem P9 {v:AV} : ∀ {T:List AV} {d k:Nat},d<T.length->getT (put T d v) k=if k=d then v else getT T k
 | [],d,k,h=>absurd h (Nat.not_lt_zero _)
 | _ :: T,0,0,_=>rfl
 | _ :: T,0,k+1,_=>by simp [put,getT]
 | _ :: T,d+1,0,_=>by simp [put,getT]
 | _ :: T,d+1,k+1,h=>by
  simp only [put,getT]
  rw [P9 (by simpa using h)]
  simp
theorem Rl.op {N:Nat} {T:List AV} {t:Trs} (h:Rl N T t):opv T=opT t:=funext fun o=>by cases o <;> simp [opv,opT,h.get]
def dsT (N:Nat):Option Tmp->Option (Option Pat)
 | none=>some none
 | some d=>bif Nat.blt d N then some (some (pth d)) else none
noncomputable def pT (q:Option Pat) (v:AV) (t:Trs):Trs:=match q with|none=>t|some p=>sT v p t
theorem Rl.put {N:Nat} {T:List AV} {t:Trs} (h:Rl N T t) {d:Option Tmp} {q:Option Pat} (hd:dsT N d=some q) {v:AV} : Rl N (putT T d v) (pT q v t):=by
 cases d with
 | none=>simp only [dsT,Option.some.injEq] at hd; subst hd; exact h
 | some d =>
  simp only [dsT] at hd
  cases hlt:Nat.blt d N with
  | false=>rw [hlt] at hd; cases hd
  | true =>
   rw [hlt] at hd
   simp only [cond_true,Option.some.injEq] at hd
   subst hd
   have hd:d<T.length:=by rw [h.len]; simpa using hlt
   refine ⟨by simp only [putT,Aw,h.len],fun k=>?_⟩
   simp only [putT,pT]
   rw [P9 hd]
   split
   ·rename_i e; subst e; rw [Hn]
   ·rename_i e; rw [Q9 fun e'=>e (Uv e'),h.get]
noncomputable def tlF (t:Trs):Nat->Nat->List AV
 | 0,_=>[]
 | n+1,k=>gT (pth k) t :: tlF t n (k+1)
theorem T5:∀ {T U:List AV},T.length=U.length->(∀ k,getT T k=getT U k)->T=U
 | [],[],_,_=>rfl
 | _ :: T,_ :: U,h,g=>by
  have h0:=g 0
  simp only [getT] at h0
  rw [h0,T5 (by simpa using h) fun k=>g (k+1)]
theorem Vf {t:Trs} : ∀ {n k j:Nat},j<n->getT (tlF t n k) j=gT (pth (k+j)) t
 | n+1,k,0,_=>rfl
 | n+1,k,j+1,h=>by
  simp only [tlF,getT]
  rw [Vf (by omega),show k+1+j=k+(j+1) by omega]
theorem Pl {t:Trs} : ∀ {n k:Nat},(tlF t n k).length=n
 | 0,_=>rfl
 | n+1,k=>by simp [tlF,Pl]
theorem Je:∀ {T:List AV} {k:Nat},T.length<=k->getT T k=.bot
 | [],_,_=>rfl
 | _ :: T,0,h=>by simp at h
 | _ :: T,k+1,h=>Je (T:=T) (by simpa using h)
theorem Rl.list {N:Nat} {T:List AV} {t:Trs} (h:Rl N T t):tlF t N 0=T:=by
 refine T5 (by rw [Pl,h.len]) fun k=>?_
 by_cases hk:k<N
 ·rw [Vf hk,h.get,Nat.zero_add]
 ·rw [Je (by rw [Pl]; omega),Je (by rw [h.len]; omega)]
noncomputable def iniT:Nat->List AV->Trs->Trs
 | _,[],t=>t
 | k,a :: l,t=>iniT (k+1) l (sT a (pth k) t)
theorem Qd:∀ {l:List AV} {k j:Nat} {t:Trs},gT (pth j) (iniT k l t)=if k<=j/\j<k+l.length then getT l (j - k) else gT (pth j) t
 | [],k,j,t=>by rw [if_neg (by simp only [List.length_nil]; omega)]; rfl
 | a :: l,k,j,t=>by
  simp only [iniT,List.length_cons]
  rw [Qd]
  by_cases h1:k+1<=j/\j<k+1+l.length
  ·rw [if_pos h1,if_pos (by omega),show j - k=(j - (k+1))+1 by omega]; rfl
  ·rw [if_neg h1]
   by_cases h2:j=k
   ·subst h2; rw [Hn,if_pos (by omega),Nat.sub_self]; rfl
   ·rw [Q9 fun e=>h2 (Uv e),if_neg (by omega)]
theorem P7 {b:Nat} : ∀ {l:List AV} {k:Nat},getT (l++List.replicate b .bot) k=getT l k
 | [],k=>by
  induction b generalizing k with
  | zero=>rfl
  | succ b ih=>cases k with
   | zero=>rfl
   | succ k=>exact (ih (k:=k))
 | _ :: l,0=>rfl
 | _ :: l,k+1=>P7 (l:=l)
theorem Rl.ini {args:List AV} {b:Nat} : Rl (args.length+b) (args++List.replicate b .bot) (iniT 0 args .l):=by
 refine ⟨by simp,fun k=>?_⟩
 rw [P7,Qd]
 split
 ·rfl
 ·rw [gT_l,Je (by omega)]
/- operations -/
structure StT where
 t:Trs
 S:List Ent
 tk:List Nat
 n:Nat
abbrev ResT:=Option (AV × List Ent × List Nat × Nat)
inductive Clo where|bad|mk (f:Trs->List Ent->List Nat->Nat->ResT)
variable {P:Program}
noncomputable def bO {α β:Type} (x:Option α) (f:α->Option β):Option β:=Option.rec (motive:=fun _=>Option β) none (fun a=>f a) x
noncomputable def Zf (P:Program) (call:Ag) (c:Call):Clo :=
 match c.callee with
 | .invoke x m=>.mk fun t S tk n=>match opT t x with
  | .ifc ty v=>bO (mRow P ty m) fun f=>call f (v :: c.args.toList.map (opT t)) S tk n
  | _=>none
 | .value (.func f)=>.mk fun t S tk n=>call f (c.args.toList.map (opT t)) S tk n
 | .value x=>.mk fun t S tk n=>match opT t x with
  | .fn f caps=>call f (c.args.toList.map (opT t)++caps) S tk n
  | .bfn f first=>call f (first++c.args.toList.map (opT t)) S tk n
  | _=>none
 | _=>.bad
noncomputable def apT1 [Globs] (P:Program) (o:Oper) (c:Call):Clo :=
 match c.args.toList,c.argTypes.toList with
 | [x,y],[t,t']=>bif Globs.own o.dst o.type then (if t=t' then .mk fun m S tk n=>bO (apO P t (opT m x) (opT m y) S n) fun a=>some (a.1,a.2.1,tk,a.2.2) else .bad)
  else if t=t' then .mk fun m S tk n=>bO (apB1 P t (opT m x) (opT m y) tk S) fun a=>some (a.1,S,a.2,n)
  else .mk fun m S tk n=>bO (apS P t t' (opT m x) (opT m y) tk) fun a=>some (a.1,S,a.2,n)
 | _,_=>.bad
noncomputable def clo [Globs] (P:Program) (call:Ag) (o:Oper):Clo :=
 match o.op with
 | .move x=>.mk fun t S tk n=>some (opT t x,S,tk,n)
 | .assign x=>.mk fun t S tk n=>some (opT t x,S,tk,n)
 | .load ty a=>.mk fun t S tk n=>bO (ldA P ty (opT t a) S) fun v=>some (v,S,tk,n)
 | .store ty a v=>.mk fun t S tk n=>bO (stA P ty (opT t a) (opT t v) S) fun S=>some (.prim undef,S,tk,n)
 | .binOp b ty x y _=>.mk fun t S tk n=>bO (aBin P b ty (opT t x) (opT t y)) fun v=>some (v,S,tk,n)
 | .indexAddr ty x i=>.mk fun t S tk n=>bO (idxA P ty (opT t x) (opT t i)) fun v=>some (v,S,tk,n)
 | .fieldAddr ty x k=>.mk fun t S tk n=>bO (fldA P ty (opT t x) k) fun v=>some (v,S,tk,n)
 | .alloc ty=>.mk fun _ S tk n=>bO (Ah P ty) fun cs=>some (.ref S.length n 0,S++[⟨n,cs⟩],tk,n+1)
 | .box _ x=>.mk fun t S tk n=>bO (cellsOf (opT t x)) fun cs=>some (.ref S.length n 0,S++[⟨n,cs⟩],tk,n+1)
 | .makeSlice ty l c=>bif J3 o l then .mk fun t S tk n=>bO (mkA P ty (opT t l) (opT t c)) fun a=>some (mkV (len0 l) tk.length a.1 a.2.1 a.2.2,S,tk++[0],n)
  else .mk fun t S tk n=>bO (mkA P ty (opT t l) (opT t c)) fun a=>some (.sref S.length n 0 a.1 a.2.1,S++[⟨n,a.2.2⟩],tk,n+1)
 | .call c=>(match c.callee with
  | .builtin .append=>apT1 P o c
  | .builtin .copy=>(match c.args.toList,c.argTypes.toList with
   | [d,s],[ty,_]=>.mk fun t S tk n=>bO (cpA P ty (opT t d) (opT t s) S) fun a=>some (AV.int (a.1:Int),a.2,tk,n)
   | _,_=>.bad)
  | .builtin _=>.mk fun t S tk n=>bO (evQ P o (opT t)) fun v=>some (v,S,tk,n)
  | _=>Zf P call c)
 | _=>.mk fun t S tk n=>bO (evQ P o (opT t)) fun v=>some (v,S,tk,n)
theorem Zi [Globs] {call:Ag} {o:Oper} {f:Trs->List Ent->List Nat->Nat->ResT} (hf:clo P call o=.mk f) {N:Nat} {T:List AV} {t:Trs} (hr:Rl N T t) {S S':List Ent} {tk tk':List Nat} {n n':Nat} {v:AV} (h:f t S tk n=some (v,S',tk',n')):evO P call o ⟨T,S,tk,n⟩=some (v,⟨T,S',tk',n'⟩):=by
 have hop:=hr.op
 have key:∀ {α:Type} {x:Option α} {g:α->ResT} {k:α->AV × St},(∀ a,g a=some (v,S',tk',n')->k a=(v,⟨T,S',tk',n'⟩))->bO x g=some (v,S',tk',n')->x.map k=some (v,⟨T,S',tk',n'⟩):=by
  intro α x g k hg hx
  cases x with
  | none=>cases hx
  | some a=>rw [Option.map_some,hg a hx]
 have hq:∀ {x:Option AV},evQ P o (opT t)=x->bO x (fun v=>some (v,S,tk,n))=some (v,S',tk',n')->(evQ P o (opT t)).map (fun v=>(v,(⟨T,S,tk,n⟩:St)))=some (v,⟨T,S',tk',n'⟩):=by
  intro x hx h
  rw [hx]
  exact key (by rintro a ⟨⟩; rfl) h
 have bp:∀ {f args},call f args S tk n=some (v,S',tk',n')->(call f args S tk n).map (fun x=>(x.1,(⟨T,x.2.1,x.2.2.1,x.2.2.2⟩:St)))=some (v,⟨T,S',tk',n'⟩):=fun h=>by rw [h]; rfl
 unfold clo at hf
 unfold evO
 split at hf
 case h_1 x ho=>rw [ho]; cases hf; simp only [hop]; exact hq (x:=some (opT t x)) (by unfold evQ; rw [ho]) h
 case h_2 x ho=>rw [ho]; cases hf; simp only [hop]; exact hq (x:=some (opT t x)) (by unfold evQ; rw [ho]) h
 case h_3 ho=>rw [ho]; cases hf; simp only [hop]; exact key (by rintro a ⟨⟩; rfl) h
 case h_4 ho=>rw [ho]; cases hf; simp only [hop]; exact key (by rintro a ⟨⟩; rfl) h
 case h_5 b ty x y _ ho=>rw [ho]; cases hf; simp only [hop]; exact hq (x:=aBin P b ty (opT t x) (opT t y)) (by unfold evQ; rw [ho]) h
 case h_6 ty x i ho=>rw [ho]; cases hf; simp only [hop]; exact hq (x:=idxA P ty (opT t x) (opT t i)) (by unfold evQ; rw [ho]) h
 case h_7 ty x k ho=>rw [ho]; cases hf; simp only [hop]; exact hq (x:=fldA P ty (opT t x) k) (by unfold evQ; rw [ho]) h
 case h_8 ho=>rw [ho]; cases hf; simp only; exact key (by rintro a ⟨⟩; rfl) h
 case h_9 ho=>rw [ho]; cases hf; simp only [hop]; exact key (by rintro a ⟨⟩; rfl) h
 case h_10 ty l c ho =>
  rw [ho]
  cases hg:J3 o l with
  | true=>rw [hg] at hf; cases hf; simp only [hop,hg]; exact key (by rintro ⟨a,b,c⟩ ⟨⟩; rfl) h
  | false=>rw [hg] at hf; cases hf; simp only [hop,hg]; exact key (by rintro ⟨a,b,c⟩ ⟨⟩; rfl) h
 case h_11 c ho =>
  rw [ho]
  simp only at hf ⊢
  split at hf
  case h_1 hc =>
   rw [hc]
   unfold apT1 at hf
   simp only
   split at hf
   ·rename_i x y t1 t2 e1 e2
    rw [e1,e2]
    simp only [List.map_cons,List.map_nil,hop]
    cases hg:(Globs.own o.dst o.type:Bool) with
    | true =>
     rw [hg] at hf
     simp only [cond_true] at hf
     split at hf
     ·rename_i e; cases hf; rw [if_pos rfl,if_pos e]; exact key (by rintro ⟨a,b,c⟩ ⟨⟩; rfl) h
     ·cases hf
    | false =>
     rw [hg] at hf
     simp only [cond_false] at hf
     rw [if_neg (by simp)]
     split at hf
     ·rename_i e; cases hf; rw [if_pos e]; exact key (by rintro ⟨a,b⟩ ⟨⟩; rfl) h
     ·rename_i e; cases hf; rw [if_neg e]; exact key (by rintro ⟨a,b⟩ ⟨⟩; rfl) h
   ·cases hf
  case h_2 hc =>
   rw [hc]
   simp only
   split at hf
   ·rename_i x y t1 t2 e1 e2
    rw [e1,e2]
    cases hf
    simp only [List.map_cons,List.map_nil,hop]
    exact key (by rintro ⟨a,b⟩ ⟨⟩; rfl) h
   ·cases hf
  case h_3 b b1 b2 hc =>
   cases hf
   split
   case h_1 e=>exact (b1 (Callee.builtin.inj (hc.symm.trans e))).elim
   case h_2 e=>exact (b2 (Callee.builtin.inj (hc.symm.trans e))).elim
   case h_3 e=>simp only [hop]; exact hq rfl h
   case h_4 e1 e2 e3=>exact (e3 _ hc).elim
  case h_4 b1 b2 b3 =>
   split
   case h_1 e=>exact (b1 e).elim
   case h_2 e=>exact (b2 e).elim
   case h_3 e=>exact (b3 _ e).elim
   case h_4 e1 e2 e3 =>
    unfold Zf at hf
    unfold Bh
    simp only [hop]
    split at hf
    case h_1 x m hc =>
     rw [hc]
     cases hf
     dsimp only at h ⊢
     cases hx:opT t x <;> rw [hx] at h
     case ifc ty u =>
      dsimp only at h ⊢
      cases hm:mRow P ty m with
      | none=>rw [hm] at h; cases h
      | some f=>rw [hm] at h; simp only [Option.map_some]; exact bp h
     all_goals (cases h; done)
    case h_2 f hc =>
     rw [hc]
     cases hf
     simp only [opT,List.append_nil]
     exact bp h
    case h_3 x hx hc =>
     rw [hc]
     cases hf
     dsimp only at h ⊢
     cases hx:opT t x <;> rw [hx] at h
     case fn=>exact bp h
     case bfn=>exact bp h
     all_goals (cases h; done)
    case h_4=>cases hf
 case h_12 a1 a2 a3 a4 a5 a6 a7 a8 a9 a10 a11 =>
  cases hf
  split
  case h_7=>simp only [hop]; exact hq rfl h
  all_goals (rename_i ho; first|exact (a3 _ _ ho).elim|exact (a4 _ _ _ ho).elim|exact (a8 _ ho).elim|exact (a9 _ _ ho).elim|exact (a10 _ _ _ ho).elim|exact (a11 _ ho).elim)
inductive Gua where|no|sl (p:Pat) (w:Bool)|bad
def gdT (all:List Oper) (o:Oper):Gua :=
 match o.guard with
 | none=>.no
 | some (g,w)=>match (nth all g).bind (·.dst) with|none=>.bad|some d=>.sl (pth d) w
noncomputable def wnT (g:Gua) (t:Trs):Option Bool :=
 match g with
 | .no=>some true
 | .sl p w=>(match gT p t with|.prim (.bool b)=>some (b == w)|.prim (.tuple _)=>some false|_=>none)
 | .bad=>none
theorem Xr {N:Nat} {T:List AV} {t:Trs} (hr:Rl N T t) {all:List Oper} {o:Oper} : wnT (gdT all o) t=Df all T o:=by
 unfold gdT Df
 cases o.guard with
 | none=>rfl
 | some x =>
  obtain ⟨g,w⟩:=x
  simp only
  cases (nth all g).bind (·.dst) with
  | none=>rfl
  | some d=>simp only [wnT,hr.get]; rfl
inductive Chq where|yes|nb|x
def ckT [Globs] (o:Oper):Chq:=bif Globs.dr then (bif xOp o then .x else bif isLd o then .nb else .yes) else .yes
noncomputable def smT (P:Program) (N:Nat) (t:Trs) (S':List Ent) (q:TypeId × Operand × Option Tmp × Bool):Bool :=
 q.2.2.2 && match q.2.2.1 with
  | none=>false
  | some d=>Nat.blt d N && match ldA P q.1 (opT t q.2.1) S' with|some v=>eqA v (gT (pth d) t)|none=>false
noncomputable def cxT [Globs] (P:Program) (N:Nat) (all:List Oper) (o:Oper) (t:Trs) (S S':List Ent):Bool :=
 (!lkOp o || gOB S S') && (!anOp o || (Nat.ble S.length S'.length && (!o.dst.isSome || (loadsB all o.dst).all (smT P N t S'))))
noncomputable def okC [Globs] (P:Program) (N:Nat) (all:List Oper) (o:Oper) (k:Chq) (t:Trs) (v:AV) (S S':List Ent):Bool :=
 match k with|.yes=>true|.nb=>!isB v|.x=>cxT P N all o t S S'
theorem Zt [Globs] {N:Nat} {T:List AV} {t:Trs} (hr:Rl N T t) {all:List Oper} {o:Oper} {v:AV} {S S':List Ent} {tk tk':List Nat} {n n':Nat} (h:okC P N all o (ckT o) t v S S'=true):chkO P all o ⟨T,S,tk,n⟩ v ⟨T,S',tk',n'⟩=true:=by
 unfold ckT at h
 unfold chkO
 cases h1:(Globs.dr:Bool)
 ·rfl
 ·rw [h1] at h
  cases h2:xOp o
  ·rw [h2] at h
   cases h3:isLd o
   ·rfl
   ·rw [h3] at h; exact h
  ·rw [h2] at h
   simp only [cond_true,okC] at h ⊢
   refine @decide_eq_true _ (Classical.propDecidable _) ?_
   unfold cxT at h
   simp only [Bool.and_eq_true,Bool.or_eq_true,Bool.not_eq_true',List.all_eq_true] at h
   obtain ⟨h1,h2⟩:=h
   refine ⟨fun h=>?_,fun h=>?_⟩
   ·rcases h1 with h1|h1
    ·rw [h1] at h; cases h
    ·exact Xf h1
   ·rcases h2 with h2|⟨h2,h3⟩
    ·rw [h2] at h; cases h
    ·refine ⟨Nat.le_of_ble_eq_true h2,fun hs q hq=>?_⟩
     rcases h3 with h3|h3
     ·rw [h3] at hs; cases hs
     ·have:=h3 q hq
      unfold smT at this
      rw [Bool.and_eq_true] at this
      obtain ⟨g1,g⟩:=this
      split at g
      ·cases g
      ·rename_i d hd
       rw [Bool.and_eq_true] at g
       obtain ⟨g2,g⟩:=g
       split at g
       ·rename_i u hu
        refine ⟨g1,d,hd,by rw [hr.len]; simpa using g2,?_⟩
        rw [hr.op,hu,Mx g,hr.get]
       ·cases g
noncomputable def stepT [Globs] (P:Program) (call:Ag) (all:List Oper) (N:Nat) (o:Oper) (ih:StT->Option StT) (st:StT):Option StT :=
 match st with
 | ⟨t,S,tk,n⟩=>match wnT (gdT all o) t,dsT N o.dst with
  | some false,some q=>ih ⟨pT q (.prim undef) t,S,tk,n⟩
  | some true,some q=>(match clo P call o with
   | .mk f=>(match f t S tk n with
    | some (v,S',tk',n')=>bif okC P N all o (ckT o) t v S S' then ih ⟨pT q v t,S',tk',n'⟩ else none
    | none=>none)
   | .bad=>none)
  | _,_=>none
noncomputable def opsT [Globs] (P:Program) (call:Ag) (all:List Oper) (N:Nat) (L:List Oper):StT->Option StT :=
 List.rec (motive:=fun _=>StT->Option StT) (fun st=>some st) (fun o _ ih st=>stepT P call all N o ih st) L
def StT.at (s:StT) (T:List AV):St:=⟨T,s.S,s.tk,s.n⟩
theorem L1 [Globs] {call:Ag} {all:List Oper} {N:Nat} : ∀ {L:List Oper} {st st':StT} {T:List AV},Rl N T st.t->opsT P call all N L st=some st'->∃ T',Rl N T' st'.t/\evOs P call all L (st.at T)=some (st'.at T')
 | [],st,st',T,hr,h=>by
  cases h; exact ⟨T,hr,rfl⟩
 | o :: L,⟨t,S,tk,n⟩,st',T,hr,h=>by
  change stepT P call all N o (opsT P call all N L) ⟨t,S,tk,n⟩=some st' at h
  simp only [stepT] at h
  show ∃ T',_/\evOs P call all (o :: L) ⟨T,S,tk,n⟩=_
  simp only [evOs]
  split at h
  ·rename_i q hw hd
   rw [Xr hr] at hw
   obtain ⟨T',h1,h2⟩:=L1 (T:=putT T o.dst (.prim undef)) (hr.put hd) h
   exact ⟨T',h1,by rw [hw]; exact h2⟩
  ·rename_i q hw hd
   rw [Xr hr] at hw
   split at h
   ·rename_i f hf
    split at h
    ·rename_i v S' tk' n' hv
     cases hk:okC P N all o (ckT o) t v S S' with
     | false=>rw [hk] at h; cases h
     | true =>
      rw [hk] at h
      obtain ⟨T',h1,h2⟩:=L1 (T:=putT T o.dst v) (hr.put hd) h
      refine ⟨T',h1,?_⟩
      rw [hw]
      simp only
      rw [Zi hf hr hv]
      simp only
      rw [if_pos (Zt hr hk)]
      exact h2
    ·cases h
   ·cases h
  ·cases h
/- code -/
noncomputable def drQ [Globs] (L:List Oper):Bool:=Ak ⟨[],[],[],0⟩ L
theorem Yk {ops:Array Oper} {i:Nat} {o:Oper} : K7 ⟨[],[],[],0⟩ ops i o=none:=by
 unfold K7
 split
 ·split
  ·rfl
  ·rw [List.findSome?_eq_none_iff]
   intro m _
   split
   ·split
    ·split <;> rfl
    ·rfl
   ·rfl
 ·rfl
theorem Zl [Globs] {st:St} {L:List Oper} (h:drQ L=true):Ak st L=true:=by
 unfold drQ Ak at h
 unfold Ak
 unfold Lu at h ⊢
 rw [List.all_eq_true] at h ⊢
 intro i hi
 have:=h i hi
 split at this
 ·cases this
 ·rename_i o ho
  simp only [Bool.and_eq_true,List.all_eq_true] at this ⊢
  refine ⟨this.1,fun j hj=>?_⟩
  have g:=this.2 j hj
  split at g
  ·cases g
  ·rename_i p hp
   have e:∀ i o p,@Gk (gM (mdOf L)) ⟨[],[],[],0⟩ L.toArray i o p=false:=fun i o p=>by unfold Gk; rw [Yk]
   simp only [e,Bool.or_eq_true,Bool.and_eq_true] at g ⊢
   rcases g with ((g|g)|g)|g
   ·exact .inl (.inl (.inl g))
   ·exact .inl (.inl (.inr g))
   ·refine .inl (.inr ⟨g.1,?_⟩)
    have g:=g.2
    split at g
    ·cases g
    ·rename_i hn
     rw [if_neg hn]
     simp only [Bool.or_false] at g
     rw [g]; rfl
   ·exact .inr g
noncomputable def okT [Globs] (N:Nat) (L:List Oper) (st:StT):Bool:=drQ L || Ak ⟨tlF st.t N 0,st.S,st.tk,st.n⟩ L
theorem Zu [Globs] {N:Nat} {L:List Oper} {st:StT} {T:List AV} (hr:Rl N T st.t) (h:okT N L st=true):Ak (st.at T) L=true:=by
 unfold okT at h
 rw [Bool.or_eq_true] at h
 rcases h with h|h
 ·exact Zl h
 ·rwa [hr.list] at h
inductive Reg where|run (L:List Oper)|split (a:List Oper) (o:Oper)|late (a:List Oper) (al o:Oper)|draw (L:List Oper)
def rgT [Globs] (ops:Array Oper) (draw:Bool):Reg :=
 bif draw then (match Br ops.toList with
  | some (a,o)=>.split a o
  | none=>match Ee ops.toList with|some (_,al,o)=>.late (openL ops.toList) al o|none=>.draw ops.toList) else .run ops.toList
noncomputable def dopT [Globs] (P:Program) [Ext P] (call:Ag) (N:Nat) (a:List Oper) (st:StT):Option StT:=bif okT N a st then @opsT (gM (mdOf a)) P (Dv (mdOf a) P call) a N a st else none
noncomputable def thT (x:Option StT) (f:StT->Option StT):Option (Ex × StT):=match x with|some s=>(match f s with|some s=>some (.normal,s)|none=>none)|none=>none
noncomputable def regT [Globs] (P:Program) [Ext P] (call:Ag) (N:Nat) (ops:Array Oper) (draw:Bool) (st:StT):Option (Ex × StT) :=
 match rgT ops draw with
 | .run L=>thT (opsT P call L N L st) some
 | .split a o=>thT (dopT P call N a st) (opsT P call [o] N [o])
 | .late a al o=>thT (dopT P call N a st) (opsT P call [al,o] N [al,o])
 | .draw L=>thT (dopT P call N L st) some
noncomputable def Wp (kp:Bool) (f:StT->Option (Ex × StT)) (k:Nat):StT->Option (Ex × StT) :=
 Nat.rec (motive:=fun _=>StT->Option (Ex × StT)) (fun _=>none) (fun _ ih st=>match f st with|some (.normal,⟨t,S,tk,n⟩)=>ih ⟨t,cutS kp st.S.length S,tk,n⟩|r=>r) k
noncomputable def codT [Globs] (P:Program) [Ext P] (call:Ag) (k N:Nat) (c:Code):StT->Option (Ex × StT) :=
 Code.rec (motive:=fun _=>StT->Option (Ex × StT)) (fun st=>some (.normal,st)) (fun _ ops draw st=>regT P call N ops draw st)
  (fun _ _ f g st=>match f st with|some (.normal,st')=>g st'|r=>r)
  (fun c _ _ f g st=>match opT st.t c with|.prim (.bool b)=>bif b then f st else g st|_=>none)
  (fun id _ f st=>match f st with|some (.exit id',st')=>bif id' == id then some (.normal,st') else some (.exit id',st')|r=>r)
  (fun c f st=>Wp (Hs c) f k st) (fun _ _ _ _ _ _ _=>none) (fun id st=>some (.exit id,st)) (fun _ f st=>f st) (fun _ st=>some (.normal,st)) (fun _ _=>none) (fun st=>some (.ret,st)) (fun _ _=>none) c
theorem N1 [Globs] [Ext P] {call:Ag} (hc:CLe call (cL P)) {N:Nat} {a:List Oper} {st st':StT} {T:List AV} (hr:Rl N T st.t) (h:dopT P call N a st=some st'):Ak (st.at T) a=true/\∃ T',Rl N T' st'.t/\@evOs (gM (mdOf a)) P (Dv (mdOf a) P (cL P)) a a (st.at T)=some (st'.at T'):=by
 unfold dopT at h
 cases hk:okT N a st with
 | false=>rw [hk] at h; cases h
 | true =>
  rw [hk] at h
  obtain ⟨T',h1,h2⟩:=@L1 P (gM (mdOf a)) _ _ _ _ _ _ _ hr h
  exact ⟨Zu hr hk,T',h1,Al (G:=gM _) hc.pure h2⟩
theorem Pe [Globs] [Ext P] {call:Ag} (hc:CLe call (cL P)) {N:Nat} {all L:List Oper} {st st':StT} {T:List AV} (hr:Rl N T st.t) (h:opsT P call all N L st=some st'):∃ T',Rl N T' st'.t/\evOs P (cL P) all L (st.at T)=some (st'.at T'):=by
 obtain ⟨T',h1,h2⟩:=L1 hr h
 exact ⟨T',h1,Al hc h2⟩
theorem Qs {x:Option StT} {f:StT->Option StT} {r:Ex × StT} (h:thT x f=some r):∃ s,x=some s/\f s=some r.2/\r.1=.normal:=by
 unfold thT at h
 split at h
 ·split at h
  ·rename_i s _ s' hs
   cases h
   exact ⟨s,rfl,hs,rfl⟩
  ·cases h
 ·cases h
theorem Dl [Globs] [Ext P] {call:Ag} (hc:CLe call (cL P)) {k N:Nat} : ∀ {c:Code} {st st':StT} {e:Ex} {T:List AV},Rl N T st.t->codT P call k N c st=some (e,st')->∃ T',Rl N T' st'.t/\eL P c (st.at T)=some (e,st'.at T')
 | .skip,st,st',e,T,hr,h=>by
  cases h
  exact ⟨T,hr,Ai.2 ⟨0,rfl⟩⟩
 | .region id ops draw,st,st',e,T,hr,h=>by
  change regT P call N ops draw st=_ at h
  unfold regT at h
  cases draw with
  | false =>
   simp only [rgT,cond_false] at h
   obtain ⟨s,h1,h2,h3⟩:=Qs h
   cases h2
   obtain ⟨T',g1,g2⟩:=Pe hc hr h1
   refine ⟨T',g1,?_⟩
   rw [G2,g2]
   simp only at h3
   subst h3; rfl
  | true =>
   simp only [rgT,cond_true] at h
   cases hs:Br ops.toList with
   | some x =>
    obtain ⟨a,o⟩:=x
    rw [hs] at h
    obtain ⟨s,h1,h2,h3⟩:=Qs h
    obtain ⟨d,T1,g1,g2⟩:=N1 hc hr h1
    obtain ⟨T',g3,g4⟩:=Pe hc g1 h2
    refine ⟨T',g3,?_⟩
    rw [Tz hs,if_pos d,g2]
    simp only at h3 ⊢
    rw [g4]
    subst h3; rfl
   | none =>
    rw [hs] at h
    simp only at h
    cases hl:Ee ops.toList with
    | some x =>
     obtain ⟨p,al,o⟩:=x
     rw [hl] at h
     obtain ⟨s,h1,h2,h3⟩:=Qs h
     obtain ⟨d,T1,g1,g2⟩:=N1 hc hr h1
     obtain ⟨T',g3,g4⟩:=Pe hc g1 h2
     refine ⟨T',g3,?_⟩
     rw [Tx hs hl,if_pos d,g2]
     simp only at h3 ⊢
     rw [g4]
     subst h3; rfl
    | none =>
     rw [hl] at h
     obtain ⟨s,h1,h2,h3⟩:=Qs h
     cases h2
     obtain ⟨d,T1,g1,g2⟩:=N1 hc hr h1
     refine ⟨T1,g1,?_⟩
     rw [Tw hs hl,if_pos d,g2]
     simp only at h3
     subst h3; rfl
 | .seq a b,st,st',e,T,hr,h=>by
  change (match codT P call k N a st with|some (.normal,st')=>codT P call k N b st'|r=>r)=_ at h
  rw [Xd]
  split at h
  ·rename_i s1 h1
   obtain ⟨T1,g1,g2⟩:=Dl hc hr h1
   rw [g2]
   exact Dl hc g1 h
  ·rename_i hne
   obtain ⟨T1,g1,g2⟩:=Dl hc hr h
   refine ⟨T1,g1,?_⟩
   rw [g2]
   cases e with
   | normal=>exact absurd h (hne st')
   | exit id=>rfl
   | ret=>rfl
 | .cond c a b,st,st',e,T,hr,h=>by
  change (match opT st.t c with|.prim (.bool t)=>bif t then codT P call k N a st else codT P call k N b st|_=>none)=_ at h
  rw [Tv]
  have hT:(st.at T).T=T:=rfl
  rw [hT,hr.op]
  split at h
  ·rename_i t ht
   rw [ht]
   simp only
   cases t with
   | true=>rw [if_pos rfl]; exact Dl hc hr h
   | false=>rw [if_neg (by simp)]; exact Dl hc hr h
  ·cases h
 | .block id a,st,st',e,T,hr,h=>by
  change (match codT P call k N a st with|some (.exit id',st')=>bif id' == id then some (Ex.normal,st') else some (Ex.exit id',st')|r=>r)=_ at h
  rw [P2]
  split at h
  ·rename_i id' s1 h1
   obtain ⟨T1,g1,g2⟩:=Dl hc hr h1
   rw [g2]
   simp only
   cases hi:id' == id with
   | true =>
    rw [hi] at h; cases h
    rw [if_pos (by simpa using hi)]; exact ⟨T1,g1,rfl⟩
   | false =>
    rw [hi] at h; cases h
    rw [if_neg (by simpa using hi)]; exact ⟨T1,g1,rfl⟩
  ·rename_i hne
   obtain ⟨T1,g1,g2⟩:=Dl hc hr h
   refine ⟨T1,g1,?_⟩
   rw [g2]
   cases e with
   | normal=>rfl
   | exit id=>exact absurd h (hne id st')
   | ret=>rfl
 | .loop a,st,st',e,T,hr,h=>by
  change Wp (Hs a) (codT P call k N a) k st=_ at h
  have key:∀ m (st:StT) (T:List AV),Rl N T st.t->Wp (Hs a) (codT P call k N a) m st=some (e,st')->∃ T',Rl N T' st'.t/\eL P (.loop a) (st.at T)=some (e,st'.at T'):=by
   intro m
   induction m with
   | zero=>intro st T hr h; cases h
   | succ m ih =>
    intro st T hr h
    change (match codT P call k N a st with|some (.normal,⟨t,S,tk,n⟩)=>Wp (Hs a) (codT P call k N a) m ⟨t,cutS (Hs a) st.S.length S,tk,n⟩|r=>r)=_ at h
    rw [Ty]
    split at h
    ·rename_i t S tk n h1
     obtain ⟨T1,g1,g2⟩:=Dl hc hr h1
     rw [g2]
     exact ih ⟨t,cutS (Hs a) st.S.length S,tk,n⟩ T1 g1 h
    ·rename_i hne
     obtain ⟨T1,g1,g2⟩:=Dl hc hr h
     refine ⟨T1,g1,?_⟩
     rw [g2]
     cases e with
     | normal=>exact absurd h (hne _ _ _ _)
     | exit id=>rfl
     | ret=>rfl
  exact key k st T hr h
 | .exit id,st,st',e,T,hr,h=>by
  cases h
  exact ⟨T,hr,Ai.2 ⟨0,rfl⟩⟩
 | .ret,st,st',e,T,hr,h=>by
  cases h
  exact ⟨T,hr,Ai.2 ⟨0,rfl⟩⟩
 | .label _,st,st',e,T,hr,h=>by
  cases h
  exact ⟨T,hr,Ai.2 ⟨0,rfl⟩⟩
 | .scope a,st,st',e,T,hr,h=>by
  obtain ⟨T1,g1,g2⟩:=Dl (c:=a) hc hr h
  obtain ⟨m,g2⟩:=Ai.1 g2
  exact ⟨T1,g1,Ai.2 ⟨m,g2⟩⟩
 | .rangeFunc _ _ _ _,_,_,_,_,_,h=>by cases h
 | .goto _,_,_,_,_,_,h=>by cases h
 | .refuse _,_,_,_,_,_,h=>by cases h
/- calls -/
noncomputable def reT (P:Program) (st:StT):ResultVar->Option AV
 | .tmp t=>some (gT (pth t) st.t)
 | .cell a ty=>ldA P ty (gT (pth a) st.t) st.S
noncomputable def ouT (P:Program) (fn:Func):Option (Ex × StT)->Option (AV × StT)
 | some (.normal,st)=>(match mapO (reT P st) fn.results.toList with|some l=>some (oneOf l,st)|none=>none)
 | some (.ret,st)=>(match mapO (reT P st) fn.results.toList with|some l=>some (oneOf l,st)|none=>none)
 | _=>none
inductive Fun0 where|bad|mk (fn:Func) (c:Code) (mv nl:Bool)
def fuT (P:Program) [Ext P] (f:FuncId):Fun0 :=
 match P.funcs[f]? with
 | some fn => (match fn.body with | some c => bif fn.name == "runtime.NumGoroutine" then .bad else .mk fn c (Ext.mv P f) (Dq c) | none => .bad)
 | none=>.bad
noncomputable def inT [Globs] (P:Program) [Ext P] (call:Ag) (k:Nat) (fn:Func) (c:Code) (args:List AV) (S:List Ent) (tk:List Nat) (n:Nat):Option (AV × StT) :=
 ouT P fn (codT P call k (args.length+(fn.ntmps - args.length)) c ⟨iniT 0 args .l,S,tk,n⟩)
noncomputable def ruT [Globs] (P:Program) [Ext P] (call:Ag) (k:Nat) (fn:Func) (c:Code) (args:List AV):Option AV :=
 match inT P call k fn c args [] [] 0 with
 | some (r,st)=>bif pure3 (w3 (fz3 0 st.S r)) then some (w3 (fz3 0 st.S r)) else none
 | none=>none
def isE:Option AV->Bool
 | some (.frz [] .unk)=>true
 | _=>false
noncomputable def rnT (run:List AV->Option AV):List AV->Option AV
 | .frz [] .unk :: l=>bif isE (run (.frz [] .nl :: l)) && isE (run (.frz [] .nn :: l)) then some (.frz [] .unk) else none
 | .frz (e :: es) .unk :: l=>run (.frz (e :: es) .unk :: l)
 | _=>none
noncomputable def boT [Globs] (P:Program) [Ext P] (tb:FuncId->List AV->Option AV) (k:Nat) (call:Ag):Ag:=fun f args S tk n =>
 match tb f (args.map w2) with
 | some r=>some (r,S,tk,n)
 | none=>bif Ext.on P f then Ext.call P f args S tk n else match fuT P f with
  | .bad=>none
  | .mk fn c mv nl=>bif mv then (match inT P call k fn c args S tk n with|some (r,⟨_,S,tk,n⟩)=>some (r,S,tk,n)|none=>none)
   else bif (args.map w2).all pure2 then (match (bif nl then rnT (ruT P call k fn c) (args.map w2) else ruT P call k fn c (args.map w2)) with|some r=>some (r,S,tk,n)|none=>none)
   else (match inT P call k fn c args S tk n with|some (r,⟨_,S',tk,n⟩)=>some (fz3 S.length S' r,S'.take S.length,tk,n)|none=>none)
noncomputable def evT [Globs] (P:Program) [Ext P] (tb:FuncId->List AV->Option AV) (k d:Nat):Ag:=Nat.rec (motive:=fun _=>Ag) (fun _ _ _ _ _=>none) (fun _ ih=>boT P tb k ih) d
theorem Ua [Globs] [Ext P] {call:Ag} (hc:CLe call (cL P)) {k:Nat} {fn:Func} {c:Code} {args:List AV} {S:List Ent} {tk:List Nat} {n:Nat} {r:AV} {st:StT} (h:inT P call k fn c args S tk n=some (r,st)):∃ T,RK P fn c ⟨args++bots (fn.ntmps - args.length),S,tk,n⟩ []=some (r,st.at T):=by
 unfold inT at h
 have res:∀ {T s x},Rl (args.length+(fn.ntmps - args.length)) T s.t->(match mapO (reT P s) fn.results.toList with|some l=>some (oneOf l,s)|none=>none)=some x->resA P fn.results.toList (s.at T)=some x.1/\x.2=s:=by
  intro T s x hr h
  have e:reT P s=resA1 P (s.at T):=funext fun v=>by cases v <;> simp [reT,resA1,StT.at,hr.get]
  unfold resA
  rw [<- e]
  split at h
  ·rename_i l hl; cases h; rw [hl]; exact ⟨rfl,rfl⟩
  ·cases h
 rw [Jr]
 unfold RK
 cases hx:codT P call k (args.length+(fn.ntmps - args.length)) c ⟨iniT 0 args .l,S,tk,n⟩ with
 | none=>rw [hx] at h; cases h
 | some x =>
  obtain ⟨e,s⟩:=x
  rw [hx] at h
  obtain ⟨T,g1,g2⟩:=Dl hc (T:=args++List.replicate (fn.ntmps - args.length) .bot) Rl.ini hx
  change eL P c ⟨args++List.replicate (fn.ntmps - args.length) .bot,S,tk,n⟩=_ at g2
  rw [g2]
  refine ⟨T,?_⟩
  cases e with
  | normal =>
   obtain ⟨q1,q2⟩:=res g1 h
   simp only at q2; subst q2
   simp only [cont,outA,q1]; rfl
  | ret =>
   obtain ⟨q1,q2⟩:=res g1 h
   simp only at q2; subst q2
   simp only [cont,outA,q1]; rfl
  | exit id=>cases h
theorem Qp [Globs] [Ext P] {call:Ag} (hc:CLe call (cL P)) {k:Nat} {fn:Func} {c:Code} {args:List AV} {r:AV} (h:ruT P call k fn c args=some r):pure3 r=true/\fin1 (RK P fn c ⟨args++bots (fn.ntmps - args.length),[],[],0⟩ [])=some r:=by
 unfold ruT at h
 split at h
 ·rename_i r' st hi
  cases hp:pure3 (w3 (fz3 0 st.S r')) with
  | false=>rw [hp] at h; cases h
  | true =>
   rw [hp] at h
   simp only [cond_true,Option.some.injEq] at h
   subst h
   obtain ⟨T,hT⟩:=Ua hc hi
   exact ⟨hp,by rw [hT]; rfl⟩
 ·cases h
theorem Xh {x:Option AV} (h:isE x=true):x=some (.frz [] .unk):=by
 unfold isE at h
 split at h
 ·rfl
 ·cases h
abbrev Tab [Globs] (P:Program) [Ext P] (tb:FuncId->List AV->Option AV):Prop:=∀ f args r,tb f (args.map w2)=some r->∀ S tk n,cL P f args S tk n=some (r,S,tk,n)
theorem W9 [Globs] [Ext P] {tb:FuncId->List AV->Option AV} (ht:Tab P tb) {k:Nat} {call:Ag} (hc:CLe call (cL P)):CLe (boT P tb k call) (cL P):=by
 intro f args S tk n r h
 unfold boT at h
 split at h
 ·rename_i r' bm
  cases h
  exact ht _ _ _ bm _ _ _
 cases dg:Ext.on P f with
 | true=>rw [dg] at h; exact V8 dg h
 | false =>
  rw [dg] at h
  simp only [cond_false] at h
  unfold fuT at h
  cases hf:P.funcs[f]? with
  | none=>rw [hf] at h; cases h
  | some fn =>
   rw [hf] at h
   simp only at h
   cases hb:fn.body with
   | none=>rw [hb] at h; cases h
   | some c =>
    rw [hb] at h
    simp only at h
    cases hn : fn.name == "runtime.NumGoroutine" with
    | true=>rw [hn] at h; cases h
    | false =>
     rw [hn] at h
     simp only [cond_false] at h
     cases hm:Ext.mv P f with
     | true =>
      rw [hm] at h
      simp only [cond_true] at h
      split at h
      ·rename_i r' t S1 tk1 n1 hi
       cases h
       obtain ⟨T,hT⟩:=Ua hc hi
       exact X9 hf (by rw [dg,hm]; rfl) hb hn rfl (by rw [hT]; rfl)
      ·cases h
     | false =>
      rw [hm] at h
      simp only [cond_false] at h
      have hx:(Ext.on P f || Ext.mv P f)=false:=by rw [dg,hm]; rfl
      cases hp:(args.map w2).all pure2 with
      | true =>
       rw [hp] at h
       simp only [cond_true] at h
       split at h
       ·rename_i r' bm
        cases h
        cases j6:Dq c with
        | false =>
         rw [j6] at bm
         obtain ⟨g1,g2⟩:=Qp hc bm
         rw [List.length_map] at g2
         exact Mq hf hx hb j6 hn rfl rfl hp _ _ _ g1 g2
        | true =>
         rw [j6] at bm
         simp only [cond_true] at bm
         unfold rnT at bm
         split at bm
         ·rename_i l hl
          cases hq:isE (ruT P call k fn c (.frz [] .nl :: l)) && isE (ruT P call k fn c (.frz [] .nn :: l)) with
          | false=>rw [hq] at bm; cases bm
          | true =>
           rw [hq] at bm
           simp only [cond_true,Option.some.injEq] at bm
           subst bm
           rw [Bool.and_eq_true] at hq
           have q6:l.all pure2=true:=by rw [hl] at hp; simp only [List.all_cons,Bool.and_eq_true] at hp; exact hp.2
           exact Mp hf hx hb j6 hn rfl hl q6 _ _ _ (Qp hc (Xh hq.1)).2 (Qp hc (Xh hq.2)).2
         ·rename_i e es l hl
          obtain ⟨g1,g2⟩:=Qp hc bm
          rw [hl] at hp
          exact Ls hf hx hb j6 hn rfl hl hp _ _ _ g1 g2
         ·cases bm
       ·cases h
      | false =>
       rw [hp] at h
       simp only [cond_false] at h
       split at h
       ·rename_i r' t S1 tk1 n1 hi
        cases h
        obtain ⟨T,hT⟩:=Ua hc hi
        exact Js hf hx hb hn rfl hp (by rw [hT]; rfl)
       ·cases h
theorem Xe [Globs] [Ext P] {tb:FuncId->List AV->Option AV} (ht:Tab P tb) {k:Nat} : ∀ {d:Nat},CLe (evT P tb k d) (cL P)
 | 0=>fun _ _ _ _ _ _ h=>by cases h
 | d+1=>W9 ht (Xe ht (d:=d))
noncomputable def ansT [Globs] (P:Program) [Ext P] (tb:FuncId->List AV->Option AV) (f:FuncId) (args:List AV) (r:AV):Bool :=
 match fuT P f with
 | .mk fn c false false=>!Ext.on P f && args.all pure2 && (match ruT P (evT P tb 2000 100) 2000 fn c args with|some r'=>eqA r' r|none=>false)
 | _=>false
theorem cL_T [Globs] [Ext P] {tb:FuncId->List AV->Option AV} (ht:Tab P tb) {f:FuncId} {args args':List AV} {r:AV} (ha:args.map w2=args') (h:ansT P tb f args' r=true) (S:List Ent) (tk:List Nat) (n:Nat):cL P f args S tk n=some (r,S,tk,n):=by
 have q7:Tab P (fun (_:FuncId) (_:List AV)=>(none:Option AV)):=fun _ _ _ h=>by cases h
 subst ha
 unfold ansT at h
 split at h
 ·rename_i fn c q8
  simp only [Bool.and_eq_true,Bool.not_eq_true'] at h
  obtain ⟨⟨dg,hp⟩,h⟩:=h
  split at h
  ·rename_i r' bm
   have:=Mx h
   subst this
   refine W9 q7 (Xe ht) f args S tk n _ (k:=2000) (call:=evT P tb 2000 100) ?_
   simp only [boT,dg,q8,cond_false,hp,cond_true,bm]
  ·cases h
 ·cases h
def lkT:List (List AV × AV)->List AV->Option AV
 | [],_=>none
 | (a,r) :: l,args=>bif eqM a args then some r else lkT l args
def tbT:List (Nat × List (List AV × AV))->FuncId->List AV->Option AV
 | [],_,_=>none
 | (g,l) :: t,f,args=>match (bif Nat.beq g f then lkT l args else none) with|some r=>some r|none=>tbT t f args
theorem Xi:∀ {l:List (List AV × AV)} {args:List AV} {r:AV},lkT l args=some r->(args,r) ∈ l
 | [],_,_,h=>by cases h
 | (a,r') :: l,args,r,h=>by
  simp only [lkT] at h
  cases he:eqM a args with
  | true=>rw [he] at h; cases h; rw [Gp he]; exact List.mem_cons_self ..
  | false=>rw [he] at h; exact List.mem_cons_of_mem _ (Xi h)
theorem Z6 {g:Nat} {l:List (List AV × AV)} {t:List (Nat × List (List AV × AV))} {f:FuncId} {args:List AV} {r:AV} (h:tbT ((g,l) :: t) f args=some r):(g=f/\(args,r) ∈ l)\/tbT t f args=some r:=by
 simp only [tbT] at h
 cases he:Nat.beq g f with
 | false=>rw [he] at h; exact .inr h
 | true =>
  rw [he] at h
  simp only [cond_true] at h
  split at h
  ·rename_i r' bm; cases h; exact .inl ⟨Nat.eq_of_beq_eq_true he,Xi bm⟩
  ·exact .inr h
theorem H7 [Globs] [Ext P]:Tab P (tbT []):=fun _ _ _ h=>by cases h
theorem Km [Globs] [Ext P] {tb:FuncId->List AV->Option AV} (ht:Tab P tb) {t t':List (Nat × List (List AV × AV))} (i6:Tab P (tbT t')) (h:(t.all fun e=>e.2.all fun a=>ansT P tb e.1 a.1 a.2)=true):Tab P (tbT (t++t')):=by
 induction t with
 | nil=>exact i6
 | cons e t ih =>
  obtain ⟨g,l⟩:=e
  rw [List.all_cons,Bool.and_eq_true] at h
  intro f args r hr S tk n
  rcases Z6 hr with ⟨rfl,hm⟩|hr
  ·have:=h.1
   rw [List.all_eq_true] at this
   exact cL_T ht rfl (this _ hm) S tk n
  ·exact ih h.2 f args r hr S tk n
end
end
section
def inB (n:Int):Bool:=decide (-1000000000000<=n/\n<=1000000000000)
theorem Lx {n:Int} : inB n=true↔-1000000000000<=n/\n<=1000000000000:=by simp [inB]
theorem drop_nil {α:Type} {l:List α} {n:Nat} (h:l.length<=n):l.drop n=[]:=List.drop_eq_nil_of_le h
end
section
open Go
def i64 (n:Int):Prop:=-9223372036854775808<=n/\n<=9223372036854775807
theorem Ax {n:Int} (h:i64 n):IntKind.i64.wrap n=n:=Go.IntWalk.i64_in n h
theorem D0 {i:Nat} (h:i<=1048576):IntKind.i64.wrap ((i:Int)+1)=((i+1:Nat):Int):=by rw [Ax (by unfold i64; omega)]; omega
theorem Nr {j:Nat} (h:j<=1048576):IntKind.i64.wrap (((j+1:Nat):Int) - 1)=(j:Int):=by rw [Ax (by unfold i64; omega)]; omega
theorem Db {α β:Type} (f:α->β):∀ (l:List α) (i:Nat),nth (l.map f) i=(nth l i).map f
 | [],_=>rfl
 | _ :: _,0=>rfl
 | _ :: l,i+1=>Db f l i
theorem Bl {α:Type} : ∀ {l:List α} {i:Nat} {x:α},nth l i=some x->l.drop i=x :: l.drop (i+1)
 | y :: l,0,x,h=>by simp only [nth,Option.some.injEq] at h; subst h; rfl
 | _ :: l,i+1,x,h=>Bl (l:=l) (i:=i) h
 | [],_,_,h=>by simp [nth] at h
theorem Lz {l:List Int} {i:Nat} {x:Int} (h:nth l i=some x):nth (l.map digC) i=some [.prim (.int .i64 x)]:=by rw [Db,h]; rfl
def numC (x:Int):AV:=.prim (.int .i64 x)
theorem Uq {l:List Int} {i:Nat} {x:Int} (h:nth l i=some x):nth ((l.map numC).drop i) 0=some (.prim (.int .i64 x)):=by
 have:nth (l.map numC) i=some (numC x):=by rw [Db,h]; rfl
 exact We this
theorem Qi {l:List Int} {i:Nat} {x v:Int} (h:nth l i=some x):over (l.map numC) i [.prim (.int .i64 v)]=some ((l.set i v).map numC):=by
 have h1:nth (l.map numC) i=some (numC x):=by rw [Db,h]; rfl
 rw [Wu h1]
 have:(.prim (.int .i64 v):AV)=numC v:=rfl
 rw [this,Uw,Ph]
theorem Rt {l:List Int} {n:Nat} (h:n<=l.length):D7 1 n (l.map numC)=some ((l.take n).map digC):=Lc h
theorem Ru (l:List Int):H6 (some (l.map digC))=.frz (l.map digC) .unk:=by
 unfold H6
 simp only
 rw [if_pos (by simp [digC,pure1,w1,Value.oneCell'])]
 congr 1
 simp [w1,digC]
theorem Hj {l:List Int} {n:Nat} (hn:n<=l.length) (hz:∀ j,n<=j->∀ x,nth l j=some x->x=0) (he:n=0\/∃ x,nth l (n - 1)=some x/\x≠0):A8 l=l.take n:=by
 rw [Kn n l hn hz]
 rcases he with rfl|⟨x,hx,h0⟩
 ·simp [A8]
 ·by_cases h1:n=0
  ·subst h1; simp [A8]
  ·refine Qt _ (n - 1) x ?_ (by simp; omega) h0
   rw [Aa,List.getElem?_take_of_lt (by omega),<- Aa]; exact hx
theorem Ww {n:Nat} (h:n≠0) (hl:n<=1000000):IntKind.i64.wrap ((n:Int) - 1)=((n - 1:Nat):Int):=by
 rw [Ax (by unfold i64; omega)]; omega
theorem T9 {l:List Int} {n:Nat} {x:Int} (hz:∀ j,n<=j->∀ x,nth l j=some x->x=0) (hx:nth l (n - 1)=some x) (gn:x=0):∀ j,n - 1<=j->∀ y,nth l j=some y->y=0:=fun j hj y hy=>by
 by_cases e:j=n - 1
 ·rw [e,hx] at hy; simp only [Option.some.injEq] at hy; omega
 ·exact hz j (by omega) y hy
theorem Qc (l:List Int):∀ j,l.length<=j->∀ x,nth l j=some x->x=0:=fun j hj x hx=>by have:=A2 hx; omega
theorem Xj:∀ {l r:List Int} {i:Nat} {x y:Int},l.length=r.length->okD l->okD r->nth l i=some x->nth r i=some y->x<y->(∀ j,i<j->nth l j=nth r j)->val l<val r
 | d :: l,e :: r,0,x,y,hl,h1,h2,hx,hy,ck,he=>by
  simp only [nth,Option.some.injEq] at hx hy; subst hx hy
  have:l=r:=by
   apply List.ext_getElem?
   intro j
   have:=he (j+1) (by omega)
   simp only [nth,Aa] at this; exact this
  subst this; simp only [val]; omega
 | d :: l,e :: r,i+1,x,y,hl,h1,h2,hx,hy,ck,he=>by
  have ih:=Xj (l:=l) (r:=r) (i:=i) (by simpa using hl) (fun z hz=>h1 z (by simp [hz])) (fun z hz=>h2 z (by simp [hz])) hx hy ck fun j hj=>he (j+1) (by omega)
  have g1:=h1 d (by simp)
  have g2:=h2 e (by simp)
  simp only [val]; omega
 | [],_,_,_,_,_,_,_,hx,_,_,_=>by simp [nth] at hx
 | _ :: _,[],_,_,_,_,_,_,_,hy,_,_=>by simp [nth] at hy
def cmpN (a b:Nat):Int:=if a<b then -1 else if b<a then 1 else 0
theorem Ju {a b:Nat} (h:(dig a).length<(dig b).length):a<b:=by
 have h1:=Da (n:=a) (k:=(dig a).length)
 have h2:=Da (n:=b) (k:=(dig a).length)
 have h3:¬ (dig b).length<=(dig a).length:=by omega
 rw [h2] at h3
 have:=h1.1 (Nat.le_refl _)
 omega
theorem Xc {a b i:Nat} {x y:Int} (hl:(dig a).length=(dig b).length) (hx:nth (dig a) i=some x) (hy:nth (dig b) i=some y) (h:x<y) (he:∀ j,i<j->nth (dig a) j=nth (dig b) j):a<b:=by
 have:=Xj hl (Bo a) (Bo b) hx hy h he
 rw [Bf,Bf] at this; omega
theorem Wb {a b:Nat} (he:∀ j,nth (dig a) j=nth (dig b) j):a=b:=by
 refine Yb (List.ext_getElem? fun j=>?_)
 rw [<- Aa,<- Aa]; exact he j
theorem Vh {n:Nat} (hl:n<=1000000):IntKind.i64.wrap ((n:Int) - 1)=(n:Int) - 1:=Ax (by unfold i64; omega)
theorem B2 {l:List Int} {i j:Nat} {x v:Int} (h:nth (l.set i v) j=some x):(j=i/\x=v)\/(j≠i/\nth l j=some x):=by
 rw [<- Ph] at h
 by_cases e:i=j
 ·subst e; exact .inl ⟨rfl,A9 h⟩
 ·rw [A0 e] at h; exact .inr ⟨fun h=>e h.symm,h⟩
theorem Nf {l:List Int} {i:Nat} {v:Int} (h:i<l.length):nth (l.set i v) i=some v:=by
 rw [Aa,List.getElem?_set_self h]
theorem Qh {l:List Int} (h:∀ j x,nth l j=some x->0<=x/\x<10000):okD l:=fun d hd=>by
 obtain ⟨j,hj⟩:=List.mem_iff_getElem?.1 hd
 exact h j d (by rw [Aa]; exact hj)
theorem Dy {l:List Int} (h:okD l) {j:Nat} {x:Int} (hx:nth l j=some x):0<=x/\x<10000:=h x (by rw [Aa] at hx; exact List.mem_of_getElem? hx)
def padL (l:List Int) (n:Nat):List Int:=l++List.replicate (n - l.length) 0
theorem Qj {l:List Int} {n:Nat} (h:l.length<=n):(padL l n).length=n:=by simp [padL]; omega
theorem Qk (l:List Int) (n:Nat):val (padL l n)=val l:=by rw [padL,Dk,Dd]; omega
theorem Us {l:List Int} {n j:Nat} {x:Int} (h:nth (padL l n) j=some x):nth l j=some x\/(l.length<=j/\x=0):=by
 rw [Aa,padL] at h
 by_cases hj:j<l.length
 ·rw [List.getElem?_append_left hj] at h; left; rw [Aa]; exact h
 ·rw [List.getElem?_append_right (by omega)] at h
  right
  refine ⟨by omega,?_⟩
  have:=List.mem_of_getElem? h
  exact (List.mem_replicate.1 this).2
theorem Vo (n:Nat):(List.replicate n [(.prim (.int .i64 0):AV)]).flatten=(List.replicate n (0:Int)).map numC:=by
 rw [Wk,List.map_replicate]; rfl
def zeroC (n:Nat):List AV:=(List.replicate n (0:Int)).map numC
theorem Zs {P:Program} {t:TypeId} {n:Nat} (hz:(Aq P t).bind (Ah P)=some [.prim (.int .i64 0)]) (hs:(Aq P t).bind (szOf P)=some 1) (hb:(Aq P t).bind (Lq P)=some 8) (hn:n<=1048576) :
  mkA P t (.prim (.int .i64 (n:Int))) (.prim (.int .i64 (n:Int)))=some (n,1,zeroC n):=by
 unfold mkA
 rw [hz,hs,hb,intN_cast]
 simp only [mkB]
 rw [if_pos ⟨Nat.le_refl _,hn,by omega,rfl⟩,Vo]; rfl
theorem Dz:∀ l:List Int,A8 l=l.take (A8 l).length
 | []=>rfl
 | d :: l=>by
  rw [A8]
  split
  ·rfl
  ·simp only [List.length_cons,List.take_succ_cons]
   rw [<- Dz l]
theorem Wv (n:Nat):(0:Int)<10000 ^ n:=Int.pow_pos (by omega)
structure Plus1 (a b la i:Nat) (out:List Int):Prop where
 len:out.length=la+1
 val:val out+10000 ^ i*val ((dig b).drop i)=(a+b:Nat)
 ok:∀ j x,nth out j=some x->0<=x/\(j<i->x<=19998)/\(i<=j->x<10000)/\(j=la->x=0)
theorem Plus1.start {a b:Nat} : Plus1 a b (dig a).length 0 (padL (dig a) ((dig a).length+1)):=by
 refine ⟨Qj (by omega),?_,fun j x hx=>?_⟩
 ·rw [Qk,Bf,List.drop_zero,Bf]; simp
 ·rcases Us hx with h|⟨h,rfl⟩
  ·have:=Dy (Bo a) h
   have hl:=A2 h
   exact ⟨this.1,by omega,fun _=>this.2,fun e=>by omega⟩
  ·exact ⟨by omega,by omega,by omega,fun _=>rfl⟩
theorem Plus1.step {a b la i:Nat} {out:List Int} {x d:Int} (h:Plus1 a b la i out) (hb:i<la) (hx:nth out i=some x) (hd:nth (dig b) i=some d):Plus1 a b la (i+1) (out.set i (x+d)):=by
 have jn:=Dy (Bo b) hd
 refine ⟨by rw [List.length_set]; exact h.len,?_,fun j y hy=>?_⟩
 ·have hv:=h.val
  rw [Bl hd,Go.Proofs.YthelkgdmgihhiaaGreat.val] at hv
  rw [Ej hx,<- hv,Int.pow_succ,Int.mul_add]
  have e1:x+d - x=d:=by omega
  rw [e1,Int.mul_comm d,Int.mul_assoc]; omega
 ·rcases B2 hy with ⟨rfl,rfl⟩|⟨hne,hy⟩
  ·have:=h.ok _ x hx
   exact ⟨by omega,by omega,by omega,by omega⟩
  ·have:=h.ok j y hy
   exact ⟨this.1,fun hj=>this.2.1 (by omega),fun hj=>this.2.2.1 (by omega),this.2.2.2⟩
structure Plus2 (v la i:Nat) (out:List Int):Prop where
 len:out.length=la+1
 val:val out=v
 ok:∀ j x,nth out j=some x->0<=x/\(j<i->x<10000)/\(j=i->x<=19999)/\(i<j->x<=19998)/\(j=la->x<=1/\(i<la->x=0))
theorem Plus2.start {a b la:Nat} {out:List Int} (h:Plus1 a b la (dig b).length out):Plus2 (a+b) la 0 out:=by
 refine ⟨h.len,?_,fun j x hx=>?_⟩
 ·have:=h.val
  rw [List.drop_length,Go.Proofs.YthelkgdmgihhiaaGreat.val] at this; omega
 ·have:=h.ok j x hx
  refine ⟨this.1,by omega,fun _=>?_,fun _=>?_,fun e=>⟨by have:=this.2.2.2 e; omega,fun _=>this.2.2.2 e⟩⟩
  ·rcases Nat.lt_or_ge j (dig b).length with hj|hj
   ·have:=this.2.1 hj; omega
   ·have:=this.2.2.1 hj; omega
  ·rcases Nat.lt_or_ge j (dig b).length with hj|hj
   ·exact this.2.1 hj
   ·have:=this.2.2.1 hj; omega
theorem Plus2.small {v la i:Nat} {out:List Int} {x:Int} (h:Plus2 v la i out) (hi:i<la) (hx:nth out i=some x) (h1:x<10000):Plus2 v la (i+1) out:=by
 refine ⟨h.len,h.val,fun j y hy=>?_⟩
 have:=h.ok j y hy
 refine ⟨this.1,fun hj=>?_,fun hj=>by have:=this.2.2.2.1 (by omega); omega,fun hj=>this.2.2.2.1 (by omega),fun e=>⟨(this.2.2.2.2 e).1,fun _=>(this.2.2.2.2 e).2 hi⟩⟩
 by_cases e:j=i
 ·subst e; rw [hx] at hy; simp only [Option.some.injEq] at hy; omega
 ·exact this.2.1 (by omega)
theorem Plus2.big {v la i:Nat} {out:List Int} {x y:Int} (h:Plus2 v la i out) (hi:i<la) (hx:nth out i=some x) (h1:10000<=x) (hy:nth (out.set i (x - 10000)) (i+1)=some y):Plus2 v la (i+1) ((out.set i (x - 10000)).set (i+1) (y+1)):=by
 refine ⟨by rw [List.length_set,List.length_set]; exact h.len,?_,fun j z hz=>?_⟩
 ·rw [Ej hy,Ej hx,<- h.val,Int.pow_succ]
  have e1:x - 10000 - x=-10000:=by omega
  have e2:y+1 - y=1:=by omega
  rw [e1,e2,Int.one_mul,Int.mul_comm (10000 ^ i) 10000,Int.neg_mul]; omega
 ·have ny:nth out (i+1)=some y:=by
   rcases B2 hy with ⟨e,-⟩|⟨-,hy⟩
   ·omega
   ·exact hy
  have hk:=h.ok i x hx
  have lz:=h.ok (i+1) y ny
  rcases B2 hz with ⟨rfl,rfl⟩|⟨hne,hz⟩
  ·refine ⟨by omega,by omega,fun _=>by have:=lz.2.2.2.1 (by omega); omega,by omega,fun e=>?_⟩
   have:=(lz.2.2.2.2 e).2 hi
   exact ⟨by omega,by omega⟩
  ·rcases B2 hz with ⟨rfl,rfl⟩|⟨nz,hz⟩
   ·exact ⟨by omega,fun _=>by omega,by omega,by omega,by omega⟩
   ·have:=h.ok j z hz
    exact ⟨this.1,fun hj=>this.2.1 (by omega),fun hj=>by omega,fun hj=>this.2.2.2.1 (by omega),fun e=>⟨(this.2.2.2.2 e).1,fun _=>(this.2.2.2.2 e).2 hi⟩⟩
theorem Plus2.done {v la:Nat} {out:List Int} (h:Plus2 v la la out):A8 out=dig v:=by
 have hk:okD out:=Qh fun j x hx=>by
  have:=h.ok j x hx
  have hl:=A2 hx
  rw [h.len] at hl
  refine ⟨this.1,?_⟩
  rcases Nat.lt_or_ge j la with hj|hj
  ·exact this.2.1 hj
  ·have:=(this.2.2.2.2 (by omega)).1; omega
 rw [Bv hk,h.val]; congr 1
theorem Xp {l:List Int} (h:okD l):val l<10000 ^ l.length:=by
 induction l with
 | nil=>simp [val]
 | cons d l ih =>
  have h1:=h d (by simp)
  have h2:=ih fun x hx=>h x (by simp [hx])
  simp only [val,List.length_cons,Int.pow_succ]; omega
structure Ku (a b la i:Nat) (out:List Int):Prop where
 len:out.length=la
 eqv:val out - 10000 ^ i*val ((dig b).drop i)=(a:Int) - b
 ok:∀ j x,nth out j=some x->-9999<=x/\x<=9999/\(i<=j->0<=x)
theorem Ku.start {a b:Nat} : Ku a b (dig a).length 0 (padL (dig a) (dig a).length):=by
 refine ⟨Qj (by omega),?_,fun j x hx=>?_⟩
 ·rw [Qk,Bf,List.drop_zero,Bf]; simp
 ·rcases Us hx with h|⟨h,rfl⟩
  ·have:=Dy (Bo a) h; exact ⟨by omega,by omega,fun _=>this.1⟩
  ·exact ⟨by omega,by omega,fun _=>by omega⟩
theorem Ku.step {a b la i:Nat} {out:List Int} {x d:Int} (h:Ku a b la i out) (hx:nth out i=some x) (hd:nth (dig b) i=some d):Ku a b la (i+1) (out.set i (x - d)):=by
 have jn:=Dy (Bo b) hd
 refine ⟨by rw [List.length_set]; exact h.len,?_,fun j y hy=>?_⟩
 ·have hv:=h.eqv
  rw [Bl hd,val] at hv
  rw [Ej hx,<- hv,Int.pow_succ,Int.mul_add]
  have e1:x - d - x=-d:=by omega
  rw [e1,Int.neg_mul,Int.mul_comm d,Int.mul_assoc]; omega
 ·rcases B2 hy with ⟨rfl,rfl⟩|⟨hne,hy⟩
  ·have:=h.ok _ x hx
   exact ⟨by have:=this.2.2 (Nat.le_refl _); omega,by omega,by omega⟩
  ·have:=h.ok j y hy
   exact ⟨this.1,this.2.1,fun hj=>this.2.2 (by omega)⟩
structure Gi (v:Nat) (la i:Nat) (out:List Int):Prop where
 len:out.length=la
 eqv:val out=v
 ok:∀ j x,nth out j=some x->x<=9999/\(j<i->0<=x)/\(j=i->-10000<=x)/\(i<j->-9999<=x)
theorem Gi.start {a b la:Nat} {out:List Int} (h:Ku a b la (dig b).length out) (hab:b<=a):Gi (a - b) la 0 out:=by
 refine ⟨h.len,?_,fun j x hx=>?_⟩
 ·have:=h.eqv
  rw [List.drop_length,val] at this; omega
 ·have:=h.ok j x hx; exact ⟨this.2.1,by omega,by omega,by omega⟩
theorem Gi.small {v la i:Nat} {out:List Int} {x:Int} (h:Gi v la i out) (hx:nth out i=some x) (h1:0<=x):Gi v la (i+1) out:=by
 refine ⟨h.len,h.eqv,fun j y hy=>?_⟩
 have:=h.ok j y hy
 refine ⟨this.1,fun hj=>?_,fun hj=>by have:=this.2.2.2 (by omega); omega,fun hj=>this.2.2.2 (by omega)⟩
 by_cases e:j=i
 ·subst e; rw [hx] at hy; simp only [Option.some.injEq] at hy; omega
 ·exact this.2.1 (by omega)
theorem Gi.neg {v la i:Nat} {out:List Int} {x y:Int} (h:Gi v la i out) (hx:nth out i=some x) (h1:x<0) (hy:nth (out.set i (x+10000)) (i+1)=some y):Gi v la (i+1) ((out.set i (x+10000)).set (i+1) (y - 1)):=by
 have ny:nth out (i+1)=some y:=by
  rcases B2 hy with ⟨e,-⟩|⟨-,hy⟩
  ·omega
  ·exact hy
 have hk:=h.ok i x hx
 have lz:=h.ok (i+1) y ny
 refine ⟨by rw [List.length_set,List.length_set]; exact h.len,?_,fun j z hz=>?_⟩
 ·rw [Ej hy,Ej hx,<- h.eqv,Int.pow_succ]
  have e1:x+10000 - x=10000:=by omega
  have e2:y - 1 - y=-1:=by omega
  rw [e1,e2,Int.mul_comm (10000 ^ i) 10000]; omega
 ·rcases B2 hz with ⟨rfl,rfl⟩|⟨hne,hz⟩
  ·exact ⟨by omega,by omega,fun _=>by have:=lz.2.2.2 (by omega); omega,by omega⟩
  ·rcases B2 hz with ⟨rfl,rfl⟩|⟨nz,hz⟩
   ·exact ⟨by omega,fun _=>by have:=hk.2.2.1 rfl; omega,by omega,by omega⟩
   ·have:=h.ok j z hz
    exact ⟨this.1,fun hj=>this.2.1 (by omega),fun hj=>by omega,fun hj=>this.2.2.2 (by omega)⟩
theorem Gi.done {v la:Nat} {out:List Int} (h:Gi v la la out):A8 out=dig v:=by
 have hk:okD out:=Qh fun j x hx=>by
  have:=h.ok j x hx
  have hl:=A2 hx
  rw [h.len] at hl
  exact ⟨this.2.1 hl,by omega⟩
 rw [Bv hk,h.eqv]; congr 1
theorem Ji (l:List Int) (i:Nat):val (l.drop i)=(nth l i).getD 0+10000*val (l.drop (i+1)):=by
 by_cases h:i<l.length
 ·obtain ⟨x,hx⟩:=Aj h
  rw [Bl hx,hx]; rfl
 ·rw [List.drop_eq_nil_of_le (by omega),List.drop_eq_nil_of_le (by omega),Aa,List.getElem?_eq_none (by omega)]; rfl
theorem Jc (a i:Nat):0<=(nth (dig a) i).getD 0/\(nth (dig a) i).getD 0<10000:=by
 cases h:nth (dig a) i with
 | none=>simp
 | some x=>exact Dy (Bo a) h
theorem Jg {l:List Int} {x:Int} (h:okD l) (h0:0<=x) (h1:x<10000):okD (l++[x]):=fun d hd=>by
 rcases List.mem_append.1 hd with hd|hd
 ·exact h d hd
 ·simp at hd; subst hd; exact ⟨h0,h1⟩
theorem Jj (l:List Int) (x:Int):val (l++[x])=val l+10000 ^ l.length*x:=by rw [Dk]; simp [val]
theorem Ge (i:Nat) (x r:Int):(10000:Int) ^ i*x+10000 ^ (i+1)*r=10000 ^ i*(x+10000*r):=by rw [Int.pow_succ,Int.mul_add,Int.mul_assoc]
structure Sum1 (a b i:Nat) (c:Int) (out:List Int):Prop where
 len:out.length=i
 ok:okD out
 c0:0<=c/\c<=1
 eqv:val out+10000 ^ i*(c+val ((dig a).drop i)+val ((dig b).drop i))=(a+b:Nat)
theorem Sum1.step {a b i:Nat} {c n:Int} {out:List Int} (h:Sum1 a b i c out) (hn:n=(nth (dig a) i).getD 0+(nth (dig b) i).getD 0+c):Sum1 a b (i+1) (n.tdiv 10000) (out++[n.tmod 10000])/\0<=n/\n<=19999/\0<=n.tmod 10000/\n.tmod 10000<10000:=by
 have h1:=Jc a i
 have h2:=Jc b i
 have h3:=h.c0
 have e1:n.tdiv 10000=n / 10000:=Int.tdiv_eq_ediv_of_nonneg (by omega)
 have e2:n.tmod 10000=n % 10000:=Int.tmod_eq_emod_of_nonneg (by omega)
 refine ⟨⟨by simp [h.len],Jg h.ok (by omega) (by omega),by omega,?_⟩,by omega,by omega,by omega,by omega⟩
 have hv:=h.eqv
 rw [Ji (dig a) i,Ji (dig b) i] at hv
 have:n.tmod 10000+10000*(n.tdiv 10000+val ((dig a).drop (i+1))+val ((dig b).drop (i+1)))=c+((nth (dig a) i).getD 0+10000*val ((dig a).drop (i+1)))+((nth (dig b) i).getD 0+10000*val ((dig b).drop (i+1))):=by omega
 rw [Jj,h.len,Int.add_assoc,Ge,this]
 exact hv
theorem Sum1.done {a b i:Nat} {c:Int} {out:List Int} (h:Sum1 a b i c out) (h1:(dig a).length<=i) (h2:(dig b).length<=i) (h3:c=0):A8 out=dig (a+b):=by
 have hv:=h.eqv
 rw [List.drop_eq_nil_of_le h1,List.drop_eq_nil_of_le h2,h3] at hv
 simp only [val] at hv
 rw [Bv h.ok]
 congr 1; omega
structure Dif1 (a b i:Nat) (c:Int) (out:List Int):Prop where
 len:out.length=i
 ok:okD out
 c0:0<=c/\c<=1
 eqv:val out+10000 ^ i*(val ((dig a).drop i) - val ((dig b).drop i) - c)=(a:Int) - b
theorem Dif1.step {a b i:Nat} {c n d:Int} {out:List Int} (h:Dif1 a b i c out) (hd:nth (dig a) i=some d) (hn:n=d - (nth (dig b) i).getD 0 - c):(n<0->Dif1 a b (i+1) 1 (out++[n+10000]))/\(¬ n<0->Dif1 a b (i+1) 0 (out++[n]))/\-10000<=n/\n<10000:=by
 have h1:=Dy (Bo a) hd
 have h2:=Jc b i
 have h3:=h.c0
 have hv:=h.eqv
 rw [Ji (dig b) i,Bl hd,val] at hv
 refine ⟨fun li=>⟨by simp [h.len],Jg h.ok (by omega) (by omega),by omega,?_⟩,fun li=>⟨by simp [h.len],Jg h.ok (by omega) (by omega),by omega,?_⟩,by omega,by omega⟩
 ·have:n+10000+10000*(val ((dig a).drop (i+1)) - val ((dig b).drop (i+1)) - 1)=d+10000*val ((dig a).drop (i+1)) - ((nth (dig b) i).getD 0+10000*val ((dig b).drop (i+1))) - c:=by omega
  rw [Jj,h.len,Int.add_assoc,Ge,this]
  exact hv
 ·have:n+10000*(val ((dig a).drop (i+1)) - val ((dig b).drop (i+1)) - 0)=d+10000*val ((dig a).drop (i+1)) - ((nth (dig b) i).getD 0+10000*val ((dig b).drop (i+1))) - c:=by omega
  rw [Jj,h.len,Int.add_assoc,Ge,this]
  exact hv
theorem Wn {a b:Nat} (h:b<=a):(dig b).length<=(dig a).length:=by
 rw [Da]
 have:=(Da (n:=a) (k:=(dig a).length)).1 (Nat.le_refl _)
 omega
theorem Dif1.done {a b:Nat} {c:Int} {out:List Int} (h:Dif1 a b (dig a).length c out) (hab:b<=a):A8 out=dig (a - b):=by
 have hv:=h.eqv
 have h3:=h.c0
 rw [List.drop_length,List.drop_eq_nil_of_le (Wn hab)] at hv
 simp only [val] at hv
 have hlt:=Xp h.ok
 rw [h.len] at hlt
 have hp:=Wv (dig a).length
 have hc:c=0:=by
  rcases Int.lt_or_le c 1 with h1|h1
  ·omega
  ·have:c=1:=by omega
   subst this
   have:(10000:Int) ^ (dig a).length*(0 - 0 - 1)=-(10000 ^ (dig a).length):=by omega
   omega
 subst hc
 rw [Bv h.ok]
 congr 1
 have:(10000:Int) ^ (dig a).length*(0 - 0 - 0)=0:=by simp
 omega
theorem L0 {l:List Int} {i:Nat} {x:Int} (h:okD l) (h0:0<=x) (h1:x<10000):okD (l.set i x):=fun d hd=>by
 rcases List.mem_or_eq_of_mem_set hd with hd|rfl
 ·exact h d hd
 ·exact ⟨h0,h1⟩
structure Mul1 (X Y i:Nat) (out:List Int):Prop where
 len:out.length=(dig X).length+(dig Y).length
 ok:okD out
 zero:∀ j x,i+(dig Y).length<=j->nth out j=some x->x=0
 eqv:val out+10000 ^ i*(val ((dig X).drop i)*Y)=X*Y
theorem Mul1.start (X Y:Nat):Mul1 X Y 0 (List.replicate ((dig X).length+(dig Y).length) 0):=by
 have hz:∀ (n j:Nat) (x:Int),nth (List.replicate n (0:Int)) j=some x->x=0:=fun n j x h=>by
  rw [Aa] at h
  exact (List.mem_replicate.1 (List.mem_of_getElem? h)).2
 refine ⟨by simp,Qh fun j x hx=>by rw [hz _ _ _ hx]; omega,fun j x _ hx=>hz _ _ _ hx,?_⟩
 rw [Dd,List.drop_zero,Bf]; simp
structure Mul2 (X Y i k:Nat) (v d c:Int) (out:List Int):Prop where
 len:out.length=(dig X).length+(dig Y).length
 ok:okD out
 zero:∀ j x,i+(dig Y).length<=j->(k<=(dig Y).length\/i+(dig Y).length<j)->nth out j=some x->x=0
 c0:0<=c/\c<10000
 eqv:val out+10000 ^ (i+k)*(c+d*val ((dig Y).drop k))=v
theorem Mul2.start {X Y i:Nat} {d:Int} {out:List Int} (h:Mul1 X Y i out):Mul2 X Y i 0 (val out+10000 ^ i*(d*Y)) d 0 out :=
 ⟨h.len,h.ok,fun j x hj _ hx=>h.zero j x hj hx,by omega,by rw [List.drop_zero,Bf]; simp⟩
theorem Mul2.step {X Y i k:Nat} {v d c x n:Int} {out:List Int} (h:Mul2 X Y i k v d c out) (hk:k<=(dig Y).length) (hd:0<=d/\d<10000) (hx:nth out (i+k)=some x) (hn:n=c+x+d*(nth (dig Y) k).getD 0) :
  Mul2 X Y i (k+1) v d (n.tdiv 10000) (out.set (i+k) (n.tmod 10000))/\0<=n/\n<=99999999/\n.tdiv 10000=n / 10000:=by
 have h1:=Jc Y k
 have h2:=Dy h.ok hx
 have h3:=h.c0
 have q9:0<=d*(nth (dig Y) k).getD 0:=Int.mul_nonneg hd.1 h1.1
 have mz:d*(nth (dig Y) k).getD 0<=9999*9999:=Int.mul_le_mul (by omega) (by omega) h1.1 (by omega)
 have e1:n.tdiv 10000=n / 10000:=Int.tdiv_eq_ediv_of_nonneg (by omega)
 have e2:n.tmod 10000=n % 10000:=Int.tmod_eq_emod_of_nonneg (by omega)
 refine ⟨⟨by rw [List.length_set]; exact h.len,L0 h.ok (by omega) (by omega),fun j y hj hjk hy=>?_,by omega,?_⟩,by omega,by omega,e1⟩
 ·rcases B2 hy with ⟨rfl,rfl⟩|⟨hne,hy⟩
  ·have hkk:k=(dig Y).length:=by omega
   omega
  ·exact h.zero j y hj (by omega) hy
 ·have hv:=h.eqv
  rw [Ji (dig Y) k] at hv
  have cu:d*((nth (dig Y) k).getD 0+10000*val ((dig Y).drop (k+1)))=d*(nth (dig Y) k).getD 0+10000*(d*val ((dig Y).drop (k+1))):=by
   rw [Int.mul_add,Int.mul_left_comm]
  rw [cu] at hv
  rw [Ej hx,Int.add_assoc,<- Nat.add_assoc,Int.mul_comm (n.tmod 10000 - x),Ge,<- hv]
  congr 2
  omega
theorem Mul2.next {X Y i:Nat} {d c x:Int} {o out:List Int} (h:Mul2 X Y i (dig Y).length (val o+10000 ^ i*(d*Y)) d c out) (h0:Mul1 X Y i o) (hd:nth (dig X) i=some d) (hx:nth out (i+(dig Y).length)=some x):x=0/\Mul1 X Y (i+1) (out.set (i+(dig Y).length) (x+c)):=by
 have gn:=h.zero _ x (Nat.le_refl _) (.inl (Nat.le_refl _)) hx
 subst gn
 have h3:=h.c0
 refine ⟨rfl,by rw [List.length_set]; exact h.len,L0 h.ok (by omega) (by omega),fun j y hj hy=>?_,?_⟩
 ·rcases B2 hy with ⟨rfl,rfl⟩|⟨hne,hy⟩
  ·omega
  ·exact h.zero j y (by omega) (.inl (Nat.le_refl _)) hy
 ·have hv:=h.eqv
  rw [List.drop_length] at hv
  simp only [val,Int.mul_zero,Int.add_zero] at hv
  have o8:=h0.eqv
  rw [Bl hd,val] at o8
  rw [Ej hx,<- o8]
  have e1:(0:Int)+c - 0=c:=by omega
  rw [e1,Int.mul_comm c,hv,Int.add_assoc,Ge]
  congr 2
  rw [Int.add_mul,Int.mul_assoc]
theorem Mul1.done {X Y:Nat} {out:List Int} (h:Mul1 X Y (dig X).length out):A8 out=dig (X*Y):=by
 have hv:=h.eqv
 rw [List.drop_length] at hv
 simp only [val,Int.zero_mul,Int.mul_zero,Int.add_zero] at hv
 rw [Bv h.ok,hv]
 congr 1
end
section
open Go
end
section
open Go
end
section
open Go Tryz
section
variable (S:List Ent) (tk:List Nat) (k:Nat)
theorem Uy (a b:Nat) (ha:(dig a).length<=1000000) (hb:(dig b).length<=1000000):cL prog 233 [digA (dig a),digA (dig b)] S tk k=some (.int (cmpN a b),S,tk,k):=by
 refine opP func233 ntmps233 ?_
 by_cases hl:(dig a).length=(dig b).length
 case neg =>
  have d1:(((dig a).length:Int) != ((dig b).length:Int))=true:=by simp; omega
  rcases Nat.lt_or_ge (dig a).length (dig b).length with h|h
  ·have d2:decide (((dig a).length:Int)<((dig b).length:Int))=true:=by simpa using h
   have:=Ju h
   simp (maxSteps:=10^6)+contextual(disch:=try exact dqd)only[ev0,simprocAttr,AV.int,AV.bool,AV.str,results233,digA,d1,d2]
   simp [cmpN,this]
  ·have d2:decide (((dig a).length:Int)<((dig b).length:Int))=false:=by simp; omega
   have:=Ju (a:=b) (b:=a) (by omega)
   simp (maxSteps:=10^6)+contextual(disch:=try exact dqd)only[ev0,simprocAttr,AV.int,AV.bool,AV.str,results233,digA,d1,d2]
   rw [cmpN,if_neg (by omega),if_pos this]
 have d1:(((dig a).length:Int) != ((dig b).length:Int))=false:=by simp; omega
 have d3:=Vh ha
 simp (maxSteps:=10^6)+contextual(disch:=try exact dqd)only[ev0,simprocAttr,AV.int,AV.bool,AV.str,results233,digA,d1,d3]
 refine loop1 (P:=prog) (fun x st=>st.T.length=41/\(x<=(dig a).length)/\(∀ j,x<=j->nth (dig a) j=nth (dig b) j)/\getT st.T 0=digA (dig a)/\getT st.T 1=digA (dig b)/\getT st.T 5=.int ((x:Int) - 1)/\st.S=[]) (fun x=>x) (fun x=>.int (cmpN a b)) ((dig a).length) ?_ ?_
 case refine_2=>exact ⟨rfl,Nat.le_refl _,fun j hj=>by rw [Aa,Aa,List.getElem?_eq_none hj,List.getElem?_eq_none (by omega)],rfl,rfl,rfl,rfl⟩
 rintro n ⟨T,S',tk',n'⟩ ⟨hl,hn,he,e0,e1,e5,eS⟩ IH
 subst eS
 obtain ⟨g,hg,hT⟩:=Ep hl
 rw [hg] at e0 e1 e5
 subst hT
 clear hg hl
 by_cases h0:n=0
 ·have d2:decide ((n:Int) - 1 >= 0)=false:=by simp; omega
  have:=Wb fun j=>he j (by omega)
  subst this
  simp (maxSteps:=10^6)+contextual(disch:=try exact dqd)only[ev0,simprocAttr,AV.int,AV.bool,AV.str,results233,e0,e1,e5,d2,digA]
  simp [cmpN]
 ·have d2:decide ((n:Int) - 1 >= 0)=true:=by simp; omega
  have hi:(n:Int) - 1=((n - 1:Nat):Int):=by omega
  obtain ⟨x,hx⟩:=Aj (show n - 1<(dig a).length by omega)
  obtain ⟨y,hy⟩:=Aj (show n - 1<(dig b).length by omega)
  have hx':=Lz hx
  have fi:=Lz hy
  have fv:∀ j,n - 1<j->nth (dig a) j=nth (dig b) j:=fun j hj=>he j (by omega)
  have hp:=Vh (n:=n - 1) (by omega)
  rw [hi] at e5 d2
  by_cases ck:x=y
  ·have d4:(x != y)=false:=by simpa using ck
   simp (maxSteps:=10^6)+contextual(disch:=try exact dqd)only[ev0,simprocAttr,AV.int,AV.bool,AV.str,results233,e0,e1,e5,d2,d4,digA,hx',fi,hp]
   exact IH (n - 1) _ (by first|omega|(simp only; omega)) ⟨rfl,by first|omega|(dsimp only; omega),fun j hj=>by by_cases e:j=n - 1; (· rw [e,hx,hy,ck]); exact fv j (by first|omega|(dsimp only; omega)),(by first|rfl|simp only [getT,List.map_append,List.map_cons,List.map_nil,digC,digA]),(by first|rfl|simp only [getT,List.map_append,List.map_cons,List.map_nil,digC,digA]),(by first|rfl|simp only [getT,List.map_append,List.map_cons,List.map_nil,digC,digA]),(by first|rfl|simp only [getT,List.map_append,List.map_cons,List.map_nil,digC,digA])⟩
  ·have d4:(x != y)=true:=by simpa using ck
   by_cases h1:x<y
   ·have d5:decide (x<y)=true:=by simpa using h1
    have:=Xc hl hx hy h1 fv
    simp (maxSteps:=10^6)+contextual(disch:=try exact dqd)only[ev0,simprocAttr,AV.int,AV.bool,AV.str,results233,e0,e1,e5,d2,d4,d5,digA,hx',fi,hp]
    simp [cmpN,this]
   ·have d5:decide (x<y)=false:=by simpa using h1
    have:=Xc hl.symm hy hx (by omega) fun j hj=>(fv j hj).symm
    simp (maxSteps:=10^6)+contextual(disch:=try exact dqd)only[ev0,simprocAttr,AV.int,AV.bool,AV.str,results233,e0,e1,e5,d2,d4,d5,digA,hx',fi,hp]
    rw [cmpN,if_neg (by omega),if_pos this]
theorem Nk (l:List Int) (id ep:Nat) (hlen:l.length<=1000000) (h:entAt S id ep=some (l.map numC)):cL prog 234 [.sref id ep 0 l.length 1] S tk k=some (.sref id ep 0 (A8 l).length 1,S,tk,k):=by
 refine opS func234 ntmps234 ?_
 have hid:id<S.length:=by
  obtain ⟨e,h1,-⟩:=Bd h
  exact A2 h1
 simp (maxSteps:=10^6)+contextual(disch:=try exact dqd)only[evs0,simprocAttr,AV.int,AV.bool,AV.str,results234]
 refine loopS (P:=prog) (fun x st=>st.T.length=21/\(x<=l.length)/\(∀ j,x<=j->∀ x,nth l j=some x->x=0)/\getT st.T 0=.sref id ep 0 x 1/\st.S=S/\st.tk=tk/\st.n=k) (fun x=>x) (fun x=>(.sref id ep 0 (A8 l).length 1,S,tk,k)) (l.length) ?_ ?_
 case refine_2=>exact ⟨rfl,Nat.le_refl _,Qc l,rfl,rfl,rfl,rfl⟩
 rintro n ⟨T,S',tk',n'⟩ ⟨hl,hn,hz,e0,eS,eT,eN⟩ IH
 subst eS eT eN
 obtain ⟨g,hg,hT⟩:=Ep hl
 rw [hg] at e0
 subst hT
 clear hg hl
 by_cases h0:n=0
 ·have d1:decide ((n:Int) > 0)=false:=by simp; omega
  have ht:=Hj hn hz (.inl h0)
  simp (maxSteps:=10^6)+contextual(disch:=try exact dqd)only[evs0,simprocAttr,AV.int,AV.bool,AV.str,results234,e0,d1]
  rw [ht]; simp [h0]
 ·have d1:decide ((n:Int) > 0)=true:=by simp; omega
  have hp:=Ww h0 (by omega)
  have bu:n - 1<l.length:=by omega
  have ca:n - 1<n:=by omega
  have jh:n - 1<=n:=by omega
  obtain ⟨x,hx⟩:=Aj bu
  have hx':=Uq hx
  by_cases gn:x=0
  ·have d2:(x == 0)=true:=by simpa using gn
   simp (maxSteps:=10^6)+contextual(disch:=try exact dqd)only[evs0,simprocAttr,AV.int,AV.bool,AV.str,results234,e0,d1,d2,hp,hx',h,bu,ca,jh,Nat.mul_one,Hh,bound,intN_cast,Nat.le_refl,Nat.zero_le,Nat.zero_mul,Nat.sub_zero,Nat.add_zero]
   exact IH (n - 1) _ (by first|omega|(simp only; omega)) ⟨rfl,by first|omega|(dsimp only; omega),T9 hz hx gn,by and_intros <;> first|rfl|simp only [getT,List.map_append,List.map_cons,List.map_nil,digC,digA]⟩
  ·have d2:(x == 0)=false:=by simpa using gn
   have ht:=Hj hn hz (.inr ⟨x,hx,gn⟩)
   simp (maxSteps:=10^6)+contextual(disch:=try exact dqd)only[evs0,simprocAttr,AV.int,AV.bool,AV.str,results234,e0,d1,d2,hp,hx',h,bu,ca,Nat.mul_one,Hh,bound,intN_cast,hn,Nat.le_refl,Nat.zero_le,Nat.zero_mul,Nat.sub_zero,Nat.add_zero]
   rw [ht]; simp; omega
set_option maxRecDepth 100000 in
theorem Pi (X Y:Nat) (ha:(dig X).length<=100000) (hb:(dig Y).length<=100000):cL prog 236 [digA (dig X),digA (dig Y)] S tk k=some (digA (dig (X*Y)),S,tk,k):=by
 refine opP func236 ntmps236 ?_
 have hw:IntKind.i64.wrap (((dig X).length:Int)+((dig Y).length:Int))=(((dig X).length+(dig Y).length:Nat):Int):=by rw [Ax (by unfold i64; omega)]; omega
 have ra:(Aq prog 58).bind (Lq prog)=some 8:=by kernel_rfl
 have f7:=Zs (P:=prog) (t:=58) (n:=(dig X).length+(dig Y).length) (by simp only [tys,Option.bind_some]) (by simp only [tys,Option.bind_some]) ra (by omega)
 simp (maxSteps:=10^6)+contextual(disch:=try exact dqd)only[ev0,simprocAttr,AV.int,AV.bool,AV.str,results236,digA,hw,f7]
 refine loop1 (P:=prog) (fun x st=>st.T.length=67/\(x.1<=(dig X).length)/\(Mul1 X Y x.1 x.2)/\getT st.T 0=digA (dig X)/\getT st.T 1=digA (dig Y)/\getT st.T 5=.sref 0 0 0 ((dig X).length+(dig Y).length) 1/\getT st.T 18=digA (dig X)/\getT st.T 19=.int (dig X).length/\getT st.T 20=.int (x.1:Nat)/\st.S=[⟨0,x.2.map numC⟩]) (fun x=>(dig X).length - x.1) (fun x=>digA (dig (X*Y))) (0,List.replicate ((dig X).length+(dig Y).length) 0) ?_ ?_
 case refine_2=>exact ⟨rfl,Nat.zero_le _,Mul1.start X Y,rfl,rfl,rfl,rfl,rfl,rfl,rfl⟩
 rintro ⟨i,out⟩ ⟨T,S',tk',n'⟩ ⟨hl,hi,hp,e0,e1,e5,e18,e19,e20,eS⟩ IH
 simp only at hi hp e0 e1 e5 e18 e19 e20 eS
 subst eS
 obtain ⟨g,hg,hT⟩:=Ep hl
 rw [hg] at e0 e1 e5 e18 e19 e20
 subst hT
 clear hg hl
 have OUT:=IH
 clear IH
 have hlen:=hp.len
 by_cases hlt:i<(dig X).length
 ·have d2:decide ((i:Int)<((dig X).length:Int))=true:=by simpa using hlt
  obtain ⟨d,hd⟩:=Aj hlt
  have cf:=Lz hd
  have jn:=Dy (Bo X) hd
  have ek:=D0 (i:=i) (by omega)
  have ai:=Mul2.start (d:=d) hp
  simp (maxSteps:=10^6)+contextual(disch:=try exact dqd)only[ev0,simprocAttr,AV.int,AV.bool,AV.str,results236,digA,e0,e1,e5,e18,e19,e20,d2,cf]
  refine loop1 (P:=prog) (fun x st=>st.T.length=67/\(x.1<=(dig Y).length)/\(Mul2 X Y i x.1 (val out+10000 ^ i*(d*Y)) d x.2.1 x.2.2)/\getT st.T 0=digA (dig X)/\getT st.T 1=digA (dig Y)/\getT st.T 5=.sref 0 0 0 ((dig X).length+(dig Y).length) 1/\getT st.T 6=.int (i:Nat)/\getT st.T 7=.int d/\getT st.T 8=.int x.2.1/\getT st.T 18=digA (dig X)/\getT st.T 19=.int (dig X).length/\getT st.T 20=.int (i:Nat)/\getT st.T 25=digA (dig Y)/\getT st.T 26=.int (dig Y).length/\getT st.T 27=.int (x.1:Nat)/\st.S=[⟨0,x.2.2.map numC⟩]) (fun x=>(dig Y).length - x.1) (fun x=>digA (dig (X*Y))) (0,0,out) ?_ ?_
  case refine_2=>exact ⟨rfl,Nat.zero_le _,ai,rfl,rfl,rfl,rfl,rfl,rfl,rfl,rfl,rfl,rfl,rfl,rfl,rfl⟩
  rintro ⟨m,c,o2⟩ ⟨T,S',tk',n'⟩ ⟨hl,hm,hq,e0,e1,e5,e6,e7,e8,e18,e19,e20,e25,e26,e27,eS⟩ IH
  simp only at hm hq e0 e1 e5 e6 e7 e8 e18 e19 e20 e25 e26 e27 eS
  subst eS
  obtain ⟨g,hg,hT⟩:=Ep hl
  rw [hg] at e0 e1 e5 e6 e7 e8 e18 e19 e20 e25 e26 e27
  subst hT
  clear hg hl
  have o9:=hq.len
  have hc0:=hq.c0
  have re:=D0 (i:=m) (by omega)
  obtain ⟨x,hx⟩:=Aj (show i+m<o2.length by omega)
  have hx':=Uq hx
  have b4:i+m<(dig X).length+(dig Y).length:=by omega
  have pb:IntKind.i64.wrap ((i:Int)+(m:Int))=((i+m:Nat):Int):=by rw [Ax (by unfold i64; omega)]; omega
  have hxk:=Dy hq.ok hx
  by_cases cm:m<(dig Y).length
  ·have d3:decide ((m:Int)<((dig Y).length:Int))=true:=by simpa using cm
   obtain ⟨y,hy⟩:=Aj cm
   have fi:=Lz hy
   have hyk:=Dy (Bo Y) hy
   obtain ⟨n,hn⟩:∃ n,n=c+x+d*y:=⟨_,rfl⟩
   obtain ⟨hq2,li,bu,ca⟩:=hq.step (n:=n) (by omega) jn hx (by rw [hn,hy]; rfl)
   have q9:0<=d*y:=Int.mul_nonneg jn.1 hyk.1
   have hw1:IntKind.i64.wrap (d*y)=d*y:=Ax (by unfold i64; omega)
   have hw2:IntKind.i64.wrap (x+d*y)=x+d*y:=Ax (by unfold i64; omega)
   have hw3:IntKind.i64.wrap (x+d*y+c)=n:=by rw [hn,Ax (by unfold i64; omega)]; omega
   have rg:IntKind.i64.wrap (n.tdiv 10000)=n.tdiv 10000:=by rw [ca,Ax (by unfold i64; omega)]
   have kx:¬ ((10000:Int)=0):=by omega
   have i5:=Qi (v:=n.tmod 10000) hx
   simp (maxSteps:=10^6)+contextual(disch:=try exact dqd)only[ev0,simprocAttr,AV.int,AV.bool,AV.str,results236,digA,e0,e1,e5,e6,e7,e8,e18,e19,e20,e25,e26,e27,d3,fi,re,pb,b4,hx',hw1,hw2,hw3,rg,kx,i5,Nat.mul_one]
   exact IH (m+1,n.tdiv 10000,o2.set (i+m) (n.tmod 10000)) _ (by first|omega|(simp only; omega)) ⟨rfl,by first|omega|(dsimp only; omega),hq2,(by first|rfl|simp only [getT,List.map_append,List.map_cons,List.map_nil,digC,digA]),(by first|rfl|simp only [getT,List.map_append,List.map_cons,List.map_nil,digC,digA]),(by first|rfl|simp only [getT,List.map_append,List.map_cons,List.map_nil,digC,digA]),(by first|rfl|simp only [getT,List.map_append,List.map_cons,List.map_nil,digC,digA]),(by first|rfl|simp only [getT,List.map_append,List.map_cons,List.map_nil,digC,digA]),(by first|rfl|simp only [getT,List.map_append,List.map_cons,List.map_nil,digC,digA]),(by first|rfl|simp only [getT,List.map_append,List.map_cons,List.map_nil,digC,digA]),(by first|rfl|simp only [getT,List.map_append,List.map_cons,List.map_nil,digC,digA]),(by first|rfl|simp only [getT,List.map_append,List.map_cons,List.map_nil,digC,digA]),(by first|rfl|simp only [getT,List.map_append,List.map_cons,List.map_nil,digC,digA]),(by first|rfl|simp only [getT,List.map_append,List.map_cons,List.map_nil,digC,digA]),(by first|rfl|simp only [getT,List.map_append,List.map_cons,List.map_nil,digC,digA]),(by first|rfl|simp only [getT,List.map_append,List.map_cons,List.map_nil,digC,digA])⟩
  ·have d3:decide ((m:Int)<((dig Y).length:Int))=false:=by simpa using cm
   have rh:m=(dig Y).length:=by omega
   subst rh
   obtain ⟨-,ri⟩:=hq.next hp hd hx
   have rj:IntKind.i64.wrap (x+c)=x+c:=Ax (by unfold i64; omega)
   have i5:=Qi (v:=x+c) hx
   simp (maxSteps:=10^6)+contextual(disch:=try exact dqd)only[ev0,simprocAttr,AV.int,AV.bool,AV.str,results236,digA,e0,e1,e5,e6,e7,e8,e18,e19,e20,e25,e26,e27,d3,ek,pb,b4,hx',rj,i5,Nat.mul_one]
   exact OUT (i+1,o2.set (i+(dig Y).length) (x+c)) _ (by first|omega|(simp only; omega)) ⟨rfl,by first|omega|(dsimp only; omega),ri,(by first|rfl|simp only [getT,List.map_append,List.map_cons,List.map_nil,digC,digA]),(by first|rfl|simp only [getT,List.map_append,List.map_cons,List.map_nil,digC,digA]),(by first|rfl|simp only [getT,List.map_append,List.map_cons,List.map_nil,digC,digA]),(by first|rfl|simp only [getT,List.map_append,List.map_cons,List.map_nil,digC,digA]),(by first|rfl|simp only [getT,List.map_append,List.map_cons,List.map_nil,digC,digA]),(by first|rfl|simp only [getT,List.map_append,List.map_cons,List.map_nil,digC,digA]),(by first|rfl|simp only [getT,List.map_append,List.map_cons,List.map_nil,digC,digA])⟩
 ·have d2:decide ((i:Int)<((dig X).length:Int))=false:=by simpa using hlt
  have he:i=(dig X).length:=by omega
  subst he
  have ix:=hp.done
  have hT:=Nk [⟨0,out.map numC⟩] tk' n' out 0 0 (by omega) rfl
  rw [hlen] at hT
  rw [ix] at hT
  simp (maxSteps:=10^6)+contextual(disch:=try exact dqd)only[ev0,simprocAttr,AV.int,AV.bool,AV.str,results236,digA,e0,e1,e5,e18,e19,e20,d2,hT]
  have cq:H6 (D7 1 (dig (X*Y)).length (out.map numC))=.frz ((dig (X*Y)).map digC) .unk:=by
   rw [<- ix,Rt (L7 out),Ru,<- Dz]
  rw [cq]
end
end
end Go.Proofs.YthelkgdmgihhiaaGreat
