/- Part 10. -/
import Derived.Test.YthelkgdmgihhiaaGreatZF9
import Derived.Test.YthelkgdmgihhiaaGreatChecked
import Derived.IntWalk
open And renaming intro->B6
open Array renaming ext'->jU
open Bool renaming and_eq_true->Ch,false_eq_true->C6,false_and->Ff,or_false->Fy,or_eq_true->Ib,not_eq_true'->Ih,and_false->iH
open ByteArray.toList renaming loop->jO
open Go.IntKind renaming i64->Cd
open Go.Proofs.YthelkgdmgihhiaaGreat.AV renaming bool->Bm,int->Ca,str->Cb
open Go.Value renaming oneCell'->jG
open Int renaming tdiv_eq_ediv_of_nonneg->Cz,mul_comm->Fu,tmod_eq_emod_of_nonneg->F7,mul_assoc->G0,natAbs_mul->Im,pow_succ->L3,mul_add->Oi,mul_zero->Q4,mul_nonneg->Sl,add_zero->Ss,neg_mul->Sy,add_assoc->Zt
open List renaming replicate->Cg,length_cons->Ci,map_cons->Cn,cons_append->Co,mem_cons_of_mem->Cq,map_nil->Cs,mem_cons_self->Ct,length_nil->Cu,getElem?_append_left->Cv,length_eq_zero_iff->Cw,append_assoc->Cy,mem_append->C3,mem_cons->C4,getElem?_eq_none->C5,all_eq_true->C9,take_length->Fb,drop_eq_nil_of_le->Fe,length_map->Fg,getElem?_append_right->Fh,drop_length->Fi,map_append->Fk,append_nil->Fo,drop_zero->Fx,eq_nil_of_length_eq_zero->F2,take_succ_cons->Ga,pairwise_cons->Ia,length_pos_iff->Ic,mem_of_getElem?->Il,mem_replicate->Ip,getElem?_take_of_lt->I5,replicate_succ->Og,all_cons->Ox,foldl_cons->Sn,set_cons_succ->Sz,singleton_append->iB,cons_lt_cons_iff->jP,map_replicate->kU,lt_irrefl->kX
open List.cons renaming injEq->iV
open Nat renaming le_refl->Ce,zero_le->Cl,mul_one->Fj,zero_add->Fm,lt_or_ge->Ig,add_zero->Ik,div_lt_iff_lt_mul->I8,sub_self->Ob,zero_mul->Om,add_assoc->Oy,pow_succ->Oz,mod_eq_of_lt->Se,strongRecOn->So,pow_pos->kD
open Option renaming map_eq_some_iff->Cc,map_some->C7,bind_some->Oj
open Option.some renaming injEq->Ba
namespace Go.Proofs.YthelkgdmgihhiaaGreat
section
open Tryz
set_option maxRecDepth 100000
theorem mixed:prog.follows .mixedOrders=true:=aM
theorem tys :
  szOf prog 1=some 1 /\
  aggT prog 1=some false /\
  A2 prog 1=some [.prim .nilFunc] /\
  Dd prog 1=false /\
  szOf prog 2=some 1 /\
  aggT prog 2=some false /\
  A2 prog 2=some [.prim (.int .i64 0)] /\
  Ke prog 2=some .i64 /\
  Dd prog 2=false /\
  szOf prog 3=some 1 /\
  aggT prog 3=some false /\
  A2 prog 3=some [.prim (.int .i64 0)] /\
  Ke prog 3=some .i64 /\
  Dd prog 3=false /\
  szOf prog 4=some 1 /\
  aggT prog 4=some false /\
  A2 prog 4=some [.prim (.bool false)] /\
  Dd prog 4=false /\
  Ali prog 4=true /\
  szOf prog 5=some 1 /\
  aggT prog 5=some false /\
  A2 prog 5=some [.prim (.int .u8 0)] /\
  Ke prog 5=some .u8 /\
  Dd prog 5=false /\
  szOf prog 9=some 1 /\
  aggT prog 9=some false /\
  A2 prog 9=some [.prim (.string ⟨#[]⟩)] /\
  Dd prog 9=true /\
  szOf prog 22=some 1 /\
  aggT prog 22=some false /\
  A2 prog 22=some [.frz [] .nilc] /\
  Bc prog 22=some 30 /\
  apT prog 22=some 3 /\
  Dd prog 22=false /\
  szOf prog 23=some 1 /\
  aggT prog 23=some false /\
  A2 prog 23=some [.frz [] .nilc] /\
  Bc prog 23=some 67 /\
  apT prog 23=some 2 /\
  Dd prog 23=false /\
  szOf prog 28=some 2 /\
  aggT prog 28=some true /\
  A2 prog 28=some [.frz [] .nilc,.prim (.int .i64 0)] /\
  Dd prog 28=false /\
  A3 prog 28 0=some (0,1,false) /\
  A3 prog 28 1=some (1,1,false) /\
  fieldsOf prog 28=some [(0,1),(1,1)] /\
  szOf prog 30=some 3 /\
  aggT prog 30=some true /\
  A2 prog 30=some [.frz [] .nilc,.prim (.int .i64 0),.prim (.bool false)] /\
  Dd prog 30=false /\
  A3 prog 30 0=some (0,2,true) /\
  A3 prog 30 1=some (2,1,false) /\
  fieldsOf prog 30=some [(0,2),(2,1)] /\
  szOf prog 31=some 1 /\
  aggT prog 31=some false /\
  A2 prog 31=some [.prim (.int .i64 0)] /\
  Ke prog 31=some .i64 /\
  Dd prog 31=false /\
  szOf prog 37=some 1 /\
  aggT prog 37=some false /\
  A2 prog 37=some [.frz [] .nilc] /\
  Bc prog 37=some 9 /\
  apT prog 37=some 1 /\
  Dd prog 37=false /\
  szOf prog 58=some 1 /\
  aggT prog 58=some false /\
  A2 prog 58=some [.frz [] .nilc] /\
  Bc prog 58=some 3 /\
  apT prog 58=some 1 /\
  Dd prog 58=false /\
  szOf prog 60=some 2 /\
  aggT prog 60=some true /\
  A2 prog 60=some [.prim (.bool false),.frz [] .nilc] /\
  Dd prog 60=false /\
  A3 prog 60 0=some (0,1,false) /\
  A3 prog 60 1=some (1,1,false) /\
  fieldsOf prog 60=some [(0,1),(1,1)] /\
  szOf prog 67=some 2 /\
  aggT prog 67=some true /\
  A2 prog 67=some [.prim (.string ⟨#[]⟩),.prim (.int .i64 0)] /\
  Dd prog 67=false /\
  A3 prog 67 0=some (0,1,false) /\
  A3 prog 67 1=some (1,1,false) /\
  fieldsOf prog 67=some [(0,1),(1,1)] /\
  Aar prog 67=some [2,1] /\
  szOf prog 77=some 1 /\
  aggT prog 77=some false /\
  A2 prog 77=some [.frz [] .nilc] /\
  Bc prog 77=some 22 /\
  apT prog 77=some 1 /\
  Dd prog 77=false /\
  szOf prog 78=some 1 /\
  aggT prog 78=some false /\
  A2 prog 78=some [.frz [] .nilc] /\
  Bc prog 78=some 80 /\
  apT prog 78=some 4 /\
  Dd prog 78=false /\
  szOf prog 80=some 4 /\
  aggT prog 80=some true /\
  A2 prog 80=some [.prim (.bool false),.frz [] .nilc,.prim (.bool false),.frz [] .nilc] /\
  Dd prog 80=false /\
  A3 prog 80 0=some (0,2,true) /\
  A3 prog 80 1=some (2,2,true) /\
  fieldsOf prog 80=some [(0,2),(2,2)] /\
  szOf prog 82=some 8 /\
  aggT prog 82=some true /\
  A2 prog 82=some [.prim (.bool false),.frz [] .nilc,.frz [] .nilc,.prim (.bool false),.frz [] .nilc,.prim (.bool false),.frz [] .nilc,.prim (.bool false)] /\
  Dd prog 82=false /\
  A3 prog 82 0=some (0,1,false) /\
  A3 prog 82 1=some (1,1,false) /\
  A3 prog 82 2=some (2,1,false) /\
  A3 prog 82 3=some (3,4,true) /\
  A3 prog 82 4=some (7,1,false) /\
  fieldsOf prog 82=some [(0,1),(1,1),(2,1),(3,4),(7,1)] /\
  szOf prog 113=some 1 /\
  aggT prog 113=some false /\
  A2 prog 113=some [.prim (.pointer none)] /\
  Dd prog 113=false /\
  szOf prog 117=some 2 /\
  aggT prog 117=some true /\
  A2 prog 117=some [.prim (.int .i64 0),.prim (.int .i64 0)] /\
  Dd prog 117=false /\
  A3 prog 117 0=some (0,1,false) /\
  A3 prog 117 1=some (1,1,false) /\
  fieldsOf prog 117=some [(0,1),(1,1)] /\
  Aar prog 117=some [1,1] /\
  szOf prog 118=some 1 /\
  aggT prog 118=some false /\
  A2 prog 118=some [.prim (.pointer none)] /\
  Dd prog 118=false /\
  szOf prog 120=some 1 /\
  aggT prog 120=some true /\
  A2 prog 120=some [.prim (.bool false)] /\
  Dd prog 120=false /\
  A3 prog 120 0=some (0,1,false) /\
  fieldsOf prog 120=some [(0,1)] /\
  Aar prog 120=some [0] /\
  szOf prog 123=some 0 /\
  aggT prog 123=some true /\
  A2 prog 123=some [] /\
  Dd prog 123=false /\
  szOf prog 130=some 1 /\
  aggT prog 130=some false /\
  A2 prog 130=some [.prim (.int .u64 0)] /\
  Ke prog 130=some .u64 /\
  Dd prog 130=false /\
  szOf prog 141=some 1 /\
  aggT prog 141=some false /\
  A2 prog 141=some [.prim .nilFunc] /\
  Dd prog 141=false /\
  szOf prog 147=some 1 /\
  aggT prog 147=some false /\
  A2 prog 147=some [.prim (.pointer none)] /\
  Dd prog 147=false /\
  szOf prog 150=some 1 /\
  aggT prog 150=some false /\
  A2 prog 150=some [.prim .nilIface] /\
  Dd prog 150=false /\
  szOf prog 151=some 1 /\
  aggT prog 151=some false /\
  A2 prog 151=some [.prim (.pointer none)] /\
  Dd prog 151=false /\
  szOf prog 157=some 1 /\
  aggT prog 157=some false /\
  A2 prog 157=some [.prim .nilIface] /\
  Dd prog 157=false /\
  szOf prog 158=some 1 /\
  aggT prog 158=some false /\
  A2 prog 158=some [.prim (.pointer none)] /\
  Dd prog 158=false /\
  szOf prog 168=some 1 /\
  aggT prog 168=some false /\
  A2 prog 168=some [.frz [] .nilc] /\
  Bc prog 168=some 78 /\
  apT prog 168=some 1 /\
  Dd prog 168=false /\
  szOf prog 169=some 1 /\
  aggT prog 169=some false /\
  A2 prog 169=some [.frz [] .nilc] /\
  Bc prog 169=some 4 /\
  apT prog 169=some 1 /\
  Dd prog 169=false /\
  szOf prog 171=some 6 /\
  aggT prog 171=some true /\
  A2 prog 171=some [.frz [] .nilc,.frz [] .nilc,.frz [] .nilc,.frz [] .nilc,.frz [] .nilc,.prim (.int .i64 0)] /\
  Dd prog 171=false /\
  A3 prog 171 0=some (0,1,false) /\
  A3 prog 171 1=some (1,1,false) /\
  A3 prog 171 2=some (2,1,false) /\
  A3 prog 171 3=some (3,1,false) /\
  A3 prog 171 4=some (4,1,false) /\
  A3 prog 171 5=some (5,1,false) /\
  fieldsOf prog 171=some [(0,1),(1,1),(2,1),(3,1),(4,1),(5,1)] /\
  szOf prog 177=some 1 /\
  aggT prog 177=some false /\
  A2 prog 177=some [.frz [] .nilc] /\
  Bc prog 177=some 178 /\
  apT prog 177=some 1 /\
  Dd prog 177=false /\
  szOf prog 178=some 1 /\
  aggT prog 178=some false /\
  A2 prog 178=some [.frz [] .nilc] /\
  Bc prog 178=some 117 /\
  apT prog 178=some 2 /\
  Dd prog 178=false /\
  szOf prog 180=some 7 /\
  aggT prog 180=some true /\
  A2 prog 180=some [.prim .nilIface,.prim (.int .i64 0),.prim (.int .i64 0),.frz [] .nilc,.frz [] .nilc,.frz [] .nilc,.frz [] .nilc] /\
  Dd prog 180=false /\
  A3 prog 180 0=some (0,1,false) /\
  A3 prog 180 1=some (1,1,false) /\
  A3 prog 180 2=some (2,1,false) /\
  A3 prog 180 3=some (3,1,false) /\
  A3 prog 180 4=some (4,1,false) /\
  A3 prog 180 5=some (5,1,false) /\
  A3 prog 180 6=some (6,1,false) /\
  fieldsOf prog 180=some [(0,1),(1,1),(2,1),(3,1),(4,1),(5,1),(6,1)] /\
  szOf prog 188=some 7 /\
  aggT prog 188=some true /\
  A2 prog 188=some [.prim .nilIface,.prim (.int .i64 0),.prim (.int .i64 0),.frz [] .nilc,.frz [] .nilc,.frz [] .nilc,.frz [] .nilc] /\
  Dd prog 188=false /\
  A3 prog 188 0=some (0,1,false) /\
  A3 prog 188 1=some (1,1,false) /\
  A3 prog 188 2=some (2,1,false) /\
  A3 prog 188 3=some (3,1,false) /\
  A3 prog 188 4=some (4,1,false) /\
  A3 prog 188 5=some (5,1,false) /\
  A3 prog 188 6=some (6,1,false) /\
  fieldsOf prog 188=some [(0,1),(1,1),(2,1),(3,1),(4,1),(5,1),(6,1)] /\
  szOf prog 238=some 2 /\
  aggT prog 238=some true /\
  A2 prog 238=some [.prim (.bool false),.frz [] .nilc] /\
  Dd prog 238=false /\
  A3 prog 238 0=some (0,1,false) /\
  A3 prog 238 1=some (1,1,false) /\
  fieldsOf prog 238=some [(0,1),(1,1)] /\
  szOf prog 247=some 4 /\
  aggT prog 247=some true /\
  A2 prog 247=some [.prim (.int .i64 0),.prim (.int .i64 0),.prim (.int .i64 0),.prim (.int .i64 0)] /\
  Dd prog 247=false /\
  A3 prog 247 0=some (0,1,false) /\
  A3 prog 247 1=some (1,1,false) /\
  A3 prog 247 2=some (2,1,false) /\
  A3 prog 247 3=some (3,1,false) /\
  fieldsOf prog 247=some [(0,1),(1,1),(2,1),(3,1)] /\
  Aar prog 247=some [1,1,1,1] /\
  szOf prog 253=some 2 /\
  aggT prog 253=some true /\
  A2 prog 253=some [.prim (.bool false),.prim (.int .i64 0)] /\
  Dd prog 253=false /\
  A3 prog 253 0=some (0,1,false) /\
  A3 prog 253 1=some (1,1,false) /\
  fieldsOf prog 253=some [(0,1),(1,1)] /\
  Aar prog 253=some [0,1] :=
 by and_intros <;> kernel_rfl
end
section
def val:List Int->Int
 | []=>0
 | d :: r=>d+10000*val r
def digN:Nat->Nat->List Int
 | 0,_=>[]
 | f+1,n=>if n=0 then [] else ((n % 10000:Nat):Int) :: digN f (n / 10000)
def dig (n:Nat):List Int:=digN n n
def okD (l:List Int):Prop:=∀ d ∈ l,0<=d/\d<10000
theorem Aag:∀ {f g n:Nat},n<=f->n<=g->digN f n=digN g n
 | 0,0,_,_,_=>rfl
 | 0,g+1,n,h,_=>by
   have:n=0:=aA
   subst this; simp [digN]
 | f+1,0,n,_,h=>by
   have:n=0:=aA
   subst this; simp [digN]
 | f+1,g+1,n,h1,h2=>by
  simp only [digN];by_cases h:n=0
  ·simp [h]
  ·rw [if_neg h,if_neg h,Aag (f:=f) (g:=g) (n:=n / 10000) aA aA]
theorem B3:dig 0=[]:=rfl
theorem Ju {n:Nat} (h:n≠0):dig n=((n % 10000:Nat):Int) :: dig (n / 10000):=by
 unfold dig;cases n with
 | zero=>exact absurd rfl h
 | succ n =>
  rw [digN,if_neg h];congr 1;exact Aag aA (Ce _)
theorem Br (n:Nat):val (dig n)=n:=by
 induction n using So with
 | _ n ih =>
  by_cases h:n=0
  ·subst h; rfl
  ·rw [Ju h,val,ih (n / 10000) aA]; omega
theorem Bf (n:Nat):okD (dig n):=by
 induction n using So with
 | _ n ih =>
  by_cases h:n=0
  ·subst h; intro d hd; simp [B3] at hd
  ·rw [Ju h];intro d hd;rcases C4.1 hd with rfl|hd
   ·omega
   ·exact ih (n / 10000) aA d hd
theorem Nl {d:Int} (h0:0<d) (h1:d<10000):dig d.toNat=[d]:=by
 rw [Ju aA];have e1:d.toNat % 10000=d.toNat:=Se aA;have e2:d.toNat / 10000=0:=aA
 rw [e1,e2,B3];congr 1; omega
theorem Ed:∀ {l:List Int},okD l->0<=val l
 | [],_=>by simp [val]
 | d :: r,h=>by
  have h1:=h d (by simp);have h2:=Ed (l:=r) fun x hx=>h x bN;simp only [val]; omega
def Dm:List Int->List Int
 | []=>[]
 | d :: r=>if Dm r=[]/\d=0 then [] else d :: Dm r
theorem Ej {n:Nat} : dig n=[]↔n=0:=by
 constructor
 ·intro h;by_cases h0:n=0
  ·exact h0
  ·rw [Ju h0] at h; simp at h
 ·rintro rfl; rfl
theorem D6:∀ {l:List Int},okD l->Dm l=dig (val l).toNat
 | [],_=>rfl
 | d :: r,h=>by
  have h1:=h d (by simp);have hr:okD r:=fun x hx=>h x bN;have h2:=Ed hr;rw [Dm,D6 hr];simp only [val];by_cases hv:val r=0
  ·by_cases hd:d=0
   ·rw [if_pos ⟨by rw [hv]; rfl,hd⟩,hv,hd]; rfl
   ·rw [if_neg (fun h=>hd h.2),hv];have e:(d+10000*0).toNat=d.toNat:=aA
    rw [e,Nl aA h1.2]; rfl
  ·have hn:¬ (val r).toNat=0:=aA
   rw [if_neg (fun h=>hn (Ej.1 h.1)),Ju (n:=(d+10000*val r).toNat) aA];have e1:(d+10000*val r).toNat / 10000=(val r).toNat:=aA
   have e2:(((d+10000*val r).toNat % 10000:Nat):Int)=d:=aA
   rw [e1,e2]
theorem Bg {n k:Nat} : (dig n).length<=k↔n<10000 ^ k:=by
 induction k generalizing n with
 | zero =>
  rw [Nat.pow_zero];constructor
  ·intro h;have:dig n=[]:=F2 aA;have:=Ej.1 this; omega
  ·intro h;have:n=0:=aA
   subst this; simp [B3]
 | succ k ih =>
  by_cases h:n=0
  ·subst h; simp [B3,kD]
  ·rw [Ju h,Ci,Nat.add_le_add_iff_right,ih,Oz,I8 aA]
theorem Asb {a b:Nat} (h:dig a=dig b):a=b:=by
 have h1:=Br a;have h2:=Br b;rw [h] at h1; omega
theorem Gj (l r:List Int):val (l++r)=val l+10000 ^ l.length*val r:=by
 induction l with
 | nil=>simp [val]
 | cons d l ih=>simp only [Co,val,ih,Ci,L3]; rw [Oi,Fu (10000 ^ l.length) 10000,G0]; omega
theorem H6 (n:Nat):val (Cg n 0)=0:=by
 induction n with
 | zero=>rfl
 | succ n ih=>rw [Og,val,ih]; rfl
theorem Hh {l:List Int} {i:Nat} {x v:Int} (h:nth l i=some x):val (l.set i v)=val l+(v - x)*10000 ^ i:=by
 induction l generalizing i with
 | nil=>simp [nth] at h
 | cons d l ih =>
  cases i with
  | zero=>simp only [nth,Ba] at h; subst h; simp only [List.set_cons_zero,val,Int.pow_zero]; omega
  | succ i =>
   simp only [nth] at h;simp only [Sz,val,ih h,L3];rw [Oi,Fu (10000 ^ i) 10000,<- G0,<- G0,Fu 10000 (v - x)]; omega
theorem Qm (l:List Int):(Dm l).length<=l.length:=by
 induction l with
 | nil=>simp [Dm]
 | cons d l ih=>rw [Dm]; split <;> simp; exact ih
theorem Qn:∀ (n:Nat) (l:List Int),n<=l.length->(∀ j,n<=j->∀ x,nth l j=some x->x=0)->Dm l=Dm (l.take n)
 | 0,[],_,_=>rfl
 | 0,d :: l,_,h=>by
  have hd:=h 0 (Ce _) d rfl;have:=Qn 0 l (Cl _) fun j _ x hx=>h (j+1) (Cl _) x hx;rw [Dm,this,hd]; simp [Dm]
 | n+1,[],h,_=>aO
 | n+1,d :: l,hn,h=>by
  have:=Qn n l dB fun j hj x hx=>h (j+1) aA x hx;rw [Ga,Dm,Dm,this]
theorem Y9:∀ (l:List Int) (n:Nat) (x:Int),nth l n=some x->l.length=n+1->x≠0->Dm l=l
 | [],_,_,h,_,_=>bM
 | d :: l,0,x,h,hl,hx=>by
  have:l=[]:=F2 cD;subst this;simp only [nth,Ba] at h; subst h;simp [Dm,hx]
 | d :: l,n+1,x,h,hl,hx=>by
  have ih:=Y9 l n x h cD hx;have hne:l≠[]:=by rintro rfl; simp [nth] at h
  rw [Dm,ih,if_neg (fun h=>hne h.1)]
/- which numbers are valid,and what they stand for -/
def Uw (l:List Int):Bool:=match nth l (l.length - 1) with|some x=>x == 0|none=>false
def allD:List Int->Bool
 | []=>true
 | d :: r=>if (decide (d<0) || decide (d >= 10000))=true then false else allD r
theorem Ajk {l:List Int} : allD l=true↔okD l:=by
 induction l with
 | nil=>simp [allD,okD]
 | cons d l ih =>
  rw [allD];by_cases h:d<0\/d >= 10000
  ·have:(decide (d<0) || decide (d >= 10000))=true:=aL
   simp only [this,if_true,C6,false_iff];intro hk;have:=hk d (by simp); omega
  ·have:(decide (d<0) || decide (d >= 10000))=false:=aC
   simp only [this,C6,if_false,ih];constructor
   ·intro hk x hx;rcases C4.1 hx with rfl|hx
    ·omega
    ·exact hk x hx
   ·exact fun hk x hx=>hk x bN
def Dy (neg:Bool) (l:List Int):Bool:=if (decide (200<l.length) || (decide (l=[]) && neg) || Uw l)=true then false else allD l
def V (neg:Bool) (l:List Int):Int:=if Dy neg l=true then (if neg=true then -(val l) else val l) else 0
theorem Jk {neg:Bool} {l:List Int} (h:Dy neg l=true):l=dig (val l).toNat/\okD l/\l.length<=200:=by
 unfold Dy at h;split at h
 ·simp at h
 ·rename_i hh;have hk:=Ajk.1 h;simp only [Ib,decide_eq_true_eq,not_or] at hh;refine ⟨?_,hk,aA⟩;rw [<- D6 hk];by_cases hl:l=[]
  ·subst hl; rfl
  ·have hpos:0<l.length:=Ic.2 hl;obtain ⟨x,hx⟩:=Ac (l:=l) (i:=l.length - 1) aA;have hz:=hh.2;unfold Uw at hz;rw [hx] at hz;exact (Y9 l (l.length - 1) x hx aA cQ).symm
theorem At8 (neg:Bool) (l:List Int):dig (V neg l).natAbs=if Dy neg l=true then l else []:=by
 unfold V;by_cases h:Dy neg l=true
 ·obtain ⟨h1,h2,-⟩:=Jk h;have h3:=Ed h2;rw [if_pos h,if_pos h];conv=>rhs; rw [h1]
  congr 1;split <;> omega
 ·rw [if_neg h,if_neg h]; rfl
theorem Aoo (neg:Bool) (l:List Int):(dig (V neg l).natAbs).length<=200:=by
 rw [At8];split
 ·rename_i h; exact (Jk h).2.2
 ·simp
theorem Tn (z:Int) (h:(dig z.natAbs).length<=200):Dy (decide (z<0)) (dig z.natAbs)=true:=by
 unfold Dy;have hk:=Bf z.natAbs;rw [if_neg]
 ·exact Ajk.2 hk
 ·simp only [Ib,decide_eq_true_eq,Ch,not_or];refine ⟨⟨aA,fun h=>?_⟩,fun hz=>?_⟩
  ·have:=Ej.1 h.1; omega
  ·unfold Uw at hz;split at hz
   ·rename_i x hx;have iw:x=0:=cQ
    subst iw;have ht:=D6 hk;rw [Br] at ht;have e:((z.natAbs:Int)).toNat=z.natAbs:=aA
    rw [e] at ht;have hl:=Bn hx;have h1:=Qn ((dig z.natAbs).length - 1) (dig z.natAbs) aA (fun j hj y hy=>by
     have:j=(dig z.natAbs).length - 1:=by have:=Bn hy; omega
     subst this;rw [hx] at hy; simpa using hy.symm)
    have h2:=Qm ((dig z.natAbs).take ((dig z.natAbs).length - 1));rw [<- h1,ht] at h2;simp at h2; omega
   ·simp at hz
theorem V_of (z:Int) (h:(dig z.natAbs).length<=200):V (decide (z<0)) (dig z.natAbs)=z:=by
 unfold V;rw [if_pos (Tn z h),Br];by_cases hz:z<0 <;> simp [hz] <;> omega
end
section
open Go
def digC (x:Int):List AV:=[.prim (.int .i64 x)]
def digA (l:List Int):AV:=.frz (l.map digC) .unk
def bigA (neg:Bool) (l:List Int):AV:=.agg [.prim (.bool neg),digA l]
def zA (z:Int):AV:=bigA (decide (z<0)) (dig z.natAbs)
def ownF:Option Tmp->TypeId->Bool
 | some 92,78|some 105,78|some 31,78|some 57,78|some 88,78|some 96,78=>true
 | some 32,168|some 240,168=>true
 | some 45,58|some 255,58=>true
 | some 240,177=>true
 | _,_=>false
def lkF0 (f:FuncId):Bool:=f == 216 || f == 217 || f == 218 || f == 219 || f == 220 || f == 221 || f == 222 || f == 223 ||
 f == 145 || f == 151 || f == 137
def anF0 (f:FuncId):Bool:=f == 136 || f == 180 || f == 170 || f == 140 || f == 266 ||
 f == 147 || f == 153
def mvF0 (f:FuncId):Bool:=f == 136 || f == 180 || f == 170 || f == 140 || f == 266 || f == 113 ||
 f == 115 || f == 121
instance:Globs:=⟨[],fun f=>f == 94 || f == 91 || f == 234,true,ownF,lkF0,anF0,true,false⟩
end
section
open Go
variable {P:Program}
@[reducible] def Ext.quiet (E:Ext P):Ext P:={ on:=E.on,mv:=E.mv,call:=fun _ _ _ _ _=>none }
theorem Hl [Globs] (E:Ext P) {call:Bo} {ok:St->List Oper->Bool} {n:Nat} : ∀ (c:Code) (st:St),@evC _ P (Ext.quiet E) call ok n c st=@evC _ P E call ok n c st
 | .skip,_=>cP
 | .region _ ops draw,st=>by simp only [evC]; rfl
 | .seq a b,st=>by
  simp only [evC,Hl E a];split <;> first|exact Hl E b _|rfl
 | .cond c a b,st=>by simp only [evC,Hl E a,Hl E b]
 | .block _ c,st=>by simp only [evC,Hl E c]
 | .loop c,st=>by
  simp only [evC];congr 1;funext s;exact Hl E c s
 | .exit _,_=>cP
 | .ret,_=>cP
 | .scope c,st=>by simp only [evC]; exact Hl E c st
 | .label _,_=>cP
 | .goto _,_=>cP
 | .rangeFunc _ _ _ _,_=>cP
 | .refuse _,_=>cP
theorem Aam [Globs] (E:Ext P) {ok:St->List Oper->Bool} : ∀ k,CLe (@evF _ P (Ext.quiet E) ok k) (@evF _ P E ok k)
 | 0=>Za3q
 | k+1=>by
  have ih:=Aam E (ok:=ok) k;intro f args S tk n r he;simp only [evF] at he ⊢;split at he
  ·simp at he
  rename_i nq;rw [if_neg (show ¬ @Ext.on P E f=true from nq)];split at he
  ·rename_i fn hf;split at he
   ·rename_i c hb;split at he
    ·simp at he
    ·rename_i bg;rw [if_neg bg];have out:∀ {st0:St} {r0:AV × St},outA P fn (@evC _ P (Ext.quiet E) (@evF _ P (Ext.quiet E) ok k) ok k c st0)=some r0->outA P fn (@evC _ P E (@evF _ P E ok k) ok k c st0)=some r0:=by
      intro st0 r0 h;rw [Hl E] at h;exact Lt (fun z hz=>Dn ih (Ce _) c _ z hz) h
     split at he
     ·rename_i sc;rw [if_pos (show @Ext.mv P E f=true from sc)];exact Ya48
     rename_i sc;rw [if_neg (show ¬ @Ext.mv P E f=true from sc)];split at he
     ·rename_i hp;rw [if_pos hp];have one:∀ {xs0:List AV} {r0:AV},@runP _ P (Ext.quiet E) ok (@evF _ P (Ext.quiet E) ok k) k fn c xs0=some r0->@runP _ P E ok (@evF _ P E ok k) k fn c xs0=some r0:=by
       intro xs0 r0 hrun;unfold runP at hrun ⊢;split at hrun
       ·rename_i r' s1 ho;rw [out ho];exact hrun
       ·simp at hrun
      split at he
      ·rename_i r' ho;have:(if Hw c=true then runN (@runP _ P E ok (@evF _ P E ok k) k fn c) (args.map w2) else @runP _ P E ok (@evF _ P E ok k) k fn c (args.map w2))=some r':=by
        exact Ya0d
       rw [this]; exact he
      ·simp at he
     ·rename_i hp;rw [if_neg hp];exact Ya48
   ·simp at he
  ·simp at he
theorem told [Globs] {E:Ext P} {f:FuncId} {args:List AV} {S:List Ent} {tk:List Nat} {n:Nat} {r:AV × List Ent × List Nat × Nat} (h:@cL _ P (Ext.quiet E) f args S tk n=some r):@cL _ P E f args S tk n=some r:=by
 obtain ⟨k,hk⟩:=(@K3 P _ (Ext.quiet E) _ _ _ _ _ _).1 h;exact (@K3 P _ E _ _ _ _ _ _).2 ⟨k,Aam E k _ _ _ _ _ _ hk⟩
theorem Apv [Globs] (E:Ext P):@Agx _ P (Ext.quiet E):=by
 letI:=Ext.quiet E;refine ⟨fun f args S tk n r S' tk' n' h=>?_,fun M f args S tk n r S' tk' n' h=>?_⟩
 ·unfold extC at h; split at h <;> simp at h
 ·unfold Gc at h; split at h
  ·unfold extC at h; split at h <;> simp at h
  ·simp at h
end
section
open Go Tryz
def Rr:List (List AV)->Option (List Int)
 | []=>some []
 | [.prim (.int .i64 x)] :: r=>(Rr r).map (x :: ·)
 | _=>none
theorem Qy:∀ l:List Int,Rr (l.map digC)=some l
 | []=>rfl
 | x :: l=>by simp only [Cn,digC,Rr,Qy l,C7]
def strC (s:ByteArray):List AV:=[.prim (.string s)]
def Ap (l:List ByteArray):AV:=.frz (l.map strC) .unk
def Vt:List (List AV)->Option (List ByteArray)
 | []=>some []
 | [.prim (.string x)] :: r=>(Vt r).map (x :: ·)
 | _=>none
theorem Xb:∀ l:List ByteArray,Vt (l.map strC)=some l
 | []=>rfl
 | x :: l=>by simp only [Cn,strC,Vt,Xb l,C7]
theorem Vu:∀ {es:List (List AV)} {l:List ByteArray},Vt es=some l->es=l.map strC
 | [],l,h=>by simp only [Vt,Ba] at h; subst h; rfl
 | e :: es,l,h=>by
  unfold Vt at h;split at h
  ·rename_i he; simp at he
  ·rename_i x r he;simp only [iV] at he;obtain ⟨rfl,rfl⟩:=he;simp only [Cc] at h;obtain ⟨l',h1,rfl⟩:=h;rw [Vu h1]; rfl
  ·simp at h
def putS (l:List ByteArray) (s:ByteArray):List ByteArray :=
 match l with
 | []=>[s]
 | x :: r=>if sLt x s=true then x :: putS r s else if sEq x s=true then x :: r else s :: x :: r
def uniS (l:List ByteArray):List ByteArray:=l.foldl putS []
def Ur:Cap->Bool
 | .nilc=>true
 | _=>false
def quoF (l r:List Int):Option AV :=
 if l=dig (val l).toNat/\r=dig (val r).toNat/\r≠[]/\l.length<=90000/\r.length<=90000 then
  some (.tup [digA (dig ((val l).toNat / (val r).toNat)),digA (dig ((val l).toNat % (val r).toNat))]) else none
def quoC (args:List AV) (S:List Ent) (tk:List Nat) (n:Nat):Option (AV × List Ent × List Nat × Nat):=match args with
  | [.frz es _,.frz ys _]=>match Rr es,Rr ys with
   | some l,some r=>match quoF l r with
    | some v=>some (v,S,tk,n)
    | none=>none
   | _,_=>none
  | _=>none
def uniC (args:List AV) (S:List Ent) (tk:List Nat) (n:Nat):Option (AV × List Ent × List Nat × Nat):=match args with
  | [.frz es c,.frz [] .nilc]=>match Vt es with
   | some l=>if (decide (l.length<=1000000) && (!l.isEmpty || Ur c))=true then some (Ap (uniS l),S,tk,n) else none
   | none=>none
  | _=>none
@[reducible] noncomputable def E1:Ext prog where
 on:=fun f=>f == 78 || f == 228
 mv:=mvF0
 call:=fun f args S tk n=>if f == 78 then uniC args S tk n else if f == 228 then quoC args S tk n else none
@[reducible] noncomputable instance E0:Ext prog:=Ext.quiet E1
instance:Agx prog:=Apv E1
theorem ext_mv (f:FuncId) (h:mvF0 f=false):Ext.mv prog f=false:=h
set_option linter.defProp false in
def ev0:=B6 ext_mv <| B6 @entAt.eq_def <| B6 evt tys
set_option linter.defProp false in
def evs0:=B6 ext_mv <| B6 @Bk <| B6 @Ll <| B6 @Ahf <| B6 @List.take_left.{0} <| B6 @Fb.{0} <| B6 evt tys
end
section
open Go
theorem Apn (s:ByteArray):∀ (n i:Nat) (r:List UInt8),s.size - i=n->jO s i r=r.reverse++s.data.toList.drop i:=by
 intro n;induction n with
 | zero =>
  intro i r h;rw [jO,if_neg aA,Fe aC,Fo]
 | succ n ih =>
  intro i r h;have hi:i<s.data.size:=aC
  rw [jO,if_pos aA,ih (i+1) _ aA,List.reverse_cons,Cy];congr 1;have e:s.data.toList.drop i=s.data[i] :: s.data.toList.drop (i+1):=by
   rw [<- Array.getElem_toList hi,List.getElem_cons_drop]
  rw [e,iB];congr 1;show s.data[i]! = _;rw [getElem!_pos s.data i hi]
def nm (s:ByteArray):List UInt8:=s.data.toList
theorem Yi (s:ByteArray):s.toList=nm s:=by rw [ByteArray.toList,Apn s _ 0 [] rfl]; simp [nm]
theorem Al8 {a b:ByteArray} (h:nm a=nm b):a=b:=by
 apply ByteArray.ext; exact jU h
theorem Ro:∀ (x y:List UInt8),Op.bytesLess x y=decide (x<y)
 | [],[]=>Za60
 | a :: x,[]=>Za60
 | [],b :: y=>Za60
 | a :: x,b :: y=>by
  rw [Op.bytesLess,Ro x y];by_cases h1:a<b
  ·simp [h1,jP]
  ·by_cases h2:a=b
   ·subst h2; simp [jP]
   ·simp [h1,h2,jP]
theorem Agj (a b:ByteArray):sLt a b=decide (nm a<nm b):=by
 unfold sLt; rw [Yi,Yi,Ro]
theorem Nf (a b:ByteArray):sEq a b=decide (a=b):=by
 unfold sEq; rw [Yi,Yi];by_cases h:a=b
 ·subst h; simp
 ·have:nm a≠nm b:=fun h'=>h (Al8 h');simp [h,this]
theorem Abl {a b c:List UInt8} (h1:a<b) (h2:b<c):a<c:=List.lt_trans h1 h2
theorem Q7 (a:List UInt8):¬ a<a:=kX a
theorem Al7 (a b:ByteArray):nm a<nm b\/a=b\/nm b<nm a:=by
 by_cases h1:nm a<nm b
 ·exact .inl h1
 ·by_cases h2:nm b<nm a
  ·exact .inr (.inr h2)
  ·exact .inr (.inl (Al8 (List.le_antisymm (List.not_lt.1 h2) (List.not_lt.1 h1))))
def Inc (l:List ByteArray):Prop:=l.Pairwise fun a b=>nm a<nm b
theorem Adc (s x:ByteArray):∀ l:List ByteArray,x ∈ putS l s↔x=s\/x ∈ l
 | []=>by simp [putS]
 | y :: r=>by
  rw [putS];split
  ·rw [C4,Adc s x r,C4];constructor
   ·rintro (h|h|h) <;> simp [h]
   ·rintro (h|h|h) <;> simp [h]
  ·split
   ·rename_i h;rw [Nf] at h;have:y=s:=aL
    subst this;simp
   ·simp [or_comm,or_left_comm]
theorem Alf (s:ByteArray):∀ {l:List ByteArray},Inc l->Inc (putS l s)
 | [],_=>by simp [putS,Inc]
 | y :: r,h=>by
  have h0:=Ia.1 h;rw [putS];split
  ·rename_i h1;rw [Agj] at h1;refine Ia.2 ⟨fun x hx=>?_,Alf s h0.2⟩;rcases (Adc s x r).1 hx with rfl|hx
   ·simpa using h1
   ·exact h0.1 x hx
  ·rename_i h1;rw [Agj] at h1;split
   ·exact h
   ·rename_i h2;rw [Nf] at h2;have h3:nm s<nm y:=by
     rcases Al7 s y with h|h|h
     ·exact h
     ·exact absurd (by simpa using h.symm) h2
     ·exact absurd aL h1
    refine Ia.2 ⟨fun x hx=>?_,h⟩;rcases C4.1 hx with rfl|hx
    ·exact h3
    ·exact Abl h3 (h0.1 x hx)
theorem Als (s:ByteArray):∀ l:List ByteArray,(putS l s).length<=l.length+1
 | []=>by simp [putS]
 | y :: r=>by
  rw [putS];have:=Als s r;split
  ·simp; exact this
  ·split <;> simp
theorem Aqa (l:List ByteArray) (s:ByteArray):uniS (l++[s])=putS (uniS l) s:=by simp [uniS,List.foldl_append]
theorem Kj (l:List ByteArray):Inc (uniS l)/\(∀ x,x ∈ uniS l↔x ∈ l)/\(uniS l).length<=l.length:=by
 have key:∀ (l acc:List ByteArray),Inc acc->Inc (l.foldl putS acc)/\(∀ x,x ∈ l.foldl putS acc↔x ∈ acc\/x ∈ l)/\(l.foldl putS acc).length<=acc.length+l.length:=by
  intro l;induction l with
  | nil=>intro acc h; exact ⟨h,fun x=>by simp,by simp⟩
  | cons s l ih =>
   intro acc h;obtain ⟨h1,h2,h3⟩:=ih (putS acc s) (Alf s h);refine ⟨h1,fun x=>?_,?_⟩
   ·rw [Sn,h2 x,Adc,C4];constructor
    ·rintro ((h|h)|h) <;> simp [h]
    ·rintro (h|h|h) <;> simp [h]
   ·have:=Als s acc;simp only [Sn,Ci]; omega
 have:=key l [] (by simp [Inc]);exact ⟨this.1,fun x=>by simpa [uniS] using this.2.1 x,by simpa [uniS] using this.2.2⟩
theorem Af2 {s:ByteArray} : ∀ {l:List ByteArray},(∀ x ∈ l,nm x<nm s)->putS l s=l++[s]
 | [],_=>rfl
 | y :: r,h=>by
  rw [putS,if_pos (by rw [Agj]; simpa using h y (by simp)),Af2 fun x hx=>h x bN]; rfl
theorem Aq2:∀ {l r:List ByteArray},Inc l->Inc r->(∀ x,x ∈ l↔x ∈ r)->l=r
 | [],[],_,_,_=>rfl
 | [],y :: r,_,_,h=>by have:=(h y).2 (by simp); simp at this
 | x :: l,[],_,_,h=>by have:=(h x).1 (by simp); simp at this
 | x :: l,y :: r,h1,h2,h=>by
  have a1:=Ia.1 h1;have a2:=Ia.1 h2;have ja:x=y:=by
   have m1:=(h x).1 (by simp);have m2:=(h y).2 (by simp);rcases C4.1 m1 with e|m1
   ·exact e
   ·rcases C4.1 m2 with e|m2
    ·exact e.symm
    ·exact absurd (Abl (a1.1 y m2) (a2.1 x m1)) (Q7 _)
  subst ja;congr 1;refine Aq2 a1.2 a2.2 fun z=>?_;have hz:=h z;simp only [C4] at hz;constructor
  ·intro hm;rcases hz.1 (.inr hm) with e|fg
   ·subst e; exact absurd (a1.1 z hm) (Q7 _)
   ·exact fg
  ·intro hm;rcases hz.2 (.inr hm) with e|fg
   ·subst e; exact absurd (a2.1 z hm) (Q7 _)
   ·exact fg
section
def eqV:Value->Value->Bool
 | .int k n,.int k' n'=>decide (k=k') && decide (n=n')
 | .bool a,.bool b=>decide (a=b)
 | .string s,.string t=>sEq s t
 | _,_=>false
theorem Auu {a b:Value} (h:eqV a b=true):a=b:=by
 unfold eqV at h;split at h
 ·simp at h; rw [h.1,h.2]
 ·simp at h; rw [h]
 ·rw [Nf] at h;congr 1;simpa using h
 ·cases h
def eqK:Cap->Cap->Bool
 | .unk,.unk=>true
 | .tight,.tight=>true
 | .tok a b c,.tok a' b' c'=>decide (a=a') && decide (b=b') && decide (c=c')
 | .nilc,.nilc=>true
 | .nl,.nl=>true
 | .nn,.nn=>true
 | _,_=>false
theorem Aut {a b:Cap} (h:eqK a b=true):a=b:=by
 unfold eqK at h;split at h <;> simp_all
mutual
def eqA:AV->AV->Bool
 | .bot,.bot=>true
 | .prim v,.prim v'=>eqV v v'
 | .frz es c,.frz es' c'=>eqMM es es' && eqK c c'
 | .fptr cs,.fptr cs'=>eqM cs cs'
 | .agg cs,.agg cs'=>eqM cs cs'
 | .tup cs,.tup cs'=>eqM cs cs'
 | .ref a b c,.ref a' b' c'=>decide (a=a') && decide (b=b') && decide (c=c')
 | .sref a b c d e,.sref a' b' c' d' e'=>decide (a=a') && decide (b=b') && decide (c=c') && decide (d=d') && decide (e=e')
 | .fn f cs,.fn f' cs'=>decide (f=f') && eqM cs cs'
 | .bfn f cs,.bfn f' cs'=>decide (f=f') && eqM cs cs'
 | .ifc t v,.ifc t' v'=>decide (t=t') && eqA v v'
 | .mfn t m v,.mfn t' m' v'=>decide (t=t') && decide (m=m') && eqA v v'
 | .lit n cs,.lit n' cs'=>decide (n=n') && eqM cs cs'
 | _,_=>false
def eqM:List AV->List AV->Bool
 | [],[]=>true
 | x :: l,y :: m=>eqA x y && eqM l m
 | _,_=>false
def eqMM:List (List AV)->List (List AV)->Bool
 | [],[]=>true
 | x :: l,y :: m=>eqM x y && eqMM l m
 | _,_=>false
end
mutual
theorem Aak:∀ {a b:AV},eqA a b=true->a=b
 | .bot,b,h=>by cases b <;> simp [eqA] at h ⊢
 | .prim v,b,h=>by cases b <;> simp [eqA] at h ⊢; exact Auu h
 | .frz es c,b,h=>by cases b <;> simp [eqA] at h ⊢; exact ⟨Akv h.1,Aut h.2⟩
 | .fptr cs,b,h=>Za26
 | .agg cs,b,h=>Za26
 | .tup cs,b,h=>Za26
 | .ref ..,b,h=>by cases b <;> simp [eqA] at h ⊢; exact ⟨h.1.1,h.1.2,h.2⟩
 | .sref ..,b,h=>by cases b <;> simp [eqA] at h ⊢; exact ⟨h.1.1.1.1,h.1.1.1.2,h.1.1.2,h.1.2,h.2⟩
 | .fn f cs,b,h=>Za1h
 | .bfn f cs,b,h=>Za1h
 | .ifc t v,b,h=>by cases b <;> simp [eqA] at h ⊢; exact ⟨h.1,Aak h.2⟩
 | .mfn t m v,b,h=>by cases b <;> simp [eqA] at h ⊢; exact ⟨h.1.1,h.1.2,Aak h.2⟩
 | .lit n cs,b,h=>Za1h
theorem M9:∀ {a b:List AV},eqM a b=true->a=b
 | [],b,h=>by cases b <;> simp [eqM] at h ⊢
 | x :: l,b,h=>by cases b <;> simp [eqM] at h ⊢; exact ⟨Aak h.1,M9 h.2⟩
theorem Akv:∀ {a b:List (List AV)},eqMM a b=true->a=b
 | [],b,h=>by cases b <;> simp [eqMM] at h ⊢
 | x :: l,b,h=>by cases b <;> simp [eqMM] at h ⊢; exact ⟨M9 h.1,Akv h.2⟩
end
def isB1:List AV->Bool
 | [.prim (.bool _)]=>true
 | _=>false
theorem Alh {l:List AV} (h:isB1 l=true):∃ b,l=[.prim (.bool b)]:=by
 unfold isB1 at h;split at h
 ·exact ⟨_,rfl⟩
 ·cases h
def gOB:List Ent->List Ent->Bool
 | [],[]=>true
 | e :: S,e' :: S'=>decide (e.ep=e'.ep) && (eqM e.cells e'.cells || (isB1 e.cells && isB1 e'.cells)) && gOB S S'
 | _,_=>false
theorem Aq1:∀ {S S':List Ent},gOB S S'=true->X9 S S'
 | [],[],_=>⟨rfl,fun _=>.inl rfl⟩
 | [],_ :: _,h=>by simp [gOB] at h
 | _ :: _,[],h=>by simp [gOB] at h
 | e :: S,e' :: S',h=>by
  simp only [gOB,Ch,Ib,decide_eq_true_eq] at h;obtain ⟨⟨h1,h2⟩,h3⟩:=h;obtain ⟨g1,g2⟩:=Aq1 h3;refine ⟨by simp [g1],fun i=>?_⟩;cases i with
  | zero =>
   obtain ⟨ep,cs⟩:=e;obtain ⟨ep',cs'⟩:=e';simp only at h1 h2;subst h1;rcases h2 with h2|⟨h2,h4⟩
   ·left; rw [M9 h2]; rfl
   ·obtain ⟨b,rfl⟩:=Alh h2;obtain ⟨b',rfl⟩:=Alh h4;exact .inr ⟨ep,b,b',rfl,rfl⟩
  | succ i=>exact g2 i
/- slots in a tree -/
inductive Pat where|z|o (p:Pat)|e (p:Pat)
inductive Trs where|l|n (v:AV) (a b:Trs)
def paF:Nat->Nat->Pat
 | 0,_=>.z
 | f+1,k=>if k=0 then .z else if k % 2=1 then .o (paF f (k / 2)) else .e (paF f (k / 2 - 1))
def pth (k:Nat):Pat:=paF k k
theorem Adp:∀ {f g k j:Nat},k<=f->j<=g->paF f k=paF g j->k=j
 | 0,g,k,j,h1,h2,h=>by
  obtain rfl:k=0:=aA
  cases g with
  | zero=>omega
  | succ g =>
   simp only [paF] at h;split at h
   ·omega
   ·split at h <;> cases h
 | f+1,0,k,j,h1,h2,h=>by
  obtain rfl:j=0:=aA
  simp only [paF] at h;split at h
  ·omega
  ·split at h <;> cases h
 | f+1,g+1,k,j,h1,h2,h=>by
  simp only [paF] at h;by_cases hk:k=0
  ·by_cases hj:j=0
   ·omega
   ·rw [if_pos hk,if_neg hj] at h; split at h <;> cases h
  ·rw [if_neg hk] at h;by_cases hj:j=0
   ·rw [if_pos hj] at h; split at h <;> cases h
   ·rw [if_neg hj] at h;split at h
    ·split at h
     ·have:=Adp aA aA (Pat.o.inj h); omega
     ·cases h
    ·split at h
     ·cases h
     ·have:=Adp aA aA (Pat.e.inj h); omega
theorem Amk {k j:Nat} (h:pth k=pth j):k=j:=Adp (Ce _) (Ce _) h
noncomputable def gT (p:Pat):Trs->AV :=
 Pat.rec (motive:=fun _=>Trs->AV) (fun t=>Trs.rec (motive:=fun _=>AV) .bot (fun v _ _ _ _=>v) t)
  (fun _ ih t=>ih (Trs.rec (motive:=fun _=>Trs) .l (fun _ a _ _ _=>a) t)) (fun _ ih t=>ih (Trs.rec (motive:=fun _=>Trs) .l (fun _ _ b _ _=>b) t)) p
noncomputable def sT (v:AV) (p:Pat):Trs->Trs :=
 Pat.rec (motive:=fun _=>Trs->Trs) (fun t=>Trs.rec (motive:=fun _=>Trs) (.n v .l .l) (fun _ a b _ _=>.n v a b) t)
  (fun _ ih t=>Trs.rec (motive:=fun _=>Trs) (.n .bot (ih .l) .l) (fun u a b _ _=>.n u (ih a) b) t) (fun _ ih t=>Trs.rec (motive:=fun _=>Trs) (.n .bot .l (ih .l)) (fun u a b _ _=>.n u a (ih b)) t) p
theorem gT_l:∀ {p:Pat},gT p .l=.bot
 | .z=>rfl
 | .o p=>gT_l (p:=p)
 | .e p=>gT_l (p:=p)
theorem Qv {v:AV} : ∀ {p:Pat} {t:Trs},gT p (sT v p t)=v
 | .z,.l=>rfl
 | .z,.n _ _ _=>rfl
 | .o p,.l=>Qv (p:=p) (t:=.l)
 | .o p,.n _ a _=>Qv (p:=p) (t:=a)
 | .e p,.l=>Qv (p:=p) (t:=.l)
 | .e p,.n _ _ b=>Qv (p:=p) (t:=b)
theorem Ahj {v:AV} : ∀ {p q:Pat} {t:Trs},q≠p->gT q (sT v p t)=gT q t
 | .z,.z,_,h=>absurd rfl h
 | .z,.o q,.l,_=>rfl
 | .z,.o q,.n _ _ _,_=>rfl
 | .z,.e q,.l,_=>rfl
 | .z,.e q,.n _ _ _,_=>rfl
 | .o p,.z,.l,_=>rfl
 | .o p,.z,.n _ _ _,_=>rfl
 | .o p,.o q,.l,h=>(Ahj (p:=p) (q:=q) (t:=.l) fun e=>h (e ▸ rfl))
 | .o p,.o q,.n _ a _,h=>(Ahj (p:=p) (q:=q) (t:=a) fun e=>h (e ▸ rfl))
 | .o p,.e q,.l,_=>rfl
 | .o p,.e q,.n _ _ _,_=>rfl
 | .e p,.z,.l,_=>rfl
 | .e p,.z,.n _ _ _,_=>rfl
 | .e p,.o q,.l,_=>rfl
 | .e p,.o q,.n _ _ _,_=>rfl
 | .e p,.e q,.l,h=>(Ahj (p:=p) (q:=q) (t:=.l) fun e=>h (e ▸ rfl))
 | .e p,.e q,.n _ _ b,h=>(Ahj (p:=p) (q:=q) (t:=b) fun e=>h (e ▸ rfl))
noncomputable def opT (t:Trs):Operand->AV
 | .tmp k=>gT (pth k) t
 | .const v=>cst v
 | .global _=>.bot
 | .func f=>.fn f []
structure Rl (N:Nat) (T:List AV) (t:Trs):Prop where
 len:T.length=N
 get:∀ k,getT T k=gT (pth k) t
theorem Afl {v:AV} : ∀ {T:List AV} {d k:Nat},d<T.length->getT (put T d v) k=if k=d then v else getT T k
 | [],d,k,h=>absurd h (Nat.not_lt_zero _)
 | _ :: T,0,0,_=>rfl
 | _ :: T,0,k+1,_=>by simp [put,getT]
 | _ :: T,d+1,0,_=>by simp [put,getT]
 | _ :: T,d+1,k+1,h=>by
  simp only [put,getT];rw [Afl aL];simp
theorem Rl.op {N:Nat} {T:List AV} {t:Trs} (h:Rl N T t):opv T=opT t:=funext fun o=>by cases o <;> simp [opv,opT,h.get]
def dsT (N:Nat):Option Tmp->Option (Option Pat)
 | none=>some none
 | some d=>bif Nat.blt d N then some (some (pth d)) else none
noncomputable def pT (q:Option Pat) (v:AV) (t:Trs):Trs:=match q with|none=>t|some p=>sT v p t
theorem Rl.put {N:Nat} {T:List AV} {t:Trs} (h:Rl N T t) {d:Option Tmp} {q:Option Pat} (hd:dsT N d=some q) {v:AV} : Rl N (putT T d v) (pT q v t):=by
 cases d with
 | none=>simp only [dsT,Ba] at hd; subst hd; exact h
 | some d =>
  simp only [dsT] at hd;cases hlt:Nat.blt d N with
  | false=>rw [hlt] at hd; cases hd
  | true =>
   rw [hlt] at hd;simp only [cond_true,Ba] at hd;subst hd;have hd:d<T.length:=by rw [h.len]; simpa using hlt
   refine ⟨by simp only [putT,Am,h.len],fun k=>?_⟩;simp only [putT,pT];rw [Afl hd];split
   ·rename_i e; subst e; rw [Qv]
   ·rename_i e; rw [Ahj fun e'=>e (Amk e'),h.get]
noncomputable def tlF (t:Trs):Nat->Nat->List AV
 | 0,_=>[]
 | n+1,k=>gT (pth k) t :: tlF t n (k+1)
theorem Akz:∀ {T U:List AV},T.length=U.length->(∀ k,getT T k=getT U k)->T=U
 | [],[],_,_=>rfl
 | _ :: T,_ :: U,h,g=>by
  have h0:=g 0;simp only [getT] at h0;rw [h0,Akz aL fun k=>g (k+1)]
theorem Anf {t:Trs} : ∀ {n k j:Nat},j<n->getT (tlF t n k) j=gT (pth (k+j)) t
 | n+1,k,0,_=>rfl
 | n+1,k,j+1,h=>by
  simp only [tlF,getT];rw [Anf aA,show k+1+j=k+(j+1) by omega]
theorem Ad5 {t:Trs} : ∀ {n k:Nat},(tlF t n k).length=n
 | 0,_=>rfl
 | n+1,k=>by simp [tlF,Ad5]
theorem Tf:∀ {T:List AV} {k:Nat},T.length<=k->getT T k=.bot
 | [],_,_=>rfl
 | _ :: T,0,h=>aO
 | _ :: T,k+1,h=>Tf (T:=T) aL
theorem Rl.list {N:Nat} {T:List AV} {t:Trs} (h:Rl N T t):tlF t N 0=T:=by
 refine Akz (by rw [Ad5,h.len]) fun k=>?_;by_cases hk:k<N
 ·rw [Anf hk,h.get,Fm]
 ·rw [Tf (by rw [Ad5]; omega),Tf (by rw [h.len]; omega)]
noncomputable def iniT:Nat->List AV->Trs->Trs
 | _,[],t=>t
 | k,a :: l,t=>iniT (k+1) l (sT a (pth k) t)
theorem Afp:∀ {l:List AV} {k j:Nat} {t:Trs},gT (pth j) (iniT k l t)=if k<=j/\j<k+l.length then getT l (j - k) else gT (pth j) t
 | [],k,j,t=>by rw [if_neg (by simp only [Cu]; omega)]; rfl
 | a :: l,k,j,t=>by
  simp only [iniT,Ci];rw [Afp];by_cases h1:k+1<=j/\j<k+1+l.length
  ·rw [if_pos h1,if_pos aA,show j - k=(j - (k+1))+1 by omega]; rfl
  ·rw [if_neg h1];by_cases h2:j=k
   ·subst h2; rw [Qv,if_pos aA,Ob]; rfl
   ·rw [Ahj fun e=>h2 (Amk e),if_neg aA]
theorem Afj {b:Nat} : ∀ {l:List AV} {k:Nat},getT (l++Cg b .bot) k=getT l k
 | [],k=>by
  induction b generalizing k with
  | zero=>rfl
  | succ b ih=>cases k with
   | zero=>rfl
   | succ k=>exact (ih (k:=k))
 | _ :: l,0=>rfl
 | _ :: l,k+1=>Afj (l:=l)
theorem Rl.ini {args:List AV} {b:Nat} : Rl (args.length+b) (args++Cg b .bot) (iniT 0 args .l):=by
 refine ⟨by simp,fun k=>?_⟩;rw [Afj,Afp];split
 ·rfl
 ·rw [gT_l,Tf aA]
/- operations -/
structure StT where
 t:Trs
 S:List Ent
 tk:List Nat
 n:Nat
abbrev ResT:=Option (AV × List Ent × List Nat × Nat)
inductive Clo where|bad|mk (f:Trs->List Ent->List Nat->Nat->ResT)
variable {P:Program}
noncomputable def bO {α β:Type} (x:Option α) (f:α->Option β):Option β:=Option.rec (motive:=fun _=>Option β) none (fun a=>f a) x
noncomputable def Auk (P:Program) (call:Bo) (c:Call):Clo :=
 match c.callee with
 | .invoke x m=>.mk fun t S tk n=>match opT t x with
  | .ifc ty v=>bO (mRow P ty m) fun f=>call f (v :: c.args.toList.map (opT t)) S tk n
  | _=>none
 | .value (.func f)=>.mk fun t S tk n=>call f (c.args.toList.map (opT t)) S tk n
 | .value x=>.mk fun t S tk n=>match opT t x with
  | .fn f caps=>call f (c.args.toList.map (opT t)++caps) S tk n
  | .bfn f first=>call f (first++c.args.toList.map (opT t)) S tk n
  | _=>none
 | _=>.bad
noncomputable def apT1 [Globs] (P:Program) (o:Oper) (c:Call):Clo :=
 match c.args.toList,c.argTypes.toList with
 | [x,y],[t,t']=>bif Globs.own o.dst o.type then (if t=t' then .mk fun m S tk n=>bO (apO P t (opT m x) (opT m y) S n) fun a=>some (a.1,a.2.1,tk,a.2.2) else .bad)
  else if t=t' then .mk fun m S tk n=>bO (apB1 P t (opT m x) (opT m y) tk S) fun a=>some (a.1,S,a.2,n)
  else .mk fun m S tk n=>bO (apS P t t' (opT m x) (opT m y) tk) fun a=>some (a.1,S,a.2,n)
 | _,_=>.bad
noncomputable def clo [Globs] (P:Program) (call:Bo) (o:Oper):Clo :=
 match o.op with
 | .move x=>.mk fun t S tk n=>some (opT t x,S,tk,n)
 | .assign x=>.mk fun t S tk n=>some (opT t x,S,tk,n)
 | .load ty a=>.mk fun t S tk n=>bO (ldA P ty (opT t a) S) fun v=>some (v,S,tk,n)
 | .store ty a v=>.mk fun t S tk n=>bO (stA P ty (opT t a) (opT t v) S) fun S=>some (.prim undef,S,tk,n)
 | .binOp b ty x y _=>.mk fun t S tk n=>bO (aBin P b ty (opT t x) (opT t y)) fun v=>some (v,S,tk,n)
 | .indexAddr ty x i=>.mk fun t S tk n=>bO (idxA P ty (opT t x) (opT t i)) fun v=>some (v,S,tk,n)
 | .fieldAddr ty x k=>.mk fun t S tk n=>bO (fldA P ty (opT t x) k) fun v=>some (v,S,tk,n)
 | .alloc ty=>.mk fun _ S tk n=>bO (A2 P ty) fun cs=>some (.ref S.length n 0,S++[⟨n,cs⟩],tk,n+1)
 | .box _ x=>.mk fun t S tk n=>bO (cellsOf (opT t x)) fun cs=>some (.ref S.length n 0,S++[⟨n,cs⟩],tk,n+1)
 | .makeSlice ty l c=>bif R4 o l then .mk fun t S tk n=>bO (mkA P ty (opT t l) (opT t c)) fun a=>some (mkV (len0 l) tk.length a.1 a.2.1 a.2.2,S,tk++[0],n)
  else .mk fun t S tk n=>bO (mkA P ty (opT t l) (opT t c)) fun a=>some (.sref S.length n 0 a.1 a.2.1,S++[⟨n,a.2.2⟩],tk,n+1)
 | .call c=>(match c.callee with
  | .builtin .append=>apT1 P o c
  | .builtin .copy=>(match c.args.toList,c.argTypes.toList with
   | [d,s],[ty,_]=>.mk fun t S tk n=>bO (cpA P ty (opT t d) (opT t s) S) fun a=>some (Ca (a.1:Int),a.2,tk,n)
   | _,_=>.bad)
  | .builtin _=>.mk fun t S tk n=>bO (evQ P o (opT t)) fun v=>some (v,S,tk,n)
  | _=>Auk P call c)
 | _=>.mk fun t S tk n=>bO (evQ P o (opT t)) fun v=>some (v,S,tk,n)
theorem Aun [Globs] {call:Bo} {o:Oper} {f:Trs->List Ent->List Nat->Nat->ResT} (hf:clo P call o=.mk f) {N:Nat} {T:List AV} {t:Trs} (hr:Rl N T t) {S S':List Ent} {tk tk':List Nat} {n n':Nat} {v:AV} (h:f t S tk n=some (v,S',tk',n')):evO P call o ⟨T,S,tk,n⟩=some (v,⟨T,S',tk',n'⟩):=by
 have hop:=hr.op;have key:∀ {α:Type} {x:Option α} {g:α->ResT} {k:α->AV × St},(∀ a,g a=some (v,S',tk',n')->k a=(v,⟨T,S',tk',n'⟩))->bO x g=some (v,S',tk',n')->x.map k=some (v,⟨T,S',tk',n'⟩):=by
  intro α x g k hg hx;cases x with
  | none=>cases hx
  | some a=>rw [C7,hg a hx]
 have hq:∀ {x:Option AV},evQ P o (opT t)=x->bO x (fun v=>some (v,S,tk,n))=some (v,S',tk',n')->(evQ P o (opT t)).map (fun v=>(v,(⟨T,S,tk,n⟩:St)))=some (v,⟨T,S',tk',n'⟩):=by
  intro x hx h;rw [hx];exact key eJ h
 have az:∀ {f args},call f args S tk n=some (v,S',tk',n')->(call f args S tk n).map (fun x=>(x.1,(⟨T,x.2.1,x.2.2.1,x.2.2.2⟩:St)))=some (v,⟨T,S',tk',n'⟩):=fun h=>by rw [h]; rfl
 unfold clo at hf;unfold evO;split at hf;case h_1 x ho=>rw [ho]; cases hf; simp only [hop]; exact hq (x:=some (opT t x)) eH h
 case h_2 x ho=>rw [ho]; cases hf; simp only [hop]; exact hq (x:=some (opT t x)) eH h
 case h_3 ho=>rw [ho]; cases hf; simp only [hop]; exact key eJ h
 case h_4 ho=>rw [ho]; cases hf; simp only [hop]; exact key eJ h
 case h_5 b ty x y _ ho=>rw [ho]; cases hf; simp only [hop]; exact hq (x:=aBin P b ty (opT t x) (opT t y)) eH h
 case h_6 ty x i ho=>rw [ho]; cases hf; simp only [hop]; exact hq (x:=idxA P ty (opT t x) (opT t i)) eH h
 case h_7 ty x k ho=>rw [ho]; cases hf; simp only [hop]; exact hq (x:=fldA P ty (opT t x) k) eH h
 case h_8 ho=>rw [ho]; cases hf; simp only; exact key eJ h
 case h_9 ho=>rw [ho]; cases hf; simp only [hop]; exact key eJ h
 case h_10 ty l c ho =>
  rw [ho]
  cases hg:R4 o l with
  | true=>rw [hg] at hf; cases hf; simp only [hop,hg]; exact key Za4y h
  | false=>rw [hg] at hf; cases hf; simp only [hop,hg]; exact key Za4y h
 case h_11 c ho =>
  rw [ho]
  simp only at hf ⊢
  split at hf
  case h_1 hc =>
   rw [hc]
   unfold apT1 at hf
   simp only
   split at hf
   ·rename_i x y t1 t2 e1 e2
    rw [e1,e2]
    simp only [Cn,Cs,hop]
    cases hg:(Globs.own o.dst o.type:Bool) with
    | true =>
     rw [hg] at hf
     simp only [cond_true] at hf
     split at hf
     ·rename_i e; cases hf; rw [if_pos rfl,if_pos e]; exact key Za4y h
     ·cases hf
    | false =>
     rw [hg] at hf
     simp only [cond_false] at hf
     rw [if_neg (by simp)]
     split at hf
     ·rename_i e; cases hf; rw [if_pos e]; exact key Za5b h
     ·rename_i e; cases hf; rw [if_neg e]; exact key Za5b h
   ·cases hf
  case h_2 hc =>
   rw [hc]
   simp only
   split at hf
   ·rename_i x y t1 t2 e1 e2
    rw [e1,e2]
    cases hf
    simp only [Cn,Cs,hop]
    exact key Za5b h
   ·cases hf
  case h_3 b b1 b2 hc =>
   cases hf
   split
   case h_1 e=>exact (b1 (Callee.builtin.inj (hc.symm.trans e))).elim
   case h_2 e=>exact (b2 (Callee.builtin.inj (hc.symm.trans e))).elim
   case h_3 e=>simp only [hop]; exact hq rfl h
   case h_4 e1 e2 e3=>exact (e3 _ hc).elim
  case h_4 b1 b2 b3 =>
   split
   case h_1 e=>exact (b1 e).elim
   case h_2 e=>exact (b2 e).elim
   case h_3 e=>exact (b3 _ e).elim
   case h_4 e1 e2 e3 =>
    unfold Auk at hf
    unfold Ew
    simp only [hop]
    split at hf
    case h_1 x m hc =>
     rw [hc]
     cases hf
     dsimp only at h ⊢
     cases hx:opT t x <;> rw [hx] at h
     case ifc ty u =>
      dsimp only at h ⊢
      cases hm:mRow P ty m with
      | none=>rw [hm] at h; cases h
      | some f=>rw [hm] at h; simp only [C7]; exact az h
     all_goals (cases h; done)
    case h_2 f hc =>
     rw [hc]
     cases hf
     simp only [opT,Fo]
     exact az h
    case h_3 x hx hc =>
     rw [hc]
     cases hf
     dsimp only at h ⊢
     cases hx:opT t x <;> rw [hx] at h
     case fn=>exact az h
     case bfn=>exact az h
     all_goals (cases h; done)
    case h_4=>cases hf
 case h_12 a1 a2 a3 a4 a5 a6 a7 a8 a9 a10 a11 =>
  cases hf
  split
  case h_7=>simp only [hop]; exact hq rfl h
  all_goals (rename_i ho; first|exact (a3 _ _ ho).elim|exact (a4 _ _ _ ho).elim|exact (a8 _ ho).elim|exact (a9 _ _ ho).elim|exact (a10 _ _ _ ho).elim|exact (a11 _ ho).elim)
inductive Gua where|no|sl (p:Pat) (w:Bool)|bad
def gdT (all:List Oper) (o:Oper):Gua :=
 match o.guard with
 | none=>.no
 | some (g,w)=>match (nth all g).bind (·.dst) with|none=>.bad|some d=>.sl (pth d) w
noncomputable def wnT (g:Gua) (t:Trs):Option Bool :=
 match g with
 | .no=>some true
 | .sl p w=>(match gT p t with|.prim (.bool b)=>some (b == w)|.prim (.tuple _)=>some false|_=>none)
 | .bad=>none
theorem Ari {N:Nat} {T:List AV} {t:Trs} (hr:Rl N T t) {all:List Oper} {o:Oper} : wnT (gdT all o) t=H9 all T o:=by
 unfold gdT H9;cases o.guard with
 | none=>rfl
 | some x =>
  obtain ⟨g,w⟩:=x;simp only;cases (nth all g).bind (·.dst) with
  | none=>rfl
  | some d=>simp only [wnT,hr.get]; rfl
inductive Chq where|yes|nb|x
def ckT [Globs] (o:Oper):Chq:=bif Globs.dr then (bif xOp o then .x else bif isLd o then .nb else .yes) else .yes
noncomputable def smT (P:Program) (N:Nat) (t:Trs) (S':List Ent) (q:TypeId × Operand × Option Tmp × Bool):Bool :=
 q.2.2.2 && match q.2.2.1 with
  | none=>false
  | some d=>Nat.blt d N && match ldA P q.1 (opT t q.2.1) S' with|some v=>eqA v (gT (pth d) t)|none=>false
noncomputable def cxT [Globs] (P:Program) (N:Nat) (all:List Oper) (o:Oper) (t:Trs) (S S':List Ent):Bool :=
 (!lkOp o || gOB S S') && (!anOp o || (Nat.ble S.length S'.length && (!o.dst.isSome || (loadsB all o.dst).all (smT P N t S'))))
noncomputable def okC [Globs] (P:Program) (N:Nat) (all:List Oper) (o:Oper) (k:Chq) (t:Trs) (v:AV) (S S':List Ent):Bool :=
 match k with|.yes=>true|.nb=>!isB v|.x=>cxT P N all o t S S'
theorem Au8 [Globs] {N:Nat} {T:List AV} {t:Trs} (hr:Rl N T t) {all:List Oper} {o:Oper} {v:AV} {S S':List Ent} {tk tk':List Nat} {n n':Nat} (h:okC P N all o (ckT o) t v S S'=true):chkO P all o ⟨T,S,tk,n⟩ v ⟨T,S',tk',n'⟩=true:=by
 unfold ckT at h;unfold chkO;cases h1:(Globs.dr:Bool)
 ·rfl
 ·rw [h1] at h;cases h2:xOp o
  ·rw [h2] at h;cases h3:isLd o
   ·rfl
   ·rw [h3] at h; exact h
  ·rw [h2] at h;simp only [cond_true,okC] at h ⊢;refine @decide_eq_true _ (Classical.propDecidable _) ?_;unfold cxT at h;simp only [Ch,Ib,Ih,C9] at h;obtain ⟨h1,h2⟩:=h;refine ⟨fun h=>?_,fun h=>?_⟩
   ·rcases h1 with h1|h1
    ·rw [h1] at h; cases h
    ·exact Aq1 h1
   ·rcases h2 with h2|⟨h2,h3⟩
    ·rw [h2] at h; cases h
    ·refine ⟨Nat.le_of_ble_eq_true h2,fun hs q hq=>?_⟩;rcases h3 with h3|h3
     ·rw [h3] at hs; cases hs
     ·have:=h3 q hq;unfold smT at this;rw [Ch] at this;obtain ⟨g1,g⟩:=this;split at g
      ·cases g
      ·rename_i d hd;rw [Ch] at g;obtain ⟨g2,g⟩:=g;split at g
       ·rename_i u hu;refine ⟨g1,d,hd,by rw [hr.len]; simpa using g2,?_⟩;rw [hr.op,hu,Aak g,hr.get]
       ·cases g
noncomputable def stepT [Globs] (P:Program) (call:Bo) (all:List Oper) (N:Nat) (o:Oper) (ih:StT->Option StT) (st:StT):Option StT :=
 match st with
 | ⟨t,S,tk,n⟩=>match wnT (gdT all o) t,dsT N o.dst with
  | some false,some q=>ih ⟨pT q (.prim undef) t,S,tk,n⟩
  | some true,some q=>(match clo P call o with
   | .mk f=>(match f t S tk n with
    | some (v,S',tk',n')=>bif okC P N all o (ckT o) t v S S' then ih ⟨pT q v t,S',tk',n'⟩ else none
    | none=>none)
   | .bad=>none)
  | _,_=>none
noncomputable def opsT [Globs] (P:Program) (call:Bo) (all:List Oper) (N:Nat) (L:List Oper):StT->Option StT :=
 List.rec (motive:=fun _=>StT->Option StT) (fun st=>some st) (fun o _ ih st=>stepT P call all N o ih st) L
def StT.at (s:StT) (T:List AV):St:=⟨T,s.S,s.tk,s.n⟩
theorem Yk [Globs] {call:Bo} {all:List Oper} {N:Nat} : ∀ {L:List Oper} {st st':StT} {T:List AV},Rl N T st.t->opsT P call all N L st=some st'->∃ T',Rl N T' st'.t/\evOs P call all L (st.at T)=some (st'.at T')
 | [],st,st',T,hr,h=>by
  cases h; exact ⟨T,hr,rfl⟩
 | o :: L,⟨t,S,tk,n⟩,st',T,hr,h=>by
  change stepT P call all N o (opsT P call all N L) ⟨t,S,tk,n⟩=some st' at h;simp only [stepT] at h;show ∃ T',_/\evOs P call all (o :: L) ⟨T,S,tk,n⟩=_;simp only [evOs];split at h
  ·rename_i q hw hd;rw [Ari hr] at hw;obtain ⟨T',h1,h2⟩:=Yk (T:=putT T o.dst (.prim undef)) (hr.put hd) h;exact ⟨T',h1,by rw [hw]; exact h2⟩
  ·rename_i q hw hd;rw [Ari hr] at hw;split at h
   ·rename_i f hf;split at h
    ·rename_i v S' tk' n' hv;cases hk:okC P N all o (ckT o) t v S S' with
     | false=>rw [hk] at h; cases h
     | true =>
      rw [hk] at h;obtain ⟨T',h1,h2⟩:=Yk (T:=putT T o.dst v) (hr.put hd) h;refine ⟨T',h1,?_⟩;rw [hw];simp only;rw [Aun hf hr hv];simp only;rw [if_pos (Au8 hr hk)];exact h2
    ·cases h
   ·cases h
  ·cases h
/- code -/
noncomputable def drQ [Globs] (L:List Oper):Bool:=Bx ⟨[],[],[],0⟩ L
theorem Aso {ops:Array Oper} {i:Nat} {o:Oper} : Wx ⟨[],[],[],0⟩ ops i o=none:=by
 unfold Wx;split
 ·split
  ·rfl
  ·rw [List.findSome?_eq_none_iff];intro m _;split
   ·split
    ·split <;> rfl
    ·rfl
   ·rfl
 ·rfl
theorem Aus [Globs] {st:St} {L:List Oper} (h:drQ L=true):Bx st L=true:=by
 unfold drQ Bx at h;unfold Bx;unfold X2 at h ⊢;rw [C9] at h ⊢;intro i hi;have:=h i hi;split at this
 ·cases this
 ·rename_i o ho;simp only [Ch,C9] at this ⊢;refine ⟨this.1,fun j hj=>?_⟩;have g:=this.2 j hj;split at g
  ·cases g
  ·rename_i p hp;have e:∀ i o p,@M7 (gM (mdOf L)) ⟨[],[],[],0⟩ L.toArray i o p=false:=fun i o p=>by unfold M7; rw [Aso]
   simp only [e,Ib,Ch] at g ⊢;rcases g with ((g|g)|g)|g
   ·exact .inl (.inl (.inl g))
   ·exact .inl (.inl (.inr g))
   ·refine .inl (.inr ⟨g.1,?_⟩);have g:=g.2;split at g
    ·cases g
    ·rename_i hn;rw [if_neg hn];simp only [Fy] at g;rw [g]; rfl
   ·exact .inr g
noncomputable def okT [Globs] (N:Nat) (L:List Oper) (st:StT):Bool:=drQ L || Bx ⟨tlF st.t N 0,st.S,st.tk,st.n⟩ L
theorem Au9 [Globs] {N:Nat} {L:List Oper} {st:StT} {T:List AV} (hr:Rl N T st.t) (h:okT N L st=true):Bx (st.at T) L=true:=by
 unfold okT at h;rw [Ib] at h;rcases h with h|h
 ·exact Aus h
 ·rwa [hr.list] at h
inductive Reg where|run (L:List Oper)|split (a:List Oper) (o:Oper)|late (a:List Oper) (al o:Oper)|draw (L:List Oper)
def rgT [Globs] (ops:Array Oper) (draw:Bool):Reg :=
 bif draw then (match Gr ops.toList with
  | some (a,o)=>.split a o
  | none=>match Kt ops.toList with|some (_,al,o)=>.late (openL ops.toList) al o|none=>.draw ops.toList) else .run ops.toList
noncomputable def dopT [Globs] (P:Program) [Ext P] (call:Bo) (N:Nat) (a:List Oper) (st:StT):Option StT:=bif okT N a st then @opsT (gM (mdOf a)) P (Jn (mdOf a) P call) a N a st else none
noncomputable def thT (x:Option StT) (f:StT->Option StT):Option (Ex × StT):=match x with|some s=>(match f s with|some s=>some (.normal,s)|none=>none)|none=>none
noncomputable def regT [Globs] (P:Program) [Ext P] (call:Bo) (N:Nat) (ops:Array Oper) (draw:Bool) (st:StT):Option (Ex × StT) :=
 match rgT ops draw with
 | .run L=>thT (opsT P call L N L st) some
 | .split a o=>thT (dopT P call N a st) (opsT P call [o] N [o])
 | .late a al o=>thT (dopT P call N a st) (opsT P call [al,o] N [al,o])
 | .draw L=>thT (dopT P call N L st) some
noncomputable def Api (kp:Bool) (f:StT->Option (Ex × StT)) (k:Nat):StT->Option (Ex × StT) :=
 Nat.rec (motive:=fun _=>StT->Option (Ex × StT)) (fun _=>none) (fun _ ih st=>match f st with|some (.normal,⟨t,S,tk,n⟩)=>ih ⟨t,cutS kp st.S.length S,tk,n⟩|r=>r) k
noncomputable def codT [Globs] (P:Program) [Ext P] (call:Bo) (k N:Nat) (c:Code):StT->Option (Ex × StT) :=
 Code.rec (motive:=fun _=>StT->Option (Ex × StT)) (fun st=>some (.normal,st)) (fun _ ops draw st=>regT P call N ops draw st)
  (fun _ _ f g st=>match f st with|some (.normal,st')=>g st'|r=>r)
  (fun c _ _ f g st=>match opT st.t c with|.prim (.bool b)=>bif b then f st else g st|_=>none)
  (fun id _ f st=>match f st with|some (.exit id',st')=>bif id' == id then some (.normal,st') else some (.exit id',st')|r=>r)
  (fun c f st=>Api (Q2 c) f k st) (fun _ _ _ _ _ _ _=>none) (fun id st=>some (.exit id,st)) (fun _ f st=>f st) (fun _ st=>some (.normal,st)) (fun _ _=>none) (fun st=>some (.ret,st)) (fun _ _=>none) c
theorem Acz [Globs] [Ext P] {call:Bo} (hc:CLe call (cL P)) {N:Nat} {a:List Oper} {st st':StT} {T:List AV} (hr:Rl N T st.t) (h:dopT P call N a st=some st'):Bx (st.at T) a=true/\∃ T',Rl N T' st'.t/\@evOs (gM (mdOf a)) P (Jn (mdOf a) P (cL P)) a a (st.at T)=some (st'.at T'):=by
 unfold dopT at h;cases hk:okT N a st with
 | false=>rw [hk] at h; cases h
 | true =>
  rw [hk] at h;obtain ⟨T',h1,h2⟩:=@Yk P (gM (mdOf a)) _ _ _ _ _ _ _ hr h;exact ⟨Au9 hr hk,T',h1,Bz (G:=gM _) hc.pure h2⟩
theorem Ado [Globs] [Ext P] {call:Bo} (hc:CLe call (cL P)) {N:Nat} {all L:List Oper} {st st':StT} {T:List AV} (hr:Rl N T st.t) (h:opsT P call all N L st=some st'):∃ T',Rl N T' st'.t/\evOs P (cL P) all L (st.at T)=some (st'.at T'):=by
 obtain ⟨T',h1,h2⟩:=Yk hr h;exact ⟨T',h1,Bz hc h2⟩
theorem Agp {x:Option StT} {f:StT->Option StT} {r:Ex × StT} (h:thT x f=some r):∃ s,x=some s/\f s=some r.2/\r.1=.normal:=by
 unfold thT at h;split at h
 ·split at h
  ·rename_i s _ s' hs;cases h;exact ⟨s,rfl,hs,rfl⟩
  ·cases h
 ·cases h
theorem Jc [Globs] [Ext P] {call:Bo} (hc:CLe call (cL P)) {k N:Nat} : ∀ {c:Code} {st st':StT} {e:Ex} {T:List AV},Rl N T st.t->codT P call k N c st=some (e,st')->∃ T',Rl N T' st'.t/\eL P c (st.at T)=some (e,st'.at T')
 | .skip,st,st',e,T,hr,h=>by
  exact Ya1u
 | .region id ops draw,st,st',e,T,hr,h=>by
  change regT P call N ops draw st=_ at h;unfold regT at h;cases draw with
  | false =>
   simp only [rgT,cond_false] at h;obtain ⟨s,h1,h2,h3⟩:=Agp h;cases h2;obtain ⟨T',g1,g2⟩:=Ado hc hr h1;refine ⟨T',g1,?_⟩;rw [Pi,g2];simp only at h3;subst h3; rfl
  | true =>
   simp only [rgT,cond_true] at h;cases hs:Gr ops.toList with
   | some x =>
    obtain ⟨a,o⟩:=x;rw [hs] at h;obtain ⟨s,h1,h2,h3⟩:=Agp h;obtain ⟨d,T1,g1,g2⟩:=Acz hc hr h1;obtain ⟨T',g3,g4⟩:=Ado hc g1 h2;refine ⟨T',g3,?_⟩;rw [Akt hs,if_pos d,g2];simp only at h3 ⊢;rw [g4];subst h3; rfl
   | none =>
    rw [hs] at h;simp only at h;cases hl:Kt ops.toList with
    | some x =>
     obtain ⟨p,al,o⟩:=x;rw [hl] at h;obtain ⟨s,h1,h2,h3⟩:=Agp h;obtain ⟨d,T1,g1,g2⟩:=Acz hc hr h1;obtain ⟨T',g3,g4⟩:=Ado hc g1 h2;refine ⟨T',g3,?_⟩;rw [Akr hs hl,if_pos d,g2];simp only at h3 ⊢;rw [g4];subst h3; rfl
    | none =>
     rw [hl] at h;obtain ⟨s,h1,h2,h3⟩:=Agp h;cases h2;obtain ⟨d,T1,g1,g2⟩:=Acz hc hr h1;refine ⟨T1,g1,?_⟩;rw [Akq hs hl,if_pos d,g2];simp only at h3;subst h3; rfl
 | .seq a b,st,st',e,T,hr,h=>by
  change (match codT P call k N a st with|some (.normal,st')=>codT P call k N b st'|r=>r)=_ at h;rw [Aqz];split at h
  ·rename_i s1 h1;obtain ⟨T1,g1,g2⟩:=Jc hc hr h1;rw [g2];exact Jc hc g1 h
  ·rename_i hne;obtain ⟨T1,g1,g2⟩:=Jc hc hr h;refine ⟨T1,g1,?_⟩;rw [g2];cases e with
   | normal=>exact absurd h (hne st')
   | exit id=>rfl
   | ret=>rfl
 | .cond c a b,st,st',e,T,hr,h=>by
  change (match opT st.t c with|.prim (.bool t)=>bif t then codT P call k N a st else codT P call k N b st|_=>none)=_ at h;rw [Akp];have hT:(st.at T).T=T:=rfl;rw [hT,hr.op];split at h
  ·rename_i t ht;rw [ht];simp only;cases t with
   | true=>rw [if_pos rfl]; exact Jc hc hr h
   | false=>rw [if_neg (by simp)]; exact Jc hc hr h
  ·cases h
 | .block id a,st,st',e,T,hr,h=>by
  change (match codT P call k N a st with|some (.exit id',st')=>bif id' == id then some (Ex.normal,st') else some (Ex.exit id',st')|r=>r)=_ at h;rw [Ae7];split at h
  ·rename_i id' s1 h1;obtain ⟨T1,g1,g2⟩:=Jc hc hr h1;rw [g2];simp only;cases hi:id' == id with
   | true =>
    rw [hi] at h; cases h;rw [if_pos fU]; exact ⟨T1,g1,rfl⟩
   | false =>
    rw [hi] at h; cases h;rw [if_neg fU]; exact ⟨T1,g1,rfl⟩
  ·rename_i hne;obtain ⟨T1,g1,g2⟩:=Jc hc hr h;refine ⟨T1,g1,?_⟩;rw [g2];cases e with
   | normal=>rfl
   | exit id=>exact absurd h (hne id st')
   | ret=>rfl
 | .loop a,st,st',e,T,hr,h=>by
  change Api (Q2 a) (codT P call k N a) k st=_ at h;have key:∀ m (st:StT) (T:List AV),Rl N T st.t->Api (Q2 a) (codT P call k N a) m st=some (e,st')->∃ T',Rl N T' st'.t/\eL P (.loop a) (st.at T)=some (e,st'.at T'):=by
   intro m;induction m with
   | zero=>intro st T hr h; cases h
   | succ m ih =>
    intro st T hr h;change (match codT P call k N a st with|some (.normal,⟨t,S,tk,n⟩)=>Api (Q2 a) (codT P call k N a) m ⟨t,cutS (Q2 a) st.S.length S,tk,n⟩|r=>r)=_ at h;rw [Aks];split at h
    ·rename_i t S tk n h1;obtain ⟨T1,g1,g2⟩:=Jc hc hr h1;rw [g2];exact ih ⟨t,cutS (Q2 a) st.S.length S,tk,n⟩ T1 g1 h
    ·rename_i hne;obtain ⟨T1,g1,g2⟩:=Jc hc hr h;refine ⟨T1,g1,?_⟩;rw [g2];cases e with
     | normal=>exact absurd h (hne _ _ _ _)
     | exit id=>rfl
     | ret=>rfl
  exact key k st T hr h
 | .exit id,st,st',e,T,hr,h=>by
  exact Ya1u
 | .ret,st,st',e,T,hr,h=>by
  exact Ya1u
 | .label _,st,st',e,T,hr,h=>by
  exact Ya1u
 | .scope a,st,st',e,T,hr,h=>by
  obtain ⟨T1,g1,g2⟩:=Jc (c:=a) hc hr h;obtain ⟨m,g2⟩:=Bu.1 g2;exact ⟨T1,g1,Bu.2 ⟨m,g2⟩⟩
 | .rangeFunc _ _ _ _,_,_,_,_,_,h=>aR
 | .goto _,_,_,_,_,_,h=>aR
 | .refuse _,_,_,_,_,_,h=>aR
/- calls -/
noncomputable def reT (P:Program) (st:StT):ResultVar->Option AV
 | .tmp t=>some (gT (pth t) st.t)
 | .cell a ty=>ldA P ty (gT (pth a) st.t) st.S
noncomputable def ouT (P:Program) (fn:Func):Option (Ex × StT)->Option (AV × StT)
 | some (.normal,st)=>(match mapO (reT P st) fn.results.toList with|some l=>some (oneOf l,st)|none=>none)
 | some (.ret,st)=>(match mapO (reT P st) fn.results.toList with|some l=>some (oneOf l,st)|none=>none)
 | _=>none
inductive Fun0 where|bad|mk (fn:Func) (c:Code) (mv nl:Bool)
def fuT (P:Program) [Ext P] (f:FuncId):Fun0 :=
 match P.funcs[f]? with
 | some fn => (match fn.body with | some c => bif fn.name == "runtime.NumGoroutine" then .bad else .mk fn c (Ext.mv P f) (Hw c) | none => .bad)
 | none=>.bad
noncomputable def inT [Globs] (P:Program) [Ext P] (call:Bo) (k:Nat) (fn:Func) (c:Code) (args:List AV) (S:List Ent) (tk:List Nat) (n:Nat):Option (AV × StT) :=
 ouT P fn (codT P call k (args.length+(fn.ntmps - args.length)) c ⟨iniT 0 args .l,S,tk,n⟩)
noncomputable def ruT [Globs] (P:Program) [Ext P] (call:Bo) (k:Nat) (fn:Func) (c:Code) (args:List AV):Option AV :=
 match inT P call k fn c args [] [] 0 with
 | some (r,st)=>bif pure3 (w3 (fz3 0 st.S r)) then some (w3 (fz3 0 st.S r)) else none
 | none=>none
def isE:Option AV->Bool
 | some (.frz [] .unk)=>true
 | _=>false
noncomputable def rnT (run:List AV->Option AV):List AV->Option AV
 | .frz [] .unk :: l=>bif isE (run (.frz [] .nl :: l)) && isE (run (.frz [] .nn :: l)) then some (.frz [] .unk) else none
 | .frz (e :: es) .unk :: l=>run (.frz (e :: es) .unk :: l)
 | _=>none
noncomputable def boT [Globs] (P:Program) [Ext P] (tb:FuncId->List AV->Option AV) (k:Nat) (call:Bo):Bo:=fun f args S tk n =>
 match tb f (args.map w2) with
 | some r=>some (r,S,tk,n)
 | none=>bif Ext.on P f then Ext.call P f args S tk n else match fuT P f with
  | .bad=>none
  | .mk fn c mv nl=>bif mv then (match inT P call k fn c args S tk n with|some (r,⟨_,S,tk,n⟩)=>some (r,S,tk,n)|none=>none)
   else bif (args.map w2).all pure2 then (match (bif nl then rnT (ruT P call k fn c) (args.map w2) else ruT P call k fn c (args.map w2)) with|some r=>some (r,S,tk,n)|none=>none)
   else (match inT P call k fn c args S tk n with|some (r,⟨_,S',tk,n⟩)=>some (fz3 S.length S' r,S'.take S.length,tk,n)|none=>none)
noncomputable def evT [Globs] (P:Program) [Ext P] (tb:FuncId->List AV->Option AV) (k d:Nat):Bo:=Nat.rec (motive:=fun _=>Bo) (fun _ _ _ _ _=>none) (fun _ ih=>boT P tb k ih) d
theorem Ale [Globs] [Ext P] {call:Bo} (hc:CLe call (cL P)) {k:Nat} {fn:Func} {c:Code} {args:List AV} {S:List Ent} {tk:List Nat} {n:Nat} {r:AV} {st:StT} (h:inT P call k fn c args S tk n=some (r,st)):∃ T,RK P fn c ⟨args++bots (fn.ntmps - args.length),S,tk,n⟩ []=some (r,st.at T):=by
 unfold inT at h;have res:∀ {T s x},Rl (args.length+(fn.ntmps - args.length)) T s.t->(match mapO (reT P s) fn.results.toList with|some l=>some (oneOf l,s)|none=>none)=some x->resA P fn.results.toList (s.at T)=some x.1/\x.2=s:=by
  intro T s x hr h;have e:reT P s=resA1 P (s.at T):=funext fun v=>by cases v <;> simp [reT,resA1,StT.at,hr.get]
  unfold resA;rw [<- e];split at h
  ·rename_i l hl; cases h; rw [hl];exact Ya45
  ·cases h
 rw [T4];unfold RK;cases hx:codT P call k (args.length+(fn.ntmps - args.length)) c ⟨iniT 0 args .l,S,tk,n⟩ with
 | none=>rw [hx] at h; cases h
 | some x =>
  obtain ⟨e,s⟩:=x;rw [hx] at h;obtain ⟨T,g1,g2⟩:=Jc hc (T:=args++Cg (fn.ntmps - args.length) .bot) Rl.ini hx;change eL P c ⟨args++Cg (fn.ntmps - args.length) .bot,S,tk,n⟩=_ at g2;rw [g2];refine ⟨T,?_⟩;cases e with
  | normal =>
   exact Ya2y
  | ret =>
   exact Ya2y
  | exit id=>cases h
theorem Agh [Globs] [Ext P] {call:Bo} (hc:CLe call (cL P)) {k:Nat} {fn:Func} {c:Code} {args:List AV} {r:AV} (h:ruT P call k fn c args=some r):pure3 r=true/\fin1 (RK P fn c ⟨args++bots (fn.ntmps - args.length),[],[],0⟩ [])=some r:=by
 unfold ruT at h;split at h
 ·rename_i r' st hi;cases hp:pure3 (w3 (fz3 0 st.S r')) with
  | false=>rw [hp] at h; cases h
  | true =>
   rw [hp] at h;simp only [cond_true,Ba] at h;subst h;obtain ⟨T,hT⟩:=Ale hc hi;exact ⟨hp,by rw [hT]; rfl⟩
 ·cases h
theorem Aq3 {x:Option AV} (h:isE x=true):x=some (.frz [] .unk):=by
 unfold isE at h;split at h
 ·rfl
 ·cases h
abbrev Tab [Globs] (P:Program) [Ext P] (tb:FuncId->List AV->Option AV):Prop:=∀ f args r,tb f (args.map w2)=some r->∀ S tk n,cL P f args S tk n=some (r,S,tk,n)
theorem Aqr [Globs] [Ext P] {tb:FuncId->List AV->Option AV} (ht:Tab P tb) {k:Nat} {call:Bo} (hc:CLe call (cL P)):CLe (boT P tb k call) (cL P):=by
 intro f args S tk n r h;unfold boT at h;split at h
 ·rename_i r' dz;cases h;exact ht _ _ _ dz _ _ _
 cases nq:Ext.on P f with
 | true=>rw [nq] at h; exact Xu nq h
 | false =>
  rw [nq] at h;simp only [cond_false] at h;unfold fuT at h;cases hf:P.funcs[f]? with
  | none=>rw [hf] at h; cases h
  | some fn =>
   rw [hf] at h;simp only at h;cases hb:fn.body with
   | none=>rw [hb] at h; cases h
   | some c =>
    rw [hb] at h;simp only at h;cases hn : fn.name == "runtime.NumGoroutine" with
    | true=>rw [hn] at h; cases h
    | false =>
     rw [hn] at h;simp only [cond_false] at h;cases hm:Ext.mv P f with
     | true =>
      rw [hm] at h;simp only [cond_true] at h;split at h
      ·rename_i r' t S1 tk1 n1 hi;cases h;obtain ⟨T,hT⟩:=Ale hc hi;exact Aj3 hf (by rw [nq,hm]; rfl) hb hn rfl (by rw [hT]; rfl)
      ·cases h
     | false =>
      rw [hm] at h;simp only [cond_false] at h;have hx:(Ext.on P f || Ext.mv P f)=false:=by rw [nq,hm]; rfl
      cases hp:(args.map w2).all pure2 with
      | true =>
       rw [hp] at h;simp only [cond_true] at h;split at h
       ·rename_i r' dz;cases h;cases sf:Hw c with
        | false =>
         rw [sf] at dz;obtain ⟨g1,g2⟩:=Agh hc dz;rw [Fg] at g2;exact Z5 hf hx hb sf hn rfl rfl hp _ _ _ g1 g2
        | true =>
         rw [sf] at dz;simp only [cond_true] at dz;unfold rnT at dz;split at dz
         ·rename_i l hl;cases hq:isE (ruT P call k fn c (.frz [] .nl :: l)) && isE (ruT P call k fn c (.frz [] .nn :: l)) with
          | false=>rw [hq] at dz; cases dz
          | true =>
           rw [hq] at dz;simp only [cond_true,Ba] at dz;subst dz;rw [Ch] at hq;have d9:l.all pure2=true:=by rw [hl] at hp; simp only [Ox,Ch] at hp; exact hp.2
           exact Rp hf hx hb sf hn rfl hl d9 _ _ _ (Agh hc (Aq3 hq.1)).2 (Agh hc (Aq3 hq.2)).2
         ·rename_i e es l hl;obtain ⟨g1,g2⟩:=Agh hc dz;rw [hl] at hp;exact Pf hf hx hb sf hn rfl hl hp _ _ _ g1 g2
         ·cases dz
       ·cases h
      | false =>
       rw [hp] at h;simp only [cond_false] at h;split at h
       ·rename_i r' t S1 tk1 n1 hi;cases h;obtain ⟨T,hT⟩:=Ale hc hi;exact Ni hf hx hb hn rfl hp (by rw [hT]; rfl)
       ·cases h
theorem Aq0 [Globs] [Ext P] {tb:FuncId->List AV->Option AV} (ht:Tab P tb) {k:Nat} : ∀ {d:Nat},CLe (evT P tb k d) (cL P)
 | 0=>fun _ _ _ _ _ _ h=>aR
 | d+1=>Aqr ht (Aq0 ht (d:=d))
noncomputable def ansT [Globs] (P:Program) [Ext P] (tb:FuncId->List AV->Option AV) (f:FuncId) (args:List AV) (r:AV):Bool :=
 match fuT P f with
 | .mk fn c false false=>!Ext.on P f && args.all pure2 && (match ruT P (evT P tb 2000 100) 2000 fn c args with|some r'=>eqA r' r|none=>false)
 | _=>false
theorem cL_T [Globs] [Ext P] {tb:FuncId->List AV->Option AV} (ht:Tab P tb) {f:FuncId} {args args':List AV} {r:AV} (ha:args.map w2=args') (h:ansT P tb f args' r=true) (S:List Ent) (tk:List Nat) (n:Nat):cL P f args S tk n=some (r,S,tk,n):=by
 have sn:Tab P (fun (_:FuncId) (_:List AV)=>(none:Option AV)):=fun _ _ _ h=>aR
 subst ha;unfold ansT at h;split at h
 ·rename_i fn c hfu;simp only [Ch,Ih] at h;obtain ⟨⟨nq,hp⟩,h⟩:=h;split at h
  ·rename_i r' dz;have:=Aak h;subst this;refine Aqr sn (Aq0 ht) f args S tk n _ (k:=2000) (call:=evT P tb 2000 100) ?_;simp only [boT,nq,hfu,cond_false,hp,cond_true,dz]
  ·cases h
 ·cases h
def lkT:List (List AV × AV)->List AV->Option AV
 | [],_=>none
 | (a,r) :: l,args=>bif eqM a args then some r else lkT l args
def tbT:List (Nat × List (List AV × AV))->FuncId->List AV->Option AV
 | [],_,_=>none
 | (g,l) :: t,f,args=>match (bif Nat.beq g f then lkT l args else none) with|some r=>some r|none=>tbT t f args
theorem Aq5:∀ {l:List (List AV × AV)} {args:List AV} {r:AV},lkT l args=some r->(args,r) ∈ l
 | [],_,_,h=>aR
 | (a,r') :: l,args,r,h=>by
  simp only [lkT] at h;cases he:eqM a args with
  | true=>rw [he] at h; cases h; rw [M9 he]; exact Ct ..
  | false=>rw [he] at h; exact Cq _ (Aq5 h)
theorem Av5 {g:Nat} {l:List (List AV × AV)} {t:List (Nat × List (List AV × AV))} {f:FuncId} {args:List AV} {r:AV} (h:tbT ((g,l) :: t) f args=some r):(g=f/\(args,r) ∈ l)\/tbT t f args=some r:=by
 simp only [tbT] at h;cases he:Nat.beq g f with
 | false=>rw [he] at h; exact .inr h
 | true =>
  rw [he] at h;simp only [cond_true] at h;split at h
  ·rename_i r' dz; cases h; exact .inl ⟨Nat.eq_of_beq_eq_true he,Aq5 dz⟩
  ·exact .inr h
theorem R1 [Globs] [Ext P]:Tab P (tbT []):=fun _ _ _ h=>aR
theorem Vv [Globs] [Ext P] {tb:FuncId->List AV->Option AV} (ht:Tab P tb) {t t':List (Nat × List (List AV × AV))} (zt:Tab P (tbT t')) (h:(t.all fun e=>e.2.all fun a=>ansT P tb e.1 a.1 a.2)=true):Tab P (tbT (t++t')):=by
 induction t with
 | nil=>exact zt
 | cons e t ih =>
  obtain ⟨g,l⟩:=e;rw [Ox,Ch] at h;intro f args r hr S tk n;rcases Av5 hr with ⟨rfl,hm⟩|hr
  ·have:=h.1;rw [C9] at this;exact cL_T ht rfl (this _ hm) S tk n
  ·exact ih h.2 f args r hr S tk n
end
end
section
def inB (n:Int):Bool:=decide (-1000000000000<=n/\n<=1000000000000)
theorem Jw {n:Int} : inB n=true↔-1000000000000<=n/\n<=1000000000000:=by simp [inB]
theorem Alb {n:Int} : inB n=false↔¬ (-1000000000000<=n/\n<=1000000000000):=by simp [inB]
def chk (ok:Bool) (n:Int):Int × Bool:=if ok && inB n then (n,true) else (0,false)
def mulS (a b:Int):Int × Bool:=chk (inB a && inB b) (a*b)
def absS (n:Int):Int:=if n=-9223372036854775808 then 1000000000000 else if 0<=n then n else -n
theorem Ar3 {n:Int} (h:inB n=true):absS n=n.natAbs:=by
 rw [Jw] at h; unfold absS; split
 ·omega
 ·split <;> omega
theorem Apl (a b:Int) (h:a≠0) :
  (decide (1000000000000 / (a.natAbs:Int)<(b.natAbs:Int))=false/\-1000000000000<=a*b/\a*b<=1000000000000/\inB (a*b)=true) \/
  (decide (1000000000000 / (a.natAbs:Int)<(b.natAbs:Int))=true/\inB (a*b)=false):=by
 have hp:0<(a.natAbs:Int):=aA
 have hab:((a*b).natAbs:Int)=(b.natAbs:Int)*a.natAbs:=by rw [Im]; push_cast; rw [Fu]
 by_cases hc:1000000000000 / (a.natAbs:Int)<(b.natAbs:Int)
 ·right;refine ⟨by simpa using hc,?_⟩;rw [Int.ediv_lt_iff_lt_mul hp] at hc;rw [Alb];omega
 ·left;have hd:=hc;rw [Int.ediv_lt_iff_lt_mul hp] at hc;rw [Jw];refine ⟨by simpa using hd,?_⟩;omega
theorem drop_nil {α:Type} {l:List α} {n:Nat} (h:l.length<=n):l.drop n=[]:=Fe h
end
section
open Go Tryz
def i64 (n:Int):Prop:=-9223372036854775808<=n/\n<=9223372036854775807
theorem Aa {n:Int} (h:i64 n):Cd.wrap n=n:=Go.IntWalk.i64_in n h
theorem A4 {i:Nat} (h:i<=1048576):Cd.wrap ((i:Int)+1)=((i+1:Nat):Int):=aS
theorem Ab9 {j:Nat} (h:j<=1048576):Cd.wrap (((j+1:Nat):Int) - 1)=(j:Int):=aS
theorem Dj {α β:Type} (f:α->β):∀ (l:List α) (i:Nat),nth (l.map f) i=(nth l i).map f
 | [],_=>rfl
 | _ :: _,0=>rfl
 | _ :: l,i+1=>Dj f l i
theorem Aw {α:Type} : ∀ {l:List α} {i:Nat} {x:α},nth l i=some x->l.drop i=x :: l.drop (i+1)
 | y :: l,0,x,h=>dG
 | _ :: l,i+1,x,h=>Aw (l:=l) (i:=i) h
 | [],_,_,h=>bM
theorem Dv (l:List Int):Db 1 (l.map digC)=true:=Dq (f:=digC) (sz:=1) (fun _=>rfl) l
theorem B0 {l:List Int} {i:Nat} {x:Int} (h:nth l i=some x):nth (l.map digC) i=some [.prim (.int .i64 x)]:=dT
theorem Uy {l:List Int} (h:l≠[]):((l.length:Int) == 0)=false:=by
 exact Ya3l
theorem Uz {l:List Int} (h:l≠[]):decide ((l.length:Int) > 0)=true:=by
 exact Ya3l
theorem Afr {l:List Int} (h:l≠[]) (hl:l.length<=1000000):Cd.wrap ((l.length:Int) - 1)=((l.length - 1:Nat):Int):=by
 have:l.length≠0:=fun h'=>h (Cw.1 h');rw [Aa aD]; omega
section
variable (S:List Ent) (tk:List Nat) (k:Nat)
theorem Pe (neg:Bool) (l:List Int) (c:Cap) (hlen:l.length<=1000000):cL prog 51 [.agg [.bool neg,.frz (l.map digC) c]] S tk k=some (.bool (Dy neg l),S,tk,k):=by
 refine opP func51 ntmps51 ?_;by_cases h1:200<l.length
 ·have d1:decide ((l.length:Int) > 200)=true:=aC
  simp (maxSteps:=10^6)+contextual(disch:=try exact dqd)only[ev0,simprocAttr,Ca,Bm,Cb,results51,d1];all_goals simp [Dy,h1]
 have d1:decide ((l.length:Int) > 200)=false:=aC
 have hv:Dy neg l=if ((decide (l=[]) && neg) || Uw l)=true then false else allD l:=by simp [Dy,h1]
 rw [hv];by_cases h2:l=[]
 ·have d2:(((0:Nat):Int) == 0)=true:=rfl;have d3:decide (((0:Nat):Int) > 0)=false:=rfl;cases neg with
  | true =>
   subst h2;simp (maxSteps:=10^6)+contextual(disch:=try exact dqd)only[ev0,simprocAttr,Ca,Bm,Cb,results51,d1,d2,d3,Cs];all_goals simp
  | false =>
   have hz:Uw l=false:=by subst h2; rfl
   rw [hz];simp only [iH,Fy,C6,if_false];have b8:l.length=0:=by rw [h2]; rfl
   have d2:((l.length:Int) == 0)=true:=by rw [b8]; rfl
   have d3:decide ((l.length:Int) > 0)=false:=by rw [b8]; rfl
   simp (maxSteps:=10^6)+contextual(disch:=try exact dqd)only[ev0,simprocAttr,Ca,Bm,Cb,results51,d1,d2,d3];refine loop1 (P:=prog) (fun x st=>st.T.length=46/\(x<=l.length)/\(allD l=allD (l.drop x))/\getT st.T 33=digA l/\getT st.T 34=.int l.length/\getT st.T 35=.int (x:Nat)/\st.S=[⟨0,[.bool false,digA l]⟩]) (fun x=>l.length - x) (fun x=>.bool (allD l)) (0) ?_ ?_;case refine_2=>exact ⟨rfl,Cl _,rfl,rfl,rfl,rfl,rfl⟩
   rintro i ⟨T,S',tk',n'⟩ ⟨hl,hi,hn,e33,e34,e35,eS⟩ IH;exact Ya8
 ·have d2:=Uy h2;have d3:=Uz h2;have d4:=Afr h2 hlen;have hp:l.length≠0:=fun h'=>h2 (Cw.1 h');obtain ⟨x,hx⟩:=Ac (l:=l) (i:=l.length - 1) aA;have hx':=B0 hx;have hz:Uw l=(x == 0):=by unfold Uw; rw [hx]
  rw [hz];cases d5:x == 0 with
  | true =>
   simp (maxSteps:=10^6)+contextual(disch:=try exact dqd)only[ev0,simprocAttr,Ca,Bm,Cb,results51,d1,d2,d3,d4,hx',d5];all_goals simp
  | false =>
   simp only [h2,decide_false,Ff,Fy,C6,if_false];simp (maxSteps:=10^6)+contextual(disch:=try exact dqd)only[ev0,simprocAttr,Ca,Bm,Cb,results51,d1,d2,d3,d4,hx',d5];refine loop1 (P:=prog) (fun x st=>st.T.length=46/\(x<=l.length)/\(allD l=allD (l.drop x))/\getT st.T 33=digA l/\getT st.T 34=.int l.length/\getT st.T 35=.int (x:Nat)/\st.S=[⟨0,[.bool neg,digA l]⟩]) (fun x=>l.length - x) (fun x=>.bool (allD l)) (0) ?_ ?_;case refine_2=>exact ⟨rfl,Cl _,rfl,rfl,rfl,rfl,rfl⟩
   rintro i ⟨T,S',tk',n'⟩ ⟨hl,hi,hn,e33,e34,e35,eS⟩ IH;exact Ya8
theorem Zi (neg:Bool) (l:List Int) (c:Cap) (hlen:l.length<=1000000):cL prog 198 [.agg [.bool neg,.frz (l.map digC) c]] S tk k=some (.bool (Dy neg l),S,tk,k):=by
 refine opP func198 ntmps198 ?_;by_cases h1:200<l.length
 ·have d1:decide ((l.length:Int) > 200)=true:=aC
  simp (maxSteps:=10^6)+contextual(disch:=try exact dqd)only[ev0,simprocAttr,Ca,Bm,Cb,results198,d1];all_goals simp [Dy,h1]
 have d1:decide ((l.length:Int) > 200)=false:=aC
 have hv:Dy neg l=if ((decide (l=[]) && neg) || Uw l)=true then false else allD l:=by simp [Dy,h1]
 rw [hv];by_cases h2:l=[]
 ·have d2:(((0:Nat):Int) == 0)=true:=rfl;have d3:decide (((0:Nat):Int) > 0)=false:=rfl;cases neg with
  | true =>
   subst h2;simp (maxSteps:=10^6)+contextual(disch:=try exact dqd)only[ev0,simprocAttr,Ca,Bm,Cb,results198,d1,d2,d3,Cs];all_goals simp
  | false =>
   have hz:Uw l=false:=by subst h2; rfl
   rw [hz];simp only [iH,Fy,C6,if_false];have b8:l.length=0:=by rw [h2]; rfl
   have d2:((l.length:Int) == 0)=true:=by rw [b8]; rfl
   have d3:decide ((l.length:Int) > 0)=false:=by rw [b8]; rfl
   simp (maxSteps:=10^6)+contextual(disch:=try exact dqd)only[ev0,simprocAttr,Ca,Bm,Cb,results198,d1,d2,d3];refine loop1 (P:=prog) (fun x st=>st.T.length=50/\(x<=l.length)/\(allD l=allD (l.drop x))/\getT st.T 1=.ref 0 0 0/\getT st.T 3=.int l.length/\getT st.T 4=.int (x:Nat)/\st.S=[⟨0,[.bool false,digA l]⟩]) (fun x=>l.length - x) (fun x=>.bool (allD l)) (0) ?_ ?_;case refine_2=>exact ⟨rfl,Cl _,rfl,rfl,rfl,rfl,rfl⟩
   rintro i ⟨T,S',tk',n'⟩ ⟨hl,hi,hn,e1,e3,e4,eS⟩ IH;exact Ya9
 ·have d2:=Uy h2;have d3:=Uz h2;have d4:=Afr h2 hlen;have hp:l.length≠0:=fun h'=>h2 (Cw.1 h');obtain ⟨x,hx⟩:=Ac (l:=l) (i:=l.length - 1) aA;have hx':=B0 hx;have hz:Uw l=(x == 0):=by unfold Uw; rw [hx]
  rw [hz];cases d5:x == 0 with
  | true =>
   simp (maxSteps:=10^6)+contextual(disch:=try exact dqd)only[ev0,simprocAttr,Ca,Bm,Cb,results198,d1,d2,d3,d4,hx',d5];all_goals simp
  | false =>
   simp only [h2,decide_false,Ff,Fy,C6,if_false];simp (maxSteps:=10^6)+contextual(disch:=try exact dqd)only[ev0,simprocAttr,Ca,Bm,Cb,results198,d1,d2,d3,d4,hx',d5];refine loop1 (P:=prog) (fun x st=>st.T.length=50/\(x<=l.length)/\(allD l=allD (l.drop x))/\getT st.T 1=.ref 0 0 0/\getT st.T 3=.int l.length/\getT st.T 4=.int (x:Nat)/\st.S=[⟨0,[.bool neg,digA l]⟩]) (fun x=>l.length - x) (fun x=>.bool (allD l)) (0) ?_ ?_;case refine_2=>exact ⟨rfl,Cl _,rfl,rfl,rfl,rfl,rfl⟩
   rintro i ⟨T,S',tk',n'⟩ ⟨hl,hi,hn,e1,e3,e4,eS⟩ IH;exact Ya9
end
end
section
open Go
def numC (x:Int):AV:=.prim (.int .i64 x)
theorem Adh {l:List Int} {i:Nat} {x:Int} (h:nth l i=some x):nth ((l.map numC).drop i) 0=some (.prim (.int .i64 x)):=by
 have:nth (l.map numC) i=some (numC x):=dT
 exact B9 this
theorem Ym {l:List Int} {i:Nat} {x v:Int} (h:nth l i=some x):over (l.map numC) i [.prim (.int .i64 v)]=some ((l.set i v).map numC):=by
 have h1:nth (l.map numC) i=some (numC x):=dT
 rw [P6 h1];have:(.prim (.int .i64 v):AV)=numC v:=rfl;rw [this,Nw,Vf]
theorem Re {l:List Int} {n:Nat} (h:n<=l.length):Hx 1 n (l.map numC)=some ((l.take n).map digC):=W9 h
theorem Rf (l:List Int):L8 (some (l.map digC))=.frz (l.map digC) .unk:=by
 unfold L8;simp only;rw [if_pos (by simp [digC,pure1,w1,jG])];congr 1;simp [w1,digC]
theorem Auv {m id ep n:Nat} {S:List Ent} {l:List Int} (hm:m<=id) (h:entAt S id ep=some (l.map numC)) (hn:n<=l.length):fz1 m S (.sref id ep 0 n 1)=.frz ((l.take n).map digC) .unk:=by
 rw [fz1_sref hm,h,fzB_some,Fx,Re hn,Rf]
theorem Gs {l:List Int} {n:Nat} (hn:n<=l.length) (hz:∀ j,n<=j->∀ x,nth l j=some x->x=0) (he:n=0\/∃ x,nth l (n - 1)=some x/\x≠0):Dm l=l.take n:=by
 rw [Qn n l hn hz];rcases he with rfl|⟨x,hx,h0⟩
 ·simp [Dm]
 ·by_cases h1:n=0
  ·subst h1; simp [Dm]
  ·refine Y9 _ (n - 1) x ?_ aC h0;rw [Af,I5 aA,<- Af]; exact hx
theorem Tk {n:Nat} (h:n≠0) (hl:n<=1000000):Cd.wrap ((n:Int) - 1)=((n - 1:Nat):Int):=by
 rw [Aa aD]; omega
theorem Up {l:List Int} {n:Nat} {x:Int} (hz:∀ j,n<=j->∀ x,nth l j=some x->x=0) (hx:nth l (n - 1)=some x) (iw:x=0):∀ j,n - 1<=j->∀ y,nth l j=some y->y=0:=fun j hj y hy=>by
 by_cases e:j=n - 1
 ·rw [e,hx] at hy; simp only [Ba] at hy; omega
 ·exact hz j aA y hy
theorem Pp (l:List Int):∀ j,l.length<=j->∀ x,nth l j=some x->x=0:=fun j hj x hx=>by have:=Bn hx; omega
theorem Aq8:∀ {l r:List Int} {i:Nat} {x y:Int},l.length=r.length->okD l->okD r->nth l i=some x->nth r i=some y->x<y->(∀ j,i<j->nth l j=nth r j)->val l<val r
 | d :: l,e :: r,0,x,y,hl,h1,h2,hx,hy,ja,he=>by
  simp only [nth,Ba] at hx hy; subst hx hy;have:l=r:=by
   apply List.ext_getElem?;intro j;have:=he (j+1) aA;simp only [nth,Af] at this; exact this
  subst this; simp only [val]; omega
 | d :: l,e :: r,i+1,x,y,hl,h1,h2,hx,hy,ja,he=>by
  have ih:=Aq8 (l:=l) (r:=r) (i:=i) cD (fun z hz=>h1 z (by simp [hz])) (fun z hz=>h2 z (by simp [hz])) hx hy ja fun j hj=>he (j+1) aA;have g1:=h1 d (by simp);have g2:=h2 e (by simp);simp only [val]; omega
 | [],_,_,_,_,_,_,_,hx,_,_,_=>by simp [nth] at hx
 | _ :: _,[],_,_,_,_,_,_,_,hy,_,_=>by simp [nth] at hy
def cmpN (a b:Nat):Int:=if a<b then -1 else if b<a then 1 else 0
theorem Ks {a b:Nat} (h:(dig a).length<(dig b).length):a<b:=by
 have h1:=Bg (n:=a) (k:=(dig a).length);have h2:=Bg (n:=b) (k:=(dig a).length);have h3:¬ (dig b).length<=(dig a).length:=aA
 rw [h2] at h3;have:=h1.1 (Ce _);omega
theorem Aev {a b i:Nat} {x y:Int} (hl:(dig a).length=(dig b).length) (hx:nth (dig a) i=some x) (hy:nth (dig b) i=some y) (h:x<y) (he:∀ j,i<j->nth (dig a) j=nth (dig b) j):a<b:=by
 have:=Aq8 hl (Bf a) (Bf b) hx hy h he;rw [Br,Br] at this; omega
theorem Aew {a b:Nat} (he:∀ j,nth (dig a) j=nth (dig b) j):a=b:=by
 refine Asb (List.ext_getElem? fun j=>?_);rw [<- Af,<- Af]; exact he j
theorem Hv {n:Nat} (hl:n<=1000000):Cd.wrap ((n:Int) - 1)=(n:Int) - 1:=Aa aD
theorem Dh {l:List Int} {i j:Nat} {x v:Int} (h:nth (l.set i v) j=some x):(j=i/\x=v)\/(j≠i/\nth l j=some x):=by
 rw [<- Vf] at h;by_cases e:i=j
 ·subst e; exact .inl ⟨rfl,Eg h⟩
 ·rw [Ae e] at h; exact .inr ⟨fun h=>e h.symm,h⟩
theorem Rw {l:List Int} {i:Nat} {v:Int} (h:i<l.length):nth (l.set i v) i=some v:=by
 rw [Af,List.getElem?_set_self h]
theorem W3 {l:List Int} (h:∀ j x,nth l j=some x->0<=x/\x<10000):okD l:=fun d hd=>by
 obtain ⟨j,hj⟩:=List.mem_iff_getElem?.1 hd;exact h j d (by rw [Af]; exact hj)
theorem Df {l:List Int} (h:okD l) {j:Nat} {x:Int} (hx:nth l j=some x):0<=x/\x<10000:=h x dY
def padL (l:List Int) (n:Nat):List Int:=l++Cg (n - l.length) 0
theorem Yo {l:List Int} {n:Nat} (h:l.length<=n):(padL l n).length=n:=by simp [padL]; omega
theorem Yp (l:List Int) (n:Nat):val (padL l n)=val l:=by rw [padL,Gj,H6]; omega
theorem Amd {l:List Int} {n j:Nat} {x:Int} (h:nth (padL l n) j=some x):nth l j=some x\/(l.length<=j/\x=0):=by
 rw [Af,padL] at h;by_cases hj:j<l.length
 ·rw [Cv hj] at h; left; rw [Af]; exact h
 ·rw [Fh aA] at h;right;refine ⟨aA,?_⟩;have:=Il h;exact (Ip.1 this).2
theorem Aca (n:Nat):(Cg n [(.prim (.int .i64 0):AV)]).flatten=(Cg n (0:Int)).map numC:=by
 rw [Apa,kU]; rfl
def Aqd (n:Nat):List AV:=(Cg n (0:Int)).map numC
theorem Al1 {P:Program} {t:TypeId} {n:Nat} (hz:(Bc P t).bind (A2 P)=some [.prim (.int .i64 0)]) (hs:(Bc P t).bind (szOf P)=some 1) (hb:(Bc P t).bind (Hq P)=some 8) (hn:n<=1048576) :
  mkA P t (.prim (.int .i64 (n:Int))) (.prim (.int .i64 (n:Int)))=some (n,1,Aqd n):=by
 unfold mkA;rw [hz,hs,hb,intN_cast];simp only [mkB];rw [if_pos ⟨Ce _,hn,aA,rfl⟩,Aca]; rfl
theorem Hp:∀ l:List Int,Dm l=l.take (Dm l).length
 | []=>rfl
 | d :: l=>by
  rw [Dm];split
  ·rfl
  ·simp only [Ci,Ga];rw [<- Hp l]
theorem J0 (n:Nat):(0:Int)<10000 ^ n:=Int.pow_pos aA
structure Plus1 (a b la i:Nat) (out:List Int):Prop where
 len:out.length=la+1
 val:val out+10000 ^ i*val ((dig b).drop i)=(a+b:Nat)
 ok:∀ j x,nth out j=some x->0<=x/\(j<i->x<=19998)/\(i<=j->x<10000)/\(j=la->x=0)
theorem Plus1.start {a b:Nat} : Plus1 a b (dig a).length 0 (padL (dig a) ((dig a).length+1)):=by
 refine ⟨Yo aA,?_,fun j x hx=>?_⟩
 ·rw [Yp,Br,Fx,Br]; simp
 ·rcases Amd hx with h|⟨h,rfl⟩
  ·have:=Df (Bf a) h;have hl:=Bn h;exact ⟨this.1,aA,fun _=>this.2,fun e=>aA⟩
  ·exact ⟨aA,aA,aA,fun _=>rfl⟩
theorem Plus1.step {a b la i:Nat} {out:List Int} {x d:Int} (h:Plus1 a b la i out) (hb:i<la) (hx:nth out i=some x) (hd:nth (dig b) i=some d):Plus1 a b la (i+1) (out.set i (x+d)):=by
 have sk:=Df (Bf b) hd;refine ⟨bQ,?_,fun j y hy=>?_⟩
 ·have hv:=h.val;rw [Aw hd,Go.Proofs.YthelkgdmgihhiaaGreat.val] at hv;rw [Hh hx,<- hv,L3,Oi];have e1:x+d - x=d:=aA
  rw [e1,Fu d,G0]; omega
 ·rcases Dh hy with ⟨rfl,rfl⟩|⟨hne,hy⟩
  ·have:=h.ok _ x hx;exact ⟨aA,aA,aA,aA⟩
  ·have:=h.ok j y hy;exact ⟨this.1,fun hj=>this.2.1 aA,fun hj=>this.2.2.1 aA,this.2.2.2⟩
structure Plus2 (v la i:Nat) (out:List Int):Prop where
 len:out.length=la+1
 val:val out=v
 ok:∀ j x,nth out j=some x->0<=x/\(j<i->x<10000)/\(j=i->x<=19999)/\(i<j->x<=19998)/\(j=la->x<=1/\(i<la->x=0))
theorem Plus2.start {a b la:Nat} {out:List Int} (h:Plus1 a b la (dig b).length out):Plus2 (a+b) la 0 out:=by
 refine ⟨h.len,?_,fun j x hx=>?_⟩
 ·have:=h.val;rw [Fi,Go.Proofs.YthelkgdmgihhiaaGreat.val] at this; omega
 ·have:=h.ok j x hx;refine ⟨this.1,aA,fun _=>?_,fun _=>?_,fun e=>⟨by have:=this.2.2.2 e; omega,fun _=>this.2.2.2 e⟩⟩
  ·rcases Ig j (dig b).length with hj|hj
   ·have:=this.2.1 hj; omega
   ·have:=this.2.2.1 hj; omega
  ·rcases Ig j (dig b).length with hj|hj
   ·exact this.2.1 hj
   ·have:=this.2.2.1 hj; omega
theorem Plus2.small {v la i:Nat} {out:List Int} {x:Int} (h:Plus2 v la i out) (hi:i<la) (hx:nth out i=some x) (h1:x<10000):Plus2 v la (i+1) out:=by
 refine ⟨h.len,h.val,fun j y hy=>?_⟩;have:=h.ok j y hy;refine ⟨this.1,fun hj=>?_,fun hj=>by have:=this.2.2.2.1 aA; omega,fun hj=>this.2.2.2.1 aA,fun e=>⟨(this.2.2.2.2 e).1,fun _=>(this.2.2.2.2 e).2 hi⟩⟩;exact Ya1x
theorem Plus2.big {v la i:Nat} {out:List Int} {x y:Int} (h:Plus2 v la i out) (hi:i<la) (hx:nth out i=some x) (h1:10000<=x) (hy:nth (out.set i (x - 10000)) (i+1)=some y):Plus2 v la (i+1) ((out.set i (x - 10000)).set (i+1) (y+1)):=by
 refine ⟨Za35,?_,fun j z hz=>?_⟩
 ·rw [Hh hy,Hh hx,<- h.val,L3];have e1:x - 10000 - x=-10000:=aA
  have e2:y+1 - y=1:=aA
  rw [e1,e2,Int.one_mul,Fu (10000 ^ i) 10000,Sy]; omega
 ·have hyo:nth out (i+1)=some y:=by
   rcases Dh hy with ⟨e,-⟩|⟨-,hy⟩
   ·omega
   ·exact hy
  have hk:=h.ok i x hx;have hky:=h.ok (i+1) y hyo;rcases Dh hz with ⟨rfl,rfl⟩|⟨hne,hz⟩
  ·refine ⟨aA,aA,fun _=>by have:=hky.2.2.2.1 aA; omega,aA,fun e=>?_⟩;have:=(hky.2.2.2.2 e).2 hi;exact ⟨aA,aA⟩
  ·rcases Dh hz with ⟨rfl,rfl⟩|⟨x9,hz⟩
   ·exact ⟨aA,fun _=>aA,aA,aA,aA⟩
   ·have:=h.ok j z hz;exact ⟨this.1,fun hj=>this.2.1 aA,fun hj=>aA,fun hj=>this.2.2.2.1 aA,fun e=>⟨(this.2.2.2.2 e).1,fun _=>(this.2.2.2.2 e).2 hi⟩⟩
theorem Plus2.done {v la:Nat} {out:List Int} (h:Plus2 v la la out):Dm out=dig v:=by
 have hk:okD out:=W3 fun j x hx=>by
  have:=h.ok j x hx;have hl:=Bn hx;rw [h.len] at hl;refine ⟨this.1,?_⟩;rcases Ig j la with hj|hj
  ·exact this.2.1 hj
  ·have:=(this.2.2.2.2 aA).1; omega
 rw [D6 hk,h.val]; congr 1
theorem Agw {l:List Int} (h:okD l):val l<10000 ^ l.length:=by
 induction l with
 | nil=>simp [val]
 | cons d l ih =>
  have h1:=h d (by simp);have h2:=ih fun x hx=>h x bN;simp only [val,Ci,L3]; omega
structure We (a b la i:Nat) (out:List Int):Prop where
 len:out.length=la
 eqv:val out - 10000 ^ i*val ((dig b).drop i)=(a:Int) - b
 ok:∀ j x,nth out j=some x->-9999<=x/\x<=9999/\(i<=j->0<=x)
theorem We.start {a b:Nat} : We a b (dig a).length 0 (padL (dig a) (dig a).length):=by
 refine ⟨Yo aA,?_,fun j x hx=>?_⟩
 ·rw [Yp,Br,Fx,Br]; simp
 ·rcases Amd hx with h|⟨h,rfl⟩
  ·have:=Df (Bf a) h; exact ⟨aA,aA,fun _=>this.1⟩
  ·exact ⟨aA,aA,fun _=>aA⟩
theorem We.step {a b la i:Nat} {out:List Int} {x d:Int} (h:We a b la i out) (hx:nth out i=some x) (hd:nth (dig b) i=some d):We a b la (i+1) (out.set i (x - d)):=by
 have sk:=Df (Bf b) hd;refine ⟨bQ,?_,fun j y hy=>?_⟩
 ·have hv:=h.eqv;rw [Aw hd,val] at hv;rw [Hh hx,<- hv,L3,Oi];have e1:x - d - x=-d:=aA
  rw [e1,Sy,Fu d,G0]; omega
 ·rcases Dh hy with ⟨rfl,rfl⟩|⟨hne,hy⟩
  ·have:=h.ok _ x hx;exact ⟨by have:=this.2.2 (Ce _); omega,aA,aA⟩
  ·have:=h.ok j y hy;exact ⟨this.1,this.2.1,fun hj=>this.2.2 aA⟩
structure M5 (v:Nat) (la i:Nat) (out:List Int):Prop where
 len:out.length=la
 eqv:val out=v
 ok:∀ j x,nth out j=some x->x<=9999/\(j<i->0<=x)/\(j=i->-10000<=x)/\(i<j->-9999<=x)
theorem M5.start {a b la:Nat} {out:List Int} (h:We a b la (dig b).length out) (hab:b<=a):M5 (a - b) la 0 out:=by
 refine ⟨h.len,?_,fun j x hx=>?_⟩
 ·have:=h.eqv;rw [Fi,val] at this; omega
 ·have:=h.ok j x hx; exact ⟨this.2.1,aA,aA,aA⟩
theorem M5.small {v la i:Nat} {out:List Int} {x:Int} (h:M5 v la i out) (hx:nth out i=some x) (h1:0<=x):M5 v la (i+1) out:=by
 refine ⟨h.len,h.eqv,fun j y hy=>?_⟩;have:=h.ok j y hy;refine ⟨this.1,fun hj=>?_,fun hj=>by have:=this.2.2.2 aA; omega,fun hj=>this.2.2.2 aA⟩;exact Ya1x
theorem M5.neg {v la i:Nat} {out:List Int} {x y:Int} (h:M5 v la i out) (hx:nth out i=some x) (h1:x<0) (hy:nth (out.set i (x+10000)) (i+1)=some y):M5 v la (i+1) ((out.set i (x+10000)).set (i+1) (y - 1)):=by
 have hyo:nth out (i+1)=some y:=by
  rcases Dh hy with ⟨e,-⟩|⟨-,hy⟩
  ·omega
  ·exact hy
 have hk:=h.ok i x hx;have hky:=h.ok (i+1) y hyo;refine ⟨Za35,?_,fun j z hz=>?_⟩
 ·rw [Hh hy,Hh hx,<- h.eqv,L3];have e1:x+10000 - x=10000:=aA
  have e2:y - 1 - y=-1:=aA
  rw [e1,e2,Fu (10000 ^ i) 10000]; omega
 ·rcases Dh hz with ⟨rfl,rfl⟩|⟨hne,hz⟩
  ·exact ⟨aA,aA,fun _=>by have:=hky.2.2.2 aA; omega,aA⟩
  ·rcases Dh hz with ⟨rfl,rfl⟩|⟨x9,hz⟩
   ·exact ⟨aA,fun _=>by have:=hk.2.2.1 rfl; omega,aA,aA⟩
   ·have:=h.ok j z hz;exact ⟨this.1,fun hj=>this.2.1 aA,fun hj=>aA,fun hj=>this.2.2.2 aA⟩
theorem M5.done {v la:Nat} {out:List Int} (h:M5 v la la out):Dm out=dig v:=by
 have hk:okD out:=W3 fun j x hx=>by
  have:=h.ok j x hx;have hl:=Bn hx;rw [h.len] at hl;exact ⟨this.2.1 hl,aA⟩
 rw [D6 hk,h.eqv]; congr 1
theorem Tm (l:List Int) (i:Nat):val (l.drop i)=(nth l i).getD 0+10000*val (l.drop (i+1)):=by
 by_cases h:i<l.length
 ·obtain ⟨x,hx⟩:=Ac h;rw [Aw hx,hx]; rfl
 ·rw [Fe aA,Fe aA,Af,C5 aA]; rfl
theorem Mn (a i:Nat):0<=(nth (dig a) i).getD 0/\(nth (dig a) i).getD 0<10000:=by
 cases h:nth (dig a) i with
 | none=>simp
 | some x=>exact Df (Bf a) h
theorem P5 {l:List Int} {x:Int} (h:okD l) (h0:0<=x) (h1:x<10000):okD (l++[x]):=fun d hd=>by
 rcases C3.1 hd with hd|hd
 ·exact h d hd
 ·simp at hd; subst hd; exact ⟨h0,h1⟩
theorem M2 (l:List Int) (x:Int):val (l++[x])=val l+10000 ^ l.length*x:=by rw [Gj]; simp [val]
theorem J1 (i:Nat) (x r:Int):(10000:Int) ^ i*x+10000 ^ (i+1)*r=10000 ^ i*(x+10000*r):=by rw [L3,Oi,G0]
structure Sum1 (a b i:Nat) (c:Int) (out:List Int):Prop where
 len:out.length=i
 ok:okD out
 c0:0<=c/\c<=1
 eqv:val out+10000 ^ i*(c+val ((dig a).drop i)+val ((dig b).drop i))=(a+b:Nat)
theorem Sum1.step {a b i:Nat} {c n:Int} {out:List Int} (h:Sum1 a b i c out) (hn:n=(nth (dig a) i).getD 0+(nth (dig b) i).getD 0+c):Sum1 a b (i+1) (n.tdiv 10000) (out++[n.tmod 10000])/\0<=n/\n<=19999/\0<=n.tmod 10000/\n.tmod 10000<10000:=by
 have h1:=Mn a i;have h2:=Mn b i;have h3:=h.c0;have e1:n.tdiv 10000=n / 10000:=Cz aA;have e2:n.tmod 10000=n % 10000:=F7 aA;refine ⟨⟨eU,P5 h.ok aA aA,aA,?_⟩,aA,aA,aA,aA⟩;have hv:=h.eqv;rw [Tm (dig a) i,Tm (dig b) i] at hv;have:n.tmod 10000+10000*(n.tdiv 10000+val ((dig a).drop (i+1))+val ((dig b).drop (i+1)))=c+((nth (dig a) i).getD 0+10000*val ((dig a).drop (i+1)))+((nth (dig b) i).getD 0+10000*val ((dig b).drop (i+1))):=aA
 exact Ya37
theorem Sum1.done {a b i:Nat} {c:Int} {out:List Int} (h:Sum1 a b i c out) (h1:(dig a).length<=i) (h2:(dig b).length<=i) (h3:c=0):Dm out=dig (a+b):=by
 have hv:=h.eqv;rw [Fe h1,Fe h2,h3] at hv;simp only [val] at hv;rw [D6 h.ok];congr 1; omega
structure Dif1 (a b i:Nat) (c:Int) (out:List Int):Prop where
 len:out.length=i
 ok:okD out
 c0:0<=c/\c<=1
 eqv:val out+10000 ^ i*(val ((dig a).drop i) - val ((dig b).drop i) - c)=(a:Int) - b
theorem Dif1.step {a b i:Nat} {c n d:Int} {out:List Int} (h:Dif1 a b i c out) (hd:nth (dig a) i=some d) (hn:n=d - (nth (dig b) i).getD 0 - c):(n<0->Dif1 a b (i+1) 1 (out++[n+10000]))/\(¬ n<0->Dif1 a b (i+1) 0 (out++[n]))/\-10000<=n/\n<10000:=by
 have h1:=Df (Bf a) hd;have h2:=Mn b i;have h3:=h.c0;have hv:=h.eqv;rw [Tm (dig b) i,Aw hd,val] at hv;refine ⟨fun eh=>⟨eU,P5 h.ok aA aA,aA,?_⟩,fun eh=>⟨eU,P5 h.ok aA aA,aA,?_⟩,aA,aA⟩
 ·have:n+10000+10000*(val ((dig a).drop (i+1)) - val ((dig b).drop (i+1)) - 1)=d+10000*val ((dig a).drop (i+1)) - ((nth (dig b) i).getD 0+10000*val ((dig b).drop (i+1))) - c:=aA
  exact Ya37
 ·have:n+10000*(val ((dig a).drop (i+1)) - val ((dig b).drop (i+1)) - 0)=d+10000*val ((dig a).drop (i+1)) - ((nth (dig b) i).getD 0+10000*val ((dig b).drop (i+1))) - c:=aA
  exact Ya37
theorem Mt {a b:Nat} (h:b<=a):(dig b).length<=(dig a).length:=by
 rw [Bg];have:=(Bg (n:=a) (k:=(dig a).length)).1 (Ce _);omega
theorem Dif1.done {a b:Nat} {c:Int} {out:List Int} (h:Dif1 a b (dig a).length c out) (hab:b<=a):Dm out=dig (a - b):=by
 have hv:=h.eqv;have h3:=h.c0;rw [Fi,Fe (Mt hab)] at hv;simp only [val] at hv;have hlt:=Agw h.ok;rw [h.len] at hlt;have hp:=J0 (dig a).length;have hc:c=0:=by
  rcases Int.lt_or_le c 1 with h1|h1
  ·omega
  ·have:c=1:=aA
   subst this;have:(10000:Int) ^ (dig a).length*(0 - 0 - 1)=-(10000 ^ (dig a).length):=aA
   omega
 subst hc;rw [D6 h.ok];congr 1;have:(10000:Int) ^ (dig a).length*(0 - 0 - 0)=0:=by simp
 omega
theorem Ns {l:List Int} {i:Nat} {x:Int} (h:okD l) (h0:0<=x) (h1:x<10000):okD (l.set i x):=fun d hd=>by
 rcases List.mem_or_eq_of_mem_set hd with hd|rfl
 ·exact h d hd
 ·exact ⟨h0,h1⟩
structure Mul1 (X Y i:Nat) (out:List Int):Prop where
 len:out.length=(dig X).length+(dig Y).length
 ok:okD out
 zero:∀ j x,i+(dig Y).length<=j->nth out j=some x->x=0
 eqv:val out+10000 ^ i*(val ((dig X).drop i)*Y)=X*Y
theorem Mul1.start (X Y:Nat):Mul1 X Y 0 (Cg ((dig X).length+(dig Y).length) 0):=by
 have hz:∀ (n j:Nat) (x:Int),nth (Cg n (0:Int)) j=some x->x=0:=fun n j x h=>by
  exact Ya3t
 refine ⟨by simp,W3 fun j x hx=>by rw [hz _ _ _ hx]; omega,fun j x _ hx=>hz _ _ _ hx,?_⟩;rw [H6,Fx,Br]; simp
structure Mul2 (X Y i k:Nat) (v d c:Int) (out:List Int):Prop where
 len:out.length=(dig X).length+(dig Y).length
 ok:okD out
 zero:∀ j x,i+(dig Y).length<=j->(k<=(dig Y).length\/i+(dig Y).length<j)->nth out j=some x->x=0
 c0:0<=c/\c<10000
 eqv:val out+10000 ^ (i+k)*(c+d*val ((dig Y).drop k))=v
theorem Mul2.start {X Y i:Nat} {d:Int} {out:List Int} (h:Mul1 X Y i out):Mul2 X Y i 0 (val out+10000 ^ i*(d*Y)) d 0 out :=
 ⟨h.len,h.ok,fun j x hj _ hx=>h.zero j x hj hx,aA,by rw [Fx,Br]; simp⟩
theorem Mul2.step {X Y i k:Nat} {v d c x n:Int} {out:List Int} (h:Mul2 X Y i k v d c out) (hk:k<=(dig Y).length) (hd:0<=d/\d<10000) (hx:nth out (i+k)=some x) (hn:n=c+x+d*(nth (dig Y) k).getD 0) :
  Mul2 X Y i (k+1) v d (n.tdiv 10000) (out.set (i+k) (n.tmod 10000))/\0<=n/\n<=99999999/\n.tdiv 10000=n / 10000:=by
 have h1:=Mn Y k;have h2:=Df h.ok hx;have h3:=h.c0;have v7:0<=d*(nth (dig Y) k).getD 0:=Sl hd.1 h1.1;have hp1:d*(nth (dig Y) k).getD 0<=9999*9999:=Int.mul_le_mul aA aA h1.1 aA;have e1:n.tdiv 10000=n / 10000:=Cz aA;have e2:n.tmod 10000=n % 10000:=F7 aA;refine ⟨⟨bQ,Ns h.ok aA aA,fun j y hj hjk hy=>?_,aA,?_⟩,aA,aA,e1⟩
 ·rcases Dh hy with ⟨rfl,rfl⟩|⟨hne,hy⟩
  ·have hkk:k=(dig Y).length:=aA
   omega
  ·exact h.zero j y hj aA hy
 ·have hv:=h.eqv;rw [Tm (dig Y) k] at hv;have jr:d*((nth (dig Y) k).getD 0+10000*val ((dig Y).drop (k+1)))=d*(nth (dig Y) k).getD 0+10000*(d*val ((dig Y).drop (k+1))):=by
   rw [Oi,Int.mul_left_comm]
  rw [jr] at hv;rw [Hh hx,Zt,<- Oy,Fu (n.tmod 10000 - x),J1,<- hv];congr 2;omega
theorem Mul2.next {X Y i:Nat} {d c x:Int} {o out:List Int} (h:Mul2 X Y i (dig Y).length (val o+10000 ^ i*(d*Y)) d c out) (h0:Mul1 X Y i o) (hd:nth (dig X) i=some d) (hx:nth out (i+(dig Y).length)=some x):x=0/\Mul1 X Y (i+1) (out.set (i+(dig Y).length) (x+c)):=by
 have iw:=h.zero _ x (Ce _) (.inl (Ce _)) hx;subst iw;have h3:=h.c0;refine ⟨rfl,bQ,Ns h.ok aA aA,fun j y hj hy=>?_,?_⟩
 ·rcases Dh hy with ⟨rfl,rfl⟩|⟨hne,hy⟩
  ·omega
  ·exact h.zero j y aA (.inl (Ce _)) hy
 ·have hv:=h.eqv;rw [Fi] at hv;simp only [val,Q4,Ss] at hv;have li:=h0.eqv;rw [Aw hd,val] at li;rw [Hh hx,<- li];have e1:(0:Int)+c - 0=c:=aA
  rw [e1,Fu c,hv,Zt,J1];congr 2;rw [Int.add_mul,G0]
theorem Mul2.last {X Y i k:Nat} {d c:Int} {o out:List Int} (h:Mul2 X Y i k (val o+10000 ^ i*(d*Y)) d c out) (hk:(dig Y).length<=k) (hc:c=0) (h0:Mul1 X Y i o) (hd:nth (dig X) i=some d):Mul1 X Y (i+1) out:=by
 refine ⟨h.len,h.ok,fun j y hj hy=>h.zero j y aA aA hy,?_⟩;have hv:=h.eqv;rw [Fe hk,hc] at hv;simp only [val,Q4,Ss] at hv;have li:=h0.eqv;rw [Aw hd,val] at li;rw [<- li,hv,Zt,J1];congr 2;rw [Int.add_mul,G0]
theorem Mul1.done {X Y:Nat} {out:List Int} (h:Mul1 X Y (dig X).length out):Dm out=dig (X*Y):=by
 have hv:=h.eqv;rw [Fi] at hv;simp only [val,Int.zero_mul,Q4,Ss] at hv;rw [D6 h.ok,hv];congr 1
theorem V_bad {p:Bool} {l:List Int} (h:Dy p l=false):V p l=0:=by simp [V,h]
section
variable (S:List Ent) (tk:List Nat) (k:Nat)
theorem Nk {X Y m n:Nat} (ha:(dig X).length<=m) (hb:(dig Y).length<=n):(dig (X*Y)).length<=m+n:=by
 rw [Bg] at ha hb ⊢;rw [Nat.pow_add];exact Nat.mul_lt_mul'' ha hb
end
def sg (p:Bool) (n:Nat):Int:=if p=true then -(n:Int) else n
def okZ (z:Int):Bool:=!decide (200<(dig z.natAbs).length)
theorem Avu (p:Bool) (n:Nat):(sg p n).natAbs=n:=by unfold sg; split <;> omega
theorem V_sg (p:Bool) (l:List Int):V p l=sg p (V p l).natAbs:=by
 unfold V;cases h:Dy p l with
 | false=>cases p <;> simp [sg]
 | true =>
  have h3:=Ed (Jk h).2.1;cases p <;> simp [sg] <;> omega
theorem Au7 (p q:Bool) (X Y:Nat):sg (p != q) (X*Y)=sg p X*sg q Y:=by
 cases p <;> cases q <;> simp [sg,Sy,Int.mul_neg]
theorem Aqo {p q:Bool} (h:p≠q) {X Y:Nat} (hl:Y<=X):sg p (X - Y)=sg p X+sg q Y:=by
 cases p <;> cases q <;> simp [sg] at h ⊢ <;> omega
theorem Aua {p q:Bool} (h:p≠q) {X Y:Nat} (hl:X<=Y):sg q (Y - X)=sg p X+sg q Y:=by
 cases p <;> cases q <;> simp [sg] at h ⊢ <;> omega
def cmpZ (x y:Int):Int:=if x<y then -1 else if y<x then 1 else 0
end
section
open Go Tryz
set_option maxRecDepth 100000
section
variable (S:List Ent) (tk:List Nat) (k:Nat)
theorem Qb (a b:Nat) (ha:(dig a).length<=1000000) (hb:(dig b).length<=1000000):cL prog 233 [digA (dig a),digA (dig b)] S tk k=some (.int (cmpN a b),S,tk,k):=by
 refine opP func233 ntmps233 ?_;by_cases hl:(dig a).length=(dig b).length;case neg =>
  have d1:(((dig a).length:Int) != ((dig b).length:Int))=true:=aC
  rcases Ig (dig a).length (dig b).length with h|h
  ·have d2:decide (((dig a).length:Int)<((dig b).length:Int))=true:=aL
   have:=Ks h
   simp (maxSteps:=10^6)+contextual(disch:=try exact dqd)only[ev0,simprocAttr,Ca,Bm,Cb,results233,digA,d1,d2]
   simp [cmpN,this]
  ·have d2:decide (((dig a).length:Int)<((dig b).length:Int))=false:=aC
   have:=Ks (a:=b) (b:=a) aA
   simp (maxSteps:=10^6)+contextual(disch:=try exact dqd)only[ev0,simprocAttr,Ca,Bm,Cb,results233,digA,d1,d2]
   rw [cmpN,if_neg aA,if_pos this]
 have d1:(((dig a).length:Int) != ((dig b).length:Int))=false:=aC
 have d3:=Hv ha;simp (maxSteps:=10^6)+contextual(disch:=try exact dqd)only[ev0,simprocAttr,Ca,Bm,Cb,results233,digA,d1,d3];refine loop1 (P:=prog) (fun x st=>st.T.length=41/\(x<=(dig a).length)/\(∀ j,x<=j->nth (dig a) j=nth (dig b) j)/\getT st.T 0=digA (dig a)/\getT st.T 1=digA (dig b)/\getT st.T 5=.int ((x:Int) - 1)/\st.S=[]) (fun x=>x) (fun x=>.int (cmpN a b)) ((dig a).length) ?_ ?_;case refine_2=>exact ⟨rfl,Ce _,fun j hj=>by rw [Af,Af,C5 hj,C5 aA],rfl,rfl,rfl,rfl⟩
 rintro n ⟨T,S',tk',n'⟩ ⟨hl,hn,he,e0,e1,e5,eS⟩ IH;subst eS;obtain ⟨g,hg,hT⟩:=Ar hl;rw [hg] at e0 e1 e5;subst hT;clear hg hl;by_cases h0:n=0
 ·have d2:decide ((n:Int) - 1 >= 0)=false:=aC
  have:=Aew fun j=>he j aA;subst this;simp (maxSteps:=10^6)+contextual(disch:=try exact dqd)only[ev0,simprocAttr,Ca,Bm,Cb,results233,e0,e1,e5,d2,digA];simp [cmpN]
 ·have d2:decide ((n:Int) - 1 >= 0)=true:=aC
  have hi:(n:Int) - 1=((n - 1:Nat):Int):=aA
  obtain ⟨x,hx⟩:=Ac (show n - 1<(dig a).length by omega);obtain ⟨y,hy⟩:=Ac (show n - 1<(dig b).length by omega);have hx':=B0 hx;have f9:=B0 hy;have pg:∀ j,n - 1<j->nth (dig a) j=nth (dig b) j:=fun j hj=>he j aA;have hp:=Hv (n:=n - 1) aA;rw [hi] at e5 d2;by_cases ja:x=y
  ·have d4:(x != y)=false:=gJ
   simp (maxSteps:=10^6)+contextual(disch:=try exact dqd)only[ev0,simprocAttr,Ca,Bm,Cb,results233,e0,e1,e5,d2,d4,digA,hx',f9,hp];exact IH (n - 1) _ aF ⟨rfl,aE,fun j hj=>Za6p,aB,aB,aB,aB⟩
  ·have d4:(x != y)=true:=gJ
   by_cases h1:x<y
   ·have d5:decide (x<y)=true:=aW
    have:=Aev hl hx hy h1 pg;simp (maxSteps:=10^6)+contextual(disch:=try exact dqd)only[ev0,simprocAttr,Ca,Bm,Cb,results233,e0,e1,e5,d2,d4,d5,digA,hx',f9,hp];simp [cmpN,this]
   ·have d5:decide (x<y)=false:=aW
    have:=Aev hl.symm hy hx aA fun j hj=>(pg j hj).symm;simp (maxSteps:=10^6)+contextual(disch:=try exact dqd)only[ev0,simprocAttr,Ca,Bm,Cb,results233,e0,e1,e5,d2,d4,d5,digA,hx',f9,hp];rw [cmpN,if_neg aA,if_pos this]
theorem Abt (l:List Int) (id ep:Nat) (hlen:l.length<=1000000) (h:entAt S id ep=some (l.map numC)):cL prog 234 [.sref id ep 0 l.length 1] S tk k=some (.sref id ep 0 (Dm l).length 1,S,tk,k):=by
 refine opS func234 ntmps234 ?_;have hid:id<S.length:=by
  obtain ⟨e,h1,-⟩:=Du h;exact Bn h1
 simp (maxSteps:=10^6)+contextual(disch:=try exact dqd)only[evs0,simprocAttr,Ca,Bm,Cb,results234];refine Ada (P:=prog) (fun x st=>st.T.length=21/\(x<=l.length)/\(∀ j,x<=j->∀ x,nth l j=some x->x=0)/\getT st.T 0=.sref id ep 0 x 1/\st.S=S/\st.tk=tk/\st.n=k) (fun x=>x) (fun x=>(.sref id ep 0 (Dm l).length 1,S,tk,k)) (l.length) ?_ ?_;case refine_2=>exact ⟨rfl,Ce _,Pp l,rfl,rfl,rfl,rfl⟩
 rintro n ⟨T,S',tk',n'⟩ ⟨hl,hn,hz,e0,eS,eT,eN⟩ IH;subst eS eT eN;obtain ⟨g,hg,hT⟩:=Ar hl;rw [hg] at e0;subst hT;clear hg hl;by_cases h0:n=0
 ·have d1:decide ((n:Int) > 0)=false:=aC
  have ht:=Gs hn hz (.inl h0);simp (maxSteps:=10^6)+contextual(disch:=try exact dqd)only[evs0,simprocAttr,Ca,Bm,Cb,results234,e0,d1];rw [ht]; simp [h0]
 ·have d1:decide ((n:Int) > 0)=true:=aC
  have hp:=Tk h0 aA;have ci:n - 1<l.length:=aA
  have bo:n - 1<n:=aA
  have cj:n - 1<=n:=aA
  obtain ⟨x,hx⟩:=Ac ci;have hx':=Adh hx;by_cases iw:x=0
  ·have d2:(x == 0)=true:=cR
   simp (maxSteps:=10^6)+contextual(disch:=try exact dqd)only[evs0,simprocAttr,Ca,Bm,Cb,results234,e0,d1,d2,hp,hx',h,ci,bo,cj,Fj,Hy,bound,intN_cast,Ce,Cl,Om,Nat.sub_zero,Ik];exact IH (n - 1) _ aF ⟨rfl,aE,Up hz hx iw,Za0u⟩
  ·have d2:(x == 0)=false:=cR
   have ht:=Gs hn hz (.inr ⟨x,hx,iw⟩);simp (maxSteps:=10^6)+contextual(disch:=try exact dqd)only[evs0,simprocAttr,Ca,Bm,Cb,results234,e0,d1,d2,hp,hx',h,ci,bo,Fj,Hy,bound,intN_cast,hn,Ce,Cl,Om,Nat.sub_zero,Ik];rw [ht]; simp; omega
theorem Vk (X Y:Nat) (ha:(dig X).length<=100000) (hb:(dig Y).length<=100000):cL prog 236 [digA (dig X),digA (dig Y)] S tk k=some (digA (dig (X*Y)),S,tk,k):=by
 refine opP func236 ntmps236 ?_;have hw:Cd.wrap (((dig X).length:Int)+((dig Y).length:Int))=(((dig X).length+(dig Y).length:Nat):Int):=aS
 have ya:(Bc prog 58).bind (Hq prog)=some 8:=aM
 have j7:=Al1 (P:=prog) (t:=58) (n:=(dig X).length+(dig Y).length) bF bF ya aA;simp (maxSteps:=10^6)+contextual(disch:=try exact dqd)only[ev0,simprocAttr,Ca,Bm,Cb,results236,digA,hw,j7];refine loop1 (P:=prog) (fun x st=>st.T.length=67/\(x.1<=(dig X).length)/\(Mul1 X Y x.1 x.2)/\getT st.T 0=digA (dig X)/\getT st.T 1=digA (dig Y)/\getT st.T 5=.sref 0 0 0 ((dig X).length+(dig Y).length) 1/\getT st.T 18=digA (dig X)/\getT st.T 19=.int (dig X).length/\getT st.T 20=.int (x.1:Nat)/\st.S=[⟨0,x.2.map numC⟩]) (fun x=>(dig X).length - x.1) (fun x=>digA (dig (X*Y))) (0,Cg ((dig X).length+(dig Y).length) 0) ?_ ?_;case refine_2=>exact ⟨rfl,Cl _,Mul1.start X Y,rfl,rfl,rfl,rfl,rfl,rfl,rfl⟩
 rintro ⟨i,out⟩ ⟨T,S',tk',n'⟩ ⟨hl,hi,hp,e0,e1,e5,e18,e19,e20,eS⟩ IH;simp only at hi hp e0 e1 e5 e18 e19 e20 eS;subst eS;obtain ⟨g,hg,hT⟩:=Ar hl;rw [hg] at e0 e1 e5 e18 e19 e20;subst hT;clear hg hl;have OUT:=IH;clear IH;have hlen:=hp.len;by_cases hlt:i<(dig X).length
 ·have d2:decide ((i:Int)<((dig X).length:Int))=true:=aN
  obtain ⟨d,hd⟩:=Ac hlt;have fm:=B0 hd;have sk:=Df (Bf X) hd;have dx:=A4 (i:=i) aA;have aj:=Mul2.start (d:=d) hp;simp (maxSteps:=10^6)+contextual(disch:=try exact dqd)only[ev0,simprocAttr,Ca,Bm,Cb,results236,digA,e0,e1,e5,e18,e19,e20,d2,fm];refine loop1 (P:=prog) (fun x st=>st.T.length=67/\(x.1<=(dig Y).length)/\(Mul2 X Y i x.1 (val out+10000 ^ i*(d*Y)) d x.2.1 x.2.2)/\getT st.T 0=digA (dig X)/\getT st.T 1=digA (dig Y)/\getT st.T 5=.sref 0 0 0 ((dig X).length+(dig Y).length) 1/\getT st.T 6=.int (i:Nat)/\getT st.T 7=.int d/\getT st.T 8=.int x.2.1/\getT st.T 18=digA (dig X)/\getT st.T 19=.int (dig X).length/\getT st.T 20=.int (i:Nat)/\getT st.T 25=digA (dig Y)/\getT st.T 26=.int (dig Y).length/\getT st.T 27=.int (x.1:Nat)/\st.S=[⟨0,x.2.2.map numC⟩]) (fun x=>(dig Y).length - x.1) (fun x=>digA (dig (X*Y))) (0,0,out) ?_ ?_;case refine_2=>exact ⟨rfl,Cl _,aj,rfl,rfl,rfl,rfl,rfl,rfl,rfl,rfl,rfl,rfl,rfl,rfl,rfl⟩
  rintro ⟨m,c,o2⟩ ⟨T,S',tk',n'⟩ ⟨hl,hm,hq,e0,e1,e5,e6,e7,e8,e18,e19,e20,e25,e26,e27,eS⟩ IH;simp only at hm hq e0 e1 e5 e6 e7 e8 e18 e19 e20 e25 e26 e27 eS;subst eS;obtain ⟨g,hg,hT⟩:=Ar hl;rw [hg] at e0 e1 e5 e6 e7 e8 e18 e19 e20 e25 e26 e27;subst hT;clear hg hl;have a4h:=hq.len;have hc0:=hq.c0;have j9:=A4 (i:=m) aA;obtain ⟨x,hx⟩:=Ac (show i+m<o2.length by omega);have hx':=Adh hx;have g8:i+m<(dig X).length+(dig Y).length:=aA
  have him:Cd.wrap ((i:Int)+(m:Int))=((i+m:Nat):Int):=aS
  have hxk:=Df hq.ok hx;by_cases cm:m<(dig Y).length
  ·have d3:decide ((m:Int)<((dig Y).length:Int))=true:=by simpa using cm
   obtain ⟨y,hy⟩:=Ac cm;have f9:=B0 hy;have hyk:=Df (Bf Y) hy;obtain ⟨n,hn⟩:∃ n,n=c+x+d*y:=⟨_,rfl⟩;obtain ⟨hq2,eh,ci,bo⟩:=hq.step (n:=n) aA sk hx (by rw [hn,hy]; rfl);have v7:0<=d*y:=Sl sk.1 hyk.1;have hw1:Cd.wrap (d*y)=d*y:=Aa aD;have hw2:Cd.wrap (x+d*y)=x+d*y:=Aa aD;have hw3:Cd.wrap (x+d*y+c)=n:=by rw [hn,Aa aD]; omega
   have qg:Cd.wrap (n.tdiv 10000)=n.tdiv 10000:=by rw [bo,Aa aD]
   have ft:¬ ((10000:Int)=0):=aA
   have jo:=Ym (v:=n.tmod 10000) hx;simp (maxSteps:=10^6)+contextual(disch:=try exact dqd)only[ev0,simprocAttr,Ca,Bm,Cb,results236,digA,e0,e1,e5,e6,e7,e8,e18,e19,e20,e25,e26,e27,d3,f9,j9,him,g8,hx',hw1,hw2,hw3,qg,ft,jo,Fj];exact IH (m+1,n.tdiv 10000,o2.set (i+m) (n.tmod 10000)) _ aF ⟨rfl,aE,hq2,aB,aB,aB,aB,aB,aB,aB,aB,aB,aB,aB,aB,aB⟩
  ·have d3:decide ((m:Int)<((dig Y).length:Int))=false:=by simpa using cm
   have hme:m=(dig Y).length:=aA
   subst hme;obtain ⟨-,nk⟩:=hq.next hp hd hx
   have hw4:Cd.wrap (x+c)=x+c:=Aa aD;have jo:=Ym (v:=x+c) hx;simp (maxSteps:=10^6)+contextual(disch:=try exact dqd)only[ev0,simprocAttr,Ca,Bm,Cb,results236,digA,e0,e1,e5,e6,e7,e8,e18,e19,e20,e25,e26,e27,d3,dx,him,g8,hx',hw4,jo,Fj];exact OUT (i+1,o2.set (i+(dig Y).length) (x+c)) _ aF ⟨rfl,aE,nk,aB,aB,aB,aB,aB,aB,aB⟩
 ·have d2:decide ((i:Int)<((dig X).length:Int))=false:=aN
  have he:i=(dig X).length:=aA
  subst he;have ot:=hp.done;have hT:=Abt [⟨0,out.map numC⟩] tk' n' out 0 0 aA rfl;rw [hlen] at hT;rw [ot] at hT;simp (maxSteps:=10^6)+contextual(disch:=try exact dqd)only[ev0,simprocAttr,Ca,Bm,Cb,results236,digA,e0,e1,e5,e18,e19,e20,d2,hT];have dj:L8 (Hx 1 (dig (X*Y)).length (out.map numC))=.frz ((dig (X*Y)).map digC) .unk:=by
   rw [<- ot,Re (Qm out),Rf,<- Hp]
  rw [dj]
end
end
end Go.Proofs.YthelkgdmgihhiaaGreat
