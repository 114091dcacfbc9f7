/- Part 9. -/
import Derived.Test.YthelkgdmgihhiaaGreatZM8
open And renaming intro->Bv
open Bool renaming and_eq_true->Cf,false_eq_true->C4,or_eq_false_iff->El,or_false->Fk,false_and->F2,not_eq_true'->F3,not_true->F6,true_and->G4,not_false->Ij,false_or->Mf,true_or->iI
open Go.Code renaming region->fP
open Go.Proofs.YthelkgdmgihhiaaGreat.AV renaming int->Cg
open Go.Value renaming int->fO
open List renaming replicate->Cd,length_cons->Ck,map_cons->Cm,cons_append->Co,getElem?_append_left->Cp,nil_append->Ct,map_nil->Cw,length_nil->C3,append_assoc->C7,getElem?_append_right->C8,drop_zero->Fs,append_nil->Fu,take_succ_cons->F4,length_map->Ib,replicate_succ->I4,all_cons->Oc,getElem?_drop->O9,set_cons_succ->fJ,filter_cons_of_neg->fQ,toList_toArray->iG,take_zero->iR,filter->iU
open List.cons renaming injEq->S9
open Nat renaming le_refl->Cb,zero_add->Fo
open Option renaming map_eq_some_iff->B6,map_some->Cu,isNone_iff_eq_none->F8,bind_some->Lg
open Option.some renaming injEq->A0
open Prod.mk renaming injEq->Cc
namespace Go.Proofs.YthelkgdmgihhiaaGreat
section
section
variable {P:Program} {fn:Func} {M:Md} {call:Bd} {all l:List Oper} {d:Option Tmp} {ty:TypeId} {pos:String} {af:Array Edge} {T:List AV} {S:List Ent} {tk:List Nat} {n:Nat} {k:List Kont}
def nx {β:Type} (x:Option AV) (f:AV->Option β):Option β:=match x with|some v=>f v|none=>none
def ns {α β:Type} (x:Option α) (f:α->Option β):Option β:=match x with|some v=>f v|none=>none
def Ai7 (T:List AV) (d:Option Tmp) (w:Bool):Option Bool :=
 match d with
 | none=>none
 | some d=>match getT T d with
  | .prim (.bool b)=>some (b == w)
  | .prim (.tuple _)=>some false
  | _=>none
def Aj9 (all:List Oper) (g:Nat):Option Tmp:=(nth all g).bind (·.dst)
def Aok (v:AV) (w:Bool):Option Bool:=match v with|.prim (.bool b)=>some (b == w)|.prim (.tuple _)=>some false|_=>none
theorem wantV_bool {b w:Bool} : Aok (.prim (.bool b)) w=some (b == w):=rfl
theorem wantV_undef {w:Bool} : Aok (.prim undef) w=some false:=rfl
theorem wantD_some {t:Tmp} {w:Bool} : Ai7 T (some t) w=Aok (getT T t) w:=rfl
theorem Ajo [Globs] [Ext P] {op:Op} {g:Nat} {w:Bool} : RO P fn M call all (⟨d,op,ty,pos,af,some (g,w)⟩ :: l) ⟨T,S,tk,n⟩ k =
  br (Ai7 T (Aj9 all g) w) (RO P fn M call all (⟨d,op,ty,pos,af,none⟩ :: l) ⟨T,S,tk,n⟩ k) (RO P fn M call all l ⟨putT T d (.prim undef),S,tk,n⟩ k):=by
 rw [Y8,Y8];have e:Hf all T ⟨d,op,ty,pos,af,some (g,w)⟩=Ai7 T (Aj9 all g) w:=by
  unfold Hf Ai7 Aj9;simp only;cases (nth all g).bind (·.dst) <;> rfl
 rw [e];rfl
theorem Jl [Globs] [Ext P] {op:Op} : RO P fn M call all (⟨d,op,ty,pos,af,none⟩ :: l) ⟨T,S,tk,n⟩ k =
  match @evO (gM M) P call ⟨d,op,ty,pos,af,none⟩ ⟨T,S,tk,n⟩ with|some (v,st')=>if @chkO (gM M) P all ⟨d,op,ty,pos,af,none⟩ ⟨T,S,tk,n⟩ v st'=true then RO P fn M call all l { st' with T:=putT st'.T d v } k else none|none=>none:=by
 rw [Y8]; rfl
theorem Apo [G:Globs] {o:Oper} {st st':St} {v:AV} (hx:xOp o=false) (hl:isLd o=false):chkO P all o st v st'=true:=by
 unfold chkO;rw [hx,hl];cases (Globs.dr:Bool) <;> rfl
theorem Aj2 [G:Globs] {o:Oper} {st st':St} {v:AV} (h:(Globs.dr:Bool)=false):chkO P all o st v st'=true:=by
 unfold chkO;rw [h]; rfl
theorem Dr [Globs] [Ext P] {op:Op} (hx:@xOp (gM M) ⟨d,op,ty,pos,af,none⟩=false) (hl:isLd ⟨d,op,ty,pos,af,none⟩=false):RO P fn M call all (⟨d,op,ty,pos,af,none⟩ :: l) ⟨T,S,tk,n⟩ k =
  match @evO (gM M) P call ⟨d,op,ty,pos,af,none⟩ ⟨T,S,tk,n⟩ with|some (v,st')=>RO P fn M call all l { st' with T:=putT st'.T d v } k|none=>none:=by
 rw [Jl];cases @evO (gM M) P call ⟨d,op,ty,pos,af,none⟩ ⟨T,S,tk,n⟩ with
 | none=>rfl
 | some x =>
  simp only;rw [if_pos (Apo (G:=gM M) hx hl)]
theorem Wp [Globs] [Ext P] {op:Op} (hd:@Globs.dr (gM M)=false):RO P fn M call all (⟨d,op,ty,pos,af,none⟩ :: l) ⟨T,S,tk,n⟩ k =
  match @evO (gM M) P call ⟨d,op,ty,pos,af,none⟩ ⟨T,S,tk,n⟩ with|some (v,st')=>RO P fn M call all l { st' with T:=putT st'.T d v } k|none=>none:=by
 rw [Jl];cases @evO (gM M) P call ⟨d,op,ty,pos,af,none⟩ ⟨T,S,tk,n⟩ with
 | none=>rfl
 | some x =>
  simp only;rw [if_pos (Aj2 (G:=gM M) hd)]
theorem Dd [Globs] [Ext P] {op:Op} {x:Option AV} (h:@evO (gM M) P call ⟨d,op,ty,pos,af,none⟩ ⟨T,S,tk,n⟩=x.map fun v=>(v,⟨T,S,tk,n⟩)) (hx:@xOp (gM M) ⟨d,op,ty,pos,af,none⟩=false:=by rfl) (hl:isLd ⟨d,op,ty,pos,af,none⟩=false:=by rfl) :
  RO P fn M call all (⟨d,op,ty,pos,af,none⟩ :: l) ⟨T,S,tk,n⟩ k=nx x fun v=>RO P fn M call all l ⟨putT T d v,S,tk,n⟩ k:=by
 rw [Dr hx hl,h]; cases x <;> rfl
theorem Am1 [Globs] [Ext P] {x:Operand} : RO P fn M call all (⟨d,.move x,ty,pos,af,none⟩ :: l) ⟨T,S,tk,n⟩ k=RO P fn M call all l ⟨putT T d (opv T x),S,tk,n⟩ k:=by rw [Dr rfl rfl]; rfl
theorem Aez [Globs] [Ext P] {x:Operand} : RO P fn M call all (⟨d,.assign x,ty,pos,af,none⟩ :: l) ⟨T,S,tk,n⟩ k=RO P fn M call all l ⟨putT T d (opv T x),S,tk,n⟩ k:=by rw [Dr rfl rfl]; rfl
def Ahy (c a b:AV):Option AV:=match c with|.prim (.bool t)=>some (if t then a else b)|_=>none
theorem pickA_true {a b:AV} : Ahy (.prim (.bool true)) a b=some a:=rfl
theorem pickA_false {a b:AV} : Ahy (.prim (.bool false)) a b=some b:=rfl
theorem pickA_bool {t x y:Bool} : Ahy (.prim (.bool t)) (.prim (.bool x)) (.prim (.bool y))=some (.prim (.bool (bif t then x else y))):=by cases t <;> rfl
theorem Am2 [Globs] [Ext P] {c a b:Operand} : RO P fn M call all (⟨d,.pick c a b,ty,pos,af,none⟩ :: l) ⟨T,S,tk,n⟩ k=nx (Ahy (opv T c) (opv T a) (opv T b)) fun v=>RO P fn M call all l ⟨putT T d v,S,tk,n⟩ k:=Dd rfl
theorem Ao0 [Globs] [Ext P] {b:BinOp} {t u:TypeId} {x y:Operand} : RO P fn M call all (⟨d,.binOp b t x y u,ty,pos,af,none⟩ :: l) ⟨T,S,tk,n⟩ k=nx (aBin P b t (opv T x) (opv T y)) fun v=>RO P fn M call all l ⟨putT T d v,S,tk,n⟩ k:=Dd rfl
theorem RO_un [Globs] [Ext P] {u:UnOp} {t:TypeId} {x:Operand} : RO P fn M call all (⟨d,.unOp u t x,ty,pos,af,none⟩ :: l) ⟨T,S,tk,n⟩ k=nx (aUn u (opv T x)) fun v=>RO P fn M call all l ⟨putT T d v,S,tk,n⟩ k:=Dd rfl
theorem Amy [Globs] [Ext P] {s t:TypeId} {x:Operand} : RO P fn M call all (⟨d,.convert s t x,ty,pos,af,none⟩ :: l) ⟨T,S,tk,n⟩ k=nx (cvA P s t (opv T x)) fun v=>RO P fn M call all l ⟨putT T d v,S,tk,n⟩ k:=Dd rfl
def extA (v:AV) (i:Nat):Option AV:=match v with|.tup vs=>nth vs i|_=>none
theorem extA_tup {vs:List AV} {i:Nat} : extA (.tup vs) i=nth vs i:=rfl
theorem Ac2 [Globs] [Ext P] {x:Operand} {i:Nat} : RO P fn M call all (⟨d,.extract x i,ty,pos,af,none⟩ :: l) ⟨T,S,tk,n⟩ k=nx (extA (opv T x) i) fun v=>RO P fn M call all l ⟨putT T d v,S,tk,n⟩ k:=Dd rfl
def fldV (f:Option (Nat × Nat × Bool)) (x:AV):Option AV:=match f,x with|some (off,sz,b),.agg cs=>partA b sz (cs.drop off)|_,_=>none
theorem fldV_agg {off sz:Nat} {b:Bool} {cs:List AV} : fldV (some (off,sz,b)) (.agg cs)=partA b sz (cs.drop off):=rfl
theorem Ajn [Globs] [Ext P] {t:TypeId} {x:Operand} {i:Nat} : RO P fn M call all (⟨d,.field t x i,ty,pos,af,none⟩ :: l) ⟨T,S,tk,n⟩ k=nx (fldV (Ax P t i) (opv T x)) fun v=>RO P fn M call all l ⟨putT T d v,S,tk,n⟩ k:=Dd (by
 simp only [evO,evQ,fldV];rfl)
theorem Wm [Globs] [Ext P] {t:TypeId} {x i:Operand} : RO P fn M call all (⟨d,.indexAddr t x i,ty,pos,af,none⟩ :: l) ⟨T,S,tk,n⟩ k=nx (idxA P t (opv T x) (opv T i)) fun v=>RO P fn M call all l ⟨putT T d v,S,tk,n⟩ k:=Dd rfl
theorem Wl [Globs] [Ext P] {t:TypeId} {x:Operand} {i:Nat} : RO P fn M call all (⟨d,.fieldAddr t x i,ty,pos,af,none⟩ :: l) ⟨T,S,tk,n⟩ k=nx (fldA P t (opv T x) i) fun v=>RO P fn M call all l ⟨putT T d v,S,tk,n⟩ k:=Dd rfl
def Air (ok:Bool) (x:AV) (i:Option Nat):Option AV:=match x,i with|.prim (.string s),some k=>if ok then (s[k]?).map fun b=>.prim (.int .u8 b.toNat) else none|_,_=>none
theorem Ajp [Globs] [Ext P] {t:TypeId} {x i:Operand} : RO P fn M call all (⟨d,.index t x i,ty,pos,af,none⟩ :: l) ⟨T,S,tk,n⟩ k=nx (Air (B3 P t) (opv T x) (intN (opv T i))) fun v=>RO P fn M call all l ⟨putT T d v,S,tk,n⟩ k:=Dd (by
 simp only [evO,evQ,Air];rfl)
def bldA (z:Option (List AV)) (pl:Option (List (Nat × Nat))) (ps:List (Nat × AV)):Option AV:=match z,pl with|some z,some pl=>(fillA pl z ps).map .agg|_,_=>none
theorem bldA_some {z:List AV} {pl:List (Nat × Nat)} {ps:List (Nat × AV)} : bldA (some z) (some pl) ps=(fillA pl z ps).map .agg:=rfl
theorem Ajj [Globs] [Ext P] {t:TypeId} {ps:Array (Nat × Operand)} : RO P fn M call all (⟨d,.build t ps,ty,pos,af,none⟩ :: l) ⟨T,S,tk,n⟩ k=nx (bldA (Ar P t) (fieldsOf P t) (ps.toList.map fun (i,x)=>(i,opv T x))) fun v=>RO P fn M call all l ⟨putT T d v,S,tk,n⟩ k:=Dd (by
 simp only [evO,evQ,bldA];rfl)
def litA (sz:Option Nat) (z:Option (List AV)) (len:Nat) (ps:List (Nat × AV)):Option AV:=match sz,z with
 | some (sz+1),some z=>if z.length=sz+1/\z.all (fun c=>pure1 (w1 c))=true/\len*(sz+1)<=4096 then Adw (elemsA (sz+1) (Cd len (z.map w1)) ps) (lit1 (sz+1) len ps) else none
 | _,_=>none
theorem orLit_some {es:List (List AV)} {x:Option AV} : Adw (some es) x=some (.frz es .tight):=rfl
theorem orLit_none {x:Option AV} : Adw none x=x:=rfl
def reps {α:Type} (x:α):Nat->List α|0=>[]|n+1=>x :: reps x n
theorem Ah8 {α:Type} (x:α):∀ n,Cd n x=reps x n|0=>rfl|n+1=>by rw [I4,Ah8 x n]; rfl
theorem litA_some {sz:Nat} {z:List AV} {len:Nat} {ps:List (Nat × AV)} : litA (some (sz+1)) (some z) len ps=if z.length=sz+1/\z.all (fun c=>pure1 (w1 c))=true/\len*(sz+1)<=4096 then Adw (elemsA (sz+1) (reps (z.map w1) len) ps) (lit1 (sz+1) len ps) else none:=by
 rw [<- Ah8]; rfl
theorem Uq [Globs] [Ext P] {t:TypeId} {len:Nat} {ps:Array (Nat × Operand)} : RO P fn M call all (⟨d,.buildSlice t len ps,ty,pos,af,none⟩ :: l) ⟨T,S,tk,n⟩ k =
  nx (litA ((A7 P t).bind (szOf P)) ((A7 P t).bind (Ar P)) len (ps.toList.map fun (i,x)=>(i,opv T x))) fun v=>RO P fn M call all l ⟨putT T d v,S,tk,n⟩ k:=Dd (by
 simp only [evO,evQ];congr 1;cases he:A7 P t with
 | none=>rfl
 | some e =>
  simp only [Lg];unfold litA;cases szOf P e with
  | none=>rfl
  | some s=>cases s <;> cases Ar P e <;> rfl)
theorem Ajs [Globs] [Ext P] {t:TypeId} {x:Operand} {lo hi mx:Option Operand} : RO P fn M call all (⟨d,.slice t x lo hi mx,ty,pos,af,none⟩ :: l) ⟨T,S,tk,n⟩ k=nx (Nh P t (opv T x) (lo.map (opv T)) (hi.map (opv T)) (mx.map (opv T))) fun v=>RO P fn M call all l ⟨putT T d v,S,tk,n⟩ k:=Dd rfl
theorem Y9 [Globs] [Ext P] {f:FuncId} {caps:Array Operand} : RO P fn M call all (⟨d,.makeFunc (.func f) #[] caps,ty,pos,af,none⟩ :: l) ⟨T,S,tk,n⟩ k =
  nx (if ((caps.toList.map (opv T)).all Kd)=true then some (.fn f (caps.toList.map (opv T))) else none) fun v=>RO P fn M call all l ⟨putT T d v,S,tk,n⟩ k:=Dd (by
 simp only [evO,evQ,List.all_map];have:(caps.toList.all fun x=>Kd (opv T x))=caps.toList.all (Kd ∘ opv T):=rfl;rw [this];by_cases hc:caps=#[]
 ·subst hc; simp
 ·have ek:caps.isEmpty=false:=by simpa using hc
  simp [ek])
theorem Wn [Globs] [Ext P] {f:FuncId} {x:Operand} : RO P fn M call all (⟨d,.makeFunc (.func f) #[x] #[],ty,pos,af,none⟩ :: l) ⟨T,S,tk,n⟩ k =
  RO P fn M call all l ⟨putT T d (.bfn f [opv T x]),S,tk,n⟩ k:=by
 rw [Dr rfl rfl];simp [evO,evQ]
structure CkF (b:Bool):Prop where
 h:b=false
structure CkT (b:Bool):Prop where
 h:b=true
def ldG (d:Bool) (x:Option AV):Option AV:=match x with|some v=>if (d && isB v)=true then none else some v|none=>none
theorem ldG_off {d:Bool} {x:Option AV} (h':CkF d):ldG d x=x:=by have h:=h'.h; subst h; cases x <;> rfl
theorem ldG_on {d:Bool} {v:AV} (h:CkF (isB v)):ldG d (some v)=some v:=by simp [ldG,h.h]
theorem Am0 [Globs] [Ext P] {t:TypeId} {a:Operand} : RO P fn M call all (⟨d,.load t a,ty,pos,af,none⟩ :: l) ⟨T,S,tk,n⟩ k=nx (ldG (@Globs.dr (gM M)) (ldA P t (opv T a) S)) fun v=>RO P fn M call all l ⟨putT T d v,S,tk,n⟩ k:=by
 rw [Jl];simp only [evO];cases ldA P t (opv T a) S with
 | none=>rfl
 | some v =>
  simp only [Cu,nx,ldG];have:@chkO (gM M) P all ⟨d,.load t a,ty,pos,af,none⟩ ⟨T,S,tk,n⟩ v ⟨T,S,tk,n⟩=!(@Globs.dr (gM M) && isB v):=by
   unfold chkO;cases @Globs.dr (gM M) <;> rfl
  rw [this];cases (@Globs.dr (gM M) && isB v) <;> rfl
theorem Ajt [Globs] [Ext P] {t:TypeId} {a x:Operand} : RO P fn M call all (⟨none,.store t a x,ty,pos,af,none⟩ :: l) ⟨T,S,tk,n⟩ k=ns (stA P t (opv T a) (opv T x) S) fun S'=>RO P fn M call all l ⟨T,S',tk,n⟩ k:=by
 rw [Dr rfl rfl];simp only [evO];cases stA P t (opv T a) (opv T x) S <;> rfl
theorem Aji [Globs] [Ext P] {t:TypeId} : RO P fn M call all (⟨d,.alloc t,ty,pos,af,none⟩ :: l) ⟨T,S,tk,n⟩ k=ns (Ar P t) fun cs=>RO P fn M call all l ⟨putT T d (.ref S.length n 0),S++[⟨n,cs⟩],tk,n+1⟩ k:=by
 rw [Dr rfl rfl];simp only [evO];cases Ar P t <;> rfl
theorem Ao1 [Globs] [Ext P] {t:TypeId} {x:Operand} : RO P fn M call all (⟨d,.box t x,ty,pos,af,none⟩ :: l) ⟨T,S,tk,n⟩ k=ns (cellsOf (opv T x)) fun cs=>RO P fn M call all l ⟨putT T d (.ref S.length n 0),S++[⟨n,cs⟩],tk,n+1⟩ k:=by
 rw [Dr rfl rfl];simp only [evO];cases cellsOf (opv T x) <;> rfl
def apM [Globs] (M:Md) (P:Program) (t:TypeId) (x y:AV) (tk:List Nat) (S:List Ent):Option (AV × List Nat):=@apB1 (gM M) P t x y tk S
theorem apM_false [Globs] {t:TypeId} {x y:AV} : apM .no P t x y tk S=apB1 P t x y tk S:=rfl
theorem Ajw [Globs] {t:TypeId} {x y:AV} : apM .quiet P t x y tk S=apA P t x y tk:=by simp [apM,apB1]
theorem apM_vals [Globs] {t:TypeId} {x y:AV} : apM .vals P t x y tk S=apB1 P t x y tk S:=rfl
theorem apM_look [Globs] {t:TypeId} {x y:AV} : apM .look P t x y tk S=apB1 P t x y tk S:=rfl
theorem Ac0 [Globs] [Ext P] {x y:Operand} {t:TypeId} (ho:@Globs.own (gM M) d ty=true):RO P fn M call all (⟨d,.call ⟨.builtin .append,#[x,y],#[t,t]⟩,ty,pos,af,none⟩ :: l) ⟨T,S,tk,n⟩ k=ns (apO P t (opv T x) (opv T y) S n) fun (v,S',n')=>RO P fn M call all l ⟨putT T d v,S',tk,n'⟩ k:=by
 rw [Dr rfl rfl];simp only [evO,Cm,Cw,if_true,ho];cases apO P t (opv T x) (opv T y) S n <;> rfl
theorem Aey [Globs] [Ext P] {x y:Operand} {t:TypeId} (ho:@Globs.own (gM M) d ty=false):RO P fn M call all (⟨d,.call ⟨.builtin .append,#[x,y],#[t,t]⟩,ty,pos,af,none⟩ :: l) ⟨T,S,tk,n⟩ k=ns (apM M P t (opv T x) (opv T y) tk S) fun (v,tk')=>RO P fn M call all l ⟨putT T d v,S,tk',n⟩ k:=by
 rw [Dr rfl rfl];simp only [evO,Cm,Cw,if_true,ho,C4,if_false];unfold apM;cases @apB1 (gM M) P t (opv T x) (opv T y) tk S <;> rfl
def lenV (st sl:Bool) (x:AV):Option AV:=match x with
 | .prim (.string s)=>if st then some (.int s.size) else none
 | x=>if sl then (lenA x).map fun (n:Nat)=>Cg (n:Int) else none
theorem lenV_str {sl:Bool} {s:ByteArray} : lenV true sl (.prim (.string s))=some (.int s.size):=rfl
theorem lenV_frz {st:Bool} {es:List (List AV)} {c:Cap} : lenV st true (.frz es c)=some (.int es.length):=rfl
theorem lenV_sref {st:Bool} {id ep off len sz:Nat} : lenV st true (.sref id ep off len sz)=some (.int len):=rfl
theorem Ao2 [Globs] [Ext P] {x:Operand} {t:TypeId} : RO P fn M call all (⟨d,.call ⟨.builtin .len,#[x],#[t]⟩,ty,pos,af,none⟩ :: l) ⟨T,S,tk,n⟩ k=nx (lenV (B3 P t) (A7 P t).isSome (opv T x)) fun v=>RO P fn M call all l ⟨putT T d v,S,tk,n⟩ k:=Dd (by
 simp only [evO,evQ,Cm,Cw];congr 1;unfold lenV;cases opv T x with
 | prim v=>cases v <;> rfl
 | _=>rfl)
theorem Amx [Globs] [Ext P] {f:FuncId} {args:Array Operand} {ats:Array TypeId} (hx:(@Globs.dr (gM M) && @xF (gM M) f)=false):RO P fn M call all (⟨d,.call ⟨.value (.func f),args,ats⟩,ty,pos,af,none⟩ :: l) ⟨T,S,tk,n⟩ k =
  ns (call f (args.toList.map (opv T)) S tk n) fun (v,S',tk',n')=>RO P fn M call all l ⟨putT T d v,S',tk',n'⟩ k:=by
 rw [Jl];simp only [evO,Ed,opv,Fu];cases call f (args.toList.map (opv T)) S tk n with
 | none=>rfl
 | some x =>
  obtain ⟨v,S',tk',n'⟩:=x;simp only [Cu,ns];rw [if_pos];unfold chkO;cases hd:@Globs.dr (gM M) with
  | false=>rfl
  | true =>
   rw [hd] at hx;have hx':@xOp (gM M) ⟨d,.call ⟨.value (.func f),args,ats⟩,ty,pos,af,none⟩=false:=hx;rw [hx']; rfl
noncomputable def gO (S S':List Ent):Option Unit:=by classical exact if Vh S S' then some () else none
theorem Agt {S S':List Ent} (h:Vh S S'):gO S S'=some ():=by unfold gO; rw [if_pos h]
theorem gO_refl {S:List Ent} : gO S S=some ():=Agt ⟨rfl,fun _=>.inl rfl⟩
noncomputable def reA (P:Program) (all:List Oper) (d:Option Tmp) (T:List AV) (S S':List Ent):Option Unit:=by classical exact if S.length<=S'.length/\(d.isSome=true->∀ q ∈ loadsB all d,Aih P T S' q) then some () else none
open Classical in
theorem Al2 [G:Globs] {o:Oper} {st st':St} {v:AV} (h:lkOp o=true):chkO P all o st v st'=(gO st.S st'.S).isSome:=by
 obtain ⟨hd,hx⟩:=lk_x h;have ha:anOp o=false:=by simp [anOp,h]
 unfold chkO gO chkX;rw [hd,hx,h,ha];by_cases hg:Vh st.S st'.S
 ·rw [if_pos hg];exact @decide_eq_true _ (propDecidable _) ⟨fun _=>hg,fun h=>aM⟩
 ·rw [if_neg hg];exact @decide_eq_false _ (propDecidable _) fun h=>hg (h.1 rfl)
open Classical in
theorem Apn [G:Globs] {o:Oper} {st st':St} {v:AV} (h:anOp o=true):chkO P all o st v st'=(reA P all o.dst st.T st.S st'.S).isSome:=by
 obtain ⟨hd,hx⟩:=an_x h;have hl:lkOp o=false:=by
  unfold anOp at h;simp only [Cf,F3] at h;exact h.2
 unfold chkO reA chkX;rw [hd,hx,h,hl];by_cases hg:st.S.length<=st'.S.length/\(o.dst.isSome=true->∀ q ∈ loadsB all o.dst,Aih P st.T st'.S q)
 ·rw [if_pos hg];exact @decide_eq_true _ (propDecidable _) ⟨fun h=>aM,fun _=>hg⟩
 ·rw [if_neg hg];exact @decide_eq_false _ (propDecidable _) fun h=>hg (h.2 rfl)
theorem Nu {α β:Type} {x:Option α} {b:Option β} : (if x.isSome=true then b else none)=ns x fun _=>b:=by cases x <;> rfl
theorem Ajk [Globs] [Ext P] {f:FuncId} {args:Array Operand} {ats:Array TypeId} (hx:@lkOp (gM M) ⟨d,.call ⟨.value (.func f),args,ats⟩,ty,pos,af,none⟩=true):RO P fn M call all (⟨d,.call ⟨.value (.func f),args,ats⟩,ty,pos,af,none⟩ :: l) ⟨T,S,tk,n⟩ k =
  ns (call f (args.toList.map (opv T)) S tk n) fun (v,S',tk',n')=>ns (gO S S') fun _=>RO P fn M call all l ⟨putT T d v,S',tk',n'⟩ k:=by
 rw [Jl];simp only [evO,Ed,opv,Fu];cases call f (args.toList.map (opv T)) S tk n with
 | none=>rfl
 | some x =>
  obtain ⟨v,S',tk',n'⟩:=x;simp only [Cu,ns];rw [Al2 (G:=gM M) hx,Nu]; rfl
theorem Ajm [Globs] [Ext P] {f:FuncId} {args:Array Operand} {ats:Array TypeId} (hx:@anOp (gM M) ⟨d,.call ⟨.value (.func f),args,ats⟩,ty,pos,af,none⟩=true):RO P fn M call all (⟨d,.call ⟨.value (.func f),args,ats⟩,ty,pos,af,none⟩ :: l) ⟨T,S,tk,n⟩ k =
  ns (call f (args.toList.map (opv T)) S tk n) fun (v,S',tk',n')=>ns (reA P all d T S S') fun _=>RO P fn M call all l ⟨putT T d v,S',tk',n'⟩ k:=by
 rw [Jl];simp only [evO,Ed,opv,Fu];cases call f (args.toList.map (opv T)) S tk n with
 | none=>rfl
 | some x =>
  obtain ⟨v,S',tk',n'⟩:=x;simp only [Cu,ns];rw [Apn (G:=gM M) hx,Nu]; rfl
def invF (call:Bd) (f:Option FuncId) (args:List AV) (S:List Ent) (tk:List Nat) (n:Nat):Option (AV × List Ent × List Nat × Nat):=match f with|some f=>call f args S tk n|none=>none
def invV (P:Program) (call:Bd) (x:AV) (m:String) (args:List AV) (S:List Ent) (tk:List Nat) (n:Nat):Option (AV × List Ent × List Nat × Nat):=match x with|.ifc t v=>invF call (mRow P t m) (v :: args) S tk n|_=>none
theorem invV_ifc {t:TypeId} {v:AV} {m:String} {args:List AV} : invV P call (.ifc t v) m args S tk n=invF call (mRow P t m) (v :: args) S tk n:=rfl
theorem invF_some {f:FuncId} {args:List AV} : invF call (some f) args S tk n=call f args S tk n:=rfl
theorem Agk [G:Globs] {x:Operand} {m:String} {args:Array Operand} {ats:Array TypeId} : evO P call ⟨d,.call ⟨.invoke x m,args,ats⟩,ty,pos,af,none⟩ ⟨T,S,tk,n⟩=(invV P call (opv T x) m (args.toList.map (opv T)) S tk n).map fun (v,S',tk',n')=>(v,⟨T,S',tk',n'⟩):=by
 simp only [evO,Ed,invV,invF];cases opv T x with
 | ifc t v =>
  simp only;cases mRow P t m <;> rfl
 | _=>rfl
theorem Ae0 [Globs] [Ext P] {x:Operand} {m:String} {args:Array Operand} {ats:Array TypeId} (hd:@Globs.dr (gM M)=false):RO P fn M call all (⟨d,.call ⟨.invoke x m,args,ats⟩,ty,pos,af,none⟩ :: l) ⟨T,S,tk,n⟩ k =
  ns (invV P call (opv T x) m (args.toList.map (opv T)) S tk n) fun (v,S',tk',n')=>RO P fn M call all l ⟨putT T d v,S',tk',n'⟩ k:=by
 rw [Wp hd,Agk (G:=gM M)];cases invV P call (opv T x) m (args.toList.map (opv T)) S tk n <;> rfl
theorem Ac3 [Globs] [Ext P] {x:Operand} {m:String} {args:Array Operand} {ats:Array TypeId} (hd:@Globs.dr (gM M)=true):RO P fn M call all (⟨d,.call ⟨.invoke x m,args,ats⟩,ty,pos,af,none⟩ :: l) ⟨T,S,tk,n⟩ k =
  ns (invV P call (opv T x) m (args.toList.map (opv T)) S tk n) fun (v,S',tk',n')=>ns (gO S S') fun _=>RO P fn M call all l ⟨putT T d v,S',tk',n'⟩ k:=by
 have hl:@lkOp (gM M) ⟨d,.call ⟨.invoke x m,args,ats⟩,ty,pos,af,none⟩=true:=by
  unfold lkOp;rw [hd]; rfl
 rw [Jl,Agk (G:=gM M)];cases invV P call (opv T x) m (args.toList.map (opv T)) S tk n with
 | none=>rfl
 | some x =>
  obtain ⟨v,S',tk',n'⟩:=x;simp only [Cu,ns];rw [Al2 (G:=gM M) hl,Nu]; rfl
theorem Ajr [Globs] [Ext P] {m:String} {x:Operand} : RO P fn M call all (⟨d,.makeFunc (.method m) #[x] #[],ty,pos,af,none⟩ :: l) ⟨T,S,tk,n⟩ k=nx (mthA m (opv T x)) fun v=>RO P fn M call all l ⟨putT T d v,S,tk,n⟩ k:=Dd (by simp [evO,evQ])
theorem mthA_ifc {m:String} {t:TypeId} {v:AV} : mthA m (.ifc t v)=some (.mfn t m v):=rfl
def ifcA (b:Bool) (t:TypeId) (v:AV):Option AV:=if b=true then none else some (.ifc t v)
theorem ifcA_ok {t:TypeId} {v:AV} : ifcA false t v=some (.ifc t v):=rfl
theorem Ajq [Globs] [Ext P] {t:TypeId} {x:Operand} : RO P fn M call all (⟨d,.makeInterface t x,ty,pos,af,none⟩ :: l) ⟨T,S,tk,n⟩ k=nx (ifcA (Adi P t) t (opv T x)) fun v=>RO P fn M call all l ⟨putT T d v,S,tk,n⟩ k:=Dd rfl
def Afo (call:Bd) (f:AV) (args:List AV) (S:List Ent) (tk:List Nat) (n:Nat):Option (AV × List Ent × List Nat × Nat):=match f with|.fn f caps=>call f (args++caps) S tk n|.bfn f first=>call f (first++args) S tk n|_=>none
theorem callV_bfn {f:FuncId} {first args:List AV} : Afo call (.bfn f first) args S tk n=call f (first++args) S tk n:=rfl
theorem callV_fn {f:FuncId} {caps args:List AV} : Afo call (.fn f caps) args S tk n=call f (args++caps) S tk n:=rfl
theorem Ajl [Globs] [Ext P] {x:Tmp} {args:Array Operand} {ats:Array TypeId} (hx:(@Globs.dr (gM M) && @Globs.xAny (gM M))=false):RO P fn M call all (⟨d,.call ⟨.value (.tmp x),args,ats⟩,ty,pos,af,none⟩ :: l) ⟨T,S,tk,n⟩ k =
  ns (Afo call (getT T x) (args.toList.map (opv T)) S tk n) fun (v,S',tk',n')=>RO P fn M call all l ⟨putT T d v,S',tk',n'⟩ k:=by
 have hp:RO P fn M call all (⟨d,.call ⟨.value (.tmp x),args,ats⟩,ty,pos,af,none⟩ :: l) ⟨T,S,tk,n⟩ k=match @evO (gM M) P call ⟨d,.call ⟨.value (.tmp x),args,ats⟩,ty,pos,af,none⟩ ⟨T,S,tk,n⟩ with|some (v,st')=>RO P fn M call all l { st' with T:=putT st'.T d v } k|none=>none:=by
  cases hd:@Globs.dr (gM M) with
  | false=>exact Wp hd
  | true =>
   rw [hd] at hx;exact Dr hx rfl
 rw [hp];simp only [evO,Ed,opv,Afo];cases getT T x with
 | fn f caps =>
  simp only;cases call f (args.toList.map (opv T)++caps) S tk n <;> rfl
 | bfn f first =>
  simp only;cases call f (first++args.toList.map (opv T)) S tk n <;> rfl
 | _=>rfl
theorem aBin_int {b:BinOp} {t:TypeId} {q:IntKind} {x y:Int} : aBin P b t (.prim (.int q x)) (.prim (.int q y))=binInt b q x y:=by simp [aBin]
theorem aBin_str {b:BinOp} {t:TypeId} {x y:ByteArray} : aBin P b t (.prim (.string x)) (.prim (.string y))=binStr b x y:=rfl
def Ag5 (P:Program) (t:TypeId):Bool:=match P.underlying t with|some .bool=>true|_=>false
theorem aBin_bool {b:BinOp} {t:TypeId} {x y:Bool} (h:Ag5 P t=true):aBin P b t (.prim (.bool x)) (.prim (.bool y))=binBool b x y:=by
 unfold Ag5 at h;split at h
 ·rename_i h'; simp [aBin,h']
 ·simp at h
theorem callP_eq [Globs] [Ext P] {f:FuncId} {args:List AV} : Ec P call f args S tk n=if (((args.map w2).all pure2 && !Ext.mv P f) || (shF f && Pd P f args.length && !Ext.mv P f && !Ext.on P f) || (xF f && Globs.dr))=true then call f args S tk n else none:=rfl
theorem callM_vals [Globs] [Ext P] {f:FuncId} {args:List AV} : Hs .vals P call f args S tk n=if (((args.map w2).all pure2 && !Ext.mv P f) || (shF f && Pd P f args.length && !Ext.mv P f && !Ext.on P f))=true then call f args S tk n else none:=by
 have:@Ec (gM .vals) P _ call f args S tk n=if (((args.map w2).all pure2 && !Ext.mv P f) || (shF f && Pd P f args.length && !Ext.mv P f && !Ext.on P f) || (false && true))=true then call f args S tk n else none:=rfl
 rw [F2,Fk] at this;exact this
theorem callM_look [Globs] [Ext P] {f:FuncId} {args:List AV} : Hs .look P call f args S tk n=if (((args.map w2).all pure2 && !Ext.mv P f) || (shF f && Pd P f args.length && !Ext.mv P f && !Ext.on P f) || xF f)=true then call f args S tk n else none:=by
 have:@Ec (gM .look) P _ call f args S tk n=if (((args.map w2).all pure2 && !Ext.mv P f) || (shF f && Pd P f args.length && !Ext.mv P f && !Ext.on P f) || (xF f && true))=true then call f args S tk n else none:=rfl
 rw [Bool.and_true] at this;exact this
theorem callM_true [Globs] [Ext P] {f:FuncId} {args:List AV} : Hs .quiet P call f args S tk n=if ((args.map w2).all pure2 && !Ext.mv P f)=true then call f args S tk n else none:=by
 simp [Hs,Ec,shF,xF]
theorem opv_tmp {t:Tmp} : opv T (.tmp t)=getT T t:=rfl
theorem opv_const {v:Value} : opv T (.const v)=cst v:=rfl
theorem opv_func {f:FuncId} : opv T (.func f)=.fn f []:=rfl
theorem cst_int {q:IntKind} {x:Int} : cst (.int q x)=.prim (.int q x):=rfl
theorem cst_bool {b:Bool} : cst (.bool b)=.prim (.bool b):=rfl
theorem cst_string {s:ByteArray} : cst (.string s)=.prim (.string s):=rfl
theorem cst_nil:cst (.slice none 0 0)=.frz [] .nilc:=rfl
theorem cst_ptr:cst (.pointer none)=.prim (.pointer none):=rfl
theorem intN_cast {q:IntKind} {m:Nat} : intN (.prim (.int q (m:Int)))=some m:=by simp [intN]
theorem intN_zero {q:IntKind} : intN (.prim (.int q 0))=some 0:=rfl
inductive Tag {α:Type} (a:α):Type where|mk
def BR {β:Type} (w:Option Bool) (a b:Option β) (_:Tag (a,b)):Option β:=br w a b
def NX {β:Type} (x:Option AV) (f:AV->Option β) (_:Tag f):Option β:=nx x f
def NS {α β:Type} (x:Option α) (f:α->Option β) (_:Tag f):Option β:=ns x f
noncomputable def RX [Globs] (P:Program) [Ext P] (fn:Func) (M:Md) (call:Bd) (all l:List Oper) (st:St) (k:List Kont) (_:Tag (all,l,k)):Option (AV × St):=RO P fn M call all l st k
noncomputable def KX [Globs] (P:Program) [Ext P] (fn:Func) (c:Code) (st:St) (k:List Kont) (_:Tag (c,k)):Option (AV × St):=RK P fn c st k
noncomputable def CX [Globs] (P:Program) [Ext P] (fn:Func) (e:Ex) (st:St) (k:List Kont) (_:Tag k):Option (AV × St):=cont P fn e st k
theorem NX_some {β:Type} {v:AV} {f:AV->Option β} {t:Tag f} : NX (some v) f t=f v:=rfl
theorem NS_some {α β:Type} {v:α} {f:α->Option β} {t:Tag f} : NS (some v) f t=f v:=rfl
theorem BR_true {β:Type} {a b:Option β} {t:Tag (a,b)} : BR (some true) a b t=a:=rfl
theorem BR_false {β:Type} {a b:Option β} {t:Tag (a,b)} : BR (some false) a b t=b:=rfl
theorem BR_not {β:Type} {x:Bool} {a b:Option β} {t:Tag (a,b)} : BR (some (!x)) a b t=BR (some x) b a .mk:=Apl
theorem fin1_BR {x:Bool} {a b:Option (AV × St)} {r:AV} {t:Tag (a,b)} : fin1 (BR (some x) a b t)=some r↔(x=true->fin1 a=some r)/\(x=false->fin1 b=some r):=Anm
theorem finS_BR {m:Nat} {x:Bool} {a b:Option (AV × St)} {r:AV × List Ent × List Nat × Nat} {t:Tag (a,b)} : finS m (BR (some x) a b t)=some r↔(x=true->finS m a=some r)/\(x=false->finS m b=some r):=Ano
theorem finM_BR {x:Bool} {a b:Option (AV × St)} {r:AV × List Ent × List Nat × Nat} {t:Tag (a,b)} : finM (BR (some x) a b t)=some r↔(x=true->finM a=some r)/\(x=false->finM b=some r):=Ann
variable {st:St}
theorem KX_seq [Globs] [Ext P] {a b:Code} {t:Tag (Code.seq a b,k)} : KX P fn (.seq a b) st k t=KX P fn a st (.seq b :: k) .mk:=Aoz
theorem KX_skip [Globs] [Ext P] {t:Tag (Code.skip,k)} : KX P fn .skip st k t=CX P fn .normal st k .mk:=Amv
theorem KX_exit [Globs] [Ext P] {id:Nat} {t:Tag (Code.exit id,k)} : KX P fn (.exit id) st k t=CX P fn (.exit id) st k .mk:=Amt
theorem KX_ret [Globs] [Ext P] {t:Tag (Code.ret,k)} : KX P fn .ret st k t=CX P fn .ret st k .mk:=Aoy
theorem KX_if [Globs] [Ext P] {c:Operand} {a b:Code} {t:Tag (Code.cond c a b,k)} : KX P fn (.cond c a b) st k t=BR (asB (opv st.T c)) (KX P fn a st k .mk) (KX P fn b st k .mk) .mk:=RK_if
theorem KX_block [Globs] [Ext P] {id:Nat} {c:Code} {t:Tag (Code.block id c,k)} : KX P fn (.block id c) st k t=KX P fn c st (.block id :: k) .mk:=Ajf
theorem KX_scope [Globs] [Ext P] {c:Code} {t:Tag (Code.scope c,k)} : KX P fn (.scope c) st k t=KX P fn c st k .mk:=Ajh
theorem KX_label [Globs] [Ext P] {l:Nat} {t:Tag (Code.label l,k)} : KX P fn (.label l) st k t=CX P fn .normal st k .mk:=Ajg
theorem KX_region [Globs] [Ext P] {id:Nat} {ops:List Oper} {t:Tag (fP id ops.toArray false,k)} : KX P fn (.region id ops.toArray false) st k t=RX P fn .no (cL P) ops ops st k .mk:=Aex
structure QmF [Globs] (ops:List Oper):Prop where
 h:mdOf ops=.no
structure QmT [Globs] (ops:List Oper):Prop where
 h:mdOf ops=.quiet
structure QmL [Globs] (ops:List Oper):Prop where
 h:mdOf ops=.look
structure QmV [Globs] (ops:List Oper):Prop where
 h:mdOf ops=.vals
structure TlF [Globs] (ops:List Oper):Prop where
 b:((Ev ops).isNone && (Js ops).isNone)=true
theorem TlF.h [Globs] {ops:List Oper} (t:TlF ops):Ev ops=none:=Za01
theorem TlF.h2 [Globs] {ops:List Oper} (t:TlF ops):Js ops=none:=Za0n
def Zt:List Oper->List Oper
 | []=>[]
 | [o]=>[o]
 | _ :: b :: l=>Zt (b :: l)
theorem lastO_one {o:Oper} : Zt [o]=[o]:=rfl
theorem lastO_more {a b:Oper} {l:List Oper} : Zt (a :: b :: l)=Zt (b :: l):=rfl
theorem dropL_one {o:Oper} : List.dropLast [o]=[]:=rfl
theorem dropL_more {a b:Oper} {l:List Oper} : List.dropLast (a :: b :: l)=a :: List.dropLast (b :: l):=rfl
structure TlT [Globs] (ops:List Oper):Prop where
 b:((Ev ops).isSome && ((Ev ops.dropLast).isNone && (Js ops.dropLast).isNone))=true
theorem TlT.h [Globs] {ops:List Oper} (t:TlT ops):(Ev ops).isSome=true:=Za01
theorem TlT.h2 [Globs] {ops:List Oper} (t:TlT ops):Ev ops.dropLast=none:=by have:=t.b; simp only [Cf,F8] at this; exact this.2.1
theorem TlT.h3 [Globs] {ops:List Oper} (t:TlT ops):Js ops.dropLast=none:=by have:=t.b; simp only [Cf,F8] at this; exact this.2.2
theorem KX_draw [Globs] [Ext P] {id:Nat} {ops:List Oper} {t:Tag (fP id ops.toArray true,k)} (me:QmF ops) (hs:TlF ops) (h:Bm st ops=true):KX P fn (.region id ops.toArray true) st k t=RX P fn .no (Ec P (cL P)) ops ops st k .mk:=by
 have hq:=me.h;have e:Ec P (cL P)=Hs .no P (cL P):=rfl;rw [e,<- hq]; exact Qf eJ eI aI
theorem KX_drawL [Globs] [Ext P] {id:Nat} {ops:List Oper} {t:Tag (fP id ops.toArray true,k)} (me:QmL ops) (hs:TlF ops) (h:Bm st ops=true):KX P fn (.region id ops.toArray true) st k t=RX P fn .look (Hs .look P (cL P)) ops ops st k .mk:=by
 exact Yao
theorem KX_drawV [Globs] [Ext P] {id:Nat} {ops:List Oper} {t:Tag (fP id ops.toArray true,k)} (me:QmV ops) (hs:TlF ops) (h:Bm st ops=true):KX P fn (.region id ops.toArray true) st k t=RX P fn .vals (Hs .vals P (cL P)) ops ops st k .mk:=by
 exact Yao
theorem KX_drawQ [Globs] [Ext P] {id:Nat} {ops:List Oper} {t:Tag (fP id ops.toArray true,k)} (me:QmT ops) (hs:TlF ops) (h:Bm st ops=true):KX P fn (.region id ops.toArray true) st k t=RX P fn .quiet (Hs .quiet P (cL P)) ops ops st k .mk:=by
 exact Yao
theorem Ag8 {L:List Oper} {o:Oper} {a:List Oper} (h:L=a++[o]):Zt L=[o]:=by
 subst h;induction a with
 | nil=>rfl
 | cons x a ih=>cases a with
  | nil=>rfl
  | cons y a=>exact ih
theorem KX_tail [Globs] [Ext P] {id:Nat} {ops:List Oper} {t:Tag (fP id ops.toArray true,k)} (hs:TlT ops) (h:Bm st ops.dropLast=true):KX P fn (.region id ops.toArray true) st k t=KX P fn (.region id ops.dropLast.toArray true) st (.seq (.region id (Zt ops).toArray false) :: k) .mk:=by
 have h1:=hs.h; have h2:=hs.h2; have h3:=hs.h3;cases sv:Ev ops with
 | none=>rw [sv] at h1; cases h1
 | some x =>
  obtain ⟨a,o⟩:=x;obtain ⟨hL,-⟩:=Mb sv;have hd:ops.dropLast=a:=by rw [hL]; simp
  rw [Ag8 hL,hd];rw [hd] at h2 h3 h;exact Amw (by simpa using sv) h2 h3 h
structure TlL [Globs] (ops:List Oper):Prop where
 b:((Ev ops).isNone && (Js ops).isSome)=true
theorem TlL.h [Globs] {ops:List Oper} (t:TlL ops):Ev ops=none:=Za01
theorem TlL.h2 [Globs] {ops:List Oper} (t:TlL ops):(Js ops).isSome=true:=Za0n
structure Aot (o:Oper):Prop where
 h:isMk o=false
def lastL (ops:List Oper):List Oper:=(ops.filter isMk)++Zt ops
theorem openL_one {o:Oper} : openL [o]=[]:=rfl
theorem openL_mk {ds:Tmp} {t ty:TypeId} {pos:String} {af:Array Edge} {b:Oper} {l:List Oper} : openL (⟨some ds,.alloc t,ty,pos,af,none⟩ :: b :: l)=⟨some ds,.move (.global 0),ty,pos,af,none⟩ :: openL (b :: l):=rfl
theorem openL_old {o b:Oper} {l:List Oper} (h:Aot o):openL (o :: b :: l)=o :: openL (b :: l):=by
 show Ti o :: _=_;unfold Ti; rw [if_neg (by rw [h.h]; simp)]
theorem filtL_nil:iU isMk []=[]:=rfl
theorem filtL_mk {ds:Tmp} {t ty:TypeId} {pos:String} {af:Array Edge} {l:List Oper} : iU isMk (⟨some ds,.alloc t,ty,pos,af,none⟩ :: l)=⟨some ds,.alloc t,ty,pos,af,none⟩ :: iU isMk l:=by rw [List.filter_cons_of_pos rfl]
theorem filtL_old {o:Oper} {l:List Oper} (h:Aot o):iU isMk (o :: l)=iU isMk l:=by rw [fQ (by rw [h.h]; simp)]
theorem Mu:∀ {L:List Oper} {p:Nat} {al:Oper},Lt L=some (p,al)->L.filter isMk=[al]
 | [],_,_,h=>by simp [Lt] at h
 | o :: l,p,al,h=>by
  unfold Lt at h;split at h
  ·rename_i hm;split at h
   ·rename_i hc;simp only [Cf,F3] at hc;simp only [A0,Cc] at h;obtain ⟨-,rfl⟩:=h;rw [List.filter_cons_of_pos hm,List.filter_eq_nil_iff.2 fun x hx=>by simpa using List.any_eq_false.1 hc.2 x hx]
   ·cases h
  ·rename_i hm;simp only [B6,Cc,Prod.exists] at h;obtain ⟨p',al',h,-,rfl⟩:=h;rw [fQ hm]; exact Mu h
noncomputable def LX [Globs] (P:Program) [Ext P] (fn:Func) (id:Nat) (a z:List Oper) (st:St) (k:List Kont) (_:Tag (st,k)):Option (AV × St):=RX P fn .look (Hs .look P (cL P)) a a st (.seq (.region id z.toArray false) :: k) .mk
theorem LX_eq [Globs] [Ext P] {id:Nat} {a:Oper} {l z:List Oper} {tg:Tag (st,k)} : LX P fn id (a :: l) z st k tg=RX P fn .look (Hs .look P (cL P)) (a :: l) (a :: l) st (.seq (.region id z.toArray false) :: k) .mk:=rfl
theorem KX_late [Globs] [Ext P] {id:Nat} {ops:List Oper} {t:Tag (fP id ops.toArray true,k)} (hs:TlL ops) (me:QmL (openL ops)) (h:Bm st (openL ops)=true):KX P fn (.region id ops.toArray true) st k t=LX P fn id (openL ops) (lastL ops) st k .mk:=by
 unfold LX;have h1:=hs.h; have h2:=hs.h2;have hq:=me.h;cases hl:Js ops with
 | none=>rw [hl] at h2; cases h2
 | some x =>
  obtain ⟨p,al,o⟩:=x;obtain ⟨a,hL,-,ah,nv⟩:=T5 hl;have e:lastL ops=[al,o]:=by
   have hm:isMk o=false:=by
    unfold isSt at ah;unfold isMk;split at ah
    ·rename_i h; rw [h]
    ·cases ah
   unfold lastL;rw [Ag8 hL,hL,List.filter_append,Mu nv,fQ (by rw [hm]; simp)]; rfl
  rw [e];have:=Amu (P:=P) (fn:=fn) (st:=st) (k:=k) (id:=id) (ops:=ops.toArray) aU bS aI;simp only [iG,hq] at this;exact this
theorem CX_seq [Globs] [Ext P] {c:Code} {t:Tag (Kont.seq c :: k)} : CX P fn .normal st (.seq c :: k) t=KX P fn c st k .mk:=rfl
theorem CX_block [Globs] [Ext P] {id:Nat} {t:Tag (Kont.block id :: k)} : CX P fn .normal st (.block id :: k) t=CX P fn .normal st k .mk:=rfl
theorem CX_loop [Globs] [Ext P] {c:Code} {m:Nat} {t:Tag (Kont.loop c m :: k)} (hk:CkF (Nv c)):CX P fn .normal st (.loop c m :: k) t=KX P fn (.loop c) { st with S:=st.S.take m } k .mk:=by
 exact Ya2d
theorem CX_loopK [Globs] [Ext P] {c:Code} {m:Nat} {t:Tag (Kont.loop c m :: k)} (hk:CkT (Nv c)):CX P fn .normal st (.loop c m :: k) t=KX P fn (.loop c) st k .mk:=by
 exact Ya2d
theorem CX_exit_seq [Globs] [Ext P] {c:Code} {id:Nat} {t:Tag (Kont.seq c :: k)} : CX P fn (.exit id) st (.seq c :: k) t=CX P fn (.exit id) st k .mk:=rfl
theorem CX_exit_block [Globs] [Ext P] {id id':Nat} {t:Tag (Kont.block id' :: k)} : CX P fn (.exit id) st (.block id' :: k) t=BR (some (id == id')) (CX P fn .normal st k .mk) (CX P fn (.exit id) st k .mk) .mk:=by
 show (if id=id' then cont P fn .normal st k else cont P fn (.exit id) st k)=br _ _ _;by_cases h:id=id'
 ·subst h; simp [br,CX]
 ·have e:(id == id')=false:=aI
  rw [if_neg h,e]; rfl
theorem CX_exit_loop [Globs] [Ext P] {c:Code} {id m:Nat} {t:Tag (Kont.loop c m :: k)} : CX P fn (.exit id) st (.loop c m :: k) t=CX P fn (.exit id) st k .mk:=rfl
theorem CX_ret [Globs] [Ext P] {x:Kont} {t:Tag (x :: k)} : CX P fn .ret st (x :: k) t=CX P fn .ret st k .mk:=Aj5
theorem CX_ret_nil [Globs] [Ext P] {t:Tag ([]:List Kont)} : CX P fn .ret st [] t=outA P fn (some (.ret,st)):=rfl
theorem CX_normal_nil [Globs] [Ext P] {t:Tag ([]:List Kont)} : CX P fn .normal st [] t=outA P fn (some (.normal,st)):=rfl
theorem RX_nil [Globs] [Ext P] {t:Tag (all,([]:List Oper),k)} : RX P fn M call all [] st k t=CX P fn .normal st k .mk:=rfl
theorem Aox [Globs] [Ext P] {c:Code} : RK P fn c st k=KX P fn c st k .mk:=rfl
def DX (all:List Oper) (g:Nat) (_:Tag all):Option Tmp:=Aj9 all g
theorem DX_zero {o:Oper} {tg:Tag (o :: l)} : DX (o :: l) 0 tg=o.dst:=rfl
theorem DX_succ {o:Oper} {g:Nat} {tg:Tag (o :: l)} : DX (o :: l) (g+1) tg=DX l g .mk:=rfl
theorem RX_guard [Globs] [Ext P] {op:Op} {g:Nat} {w:Bool} {tg:Tag (all,((⟨d,op,ty,pos,af,some (g,w)⟩:Oper) :: l),k)} : RX P fn M call all (⟨d,op,ty,pos,af,some (g,w)⟩ :: l) ⟨T,S,tk,n⟩ k tg=BR (Ai7 T (DX all g .mk) w) (RX P fn M call all (⟨d,op,ty,pos,af,none⟩ :: l) ⟨T,S,tk,n⟩ k .mk) (RX P fn M call all l ⟨putT T d (.prim undef),S,tk,n⟩ k .mk) .mk:=Ajo
theorem RX_move [Globs] [Ext P] {x:Operand} {tg:Tag (all,((⟨d,.move x,ty,pos,af,none⟩:Oper) :: l),k)} : RX P fn M call all (⟨d,.move x,ty,pos,af,none⟩ :: l) ⟨T,S,tk,n⟩ k tg=RX P fn M call all l ⟨putT T d (opv T x),S,tk,n⟩ k .mk:=Am1
theorem RX_assign [Globs] [Ext P] {x:Operand} {tg:Tag (all,((⟨d,.assign x,ty,pos,af,none⟩:Oper) :: l),k)} : RX P fn M call all (⟨d,.assign x,ty,pos,af,none⟩ :: l) ⟨T,S,tk,n⟩ k tg=RX P fn M call all l ⟨putT T d (opv T x),S,tk,n⟩ k .mk:=Aez
theorem RX_pick [Globs] [Ext P] {c a b:Operand} {tg:Tag (all,((⟨d,.pick c a b,ty,pos,af,none⟩:Oper) :: l),k)} : RX P fn M call all (⟨d,.pick c a b,ty,pos,af,none⟩ :: l) ⟨T,S,tk,n⟩ k tg=NX (Ahy (opv T c) (opv T a) (opv T b)) (fun v=>RX P fn M call all l ⟨putT T d v,S,tk,n⟩ k .mk) .mk:=Am2
theorem RX_bin [Globs] [Ext P] {b:BinOp} {t u:TypeId} {x y:Operand} {tg:Tag (all,((⟨d,.binOp b t x y u,ty,pos,af,none⟩:Oper) :: l),k)} : RX P fn M call all (⟨d,.binOp b t x y u,ty,pos,af,none⟩ :: l) ⟨T,S,tk,n⟩ k tg=NX (aBin P b t (opv T x) (opv T y)) (fun v=>RX P fn M call all l ⟨putT T d v,S,tk,n⟩ k .mk) .mk:=Ao0
theorem RX_un [Globs] [Ext P] {u:UnOp} {t:TypeId} {x:Operand} {tg:Tag (all,((⟨d,.unOp u t x,ty,pos,af,none⟩:Oper) :: l),k)} : RX P fn M call all (⟨d,.unOp u t x,ty,pos,af,none⟩ :: l) ⟨T,S,tk,n⟩ k tg=NX (aUn u (opv T x)) (fun v=>RX P fn M call all l ⟨putT T d v,S,tk,n⟩ k .mk) .mk:=RO_un
theorem RX_conv [Globs] [Ext P] {s t:TypeId} {x:Operand} {tg:Tag (all,((⟨d,.convert s t x,ty,pos,af,none⟩:Oper) :: l),k)} : RX P fn M call all (⟨d,.convert s t x,ty,pos,af,none⟩ :: l) ⟨T,S,tk,n⟩ k tg=NX (cvA P s t (opv T x)) (fun v=>RX P fn M call all l ⟨putT T d v,S,tk,n⟩ k .mk) .mk:=Amy
theorem RX_extract [Globs] [Ext P] {x:Operand} {i:Nat} {tg:Tag (all,((⟨d,.extract x i,ty,pos,af,none⟩:Oper) :: l),k)} : RX P fn M call all (⟨d,.extract x i,ty,pos,af,none⟩ :: l) ⟨T,S,tk,n⟩ k tg=NX (extA (opv T x) i) (fun v=>RX P fn M call all l ⟨putT T d v,S,tk,n⟩ k .mk) .mk:=Ac2
theorem RX_field [Globs] [Ext P] {t:TypeId} {x:Operand} {i:Nat} {tg:Tag (all,((⟨d,.field t x i,ty,pos,af,none⟩:Oper) :: l),k)} : RX P fn M call all (⟨d,.field t x i,ty,pos,af,none⟩ :: l) ⟨T,S,tk,n⟩ k tg=NX (fldV (Ax P t i) (opv T x)) (fun v=>RX P fn M call all l ⟨putT T d v,S,tk,n⟩ k .mk) .mk:=Ajn
theorem RX_indexAddr [Globs] [Ext P] {t:TypeId} {x i:Operand} {tg:Tag (all,((⟨d,.indexAddr t x i,ty,pos,af,none⟩:Oper) :: l),k)} : RX P fn M call all (⟨d,.indexAddr t x i,ty,pos,af,none⟩ :: l) ⟨T,S,tk,n⟩ k tg=NX (idxA P t (opv T x) (opv T i)) (fun v=>RX P fn M call all l ⟨putT T d v,S,tk,n⟩ k .mk) .mk:=Wm
theorem RX_fieldAddr [Globs] [Ext P] {t:TypeId} {x:Operand} {i:Nat} {tg:Tag (all,((⟨d,.fieldAddr t x i,ty,pos,af,none⟩:Oper) :: l),k)} : RX P fn M call all (⟨d,.fieldAddr t x i,ty,pos,af,none⟩ :: l) ⟨T,S,tk,n⟩ k tg=NX (fldA P t (opv T x) i) (fun v=>RX P fn M call all l ⟨putT T d v,S,tk,n⟩ k .mk) .mk:=Wl
theorem RX_index [Globs] [Ext P] {t:TypeId} {x i:Operand} {tg:Tag (all,((⟨d,.index t x i,ty,pos,af,none⟩:Oper) :: l),k)} : RX P fn M call all (⟨d,.index t x i,ty,pos,af,none⟩ :: l) ⟨T,S,tk,n⟩ k tg=NX (Air (B3 P t) (opv T x) (intN (opv T i))) (fun v=>RX P fn M call all l ⟨putT T d v,S,tk,n⟩ k .mk) .mk:=Ajp
theorem RX_build [Globs] [Ext P] {t:TypeId} {ps:Array (Nat × Operand)} {tg:Tag (all,((⟨d,.build t ps,ty,pos,af,none⟩:Oper) :: l),k)} : RX P fn M call all (⟨d,.build t ps,ty,pos,af,none⟩ :: l) ⟨T,S,tk,n⟩ k tg=NX (bldA (Ar P t) (fieldsOf P t) (ps.toList.map fun (i,x)=>(i,opv T x))) (fun v=>RX P fn M call all l ⟨putT T d v,S,tk,n⟩ k .mk) .mk:=Ajj
theorem RX_buildSlice [Globs] [Ext P] {t:TypeId} {len:Nat} {ps:Array (Nat × Operand)} {tg:Tag (all,((⟨d,.buildSlice t len ps,ty,pos,af,none⟩:Oper) :: l),k)} : RX P fn M call all (⟨d,.buildSlice t len ps,ty,pos,af,none⟩ :: l) ⟨T,S,tk,n⟩ k tg=NX (litA ((A7 P t).bind (szOf P)) ((A7 P t).bind (Ar P)) len (ps.toList.map fun (i,x)=>(i,opv T x))) (fun v=>RX P fn M call all l ⟨putT T d v,S,tk,n⟩ k .mk) .mk:=Uq
theorem RX_slice [Globs] [Ext P] {t:TypeId} {x:Operand} {lo hi mx:Option Operand} {tg:Tag (all,((⟨d,.slice t x lo hi mx,ty,pos,af,none⟩:Oper) :: l),k)} : RX P fn M call all (⟨d,.slice t x lo hi mx,ty,pos,af,none⟩ :: l) ⟨T,S,tk,n⟩ k tg=NX (Nh P t (opv T x) (lo.map (opv T)) (hi.map (opv T)) (mx.map (opv T))) (fun v=>RX P fn M call all l ⟨putT T d v,S,tk,n⟩ k .mk) .mk:=Ajs
theorem RX_makeFunc [Globs] [Ext P] {f:FuncId} {caps:Array Operand} {tg:Tag (all,((⟨d,.makeFunc (.func f) #[] caps,ty,pos,af,none⟩:Oper) :: l),k)} : RX P fn M call all (⟨d,.makeFunc (.func f) #[] caps,ty,pos,af,none⟩ :: l) ⟨T,S,tk,n⟩ k tg=NX (if ((caps.toList.map (opv T)).all Kd)=true then some (.fn f (caps.toList.map (opv T))) else none) (fun v=>RX P fn M call all l ⟨putT T d v,S,tk,n⟩ k .mk) .mk:=Y9
theorem RX_makeBound [Globs] [Ext P] {f:FuncId} {x:Operand} {tg:Tag (all,((⟨d,.makeFunc (.func f) #[x] #[],ty,pos,af,none⟩:Oper) :: l),k)} : RX P fn M call all (⟨d,.makeFunc (.func f) #[x] #[],ty,pos,af,none⟩ :: l) ⟨T,S,tk,n⟩ k tg=RX P fn M call all l ⟨putT T d (.bfn f [opv T x]),S,tk,n⟩ k .mk:=Wn
theorem RX_load [Globs] [Ext P] {t:TypeId} {a:Operand} {tg:Tag (all,((⟨d,.load t a,ty,pos,af,none⟩:Oper) :: l),k)} : RX P fn M call all (⟨d,.load t a,ty,pos,af,none⟩ :: l) ⟨T,S,tk,n⟩ k tg=NX (ldG (@Globs.dr (gM M)) (ldA P t (opv T a) S)) (fun v=>RX P fn M call all l ⟨putT T d v,S,tk,n⟩ k .mk) .mk:=Am0
theorem RX_store [Globs] [Ext P] {t:TypeId} {a x:Operand} {tg:Tag (all,((⟨none,.store t a x,ty,pos,af,none⟩:Oper) :: l),k)} : RX P fn M call all (⟨none,.store t a x,ty,pos,af,none⟩ :: l) ⟨T,S,tk,n⟩ k tg=NS (stA P t (opv T a) (opv T x) S) (fun S'=>RX P fn M call all l ⟨T,S',tk,n⟩ k .mk) .mk:=Ajt
theorem RX_alloc [Globs] [Ext P] {t:TypeId} {tg:Tag (all,((⟨d,.alloc t,ty,pos,af,none⟩:Oper) :: l),k)} : RX P fn M call all (⟨d,.alloc t,ty,pos,af,none⟩ :: l) ⟨T,S,tk,n⟩ k tg=NS (Ar P t) (fun cs=>RX P fn M call all l ⟨putT T d (.ref S.length n 0),S++[⟨n,cs⟩],tk,n+1⟩ k .mk) .mk:=Aji
theorem RX_box [Globs] [Ext P] {t:TypeId} {x:Operand} {tg:Tag (all,((⟨d,.box t x,ty,pos,af,none⟩:Oper) :: l),k)} : RX P fn M call all (⟨d,.box t x,ty,pos,af,none⟩ :: l) ⟨T,S,tk,n⟩ k tg=NS (cellsOf (opv T x)) (fun cs=>RX P fn M call all l ⟨putT T d (.ref S.length n 0),S++[⟨n,cs⟩],tk,n+1⟩ k .mk) .mk:=Ao1
theorem RX_appendO [Globs] [Ext P] {x y:Operand} {t:TypeId} {tg:Tag (all,((⟨d,.call ⟨.builtin .append,#[x,y],#[t,t]⟩,ty,pos,af,none⟩:Oper) :: l),k)} (ho:CkT (@Globs.own (gM M) d ty)):RX P fn M call all (⟨d,.call ⟨.builtin .append,#[x,y],#[t,t]⟩,ty,pos,af,none⟩ :: l) ⟨T,S,tk,n⟩ k tg=NS (apO P t (opv T x) (opv T y) S n) (fun (v,S',n')=>RX P fn M call all l ⟨putT T d v,S',tk,n'⟩ k .mk) .mk:=Ac0 ho.h
theorem RX_append [Globs] [Ext P] {x y:Operand} {t:TypeId} {tg:Tag (all,((⟨d,.call ⟨.builtin .append,#[x,y],#[t,t]⟩,ty,pos,af,none⟩:Oper) :: l),k)} (ho:CkF (@Globs.own (gM M) d ty)):RX P fn M call all (⟨d,.call ⟨.builtin .append,#[x,y],#[t,t]⟩,ty,pos,af,none⟩ :: l) ⟨T,S,tk,n⟩ k tg=NS (apM M P t (opv T x) (opv T y) tk S) (fun (v,tk')=>RX P fn M call all l ⟨putT T d v,S,tk',n⟩ k .mk) .mk:=Aey ho.h
theorem RX_len [Globs] [Ext P] {x:Operand} {t:TypeId} {tg:Tag (all,((⟨d,.call ⟨.builtin .len,#[x],#[t]⟩,ty,pos,af,none⟩:Oper) :: l),k)} : RX P fn M call all (⟨d,.call ⟨.builtin .len,#[x],#[t]⟩,ty,pos,af,none⟩ :: l) ⟨T,S,tk,n⟩ k tg=NX (lenV (B3 P t) (A7 P t).isSome (opv T x)) (fun v=>RX P fn M call all l ⟨putT T d v,S,tk,n⟩ k .mk) .mk:=Ao2
theorem RX_call [Globs] [Ext P] {f:FuncId} {args:Array Operand} {ats:Array TypeId} {tg:Tag (all,((⟨d,.call ⟨.value (.func f),args,ats⟩,ty,pos,af,none⟩:Oper) :: l),k)} (hx:CkF ((@Globs.dr (gM M) && @xF (gM M) f))):RX P fn M call all (⟨d,.call ⟨.value (.func f),args,ats⟩,ty,pos,af,none⟩ :: l) ⟨T,S,tk,n⟩ k tg=NS (call f (args.toList.map (opv T)) S tk n) (fun (v,S',tk',n')=>RX P fn M call all l ⟨putT T d v,S',tk',n'⟩ k .mk) .mk:=Amx hx.h
theorem RX_callL [Globs] [Ext P] {f:FuncId} {args:Array Operand} {ats:Array TypeId} {tg:Tag (all,((⟨d,.call ⟨.value (.func f),args,ats⟩,ty,pos,af,none⟩:Oper) :: l),k)} (hx:CkT (@lkOp (gM M) ⟨d,.call ⟨.value (.func f),args,ats⟩,ty,pos,af,none⟩)):RX P fn M call all (⟨d,.call ⟨.value (.func f),args,ats⟩,ty,pos,af,none⟩ :: l) ⟨T,S,tk,n⟩ k tg=NS (call f (args.toList.map (opv T)) S tk n) (fun (v,S',tk',n')=>NS (gO S S') (fun _=>RX P fn M call all l ⟨putT T d v,S',tk',n'⟩ k .mk) .mk) .mk:=Ajk hx.h
theorem RX_callX [Globs] [Ext P] {f:FuncId} {args:Array Operand} {ats:Array TypeId} {tg:Tag (all,((⟨d,.call ⟨.value (.func f),args,ats⟩,ty,pos,af,none⟩:Oper) :: l),k)} (hx:CkT (@anOp (gM M) ⟨d,.call ⟨.value (.func f),args,ats⟩,ty,pos,af,none⟩)):RX P fn M call all (⟨d,.call ⟨.value (.func f),args,ats⟩,ty,pos,af,none⟩ :: l) ⟨T,S,tk,n⟩ k tg=NS (call f (args.toList.map (opv T)) S tk n) (fun (v,S',tk',n')=>NS (reA P all d T S S') (fun _=>RX P fn M call all l ⟨putT T d v,S',tk',n'⟩ k .mk) .mk) .mk:=Ajm hx.h
theorem RX_invoke [Globs] [Ext P] {x:Operand} {m:String} {args:Array Operand} {ats:Array TypeId} {tg:Tag (all,((⟨d,.call ⟨.invoke x m,args,ats⟩,ty,pos,af,none⟩:Oper) :: l),k)} (hd:CkF (@Globs.dr (gM M))):RX P fn M call all (⟨d,.call ⟨.invoke x m,args,ats⟩,ty,pos,af,none⟩ :: l) ⟨T,S,tk,n⟩ k tg=NS (invV P call (opv T x) m (args.toList.map (opv T)) S tk n) (fun (v,S',tk',n')=>RX P fn M call all l ⟨putT T d v,S',tk',n'⟩ k .mk) .mk:=Ae0 hd.h
theorem RX_invokeL [Globs] [Ext P] {x:Operand} {m:String} {args:Array Operand} {ats:Array TypeId} {tg:Tag (all,((⟨d,.call ⟨.invoke x m,args,ats⟩,ty,pos,af,none⟩:Oper) :: l),k)} (hd:CkT (@Globs.dr (gM M))):RX P fn M call all (⟨d,.call ⟨.invoke x m,args,ats⟩,ty,pos,af,none⟩ :: l) ⟨T,S,tk,n⟩ k tg=NS (invV P call (opv T x) m (args.toList.map (opv T)) S tk n) (fun (v,S',tk',n')=>NS (gO S S') (fun _=>RX P fn M call all l ⟨putT T d v,S',tk',n'⟩ k .mk) .mk) .mk:=Ac3 hd.h
theorem RX_makeM [Globs] [Ext P] {m:String} {x:Operand} {tg:Tag (all,((⟨d,.makeFunc (.method m) #[x] #[],ty,pos,af,none⟩:Oper) :: l),k)} : RX P fn M call all (⟨d,.makeFunc (.method m) #[x] #[],ty,pos,af,none⟩ :: l) ⟨T,S,tk,n⟩ k tg=NX (mthA m (opv T x)) (fun v=>RX P fn M call all l ⟨putT T d v,S,tk,n⟩ k .mk) .mk:=Ajr
theorem RX_makeI [Globs] [Ext P] {t:TypeId} {x:Operand} {tg:Tag (all,((⟨d,.makeInterface t x,ty,pos,af,none⟩:Oper) :: l),k)} : RX P fn M call all (⟨d,.makeInterface t x,ty,pos,af,none⟩ :: l) ⟨T,S,tk,n⟩ k tg=NX (ifcA (Adi P t) t (opv T x)) (fun v=>RX P fn M call all l ⟨putT T d v,S,tk,n⟩ k .mk) .mk:=Ajq
theorem RX_callV [Globs] [Ext P] {x:Tmp} {args:Array Operand} {ats:Array TypeId} {tg:Tag (all,((⟨d,.call ⟨.value (.tmp x),args,ats⟩,ty,pos,af,none⟩:Oper) :: l),k)} (hx:CkF ((@Globs.dr (gM M) && @Globs.xAny (gM M)))):RX P fn M call all (⟨d,.call ⟨.value (.tmp x),args,ats⟩,ty,pos,af,none⟩ :: l) ⟨T,S,tk,n⟩ k tg=NS (Afo call (getT T x) (args.toList.map (opv T)) S tk n) (fun (v,S',tk',n')=>RX P fn M call all l ⟨putT T d v,S',tk',n'⟩ k .mk) .mk:=Ajl hx.h
theorem fin1_NX_not {c:Prop} [Decidable c] {v:AV} {f:AV->Option (AV × St)} {tg:Tag f} {r:AV} : fin1 (NX (if c then none else some v) f tg)=some r↔¬ c/\fin1 (f v)=some r:=by
 exact Ya0g
theorem fin1_NX_if {c:Prop} [Decidable c] {v:AV} {f:AV->Option (AV × St)} {tg:Tag f} {r:AV} : fin1 (NX (if c then some v else none) f tg)=some r↔c/\fin1 (f v)=some r:=by
 exact Ya0h
theorem fin1_NS_not {α:Type} {c:Prop} [Decidable c] {v:α} {f:α->Option (AV × St)} {tg:Tag f} {r:AV} : fin1 (NS (if c then none else some v) f tg)=some r↔¬ c/\fin1 (f v)=some r:=by
 exact Ya0g
theorem fin1_NS_if {α:Type} {c:Prop} [Decidable c] {v:α} {f:α->Option (AV × St)} {tg:Tag f} {r:AV} : fin1 (NS (if c then some v else none) f tg)=some r↔c/\fin1 (f v)=some r:=by
 exact Ya0h
theorem finS_NX_not {m:Nat} {c:Prop} [Decidable c] {v:AV} {f:AV->Option (AV × St)} {tg:Tag f} {r:AV × List Ent × List Nat × Nat} : finS m (NX (if c then none else some v) f tg)=some r↔¬ c/\finS m (f v)=some r:=by
 exact Ya0g
theorem finS_NX_if {m:Nat} {c:Prop} [Decidable c] {v:AV} {f:AV->Option (AV × St)} {tg:Tag f} {r:AV × List Ent × List Nat × Nat} : finS m (NX (if c then some v else none) f tg)=some r↔c/\finS m (f v)=some r:=by
 exact Ya0h
theorem finS_NS_not {m:Nat} {α:Type} {c:Prop} [Decidable c] {v:α} {f:α->Option (AV × St)} {tg:Tag f} {r:AV × List Ent × List Nat × Nat} : finS m (NS (if c then none else some v) f tg)=some r↔¬ c/\finS m (f v)=some r:=by
 exact Ya0g
theorem finS_NS_if {m:Nat} {α:Type} {c:Prop} [Decidable c] {v:α} {f:α->Option (AV × St)} {tg:Tag f} {r:AV × List Ent × List Nat × Nat} : finS m (NS (if c then some v else none) f tg)=some r↔c/\finS m (f v)=some r:=by
 exact Ya0h
theorem loop1 [Globs] [Ext P] {ι:Type} {c:Code} {tg:Tag (Code.loop c,k)} (I:ι->St->Prop) (μ:ι->Nat) (G:ι->AV) (x:ι)
  (h:∀ x st,I x st->(∀ y st',μ y<μ x->I y st'->fin1 (KX P fn (.loop c) st' k .mk)=some (G y))->fin1 (KX P fn c st (.loop c st.S.length :: k) .mk)=some (G x)) {st:St} (h0:I x st):fin1 (KX P fn (.loop c) st k tg)=some (G x) :=
 Ahi I μ G h h0
theorem Adp [Globs] [Ext P] {ι:Type} {c:Code} {m:Nat} {tg:Tag (Code.loop c,k)} (I:ι->St->Prop) (μ:ι->Nat) (G:ι->AV × List Ent × List Nat × Nat) (x:ι)
  (h:∀ x st,I x st->(∀ y st',μ y<μ x->I y st'->finS m (KX P fn (.loop c) st' k .mk)=some (G y))->finS m (KX P fn c st (.loop c st.S.length :: k) .mk)=some (G x)) {st:St} (h0:I x st):finS m (KX P fn (.loop c) st k tg)=some (G x) :=
 Adq I μ G h h0
def tabl:Nat->(Nat->AV)->List AV
 | 0,_=>[]
 | n+1,g=>g 0 :: tabl n fun i=>g (i+1)
theorem Aw:∀ {n:Nat} {T:List AV},T.length=n->∃ g,(∀ t,getT T t=g t)/\T=tabl n g
 | 0,[],_=>⟨fun _=>.bot,fun _=>rfl,rfl⟩
 | n+1,x :: T,h=>by
  obtain ⟨g,h1,h2⟩:=Aw (n:=n) (T:=T) aI;exact ⟨fun|0=>x|i+1=>g i,fun|0=>rfl|i+1=>h1 i,by rw [h2]; rfl⟩
 | 0,_ :: _,h=>aM
 | _+1,[],h=>aM
theorem Bz {S:List Ent} {n:Nat} {cs:List AV} : entAt (S++[⟨n,cs⟩]) S.length n=some cs:=by
 unfold entAt;rw [Ae,C8 (Cb _)];simp
theorem Ke {S:List Ent} {e:Ent} {id ep:Nat} {cs:List AV} (h:entAt S id ep=some cs):entAt (S++[e]) id ep=some cs:=by
 obtain ⟨x,h1,h2,h3⟩:=Dq h;unfold entAt;have hl:=Bb h1;rw [Ae] at h1 ⊢;rw [Cp hl,h1];simp [h2,h3]
theorem chkM_ref {i e o:Nat} : chkM P (.ref i e o)=some (.ref i e o):=rfl
theorem chkM_fptr {cs:List AV} : chkM P (.fptr cs)=some (.fptr cs):=rfl
theorem chkM_fn {f:FuncId} {cs:List AV} : chkM P (.fn f cs)=some (.fn f cs):=rfl
theorem chkM_bfn {f:FuncId} {cs:List AV} : chkM P (.bfn f cs)=some (.bfn f cs):=rfl
theorem chkM_ifc {t:TypeId} {v:AV} : chkM P (.ifc t v)=some (.ifc t v):=rfl
theorem chkM_mfn {t:TypeId} {m:String} {v:AV} (h:(mRow P t m).isSome=true):chkM P (.mfn t m v)=some (.mfn t m v):=by simp [chkM,h]
theorem Wo [Globs] [Ext P] {t:TypeId} {x y:Operand} (hz:Q5 ⟨d,.makeSlice t x y,ty,pos,af,none⟩ x=false):RO P fn M call all (⟨d,.makeSlice t x y,ty,pos,af,none⟩ :: l) ⟨T,S,tk,n⟩ k =
  ns (mkA P t (opv T x) (opv T y)) fun (m,sz,cs)=>RO P fn M call all l ⟨putT T d (.sref S.length n 0 m sz),S++[⟨n,cs⟩],tk,n+1⟩ k:=by
 rw [Dr rfl rfl];simp only [evO,hz];cases mkA P t (opv T x) (opv T y) <;> rfl
theorem Ur [Globs] [Ext P] {t:TypeId} {x y:Operand} (hz:len0 x=true):RO P fn M call all (⟨d,.makeSlice t x y,ty,pos,af,none⟩ :: l) ⟨T,S,tk,n⟩ k =
  ns (mkA P t (opv T x) (opv T y)) fun (m,sz,cs)=>RO P fn M call all l ⟨putT T d (.frz [] (.tok tk.length 0 sz)),S,tk++[0],n⟩ k:=by
 rw [Dr rfl rfl];simp only [evO,Q5,hz,iI];cases mkA P t (opv T x) (opv T y) <;> rfl
theorem Amz [Globs] [Ext P] {x y:Operand} {t t':TypeId} : RO P fn M call all (⟨d,.call ⟨.builtin .copy,#[x,y],#[t,t']⟩,ty,pos,af,none⟩ :: l) ⟨T,S,tk,n⟩ k =
  ns (cpA P t (opv T x) (opv T y) S) fun (m,S')=>RO P fn M call all l ⟨putT T d (.int (m:Int)),S',tk,n⟩ k:=by
 rw [Dr rfl rfl];simp only [evO,Cm,Cw];cases cpA P t (opv T x) (opv T y) S <;> rfl
theorem Ac1 [Globs] [Ext P] {x y:Operand} {t t':TypeId} (ht:(t == t')=false) (ho:@Globs.own (gM M) d ty=false):RO P fn M call all (⟨d,.call ⟨.builtin .append,#[x,y],#[t,t']⟩,ty,pos,af,none⟩ :: l) ⟨T,S,tk,n⟩ k =
  ns (apS P t t' (opv T x) (opv T y) tk) fun (v,tk')=>RO P fn M call all l ⟨putT T d v,S,tk',n⟩ k:=by
 have xg:¬ t=t':=by simpa using ht
 rw [Dr rfl rfl];simp only [evO,Cm,Cw,if_neg xg,ho,C4,if_false];cases apS P t t' (opv T x) (opv T y) tk <;> rfl
theorem Za [Globs] [Ext P] {x:Operand} : RO P fn M call all (⟨d,.nilCheck x,ty,pos,af,none⟩ :: l) ⟨T,S,tk,n⟩ k=nx (chkM P (opv T x)) fun v=>RO P fn M call all l ⟨putT T d v,S,tk,n⟩ k:=Dd rfl
theorem Ao4 [Globs] [Ext P] {x y:Operand} {ats:Array TypeId} : RO P fn M call all (⟨d,.call ⟨.builtin .min,#[x,y],ats⟩,ty,pos,af,none⟩ :: l) ⟨T,S,tk,n⟩ k=nx (minA (opv T x) (opv T y)) fun v=>RO P fn M call all l ⟨putT T d v,S,tk,n⟩ k:=Dd rfl
theorem Ao3 [Globs] [Ext P] {x y:Operand} {ats:Array TypeId} : RO P fn M call all (⟨d,.call ⟨.builtin .max,#[x,y],ats⟩,ty,pos,af,none⟩ :: l) ⟨T,S,tk,n⟩ k=nx (maxA (opv T x) (opv T y)) fun v=>RO P fn M call all l ⟨putT T d v,S,tk,n⟩ k:=Dd rfl
theorem RX_makeSlice [Globs] [Ext P] {t:TypeId} {x y:Operand} {tg:Tag (all,((⟨d,.makeSlice t x y,ty,pos,af,none⟩:Oper) :: l),k)} (hz:CkF (Q5 ⟨d,.makeSlice t x y,ty,pos,af,none⟩ x)):RX P fn M call all (⟨d,.makeSlice t x y,ty,pos,af,none⟩ :: l) ⟨T,S,tk,n⟩ k tg=NS (mkA P t (opv T x) (opv T y)) (fun (m,sz,cs)=>RX P fn M call all l ⟨putT T d (.sref S.length n 0 m sz),S++[⟨n,cs⟩],tk,n+1⟩ k .mk) .mk:=Wo hz.h
theorem RX_makeSlice0 [Globs] [Ext P] {t:TypeId} {x y:Operand} {tg:Tag (all,((⟨d,.makeSlice t x y,ty,pos,af,none⟩:Oper) :: l),k)} (hz:CkT (len0 x)):RX P fn M call all (⟨d,.makeSlice t x y,ty,pos,af,none⟩ :: l) ⟨T,S,tk,n⟩ k tg=NS (mkA P t (opv T x) (opv T y)) (fun (m,sz,cs)=>RX P fn M call all l ⟨putT T d (.frz [] (.tok tk.length 0 sz)),S,tk++[0],n⟩ k .mk) .mk:=Ur hz.h
theorem RX_copy [Globs] [Ext P] {x y:Operand} {t t':TypeId} {tg:Tag (all,((⟨d,.call ⟨.builtin .copy,#[x,y],#[t,t']⟩,ty,pos,af,none⟩:Oper) :: l),k)} : RX P fn M call all (⟨d,.call ⟨.builtin .copy,#[x,y],#[t,t']⟩,ty,pos,af,none⟩ :: l) ⟨T,S,tk,n⟩ k tg=NS (cpA P t (opv T x) (opv T y) S) (fun (m,S')=>RX P fn M call all l ⟨putT T d (.int (m:Int)),S',tk,n⟩ k .mk) .mk:=Amz
theorem RX_appendS [Globs] [Ext P] {x y:Operand} {t t':TypeId} {tg:Tag (all,((⟨d,.call ⟨.builtin .append,#[x,y],#[t,t']⟩,ty,pos,af,none⟩:Oper) :: l),k)} (ht:CkF ((t == t'))) (ho:CkF (@Globs.own (gM M) d ty)):RX P fn M call all (⟨d,.call ⟨.builtin .append,#[x,y],#[t,t']⟩,ty,pos,af,none⟩ :: l) ⟨T,S,tk,n⟩ k tg=NS (apS P t t' (opv T x) (opv T y) tk) (fun (v,tk')=>RX P fn M call all l ⟨putT T d v,S,tk',n⟩ k .mk) .mk:=Ac1 ht.h ho.h
theorem RX_nilCheck [Globs] [Ext P] {x:Operand} {tg:Tag (all,((⟨d,.nilCheck x,ty,pos,af,none⟩:Oper) :: l),k)} : RX P fn M call all (⟨d,.nilCheck x,ty,pos,af,none⟩ :: l) ⟨T,S,tk,n⟩ k tg=NX (chkM P (opv T x)) (fun v=>RX P fn M call all l ⟨putT T d v,S,tk,n⟩ k .mk) .mk:=Za
theorem RX_min [Globs] [Ext P] {x y:Operand} {ats:Array TypeId} {tg:Tag (all,((⟨d,.call ⟨.builtin .min,#[x,y],ats⟩,ty,pos,af,none⟩:Oper) :: l),k)} : RX P fn M call all (⟨d,.call ⟨.builtin .min,#[x,y],ats⟩,ty,pos,af,none⟩ :: l) ⟨T,S,tk,n⟩ k tg=NX (minA (opv T x) (opv T y)) (fun v=>RX P fn M call all l ⟨putT T d v,S,tk,n⟩ k .mk) .mk:=Ao4
theorem RX_max [Globs] [Ext P] {x y:Operand} {ats:Array TypeId} {tg:Tag (all,((⟨d,.call ⟨.builtin .max,#[x,y],ats⟩,ty,pos,af,none⟩:Oper) :: l),k)} : RX P fn M call all (⟨d,.call ⟨.builtin .max,#[x,y],ats⟩,ty,pos,af,none⟩ :: l) ⟨T,S,tk,n⟩ k tg=NX (maxA (opv T x) (opv T y)) (fun v=>RX P fn M call all l ⟨putT T d v,S,tk,n⟩ k .mk) .mk:=Ao3
theorem cvA_int {s t:TypeId} {q:IntKind} {x:Int} : cvA P s t (.prim (.int q x))=Wt P s t (.prim (.int q x)):=rfl
theorem cvA_str {s t:TypeId} {b:ByteArray} : cvA P s t (.prim (.string b))=if (B3 P s && Q6 P t && decide (b.size<=1048576))=true then some (.frz (bytesL b) .unk) else Wt P s t (.prim (.string b)):=rfl
theorem minA_int {q:IntKind} {x y:Int} : minA (.prim (.int q x)) (.prim (.int q y))=some (.prim (.int q (if y<x then y else x))):=by simp [minA]
theorem maxA_int {q:IntKind} {x y:Int} : maxA (.prim (.int q x)) (.prim (.int q y))=some (.prim (.int q (if y > x then y else x))):=by simp [maxA]
theorem aBin_refNil {b:BinOp} {t:TypeId} {i e o:Nat} : aBin P b t (.ref i e o) (.prim (.pointer none))=J4 b (Tg P t) false:=rfl
theorem aBin_fptrNil {b:BinOp} {t:TypeId} {cs:List AV} : aBin P b t (.fptr cs) (.prim (.pointer none))=J4 b (Tg P t) false:=rfl
theorem aBin_nilNil {b:BinOp} {t:TypeId} : aBin P b t (.prim (.pointer none)) (.prim (.pointer none))=J4 b (Tg P t) true:=rfl
theorem ptrNil_eql {r:Bool} : J4 .eql true r=some (.bool r):=rfl
theorem ptrNil_neq {r:Bool} : J4 .neq true r=some (.bool !r):=rfl
/- what returns -/
theorem fz3_tup {m:Nat} {vs:List AV} : fz3 m S (.tup vs)=.tup (vs.map (fz2 m S)):=rfl
theorem fz3_agg {m:Nat} {cs:List AV} : fz3 m S (.agg cs)=.agg (cs.map (fz1 m S)):=rfl
theorem fz3_prim {m:Nat} {v:Value} : fz3 m S (.prim v)=.prim v:=rfl
theorem fz3_frz {m:Nat} {es:List (List AV)} {c:Cap} : fz3 m S (.frz es c)=.frz es c:=rfl
theorem fz3_ref {m i e o:Nat} : fz3 m S (.ref i e o)=.ref i e o:=rfl
theorem fz3_fn {m:Nat} {f:FuncId} {cs:List AV} : fz3 m S (.fn f cs)=.fn f cs:=rfl
theorem fz3_sref {m i e o len sz:Nat} : fz3 m S (.sref i e o len sz)=fz1 m S (.sref i e o len sz):=rfl
theorem fz2_agg {m:Nat} {cs:List AV} : fz2 m S (.agg cs)=.agg (cs.map (fz1 m S)):=rfl
theorem fz2_prim {m:Nat} {v:Value} : fz2 m S (.prim v)=.prim v:=rfl
theorem fz2_frz {m:Nat} {es:List (List AV)} {c:Cap} : fz2 m S (.frz es c)=.frz es c:=rfl
theorem fz2_ref {m i e o:Nat} : fz2 m S (.ref i e o)=.ref i e o:=rfl
theorem fz2_fn {m:Nat} {f:FuncId} {cs:List AV} : fz2 m S (.fn f cs)=.fn f cs:=rfl
theorem fz2_sref {m i e o len sz:Nat} : fz2 m S (.sref i e o len sz)=fz1 m S (.sref i e o len sz):=rfl
theorem fz1_prim {m:Nat} {v:Value} : fz1 m S (.prim v)=.prim v:=rfl
theorem fz1_frz {m:Nat} {es:List (List AV)} {c:Cap} : fz1 m S (.frz es c)=.frz es c:=rfl
theorem fz1_ref {m i e o:Nat} : fz1 m S (.ref i e o)=.ref i e o:=rfl
theorem fz1_fn {m:Nat} {f:FuncId} {cs:List AV} : fz1 m S (.fn f cs)=.fn f cs:=rfl
theorem fz1_sref {m i e o len sz:Nat} (h:m<=i):fz1 m S (.sref i e o len sz)=fzB (entAt S i e) o len sz:=by simp [fz1,h]
theorem fz1_old {m i e o len sz:Nat} (h:i<m):fz1 m S (.sref i e o len sz)=.sref i e o len sz:=by simp [fz1]; omega
theorem fzB_some {cs:List AV} {o len sz:Nat} : fzB (some cs) o len sz=Pi (Je sz len (cs.drop o)):=rfl
end
end
section
open Go
section
variable {P:Program}
def aggB (b:BinOp) (k:Option (List Nat)) (xs ys:List AV):Option AV :=
 match k with
 | some ks=>match b with
  | .eql=>(cellsEq ks xs ys).map .bool
  | .neq=>(cellsEq ks xs ys).map fun c=>.bool !c
  | _=>none
 | none=>none
theorem aBin_agg {b:BinOp} {t:TypeId} {xs ys:List AV} : aBin P b t (.agg xs) (.agg ys)=aggB b (Xo P t) xs ys:=rfl
theorem aggB_eql {ks:List Nat} {xs ys:List AV} : aggB .eql (some ks) xs ys=(cellsEq ks xs ys).map .bool:=rfl
theorem aggB_neq {ks:List Nat} {xs ys:List AV} : aggB .neq (some ks) xs ys=(cellsEq ks xs ys).map fun c=>.bool !c:=rfl
def nilB (b:BinOp) (r:Option Bool):Option AV :=
 match r with
 | some r=>match b with
  | .eql=>some (.bool r)
  | .neq=>some (.bool !r)
  | _=>none
 | none=>none
theorem aBin_nil {b:BinOp} {t:TypeId} {es:List (List AV)} {c:Cap} (h:(A7 P t).isSome=true):aBin P b t (.frz es c) (.frz [] .nilc)=nilB b (nilA es c):=by
 cases he:A7 P t with
 | none=>rw [he] at h; simp at h
 | some e=>cases hn:nilA es c <;> simp only [aBin,nilB,he,hn] <;> cases b <;> rfl
theorem nilB_eql {r:Bool} : nilB .eql (some r)=some (.bool r):=rfl
theorem nilB_neq {r:Bool} : nilB .neq (some r)=some (.bool !r):=rfl
theorem cellEq_int {q:IntKind} {a b:Int} : Qm 1 (.prim (.int q a)) (.prim (.int q b))=some (a == b):=by simp [Qm]
theorem cellEq_str {a b:ByteArray} : Qm 2 (.prim (.string a)) (.prim (.string b))=some (sEq a b):=rfl
theorem cellEq_bool {a b:Bool} : Qm 0 (.prim (.bool a)) (.prim (.bool b))=some (a == b):=rfl
def Aps (d s:Option IntKind) (n:Int):Option AV:=match d,s with|some k,some _=>some (.prim (.int k (k.wrap n)))|_,_=>none
theorem aConv_int {s d:TypeId} {q:IntKind} {n:Int} : Wt P s d (.prim (.int q n))=Aps (Jb P d) (Jb P s) n:=rfl
theorem convI_some {k q:IntKind} {n:Int} : Aps (some k) (some q) n=some (.prim (.int k (k.wrap n))):=rfl
theorem aConv_str {s d:TypeId} {b:ByteArray} : Wt P s d (.prim (.string b))=if (B3 P s && B3 P d)=true then some (.str b) else none:=rfl
/- append -/
def apB (sz:Option Nat) (es:List (List AV)) (c:Cap) (ys:List (List AV)) (tk:List Nat):Option (AV × List Nat) :=
 match sz with
 | some sz=>if Ba tk c sz=true/\Dv sz es=true/\Dv sz ys=true/\Aib sz (es.length+ys.length)=true then some (.frz (es++ys) (A4 tk c sz),Eo tk c) else none
 | none=>none
theorem apA_eq {t:TypeId} {es ys:List (List AV)} {c c':Cap} {tk:List Nat} : apA P t (.frz es c) (.frz ys c') tk=apB (apT P t) es c ys tk:=by
 unfold apA apB; cases apT P t <;> rfl
theorem apB1_frz [Globs] {t:TypeId} {es ys:List (List AV)} {c c':Cap} {tk:List Nat} {S:List Ent} : apB1 P t (.frz es c) (.frz ys c') tk S=apB (apT P t) es c ys tk:=apA_eq
theorem apB_all {sz:Nat} {es ys:List (List AV)} {c:Cap} {tk:List Nat} (h1:Ba tk c sz=true) (h2:Dv sz es=true) (h3:Dv sz ys=true) (h4:es.length+ys.length<=1048576):apB (some sz) es c ys tk=some (.frz (es++ys) (A4 tk c sz),Eo tk c):=by
 unfold apB; simp only; rw [if_pos ⟨h1,h2,h3,by unfold Aib; rw [decide_eq_true h4]; rfl⟩]
theorem apB_one {sz:Nat} {es:List (List AV)} {y:List AV} {c:Cap} {tk:List Nat} (h1:Ba tk c sz=true) (h2:Dv sz es=true) (h3:(y.length == sz)=true) (h4:es.length+1<=1048576):apB (some sz) es c [y] tk=some (.frz (es++[y]) (A4 tk c sz),Eo tk c) :=
 apB_all h1 h2 (by simp [Dv]; simpa using h3) (by simpa using h4)
theorem B0 {sz:Nat} {c:Cap} {tk:List Nat} (h:Ba tk c sz=true):Ba (Eo tk c) (A4 tk c sz) sz=true:=by
 have hn:∀ (l:List Nat) (i v:Nat),i<l.length->nth (put l i v) i=some v:=by
  intro l;induction l with
  | nil=>intro i v h; simp at h
  | cons a l ih =>
   intro i v h;cases i with
   | zero=>rfl
   | succ i=>exact ih i v aI
 cases c with
 | unk=>simp [Ba] at h
 | nl=>simp [Ba] at h
 | nn=>simp [Ba] at h
 | tight=>simp only [A4,Eo,Ba,Ae]; simp
 | nilc=>simp only [A4,Eo,Ba,Ae]; simp
 | tok id ep s =>
  simp only [Ba,Cf,beq_iff_eq] at h;simp only [A4,Eo,Ba,hn _ _ _ (Bb h.2)];simp
theorem Gb {α:Type} {f:α->List AV} {sz:Nat} (h:∀ a,(f a).length=sz) (l:List α):Dv sz (l.map f)=true:=by
 unfold Dv; simp [h]
theorem Vm {sz:Nat} {z:List AV} (h:(z.length == sz+1 && z.all (fun c=>pure1 (w1 c)))=true):litA (some (sz+1)) (some z) 0 []=some (.frz [] .tight):=by
 simp only [Cf,beq_iff_eq] at h;rw [litA_some,if_pos ⟨h.1,h.2,by simp⟩]; rfl
/- variables behind the caller's -/
theorem entAt_mid {S:List Ent} {n:Nat} {cs:List AV} {e:Ent} : entAt (S++[⟨n,cs⟩]++[e]) S.length n=some cs:=Ke Bz
theorem Ac9 {S:List Ent} {e e':Ent} {id ep:Nat} {cs:List AV} (h:entAt S id ep=some cs):entAt (S++[e]++[e']) id ep=some cs:=Ke (Ke h)
theorem put_new {S:List Ent} {e e':Ent} : put (S++[e]) S.length e'=S++[e']:=by
 induction S with
 | nil=>rfl
 | cons a S ih=>simp only [Co,Ck,put,ih]
theorem put_mid {S:List Ent} {e e' e'':Ent} : put (S++[e]++[e'']) S.length e'=S++[e']++[e'']:=by
 induction S with
 | nil=>rfl
 | cons a S ih=>simp only [Co,Ck,put] at ih ⊢; rw [ih]
theorem take_two {S:List Ent} {e e':Ent} : (S++[e]++[e']).take S.length=S:=by
 rw [C7,List.take_left']; rfl
theorem Am8 [Globs] [Ext P] {f:FuncId} {args args':List AV} {S:List Ent} {tk:List Nat} {n:Nat} (h:args.map w2=args'.map w2) (hp:(args.map w2).all pure2=true) (hx:(Ext.on P f || Ext.mv P f)=false):cL P f args S tk n=cL P f args' S tk n:=by
 simp only [El] at hx;have:∀ k,evF P Bm k f args S tk n=evF P Bm k f args' S tk n:=by
  intro k;cases k with
  | zero=>rfl
  | succ k =>
   simp only [evF,hx.1,hx.2,C4,if_false];rw [h] at hp ⊢;simp only [hp,if_true]
 unfold cL;congr 1; funext k; exact this k
/- cells that are numbers -/
theorem Vt {cs:List AV} {v w:AV} : ∀ {i:Nat},nth cs i=some w->over cs i [v]=some (put cs i v):=by
 induction cs with
 | nil=>intro i h; simp [nth] at h
 | cons c cs ih=>intro i h; cases i with
  | zero=>cases cs <;> rfl
  | succ i=>simp only [over,ih (i:=i) h,put,Cu]
theorem N1 {α β:Type} {f:α->β} : ∀ {l:List α} {i:Nat} {v:α},put (l.map f) i (f v)=(put l i v).map f
 | [],_,_=>rfl
 | _ :: _,0,_=>rfl
 | _ :: l,i+1,_=>by simp only [Cm,put,N1 (l:=l)]
theorem Rk {α:Type} : ∀ {l:List α} {i:Nat} {v:α},put l i v=l.set i v
 | [],_,_=>rfl
 | _ :: _,0,_=>rfl
 | _ :: l,i+1,_=>by simp only [put,fJ,Rk (l:=l)]
theorem D0 {α:Type} {l:List α} {o:Nat} {x:α} (h:nth l o=some x):nth (l.drop o) 0=some x:=by
 rw [Ae] at h ⊢;rw [O9]; exact h
theorem Akh {v:AV} {c:Nat} : (Cd c [v]).flatten=Cd c v:=by
 induction c with
 | zero=>rfl
 | succ c ih=>simp [I4,ih]
theorem Ug {α:Type} {f:α->AV} : ∀ {n:Nat} {l:List α},n<=l.length->Je 1 n (l.map f)=some ((l.take n).map fun x=>[f x])
 | 0,_,_=>by simp [Je]
 | n+1,[],h=>aM
 | n+1,x :: l,h=>by
  simp only [Cm,Je,takeN,Cu,List.drop_succ_cons,Fs,Ug (n:=n) (l:=l) aI,F4]
end
/- the equations of the evaluator,as one (simp takes it apart) -/
set_option linter.defProp false in
def evs:=Bv @KX_seq <|
 Bv @KX_skip <|
 Bv @KX_exit <|
 Bv @KX_ret <|
 Bv @KX_if <|
 Bv @KX_block <|
 Bv @KX_region <|
 Bv @KX_scope <|
 Bv @KX_label <|
 Bv @CX_seq <|
 Bv @CX_block <|
 Bv @CX_loop <|
 Bv @CX_loopK <|
 Bv @CX_exit_seq <|
 Bv @CX_exit_block <|
 Bv @CX_exit_loop <|
 Bv @CX_ret <|
 Bv @CX_ret_nil <|
 Bv @CX_normal_nil <|
 Bv @NX_some <|
 Bv @NS_some <|
 Bv @BR_true <|
 Bv @BR_false <|
 Bv @BR_not <|
 Bv @fin1_BR <|
 Bv @finS_BR <|
 Bv @RX_nil <|
 Bv @RX_guard <|
 Bv @RX_move <|
 Bv @RX_assign <|
 Bv @RX_pick <|
 Bv @RX_bin <|
 Bv @RX_un <|
 Bv @RX_conv <|
 Bv @RX_extract <|
 Bv @RX_field <|
 Bv @RX_indexAddr <|
 Bv @RX_fieldAddr <|
 Bv @RX_index <|
 Bv @RX_build <|
 Bv @RX_buildSlice <|
 Bv @RX_slice <|
 Bv @RX_makeFunc <|
 Bv @RX_makeBound <|
 Bv @RX_load <|
 Bv @ldG_off <|
 Bv @ldG_on <|
 Bv @RX_store <|
 Bv @RX_alloc <|
 Bv @RX_box <|
 Bv @RX_append <|
 Bv @RX_appendO <|
 Bv @RX_len <|
 Bv @RX_call <|
 Bv @RX_callL <|
 Bv @RX_callX <|
 Bv @RX_invoke <|
 Bv @RX_invokeL <|
 Bv @RX_makeM <|
 Bv @RX_makeI <|
 Bv @invV_ifc <|
 Bv @invF_some <|
 Bv @mthA_ifc <|
 Bv @ifcA_ok <|
 Bv @gO_refl <|
 Bv @chkM_ref <|
 Bv @chkM_fptr <|
 Bv @chkM_fn <|
 Bv @chkM_bfn <|
 Bv @chkM_ifc <|
 Bv @chkM_mfn <|
 Bv @RX_callV <|
 Bv @wantD_some <|
 Bv @wantV_bool <|
 Bv @wantV_undef <|
 Bv @DX_zero <|
 Bv @DX_succ <|
 Bv @asB_bool <|
 Bv @opv_tmp <|
 Bv @opv_const <|
 Bv @opv_func <|
 Bv @cst_int <|
 Bv @cst_bool <|
 Bv @cst_string <|
 Bv @cst_nil <|
 Bv @cst_ptr <|
 Bv @pickA_true <|
 Bv @pickA_false <|
 Bv @pickA_bool <|
 Bv @extA_tup <|
 Bv @fldV_agg <|
 Bv @bldA_some <|
 Bv @litA_some <|
 Bv @orLit_some <|
 Bv @orLit_none <|
 Bv @callV_fn <|
 Bv @callV_bfn <|
 Bv @aBin_int <|
 Bv @aBin_str <|
 Bv @aBin_bool <|
 Bv @fin1_some <|
 Bv @finS_some <|
 Bv @lenV_str <|
 Bv @lenV_frz <|
 Bv @lenV_sref <|
 Bv @Cm.{0,0} <|
 Bv @Cw.{0,0} <|
 Bv @Co.{0} <|
 Bv @Ct.{0} <|
 Bv @Ck.{0} <|
 Bv @C3.{0} <|
 Bv @iG.{0} <|
 Bv @Cu.{0,0} <|
 Bv @Option.map_none.{0,0} <|
 Bv @Lg.{0,0} <|
 Bv @Option.bind_none.{0,0} <|
 Bv @Option.isSome_some.{0} <|
 Bv @beq_true <|
 Bv @beq_false <|
 Bv @G4 <|
 Bv @F2 <|
 Bv @Bool.and_true <|
 Bv @Bool.and_false <|
 Bv @iI <|
 Bv @Bool.or_true <|
 Bv @Mf <|
 Bv @Fk <|
 Bv @F6 <|
 Bv @Ij <|
 Bv @C4 <|
 Bv @true_implies <|
 Bv @false_implies <|
 Bv @and_true <|
 Bv @true_and <|
 Bv @Fo <|
 Bv @fin1_NX_not <|
 Bv @fin1_NX_if <|
 Bv @fin1_NS_not <|
 Bv @fin1_NS_if <|
 Bv @finS_NX_not <|
 Bv @finS_NX_if <|
 Bv @finS_NS_not <|
 Bv @finS_NS_if <|
 Bv @A0.{0} <|
 Bv @AV.tup.injEq <|
 Bv @AV.prim.injEq <|
 Bv @AV.agg.injEq <|
 Bv @AV.frz.injEq <|
 Bv @fO.injEq <|
 Bv @Value.bool.injEq <|
 Bv @Value.string.injEq <|
 Bv @S9.{0} <|
 Bv @decide_true <|
 Bv @decide_false <|
 Bv @iR.{0} <|
 Bv @List.take_nil.{0} <|
 Bv @F4.{0} <|
 Bv @Oc.{0} <|
 Bv @List.all_nil.{0} <|
 Bv @Fs.{0} <|
 Bv @List.drop_succ_cons.{0} <|
 Bv @List.drop_nil.{0} <|
 Bv @Ib.{0,0} <|
 Bv @intN_cast <|
 Bv @intN_zero <|
 Bv @aBin_agg <|
 Bv @aggB_eql <|
 Bv @aggB_neq <|
 Bv @aBin_nil <|
 Bv @nilB_eql <|
 Bv @nilB_neq <|
 Bv @cellEq_int <|
 Bv @cellEq_str <|
 Bv @cellEq_bool <|
 Bv @apA_eq <|
 Bv @apB_one <|
 Bv @apB_all <|
 Bv @entAt_mid <|
 Bv @put_new <|
 Bv @put_mid <|
 Bv @take_two <|
 Bv @I4.{0} <|
 Bv @List.replicate_zero.{0} <|
 Bv @aConv_int <|
 Bv @convI_some <|
 Bv @aConv_str <|
 Bv @RX_makeSlice <|
 Bv @RX_makeSlice0 <|
 Bv @RX_copy <|
 Bv @RX_appendS <|
 Bv @RX_nilCheck <|
 Bv @RX_min <|
 Bv @RX_max <|
 Bv @cvA_int <|
 Bv @cvA_str <|
 Bv @minA_int <|
 Bv @maxA_int <|
 Bv @aBin_refNil <|
 Bv @aBin_fptrNil <|
 Bv @aBin_nilNil <|
 Bv @ptrNil_eql <|
 Bv @ptrNil_neq <|
 Bv @fz3_tup <|
 Bv @fz3_agg <|
 Bv @fz3_prim <|
 Bv @fz3_frz <|
 Bv @fz3_ref <|
 Bv @fz3_fn <|
 Bv @fz3_sref <|
 Bv @fz2_agg <|
 Bv @fz2_prim <|
 Bv @fz2_frz <|
 Bv @fz2_ref <|
 Bv @fz2_fn <|
 Bv @fz2_sref <|
 Bv @fz1_prim <|
 Bv @fz1_frz <|
 Bv @fz1_ref <|
 Bv @fz1_fn <|
 Bv @fz1_sref <|
 Bv @fz1_old <|
 Bv @fzB_some <|
 Bv @finM_BR <|
 Bv @apB1_frz <|
 Bv @apM_false <|
 Bv @apM_look <|
 Bv @callM_look <|
 Bv @callM_vals <|
 Bv @apM_vals <|
 Bv @finM_some <|
 @Ajw
theorem Iz {p:Prop} (h:p):p:=h
theorem dqd {p:Prop} (h:p:=by first|with_reducible assumption|exact ⟨rfl⟩|(refine Iz ?_; kernel_rfl)|omega):p:=h
section
variable {P:Program} {fn:Func} [Globs] [Ext P] {f:FuncId} {c:Code} {args args':List AV} {nt:Nat} {S:List Ent} {tk:List Nat} {n:Nat}
/- a call is opened: the function and the number of its slots are named -/
theorem opP {r : AV} (hf : P.funcs[f]? = some fn) (j5 : fn.ntmps = nt) (h : fin1 (KX P fn c ⟨args' ++ bots (nt - args.length), [], [], 0⟩ [] .mk) = some r) (hx : (Ext.on P f || Ext.mv P f) = false := by exact rfl) (hb : fn.body = some c := by exact rfl) (c8 : G6 c = false := by decide +kernel) (aq : (fn.name == "runtime.NumGoroutine") = false := by decide +kernel) (aa : args.map w2 = args' := by exact rfl) (hp : args'.all pure2 = true := by exact rfl) (hp3 : pure3 r = true := by exact rfl) : cL P f args S tk n = some (r, S, tk, n) := W4 hf hx hb c8 aq j5 aa hp S tk n hp3 h
theorem opS {r : AV × List Ent × List Nat × Nat} (hf : P.funcs[f]? = some fn) (j5 : fn.ntmps = nt) (h : finS S.length (KX P fn c ⟨args ++ bots (nt - args.length), S, tk, n⟩ [] .mk) = some r) (hx : (Ext.on P f || Ext.mv P f) = false := by exact rfl) (hb : fn.body = some c := by exact rfl) (aq : (fn.name == "runtime.NumGoroutine") = false := by decide +kernel) (hp : (args.map w2).all pure2 = false := by exact rfl) : cL P f args S tk n = some r := Ly hf hx hb aq j5 hp h
end
set_option linter.defProp false in
def evt:=Bv @evs <|
 Bv @KX_draw <|
 Bv @KX_drawQ <|
 Bv @KX_drawL <|
 Bv @KX_drawV <|
 Bv @KX_late <|
 Bv @openL_one <|
 Bv @openL_mk <|
 Bv @openL_old <|
 Bv @filtL_nil <|
 Bv @filtL_mk <|
 Bv @filtL_old <|
 Bv @KX_tail <|
 Bv @lastO_one <|
 Bv @lastO_more <|
 Bv @dropL_one <|
 Bv @dropL_more <|
 Bv @callP_eq <|
 Bv @callM_true <|
 Bv @LX_eq <|
 Bv @nth.eq_1 <|
 Bv @nth.eq_2 <|
 Bv @nth.eq_3 <|
 Bv @put.eq_1 <|
 Bv @put.eq_2 <|
 Bv @put.eq_3 <|
 Bv @putT.eq_def <|
 Bv @getT.eq_1 <|
 Bv @getT.eq_2 <|
 Bv @getT.eq_3 <|
 Bv @binInt.eq_def <|
 Bv @binStr.eq_def <|
 Bv @binBool.eq_def <|
 Bv @aUn.eq_def <|
 Bv @outA.eq_def <|
 Bv @resA.eq_def <|
 Bv @mapO.eq_1 <|
 Bv @mapO.eq_2 <|
 Bv @resA1.eq_def <|
 Bv @oneOf.eq_def <|
 Bv @w1.eq_def <|
 Bv @w2.eq_def <|
 Bv @w3.eq_def <|
 Bv @bots.eq_1 <|
 Bv @bots.eq_2 <|
 Bv @tabl.eq_1 <|
 Bv @tabl.eq_2 <|
 Bv @cellsOf.eq_def <|
 Bv @fldA.eq_def <|
 Bv @ldA.eq_def <|
 Bv @stA.eq_def <|
 Bv @partA.eq_def <|
 Bv @takeN.eq_1 <|
 Bv @takeN.eq_2 <|
 Bv @takeN.eq_3 <|
 Bv @over.eq_1 <|
 Bv @over.eq_2 <|
 Bv @over.eq_3 <|
 Bv @over.eq_4 <|
 Bv @over.eq_5 <|
 Bv @leafOk.eq_def <|
 Bv @idxA.eq_def <|
 Bv @nilA.eq_def <|
 Bv @cellsEq.eq_1 <|
 Bv @cellsEq.eq_2 <|
 Bv @cellsEq.eq_3 <|
 Bv @fillA.eq_1 <|
 Bv @fillA.eq_2 <|
 Bv @elemsA.eq_1 <|
 Bv @elemsA.eq_2 <|
 Bv @pure1.eq_def <|
 Bv @pure2.eq_def <|
 Bv @reps.eq_1 <|
 Bv @reps.eq_2 <|
 Bv @chkA.eq_def <|
 Bv @lastL.eq_def <|
 Bv @Value.oneCell'.eq_def <|
 Bv @cond_true.{1} <|
 Bv @cond_false.{1} <|
 Bv @if_true.{1} <|
 Bv @if_false.{1} <|
 Bv @ite_true.{1} <|
 Bv @ite_false.{1} <|
 Bv @implies_true.{1} <|
 Bv @BEq.rfl.{0} @beq_self_eq_true.{0}
end
end Go.Proofs.YthelkgdmgihhiaaGreat
