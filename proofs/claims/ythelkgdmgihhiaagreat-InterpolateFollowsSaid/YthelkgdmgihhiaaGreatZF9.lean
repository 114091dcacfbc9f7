/- Part 9. -/
import Derived.Test.YthelkgdmgihhiaaGreatZF8
open And renaming intro->Cc
open Bool renaming and_eq_true->Ch,false_eq_true->C7,false_and->Fo,true_and->Fq,not_true->Fs,not_false->Fu,or_eq_false_iff->F0,or_false->F5,not_eq_true'->Ig,false_or->Oe,and_false->S9,and_true->jE,true_or->jU
open Go.Code renaming region->jP,loop->lO
open Go.Proofs.YthelkgdmgihhiaaGreat.AV renaming int->Ca
open Go.Value renaming int->jO
open List renaming replicate->Cg,length_cons->Cj,map_cons->Cm,cons_append->Co,map_nil->Cp,nil_append->Ct,length_nil->Cv,getElem?_append_left->Cy,append_assoc->C6,length_map->Fg,getElem?_append_right->Fi,append_nil->Fj,drop_zero->Fz,take_succ_cons->He,replicate_succ->Oo,all_cons->Sw,set_cons_succ->iC,getElem?_drop->iD,filter_cons_of_neg->jQ,toList_toArray->kX,take_zero->lG,filter->lI
open List.cons renaming injEq->jH
open Nat renaming le_refl->Ce,zero_add->Fk
open Option renaming map_eq_some_iff->Cd,map_some->Fa,isNone_iff_eq_none->Ii,bind_some->Ov
open Option.some renaming injEq->Bg
open Prod.mk renaming injEq->Cf
namespace Go.Proofs.YthelkgdmgihhiaaGreat
section
section
variable {P:Program} {fn:Func} {M:Md} {call:Dv} {all l:List Oper} {d:Option Tmp} {ty:TypeId} {pos:String} {af:Array Edge} {T:List AV} {S:List Ent} {tk:List Nat} {n:Nat} {k:List Kont}
def nx {β:Type} (x:Option AV) (f:AV->Option β):Option β:=match x with|some v=>f v|none=>none
def ns {α β:Type} (x:Option α) (f:α->Option β):Option β:=match x with|some v=>f v|none=>none
def Aop (T:List AV) (d:Option Tmp) (w:Bool):Option Bool :=
 match d with
 | none=>none
 | some d=>match getT T d with
  | .prim (.bool b)=>some (b == w)
  | .prim (.tuple _)=>some false
  | _=>none
def Ap6 (all:List Oper) (g:Nat):Option Tmp:=(nth all g).bind (·.dst)
def Au4 (v:AV) (w:Bool):Option Bool:=match v with|.prim (.bool b)=>some (b == w)|.prim (.tuple _)=>some false|_=>none
theorem wantV_bool {b w:Bool} : Au4 (.prim (.bool b)) w=some (b == w):=rfl
theorem wantV_undef {w:Bool} : Au4 (.prim undef) w=some false:=rfl
theorem wantD_some {t:Tmp} {w:Bool} : Aop T (some t) w=Au4 (getT T t) w:=rfl
theorem Aph [Globs] [Ext P] {op:Op} {g:Nat} {w:Bool} : RO P fn M call all (⟨d,op,ty,pos,af,some (g,w)⟩ :: l) ⟨T,S,tk,n⟩ k =
  br (Aop T (Ap6 all g) w) (RO P fn M call all (⟨d,op,ty,pos,af,none⟩ :: l) ⟨T,S,tk,n⟩ k) (RO P fn M call all l ⟨putT T d (.prim undef),S,tk,n⟩ k):=by
 rw [Ada,Ada];have e:J7 all T ⟨d,op,ty,pos,af,some (g,w)⟩=Aop T (Ap6 all g) w:=by
  unfold J7 Aop Ap6;simp only;cases (nth all g).bind (·.dst) <;> rfl
 rw [e];rfl
theorem K3 [Globs] [Ext P] {op:Op} : RO P fn M call all (⟨d,op,ty,pos,af,none⟩ :: l) ⟨T,S,tk,n⟩ k =
  match @evO (gM M) P call ⟨d,op,ty,pos,af,none⟩ ⟨T,S,tk,n⟩ with|some (v,st')=>if @chkO (gM M) P all ⟨d,op,ty,pos,af,none⟩ ⟨T,S,tk,n⟩ v st'=true then RO P fn M call all l { st' with T:=putT st'.T d v } k else none|none=>none:=by
 rw [Ada]; rfl
theorem Awb [G:Globs] {o:Oper} {st st':St} {v:AV} (hx:xOp o=false) (hl:isLd o=false):chkO P all o st v st'=true:=by
 unfold chkO;rw [hx,hl];cases (Globs.dr:Bool) <;> rfl
theorem Apx [G:Globs] {o:Oper} {st st':St} {v:AV} (h:(Globs.dr:Bool)=false):chkO P all o st v st'=true:=by
 unfold chkO;rw [h]; rfl
theorem D2 [Globs] [Ext P] {op:Op} (hx:@xOp (gM M) ⟨d,op,ty,pos,af,none⟩=false) (hl:isLd ⟨d,op,ty,pos,af,none⟩=false):RO P fn M call all (⟨d,op,ty,pos,af,none⟩ :: l) ⟨T,S,tk,n⟩ k =
  match @evO (gM M) P call ⟨d,op,ty,pos,af,none⟩ ⟨T,S,tk,n⟩ with|some (v,st')=>RO P fn M call all l { st' with T:=putT st'.T d v } k|none=>none:=by
 rw [K3];cases @evO (gM M) P call ⟨d,op,ty,pos,af,none⟩ ⟨T,S,tk,n⟩ with
 | none=>rfl
 | some x =>
  simp only;rw [if_pos (Awb (G:=gM M) hx hl)]
theorem Aah [Globs] [Ext P] {op:Op} (hd:@Globs.dr (gM M)=false):RO P fn M call all (⟨d,op,ty,pos,af,none⟩ :: l) ⟨T,S,tk,n⟩ k =
  match @evO (gM M) P call ⟨d,op,ty,pos,af,none⟩ ⟨T,S,tk,n⟩ with|some (v,st')=>RO P fn M call all l { st' with T:=putT st'.T d v } k|none=>none:=by
 rw [K3];cases @evO (gM M) P call ⟨d,op,ty,pos,af,none⟩ ⟨T,S,tk,n⟩ with
 | none=>rfl
 | some x =>
  simp only;rw [if_pos (Apx (G:=gM M) hd)]
theorem Dy [Globs] [Ext P] {op:Op} {x:Option AV} (h:@evO (gM M) P call ⟨d,op,ty,pos,af,none⟩ ⟨T,S,tk,n⟩=x.map fun v=>(v,⟨T,S,tk,n⟩)) (hx:@xOp (gM M) ⟨d,op,ty,pos,af,none⟩=false:=by rfl) (hl:isLd ⟨d,op,ty,pos,af,none⟩=false:=by rfl) :
  RO P fn M call all (⟨d,op,ty,pos,af,none⟩ :: l) ⟨T,S,tk,n⟩ k=nx x fun v=>RO P fn M call all l ⟨putT T d v,S,tk,n⟩ k:=by
 rw [D2 hx hl,h]; cases x <;> rfl
theorem As4 [Globs] [Ext P] {x:Operand} : RO P fn M call all (⟨d,.move x,ty,pos,af,none⟩ :: l) ⟨T,S,tk,n⟩ k=RO P fn M call all l ⟨putT T d (opv T x),S,tk,n⟩ k:=by rw [D2 rfl rfl]; rfl
theorem Aj5 [Globs] [Ext P] {x:Operand} : RO P fn M call all (⟨d,.assign x,ty,pos,af,none⟩ :: l) ⟨T,S,tk,n⟩ k=RO P fn M call all l ⟨putT T d (opv T x),S,tk,n⟩ k:=by rw [D2 rfl rfl]; rfl
def Anb (c a b:AV):Option AV:=match c with|.prim (.bool t)=>some (if t then a else b)|_=>none
theorem pickA_true {a b:AV} : Anb (.prim (.bool true)) a b=some a:=rfl
theorem pickA_false {a b:AV} : Anb (.prim (.bool false)) a b=some b:=rfl
theorem pickA_bool {t x y:Bool} : Anb (.prim (.bool t)) (.prim (.bool x)) (.prim (.bool y))=some (.prim (.bool (bif t then x else y))):=by cases t <;> rfl
theorem As5 [Globs] [Ext P] {c a b:Operand} : RO P fn M call all (⟨d,.pick c a b,ty,pos,af,none⟩ :: l) ⟨T,S,tk,n⟩ k=nx (Anb (opv T c) (opv T a) (opv T b)) fun v=>RO P fn M call all l ⟨putT T d v,S,tk,n⟩ k:=Dy rfl
theorem Avo [Globs] [Ext P] {b:BinOp} {t u:TypeId} {x y:Operand} : RO P fn M call all (⟨d,.binOp b t x y u,ty,pos,af,none⟩ :: l) ⟨T,S,tk,n⟩ k=nx (aBin P b t (opv T x) (opv T y)) fun v=>RO P fn M call all l ⟨putT T d v,S,tk,n⟩ k:=Dy rfl
theorem RO_un [Globs] [Ext P] {u:UnOp} {t:TypeId} {x:Operand} : RO P fn M call all (⟨d,.unOp u t x,ty,pos,af,none⟩ :: l) ⟨T,S,tk,n⟩ k=nx (aUn u (opv T x)) fun v=>RO P fn M call all l ⟨putT T d v,S,tk,n⟩ k:=Dy rfl
theorem As1 [Globs] [Ext P] {s t:TypeId} {x:Operand} : RO P fn M call all (⟨d,.convert s t x,ty,pos,af,none⟩ :: l) ⟨T,S,tk,n⟩ k=nx (cvA P s t (opv T x)) fun v=>RO P fn M call all l ⟨putT T d v,S,tk,n⟩ k:=Dy rfl
def extA (v:AV) (i:Nat):Option AV:=match v with|.tup vs=>nth vs i|_=>none
theorem extA_tup {vs:List AV} {i:Nat} : extA (.tup vs) i=nth vs i:=rfl
theorem Ahu [Globs] [Ext P] {x:Operand} {i:Nat} : RO P fn M call all (⟨d,.extract x i,ty,pos,af,none⟩ :: l) ⟨T,S,tk,n⟩ k=nx (extA (opv T x) i) fun v=>RO P fn M call all l ⟨putT T d v,S,tk,n⟩ k:=Dy rfl
def fldV (f:Option (Nat × Nat × Bool)) (x:AV):Option AV:=match f,x with|some (off,sz,b),.agg cs=>partA b sz (cs.drop off)|_,_=>none
theorem fldV_agg {off sz:Nat} {b:Bool} {cs:List AV} : fldV (some (off,sz,b)) (.agg cs)=partA b sz (cs.drop off):=rfl
theorem Apg [Globs] [Ext P] {t:TypeId} {x:Operand} {i:Nat} : RO P fn M call all (⟨d,.field t x i,ty,pos,af,none⟩ :: l) ⟨T,S,tk,n⟩ k=nx (fldV (A4 P t i) (opv T x)) fun v=>RO P fn M call all l ⟨putT T d v,S,tk,n⟩ k:=Dy (by
 simp only [evO,evQ,fldV];rfl)
theorem Aae [Globs] [Ext P] {t:TypeId} {x i:Operand} : RO P fn M call all (⟨d,.indexAddr t x i,ty,pos,af,none⟩ :: l) ⟨T,S,tk,n⟩ k=nx (idxA P t (opv T x) (opv T i)) fun v=>RO P fn M call all l ⟨putT T d v,S,tk,n⟩ k:=Dy rfl
theorem Aad [Globs] [Ext P] {t:TypeId} {x:Operand} {i:Nat} : RO P fn M call all (⟨d,.fieldAddr t x i,ty,pos,af,none⟩ :: l) ⟨T,S,tk,n⟩ k=nx (fldA P t (opv T x) i) fun v=>RO P fn M call all l ⟨putT T d v,S,tk,n⟩ k:=Dy rfl
def An7 (ok:Bool) (x:AV) (i:Option Nat):Option AV:=match x,i with|.prim (.string s),some k=>if ok then (s[k]?).map fun b=>.prim (.int .u8 b.toNat) else none|_,_=>none
theorem Api [Globs] [Ext P] {t:TypeId} {x i:Operand} : RO P fn M call all (⟨d,.index t x i,ty,pos,af,none⟩ :: l) ⟨T,S,tk,n⟩ k=nx (An7 (B1 P t) (opv T x) (intN (opv T i))) fun v=>RO P fn M call all l ⟨putT T d v,S,tk,n⟩ k:=Dy (by
 simp only [evO,evQ,An7];rfl)
def bldA (z:Option (List AV)) (pl:Option (List (Nat × Nat))) (ps:List (Nat × AV)):Option AV:=match z,pl with|some z,some pl=>(fillA pl z ps).map .agg|_,_=>none
theorem bldA_some {z:List AV} {pl:List (Nat × Nat)} {ps:List (Nat × AV)} : bldA (some z) (some pl) ps=(fillA pl z ps).map .agg:=rfl
theorem Apc [Globs] [Ext P] {t:TypeId} {ps:Array (Nat × Operand)} : RO P fn M call all (⟨d,.build t ps,ty,pos,af,none⟩ :: l) ⟨T,S,tk,n⟩ k=nx (bldA (A2 P t) (fieldsOf P t) (ps.toList.map fun (i,x)=>(i,opv T x))) fun v=>RO P fn M call all l ⟨putT T d v,S,tk,n⟩ k:=Dy (by
 simp only [evO,evQ,bldA];rfl)
def litA (sz:Option Nat) (z:Option (List AV)) (len:Nat) (ps:List (Nat × AV)):Option AV:=match sz,z with
 | some (sz+1),some z=>if z.length=sz+1/\z.all (fun c=>pure1 (w1 c))=true/\len*(sz+1)<=4096 then Air (elemsA (sz+1) (Cg len (z.map w1)) ps) (lit1 (sz+1) len ps) else none
 | _,_=>none
theorem orLit_some {es:List (List AV)} {x:Option AV} : Air (some es) x=some (.frz es .tight):=rfl
theorem orLit_none {x:Option AV} : Air none x=x:=rfl
def reps {α:Type} (x:α):Nat->List α|0=>[]|n+1=>x :: reps x n
theorem Anl {α:Type} (x:α):∀ n,Cg n x=reps x n|0=>rfl|n+1=>by rw [Oo,Anl x n]; rfl
theorem litA_some {sz:Nat} {z:List AV} {len:Nat} {ps:List (Nat × AV)} : litA (some (sz+1)) (some z) len ps=if z.length=sz+1/\z.all (fun c=>pure1 (w1 c))=true/\len*(sz+1)<=4096 then Air (elemsA (sz+1) (reps (z.map w1) len) ps) (lit1 (sz+1) len ps) else none:=by
 rw [<- Anl]; rfl
theorem Yc [Globs] [Ext P] {t:TypeId} {len:Nat} {ps:Array (Nat × Operand)} : RO P fn M call all (⟨d,.buildSlice t len ps,ty,pos,af,none⟩ :: l) ⟨T,S,tk,n⟩ k =
  nx (litA ((A6 P t).bind (szOf P)) ((A6 P t).bind (A2 P)) len (ps.toList.map fun (i,x)=>(i,opv T x))) fun v=>RO P fn M call all l ⟨putT T d v,S,tk,n⟩ k:=Dy (by
 simp only [evO,evQ];congr 1;cases he:A6 P t with
 | none=>rfl
 | some e =>
  simp only [Ov];unfold litA;cases szOf P e with
  | none=>rfl
  | some s=>cases s <;> cases A2 P e <;> rfl)
theorem Apl [Globs] [Ext P] {t:TypeId} {x:Operand} {lo hi mx:Option Operand} : RO P fn M call all (⟨d,.slice t x lo hi mx,ty,pos,af,none⟩ :: l) ⟨T,S,tk,n⟩ k=nx (Gw P t (opv T x) (lo.map (opv T)) (hi.map (opv T)) (mx.map (opv T))) fun v=>RO P fn M call all l ⟨putT T d v,S,tk,n⟩ k:=Dy rfl
theorem Adb [Globs] [Ext P] {f:FuncId} {caps:Array Operand} : RO P fn M call all (⟨d,.makeFunc (.func f) #[] caps,ty,pos,af,none⟩ :: l) ⟨T,S,tk,n⟩ k =
  nx (if ((caps.toList.map (opv T)).all L4)=true then some (.fn f (caps.toList.map (opv T))) else none) fun v=>RO P fn M call all l ⟨putT T d v,S,tk,n⟩ k:=Dy (by
 simp only [evO,evQ,List.all_map];have:(caps.toList.all fun x=>L4 (opv T x))=caps.toList.all (L4 ∘ opv T):=rfl;rw [this];by_cases hc:caps=#[]
 ·subst hc; simp
 ·have ew:caps.isEmpty=false:=by simpa using hc
  simp [ew])
theorem Aaf [Globs] [Ext P] {f:FuncId} {x:Operand} : RO P fn M call all (⟨d,.makeFunc (.func f) #[x] #[],ty,pos,af,none⟩ :: l) ⟨T,S,tk,n⟩ k =
  RO P fn M call all l ⟨putT T d (.bfn f [opv T x]),S,tk,n⟩ k:=by
 rw [D2 rfl rfl];simp [evO,evQ]
structure CkF (b:Bool):Prop where
 h:b=false
structure CkT (b:Bool):Prop where
 h:b=true
def ldG (d:Bool) (x:Option AV):Option AV:=match x with|some v=>if (d && isB v)=true then none else some v|none=>none
theorem ldG_off {d:Bool} {x:Option AV} (h':CkF d):ldG d x=x:=by have h:=h'.h; subst h; cases x <;> rfl
theorem ldG_on {d:Bool} {v:AV} (h:CkF (isB v)):ldG d (some v)=some v:=by simp [ldG,h.h]
theorem As3 [Globs] [Ext P] {t:TypeId} {a:Operand} : RO P fn M call all (⟨d,.load t a,ty,pos,af,none⟩ :: l) ⟨T,S,tk,n⟩ k=nx (ldG (@Globs.dr (gM M)) (ldA P t (opv T a) S)) fun v=>RO P fn M call all l ⟨putT T d v,S,tk,n⟩ k:=by
 rw [K3];simp only [evO];cases ldA P t (opv T a) S with
 | none=>rfl
 | some v =>
  simp only [Fa,nx,ldG];have:@chkO (gM M) P all ⟨d,.load t a,ty,pos,af,none⟩ ⟨T,S,tk,n⟩ v ⟨T,S,tk,n⟩=!(@Globs.dr (gM M) && isB v):=by
   unfold chkO;cases @Globs.dr (gM M) <;> rfl
  rw [this];cases (@Globs.dr (gM M) && isB v) <;> rfl
theorem Apm [Globs] [Ext P] {t:TypeId} {a x:Operand} : RO P fn M call all (⟨none,.store t a x,ty,pos,af,none⟩ :: l) ⟨T,S,tk,n⟩ k=ns (stA P t (opv T a) (opv T x) S) fun S'=>RO P fn M call all l ⟨T,S',tk,n⟩ k:=by
 rw [D2 rfl rfl];simp only [evO];cases stA P t (opv T a) (opv T x) S <;> rfl
theorem Apb [Globs] [Ext P] {t:TypeId} : RO P fn M call all (⟨d,.alloc t,ty,pos,af,none⟩ :: l) ⟨T,S,tk,n⟩ k=ns (A2 P t) fun cs=>RO P fn M call all l ⟨putT T d (.ref S.length n 0),S++[⟨n,cs⟩],tk,n+1⟩ k:=by
 rw [D2 rfl rfl];simp only [evO];cases A2 P t <;> rfl
theorem Avp [Globs] [Ext P] {t:TypeId} {x:Operand} : RO P fn M call all (⟨d,.box t x,ty,pos,af,none⟩ :: l) ⟨T,S,tk,n⟩ k=ns (cellsOf (opv T x)) fun cs=>RO P fn M call all l ⟨putT T d (.ref S.length n 0),S++[⟨n,cs⟩],tk,n+1⟩ k:=by
 rw [D2 rfl rfl];simp only [evO];cases cellsOf (opv T x) <;> rfl
def apM [Globs] (M:Md) (P:Program) (t:TypeId) (x y:AV) (tk:List Nat) (S:List Ent):Option (AV × List Nat):=@apB1 (gM M) P t x y tk S
theorem apM_false [Globs] {t:TypeId} {x y:AV} : apM .no P t x y tk S=apB1 P t x y tk S:=rfl
theorem Apq [Globs] {t:TypeId} {x y:AV} : apM .quiet P t x y tk S=apA P t x y tk:=by simp [apM,apB1]
theorem apM_vals [Globs] {t:TypeId} {x y:AV} : apM .vals P t x y tk S=apB1 P t x y tk S:=rfl
theorem apM_look [Globs] {t:TypeId} {x y:AV} : apM .look P t x y tk S=apB1 P t x y tk S:=rfl
theorem Ahs [Globs] [Ext P] {x y:Operand} {t:TypeId} (ho:@Globs.own (gM M) d ty=true):RO P fn M call all (⟨d,.call ⟨.builtin .append,#[x,y],#[t,t]⟩,ty,pos,af,none⟩ :: l) ⟨T,S,tk,n⟩ k=ns (apO P t (opv T x) (opv T y) S n) fun (v,S',n')=>RO P fn M call all l ⟨putT T d v,S',tk,n'⟩ k:=by
 rw [D2 rfl rfl];simp only [evO,Cm,Cp,if_true,ho];cases apO P t (opv T x) (opv T y) S n <;> rfl
theorem Aj4 [Globs] [Ext P] {x y:Operand} {t:TypeId} (ho:@Globs.own (gM M) d ty=false):RO P fn M call all (⟨d,.call ⟨.builtin .append,#[x,y],#[t,t]⟩,ty,pos,af,none⟩ :: l) ⟨T,S,tk,n⟩ k=ns (apM M P t (opv T x) (opv T y) tk S) fun (v,tk')=>RO P fn M call all l ⟨putT T d v,S,tk',n⟩ k:=by
 rw [D2 rfl rfl];simp only [evO,Cm,Cp,if_true,ho,C7,if_false];unfold apM;cases @apB1 (gM M) P t (opv T x) (opv T y) tk S <;> rfl
def lenV (st sl:Bool) (x:AV):Option AV:=match x with
 | .prim (.string s)=>if st then some (.int s.size) else none
 | x=>if sl then (lenA x).map fun (n:Nat)=>Ca (n:Int) else none
theorem lenV_str {sl:Bool} {s:ByteArray} : lenV true sl (.prim (.string s))=some (.int s.size):=rfl
theorem lenV_frz {st:Bool} {es:List (List AV)} {c:Cap} : lenV st true (.frz es c)=some (.int es.length):=rfl
theorem lenV_sref {st:Bool} {id ep off len sz:Nat} : lenV st true (.sref id ep off len sz)=some (.int len):=rfl
theorem Avq [Globs] [Ext P] {x:Operand} {t:TypeId} : RO P fn M call all (⟨d,.call ⟨.builtin .len,#[x],#[t]⟩,ty,pos,af,none⟩ :: l) ⟨T,S,tk,n⟩ k=nx (lenV (B1 P t) (A6 P t).isSome (opv T x)) fun v=>RO P fn M call all l ⟨putT T d v,S,tk,n⟩ k:=Dy (by
 simp only [evO,evQ,Cm,Cp];congr 1;unfold lenV;cases opv T x with
 | prim v=>cases v <;> rfl
 | _=>rfl)
theorem As0 [Globs] [Ext P] {f:FuncId} {args:Array Operand} {ats:Array TypeId} (hx:(@Globs.dr (gM M) && @xF (gM M) f)=false):RO P fn M call all (⟨d,.call ⟨.value (.func f),args,ats⟩,ty,pos,af,none⟩ :: l) ⟨T,S,tk,n⟩ k =
  ns (call f (args.toList.map (opv T)) S tk n) fun (v,S',tk',n')=>RO P fn M call all l ⟨putT T d v,S',tk',n'⟩ k:=by
 rw [K3];simp only [evO,Gy,opv,Fj];cases call f (args.toList.map (opv T)) S tk n with
 | none=>rfl
 | some x =>
  obtain ⟨v,S',tk',n'⟩:=x;simp only [Fa,ns];rw [if_pos];unfold chkO;cases hd:@Globs.dr (gM M) with
  | false=>rfl
  | true =>
   rw [hd] at hx;have hx':@xOp (gM M) ⟨d,.call ⟨.value (.func f),args,ats⟩,ty,pos,af,none⟩=false:=hx;rw [hx']; rfl
noncomputable def gO (S S':List Ent):Option Unit:=by classical exact if Abm S S' then some () else none
theorem Al2 {S S':List Ent} (h:Abm S S'):gO S S'=some ():=by unfold gO; rw [if_pos h]
theorem gO_refl {S:List Ent} : gO S S=some ():=Al2 ⟨rfl,fun _=>.inl rfl⟩
noncomputable def reA (P:Program) (all:List Oper) (d:Option Tmp) (T:List AV) (S S':List Ent):Option Unit:=by classical exact if S.length<=S'.length/\(d.isSome=true->∀ q ∈ loadsB all d,Ag9 P T S' q) then some () else none
theorem Ag0 {S S':List Ent} {L:List (TypeId × Operand × Option Tmp × Bool)} (hL:loadsB all d=L) (h2:S.length<=S'.length) (h3:∀ q ∈ L,Ag9 P T S' q):reA P all d T S S'=some ():=by
 subst hL; unfold reA; rw [if_pos ⟨h2,fun _=>h3⟩]
open Classical in
theorem Ar0 [G:Globs] {o:Oper} {st st':St} {v:AV} (h:lkOp o=true):chkO P all o st v st'=(gO st.S st'.S).isSome:=by
 obtain ⟨hd,hx⟩:=lk_x h;have ha:anOp o=false:=by simp [anOp,h]
 unfold chkO gO chkX;rw [hd,hx,h,ha];by_cases hg:Abm st.S st'.S
 ·rw [if_pos hg];exact @decide_eq_true _ (propDecidable _) ⟨fun _=>hg,fun h=>aR⟩
 ·rw [if_neg hg];exact @decide_eq_false _ (propDecidable _) fun h=>hg (h.1 rfl)
open Classical in
theorem Awa [G:Globs] {o:Oper} {st st':St} {v:AV} (h:anOp o=true):chkO P all o st v st'=(reA P all o.dst st.T st.S st'.S).isSome:=by
 obtain ⟨hd,hx⟩:=an_x h;have hl:lkOp o=false:=by
  unfold anOp at h;simp only [Ch,Ig] at h;exact h.2
 unfold chkO reA chkX;rw [hd,hx,h,hl];by_cases hg:st.S.length<=st'.S.length/\(o.dst.isSome=true->∀ q ∈ loadsB all o.dst,Ag9 P st.T st'.S q)
 ·rw [if_pos hg];exact @decide_eq_true _ (propDecidable _) ⟨fun h=>aR,fun _=>hg⟩
 ·rw [if_neg hg];exact @decide_eq_false _ (propDecidable _) fun h=>hg (h.2 rfl)
theorem Rm {α β:Type} {x:Option α} {b:Option β} : (if x.isSome=true then b else none)=ns x fun _=>b:=by cases x <;> rfl
theorem Apd [Globs] [Ext P] {f:FuncId} {args:Array Operand} {ats:Array TypeId} (hx:@lkOp (gM M) ⟨d,.call ⟨.value (.func f),args,ats⟩,ty,pos,af,none⟩=true):RO P fn M call all (⟨d,.call ⟨.value (.func f),args,ats⟩,ty,pos,af,none⟩ :: l) ⟨T,S,tk,n⟩ k =
  ns (call f (args.toList.map (opv T)) S tk n) fun (v,S',tk',n')=>ns (gO S S') fun _=>RO P fn M call all l ⟨putT T d v,S',tk',n'⟩ k:=by
 rw [K3];simp only [evO,Gy,opv,Fj];cases call f (args.toList.map (opv T)) S tk n with
 | none=>rfl
 | some x =>
  obtain ⟨v,S',tk',n'⟩:=x;simp only [Fa,ns];rw [Ar0 (G:=gM M) hx,Rm]; rfl
theorem Apf [Globs] [Ext P] {f:FuncId} {args:Array Operand} {ats:Array TypeId} (hx:@anOp (gM M) ⟨d,.call ⟨.value (.func f),args,ats⟩,ty,pos,af,none⟩=true):RO P fn M call all (⟨d,.call ⟨.value (.func f),args,ats⟩,ty,pos,af,none⟩ :: l) ⟨T,S,tk,n⟩ k =
  ns (call f (args.toList.map (opv T)) S tk n) fun (v,S',tk',n')=>ns (reA P all d T S S') fun _=>RO P fn M call all l ⟨putT T d v,S',tk',n'⟩ k:=by
 rw [K3];simp only [evO,Gy,opv,Fj];cases call f (args.toList.map (opv T)) S tk n with
 | none=>rfl
 | some x =>
  obtain ⟨v,S',tk',n'⟩:=x;simp only [Fa,ns];rw [Awa (G:=gM M) hx,Rm]; rfl
def invF (call:Dv) (f:Option FuncId) (args:List AV) (S:List Ent) (tk:List Nat) (n:Nat):Option (AV × List Ent × List Nat × Nat):=match f with|some f=>call f args S tk n|none=>none
def invV (P:Program) (call:Dv) (x:AV) (m:String) (args:List AV) (S:List Ent) (tk:List Nat) (n:Nat):Option (AV × List Ent × List Nat × Nat):=match x with|.ifc t v=>invF call (mRow P t m) (v :: args) S tk n|_=>none
theorem invV_ifc {t:TypeId} {v:AV} {m:String} {args:List AV} : invV P call (.ifc t v) m args S tk n=invF call (mRow P t m) (v :: args) S tk n:=rfl
theorem invF_some {f:FuncId} {args:List AV} : invF call (some f) args S tk n=call f args S tk n:=rfl
theorem Alr [G:Globs] {x:Operand} {m:String} {args:Array Operand} {ats:Array TypeId} : evO P call ⟨d,.call ⟨.invoke x m,args,ats⟩,ty,pos,af,none⟩ ⟨T,S,tk,n⟩=(invV P call (opv T x) m (args.toList.map (opv T)) S tk n).map fun (v,S',tk',n')=>(v,⟨T,S',tk',n'⟩):=by
 simp only [evO,Gy,invV,invF];cases opv T x with
 | ifc t v =>
  simp only;cases mRow P t m <;> rfl
 | _=>rfl
theorem Aj6 [Globs] [Ext P] {x:Operand} {m:String} {args:Array Operand} {ats:Array TypeId} (hd:@Globs.dr (gM M)=false):RO P fn M call all (⟨d,.call ⟨.invoke x m,args,ats⟩,ty,pos,af,none⟩ :: l) ⟨T,S,tk,n⟩ k =
  ns (invV P call (opv T x) m (args.toList.map (opv T)) S tk n) fun (v,S',tk',n')=>RO P fn M call all l ⟨putT T d v,S',tk',n'⟩ k:=by
 rw [Aah hd,Alr (G:=gM M)];cases invV P call (opv T x) m (args.toList.map (opv T)) S tk n <;> rfl
theorem Ahv [Globs] [Ext P] {x:Operand} {m:String} {args:Array Operand} {ats:Array TypeId} (hd:@Globs.dr (gM M)=true):RO P fn M call all (⟨d,.call ⟨.invoke x m,args,ats⟩,ty,pos,af,none⟩ :: l) ⟨T,S,tk,n⟩ k =
  ns (invV P call (opv T x) m (args.toList.map (opv T)) S tk n) fun (v,S',tk',n')=>ns (gO S S') fun _=>RO P fn M call all l ⟨putT T d v,S',tk',n'⟩ k:=by
 have hl:@lkOp (gM M) ⟨d,.call ⟨.invoke x m,args,ats⟩,ty,pos,af,none⟩=true:=by
  unfold lkOp;rw [hd]; rfl
 rw [K3,Alr (G:=gM M)];cases invV P call (opv T x) m (args.toList.map (opv T)) S tk n with
 | none=>rfl
 | some x =>
  obtain ⟨v,S',tk',n'⟩:=x;simp only [Fa,ns];rw [Ar0 (G:=gM M) hl,Rm]; rfl
theorem Apk [Globs] [Ext P] {m:String} {x:Operand} : RO P fn M call all (⟨d,.makeFunc (.method m) #[x] #[],ty,pos,af,none⟩ :: l) ⟨T,S,tk,n⟩ k=nx (mthA m (opv T x)) fun v=>RO P fn M call all l ⟨putT T d v,S,tk,n⟩ k:=Dy (by simp [evO,evQ])
theorem mthA_ifc {m:String} {t:TypeId} {v:AV} : mthA m (.ifc t v)=some (.mfn t m v):=rfl
def ifcA (b:Bool) (t:TypeId) (v:AV):Option AV:=if b=true then none else some (.ifc t v)
theorem ifcA_ok {t:TypeId} {v:AV} : ifcA false t v=some (.ifc t v):=rfl
theorem Apj [Globs] [Ext P] {t:TypeId} {x:Operand} : RO P fn M call all (⟨d,.makeInterface t x,ty,pos,af,none⟩ :: l) ⟨T,S,tk,n⟩ k=nx (ifcA (Aie P t) t (opv T x)) fun v=>RO P fn M call all l ⟨putT T d v,S,tk,n⟩ k:=Dy rfl
def Ak1 (call:Dv) (f:AV) (args:List AV) (S:List Ent) (tk:List Nat) (n:Nat):Option (AV × List Ent × List Nat × Nat):=match f with|.fn f caps=>call f (args++caps) S tk n|.bfn f first=>call f (first++args) S tk n|_=>none
theorem callV_bfn {f:FuncId} {first args:List AV} : Ak1 call (.bfn f first) args S tk n=call f (first++args) S tk n:=rfl
theorem callV_fn {f:FuncId} {caps args:List AV} : Ak1 call (.fn f caps) args S tk n=call f (args++caps) S tk n:=rfl
theorem Ape [Globs] [Ext P] {x:Tmp} {args:Array Operand} {ats:Array TypeId} (hx:(@Globs.dr (gM M) && @Globs.xAny (gM M))=false):RO P fn M call all (⟨d,.call ⟨.value (.tmp x),args,ats⟩,ty,pos,af,none⟩ :: l) ⟨T,S,tk,n⟩ k =
  ns (Ak1 call (getT T x) (args.toList.map (opv T)) S tk n) fun (v,S',tk',n')=>RO P fn M call all l ⟨putT T d v,S',tk',n'⟩ k:=by
 have hp:RO P fn M call all (⟨d,.call ⟨.value (.tmp x),args,ats⟩,ty,pos,af,none⟩ :: l) ⟨T,S,tk,n⟩ k=match @evO (gM M) P call ⟨d,.call ⟨.value (.tmp x),args,ats⟩,ty,pos,af,none⟩ ⟨T,S,tk,n⟩ with|some (v,st')=>RO P fn M call all l { st' with T:=putT st'.T d v } k|none=>none:=by
  cases hd:@Globs.dr (gM M) with
  | false=>exact Aah hd
  | true =>
   rw [hd] at hx;exact D2 hx rfl
 rw [hp];simp only [evO,Gy,opv,Ak1];cases getT T x with
 | fn f caps =>
  simp only;cases call f (args.toList.map (opv T)++caps) S tk n <;> rfl
 | bfn f first =>
  simp only;cases call f (first++args.toList.map (opv T)) S tk n <;> rfl
 | _=>rfl
theorem aBin_int {b:BinOp} {t:TypeId} {q:IntKind} {x y:Int} : aBin P b t (.prim (.int q x)) (.prim (.int q y))=binInt b q x y:=by simp [aBin]
theorem aBin_str {b:BinOp} {t:TypeId} {x y:ByteArray} : aBin P b t (.prim (.string x)) (.prim (.string y))=binStr b x y:=rfl
def Amc (P:Program) (t:TypeId):Bool:=match P.underlying t with|some .bool=>true|_=>false
theorem aBin_bool {b:BinOp} {t:TypeId} {x y:Bool} (h:Amc P t=true):aBin P b t (.prim (.bool x)) (.prim (.bool y))=binBool b x y:=by
 unfold Amc at h;split at h
 ·rename_i h'; simp [aBin,h']
 ·simp at h
theorem callP_eq [Globs] [Ext P] {f:FuncId} {args:List AV} : Gp P call f args S tk n=if (((args.map w2).all pure2 && !Ext.mv P f) || (shF f && Ns P f args.length && !Ext.mv P f && !Ext.on P f) || (xF f && Globs.dr))=true then call f args S tk n else none:=rfl
theorem callM_vals [Globs] [Ext P] {f:FuncId} {args:List AV} : Ku .vals P call f args S tk n=if (((args.map w2).all pure2 && !Ext.mv P f) || (shF f && Ns P f args.length && !Ext.mv P f && !Ext.on P f))=true then call f args S tk n else none:=by
 have:@Gp (gM .vals) P _ call f args S tk n=if (((args.map w2).all pure2 && !Ext.mv P f) || (shF f && Ns P f args.length && !Ext.mv P f && !Ext.on P f) || (false && true))=true then call f args S tk n else none:=rfl
 rw [Fo,F5] at this;exact this
theorem callM_look [Globs] [Ext P] {f:FuncId} {args:List AV} : Ku .look P call f args S tk n=if (((args.map w2).all pure2 && !Ext.mv P f) || (shF f && Ns P f args.length && !Ext.mv P f && !Ext.on P f) || xF f)=true then call f args S tk n else none:=by
 have:@Gp (gM .look) P _ call f args S tk n=if (((args.map w2).all pure2 && !Ext.mv P f) || (shF f && Ns P f args.length && !Ext.mv P f && !Ext.on P f) || (xF f && true))=true then call f args S tk n else none:=rfl
 rw [jE] at this;exact this
theorem callM_true [Globs] [Ext P] {f:FuncId} {args:List AV} : Ku .quiet P call f args S tk n=if ((args.map w2).all pure2 && !Ext.mv P f)=true then call f args S tk n else none:=by
 simp [Ku,Gp,shF,xF]
theorem opv_tmp {t:Tmp} : opv T (.tmp t)=getT T t:=rfl
theorem opv_const {v:Value} : opv T (.const v)=cst v:=rfl
theorem opv_func {f:FuncId} : opv T (.func f)=.fn f []:=rfl
theorem cst_int {q:IntKind} {x:Int} : cst (.int q x)=.prim (.int q x):=rfl
theorem cst_bool {b:Bool} : cst (.bool b)=.prim (.bool b):=rfl
theorem cst_string {s:ByteArray} : cst (.string s)=.prim (.string s):=rfl
theorem cst_nil:cst (.slice none 0 0)=.frz [] .nilc:=rfl
theorem cst_ptr:cst (.pointer none)=.prim (.pointer none):=rfl
theorem intN_cast {q:IntKind} {m:Nat} : intN (.prim (.int q (m:Int)))=some m:=by simp [intN]
theorem intN_zero {q:IntKind} : intN (.prim (.int q 0))=some 0:=rfl
inductive Tag {α:Type} (a:α):Type where|mk
def BR {β:Type} (w:Option Bool) (a b:Option β) (_:Tag (a,b)):Option β:=br w a b
def NX {β:Type} (x:Option AV) (f:AV->Option β) (_:Tag f):Option β:=nx x f
def NS {α β:Type} (x:Option α) (f:α->Option β) (_:Tag f):Option β:=ns x f
noncomputable def RX [Globs] (P:Program) [Ext P] (fn:Func) (M:Md) (call:Dv) (all l:List Oper) (st:St) (k:List Kont) (_:Tag (all,l,k)):Option (AV × St):=RO P fn M call all l st k
noncomputable def KX [Globs] (P:Program) [Ext P] (fn:Func) (c:Code) (st:St) (k:List Kont) (_:Tag (c,k)):Option (AV × St):=RK P fn c st k
noncomputable def CX [Globs] (P:Program) [Ext P] (fn:Func) (e:Ex) (st:St) (k:List Kont) (_:Tag k):Option (AV × St):=cont P fn e st k
theorem NX_some {β:Type} {v:AV} {f:AV->Option β} {t:Tag f} : NX (some v) f t=f v:=rfl
theorem NS_some {α β:Type} {v:α} {f:α->Option β} {t:Tag f} : NS (some v) f t=f v:=rfl
theorem BR_true {β:Type} {a b:Option β} {t:Tag (a,b)} : BR (some true) a b t=a:=rfl
theorem BR_false {β:Type} {a b:Option β} {t:Tag (a,b)} : BR (some false) a b t=b:=rfl
theorem BR_not {β:Type} {x:Bool} {a b:Option β} {t:Tag (a,b)} : BR (some (!x)) a b t=BR (some x) b a .mk:=Av8
theorem fin1_BR {x:Bool} {a b:Option (AV × St)} {r:AV} {t:Tag (a,b)} : fin1 (BR (some x) a b t)=some r↔(x=true->fin1 a=some r)/\(x=false->fin1 b=some r):=Atw
theorem finS_BR {m:Nat} {x:Bool} {a b:Option (AV × St)} {r:AV × List Ent × List Nat × Nat} {t:Tag (a,b)} : finS m (BR (some x) a b t)=some r↔(x=true->finS m a=some r)/\(x=false->finS m b=some r):=Aty
theorem finM_BR {x:Bool} {a b:Option (AV × St)} {r:AV × List Ent × List Nat × Nat} {t:Tag (a,b)} : finM (BR (some x) a b t)=some r↔(x=true->finM a=some r)/\(x=false->finM b=some r):=Atx
variable {st:St}
theorem KX_seq [Globs] [Ext P] {a b:Code} {t:Tag (Code.seq a b,k)} : KX P fn (.seq a b) st k t=KX P fn a st (.seq b :: k) .mk:=Avn
theorem KX_skip [Globs] [Ext P] {t:Tag (Code.skip,k)} : KX P fn .skip st k t=CX P fn .normal st k .mk:=Asy
theorem KX_exit [Globs] [Ext P] {id:Nat} {t:Tag (Code.exit id,k)} : KX P fn (.exit id) st k t=CX P fn (.exit id) st k .mk:=Asw
theorem KX_ret [Globs] [Ext P] {t:Tag (Code.ret,k)} : KX P fn .ret st k t=CX P fn .ret st k .mk:=Avm
theorem KX_if [Globs] [Ext P] {c:Operand} {a b:Code} {t:Tag (Code.cond c a b,k)} : KX P fn (.cond c a b) st k t=BR (asB (opv st.T c)) (KX P fn a st k .mk) (KX P fn b st k .mk) .mk:=RK_if
theorem KX_block [Globs] [Ext P] {id:Nat} {c:Code} {t:Tag (Code.block id c,k)} : KX P fn (.block id c) st k t=KX P fn c st (.block id :: k) .mk:=Ao8
theorem KX_scope [Globs] [Ext P] {c:Code} {t:Tag (Code.scope c,k)} : KX P fn (.scope c) st k t=KX P fn c st k .mk:=Apa
theorem KX_label [Globs] [Ext P] {l:Nat} {t:Tag (Code.label l,k)} : KX P fn (.label l) st k t=CX P fn .normal st k .mk:=Ao9
theorem KX_region [Globs] [Ext P] {id:Nat} {ops:List Oper} {t:Tag (jP id ops.toArray false,k)} : KX P fn (.region id ops.toArray false) st k t=RX P fn .no (cL P) ops ops st k .mk:=Aj3
structure QmF [Globs] (ops:List Oper):Prop where
 h:mdOf ops=.no
structure QmT [Globs] (ops:List Oper):Prop where
 h:mdOf ops=.quiet
structure QmL [Globs] (ops:List Oper):Prop where
 h:mdOf ops=.look
structure QmV [Globs] (ops:List Oper):Prop where
 h:mdOf ops=.vals
structure TlF [Globs] (ops:List Oper):Prop where
 b:((Hq ops).isNone && (L7 ops).isNone)=true
theorem TlF.h [Globs] {ops:List Oper} (t:TlF ops):Hq ops=none:=Za0c
theorem TlF.h2 [Globs] {ops:List Oper} (t:TlF ops):L7 ops=none:=Za12
def Ad1:List Oper->List Oper
 | []=>[]
 | [o]=>[o]
 | _ :: b :: l=>Ad1 (b :: l)
theorem lastO_one {o:Oper} : Ad1 [o]=[o]:=rfl
theorem lastO_more {a b:Oper} {l:List Oper} : Ad1 (a :: b :: l)=Ad1 (b :: l):=rfl
theorem dropL_one {o:Oper} : List.dropLast [o]=[]:=rfl
theorem dropL_more {a b:Oper} {l:List Oper} : List.dropLast (a :: b :: l)=a :: List.dropLast (b :: l):=rfl
structure TlT [Globs] (ops:List Oper):Prop where
 b:((Hq ops).isSome && ((Hq ops.dropLast).isNone && (L7 ops.dropLast).isNone))=true
theorem TlT.h [Globs] {ops:List Oper} (t:TlT ops):(Hq ops).isSome=true:=Za0c
theorem TlT.h2 [Globs] {ops:List Oper} (t:TlT ops):Hq ops.dropLast=none:=by have:=t.b; simp only [Ch,Ii] at this; exact this.2.1
theorem TlT.h3 [Globs] {ops:List Oper} (t:TlT ops):L7 ops.dropLast=none:=by have:=t.b; simp only [Ch,Ii] at this; exact this.2.2
theorem KX_draw [Globs] [Ext P] {id:Nat} {ops:List Oper} {t:Tag (jP id ops.toArray true,k)} (ml:QmF ops) (hs:TlF ops) (h:B0 st ops=true):KX P fn (.region id ops.toArray true) st k t=RX P fn .no (Gp P (cL P)) ops ops st k .mk:=by
 have hq:=ml.h;have e:Gp P (cL P)=Ku .no P (cL P):=rfl;rw [e,<- hq]; exact Uk fO fK aO
theorem KX_drawL [Globs] [Ext P] {id:Nat} {ops:List Oper} {t:Tag (jP id ops.toArray true,k)} (ml:QmL ops) (hs:TlF ops) (h:B0 st ops=true):KX P fn (.region id ops.toArray true) st k t=RX P fn .look (Ku .look P (cL P)) ops ops st k .mk:=by
 exact Ya04
theorem KX_drawV [Globs] [Ext P] {id:Nat} {ops:List Oper} {t:Tag (jP id ops.toArray true,k)} (ml:QmV ops) (hs:TlF ops) (h:B0 st ops=true):KX P fn (.region id ops.toArray true) st k t=RX P fn .vals (Ku .vals P (cL P)) ops ops st k .mk:=by
 exact Ya04
theorem KX_drawQ [Globs] [Ext P] {id:Nat} {ops:List Oper} {t:Tag (jP id ops.toArray true,k)} (ml:QmT ops) (hs:TlF ops) (h:B0 st ops=true):KX P fn (.region id ops.toArray true) st k t=RX P fn .quiet (Ku .quiet P (cL P)) ops ops st k .mk:=by
 exact Ya04
theorem Amg {L:List Oper} {o:Oper} {a:List Oper} (h:L=a++[o]):Ad1 L=[o]:=by
 subst h;induction a with
 | nil=>rfl
 | cons x a ih=>cases a with
  | nil=>rfl
  | cons y a=>exact ih
theorem KX_tail [Globs] [Ext P] {id:Nat} {ops:List Oper} {t:Tag (jP id ops.toArray true,k)} (hs:TlT ops) (h:B0 st ops.dropLast=true):KX P fn (.region id ops.toArray true) st k t=KX P fn (.region id ops.dropLast.toArray true) st (.seq (.region id (Ad1 ops).toArray false) :: k) .mk:=by
 have h1:=hs.h; have h2:=hs.h2; have h3:=hs.h3;cases ws:Hq ops with
 | none=>rw [ws] at h1; cases h1
 | some x =>
  obtain ⟨a,o⟩:=x;obtain ⟨hL,-⟩:=Pl ws;have hd:ops.dropLast=a:=by rw [hL]; simp
  rw [Amg hL,hd];rw [hd] at h2 h3 h;exact Asz (by simpa using ws) h2 h3 h
structure TlL [Globs] (ops:List Oper):Prop where
 b:((Hq ops).isNone && (L7 ops).isSome)=true
theorem TlL.h [Globs] {ops:List Oper} (t:TlL ops):Hq ops=none:=Za0c
theorem TlL.h2 [Globs] {ops:List Oper} (t:TlL ops):(L7 ops).isSome=true:=Za12
structure Avh (o:Oper):Prop where
 h:isMk o=false
def lastL (ops:List Oper):List Oper:=(ops.filter isMk)++Ad1 ops
theorem openL_one {o:Oper} : openL [o]=[]:=rfl
theorem openL_mk {ds:Tmp} {t ty:TypeId} {pos:String} {af:Array Edge} {b:Oper} {l:List Oper} : openL (⟨some ds,.alloc t,ty,pos,af,none⟩ :: b :: l)=⟨some ds,.move (.global 0),ty,pos,af,none⟩ :: openL (b :: l):=rfl
theorem openL_old {o b:Oper} {l:List Oper} (h:Avh o):openL (o :: b :: l)=o :: openL (b :: l):=by
 show Wx o :: _=_;unfold Wx; rw [if_neg (by rw [h.h]; simp)]
theorem filtL_nil:lI isMk []=[]:=rfl
theorem filtL_mk {ds:Tmp} {t ty:TypeId} {pos:String} {af:Array Edge} {l:List Oper} : lI isMk (⟨some ds,.alloc t,ty,pos,af,none⟩ :: l)=⟨some ds,.alloc t,ty,pos,af,none⟩ :: lI isMk l:=by rw [List.filter_cons_of_pos rfl]
theorem filtL_old {o:Oper} {l:List Oper} (h:Avh o):lI isMk (o :: l)=lI isMk l:=by rw [jQ (by rw [h.h]; simp)]
theorem Qa:∀ {L:List Oper} {p:Nat} {al:Oper},Nt L=some (p,al)->L.filter isMk=[al]
 | [],_,_,h=>by simp [Nt] at h
 | o :: l,p,al,h=>by
  unfold Nt at h;split at h
  ·rename_i hm;split at h
   ·rename_i hc;simp only [Ch,Ig] at hc;simp only [Bg,Cf] at h;obtain ⟨-,rfl⟩:=h;rw [List.filter_cons_of_pos hm,List.filter_eq_nil_iff.2 fun x hx=>by simpa using List.any_eq_false.1 hc.2 x hx]
   ·cases h
  ·rename_i hm;simp only [Cd,Cf,Prod.exists] at h;obtain ⟨p',al',h,-,rfl⟩:=h;rw [jQ hm]; exact Qa h
noncomputable def LX [Globs] (P:Program) [Ext P] (fn:Func) (id:Nat) (a z:List Oper) (st:St) (k:List Kont) (_:Tag (st,k)):Option (AV × St):=RX P fn .look (Ku .look P (cL P)) a a st (.seq (.region id z.toArray false) :: k) .mk
theorem LX_eq [Globs] [Ext P] {id:Nat} {a:Oper} {l z:List Oper} {tg:Tag (st,k)} : LX P fn id (a :: l) z st k tg=RX P fn .look (Ku .look P (cL P)) (a :: l) (a :: l) st (.seq (.region id z.toArray false) :: k) .mk:=rfl
theorem KX_late [Globs] [Ext P] {id:Nat} {ops:List Oper} {t:Tag (jP id ops.toArray true,k)} (hs:TlL ops) (ml:QmL (openL ops)) (h:B0 st (openL ops)=true):KX P fn (.region id ops.toArray true) st k t=LX P fn id (openL ops) (lastL ops) st k .mk:=by
 unfold LX;have h1:=hs.h; have h2:=hs.h2;have hq:=ml.h;cases hl:L7 ops with
 | none=>rw [hl] at h2; cases h2
 | some x =>
  obtain ⟨p,al,o⟩:=x;obtain ⟨a,hL,-,ai,om⟩:=Xn hl;have e:lastL ops=[al,o]:=by
   have hm:isMk o=false:=by
    unfold isSt at ai;unfold isMk;split at ai
    ·rename_i h; rw [h]
    ·cases ai
   unfold lastL;rw [Amg hL,hL,List.filter_append,Qa om,jQ (by rw [hm]; simp)]; rfl
  rw [e];have:=Asx (P:=P) (fn:=fn) (st:=st) (k:=k) (id:=id) (ops:=ops.toArray) aY cH aO;simp only [kX,hq] at this;exact this
theorem CX_seq [Globs] [Ext P] {c:Code} {t:Tag (Kont.seq c :: k)} : CX P fn .normal st (.seq c :: k) t=KX P fn c st k .mk:=rfl
theorem CX_block [Globs] [Ext P] {id:Nat} {t:Tag (Kont.block id :: k)} : CX P fn .normal st (.block id :: k) t=CX P fn .normal st k .mk:=rfl
theorem CX_loop [Globs] [Ext P] {c:Code} {m:Nat} {t:Tag (Kont.loop c m :: k)} (hk:CkF (Ad0 c)):CX P fn .normal st (.loop c m :: k) t=KX P fn (.loop c) { st with S:=st.S.take m } k .mk:=by
 exact Ya3e
theorem CX_loopK [Globs] [Ext P] {c:Code} {m:Nat} {t:Tag (Kont.loop c m :: k)} (hk:CkT (Ad0 c)):CX P fn .normal st (.loop c m :: k) t=KX P fn (.loop c) st k .mk:=by
 exact Ya3e
theorem CX_exit_seq [Globs] [Ext P] {c:Code} {id:Nat} {t:Tag (Kont.seq c :: k)} : CX P fn (.exit id) st (.seq c :: k) t=CX P fn (.exit id) st k .mk:=rfl
theorem CX_exit_block [Globs] [Ext P] {id id':Nat} {t:Tag (Kont.block id' :: k)} : CX P fn (.exit id) st (.block id' :: k) t=BR (some (id == id')) (CX P fn .normal st k .mk) (CX P fn (.exit id) st k .mk) .mk:=by
 show (if id=id' then cont P fn .normal st k else cont P fn (.exit id) st k)=br _ _ _;by_cases h:id=id'
 ·subst h; simp [br,CX]
 ·have e:(id == id')=false:=aO
  rw [if_neg h,e]; rfl
theorem CX_exit_loop [Globs] [Ext P] {c:Code} {id m:Nat} {t:Tag (Kont.loop c m :: k)} : CX P fn (.exit id) st (.loop c m :: k) t=CX P fn (.exit id) st k .mk:=rfl
theorem CX_ret [Globs] [Ext P] {x:Kont} {t:Tag (x :: k)} : CX P fn .ret st (x :: k) t=CX P fn .ret st k .mk:=Ap1
theorem CX_ret_nil [Globs] [Ext P] {t:Tag ([]:List Kont)} : CX P fn .ret st [] t=outA P fn (some (.ret,st)):=rfl
theorem CX_normal_nil [Globs] [Ext P] {t:Tag ([]:List Kont)} : CX P fn .normal st [] t=outA P fn (some (.normal,st)):=rfl
theorem RX_nil [Globs] [Ext P] {t:Tag (all,([]:List Oper),k)} : RX P fn M call all [] st k t=CX P fn .normal st k .mk:=rfl
theorem Avl [Globs] [Ext P] {c:Code} : RK P fn c st k=KX P fn c st k .mk:=rfl
def DX (all:List Oper) (g:Nat) (_:Tag all):Option Tmp:=Ap6 all g
theorem DX_zero {o:Oper} {tg:Tag (o :: l)} : DX (o :: l) 0 tg=o.dst:=rfl
theorem DX_succ {o:Oper} {g:Nat} {tg:Tag (o :: l)} : DX (o :: l) (g+1) tg=DX l g .mk:=rfl
theorem RX_guard [Globs] [Ext P] {op:Op} {g:Nat} {w:Bool} {tg:Tag (all,((⟨d,op,ty,pos,af,some (g,w)⟩:Oper) :: l),k)} : RX P fn M call all (⟨d,op,ty,pos,af,some (g,w)⟩ :: l) ⟨T,S,tk,n⟩ k tg=BR (Aop T (DX all g .mk) w) (RX P fn M call all (⟨d,op,ty,pos,af,none⟩ :: l) ⟨T,S,tk,n⟩ k .mk) (RX P fn M call all l ⟨putT T d (.prim undef),S,tk,n⟩ k .mk) .mk:=Aph
theorem RX_move [Globs] [Ext P] {x:Operand} {tg:Tag (all,((⟨d,.move x,ty,pos,af,none⟩:Oper) :: l),k)} : RX P fn M call all (⟨d,.move x,ty,pos,af,none⟩ :: l) ⟨T,S,tk,n⟩ k tg=RX P fn M call all l ⟨putT T d (opv T x),S,tk,n⟩ k .mk:=As4
theorem RX_assign [Globs] [Ext P] {x:Operand} {tg:Tag (all,((⟨d,.assign x,ty,pos,af,none⟩:Oper) :: l),k)} : RX P fn M call all (⟨d,.assign x,ty,pos,af,none⟩ :: l) ⟨T,S,tk,n⟩ k tg=RX P fn M call all l ⟨putT T d (opv T x),S,tk,n⟩ k .mk:=Aj5
theorem RX_pick [Globs] [Ext P] {c a b:Operand} {tg:Tag (all,((⟨d,.pick c a b,ty,pos,af,none⟩:Oper) :: l),k)} : RX P fn M call all (⟨d,.pick c a b,ty,pos,af,none⟩ :: l) ⟨T,S,tk,n⟩ k tg=NX (Anb (opv T c) (opv T a) (opv T b)) (fun v=>RX P fn M call all l ⟨putT T d v,S,tk,n⟩ k .mk) .mk:=As5
theorem RX_bin [Globs] [Ext P] {b:BinOp} {t u:TypeId} {x y:Operand} {tg:Tag (all,((⟨d,.binOp b t x y u,ty,pos,af,none⟩:Oper) :: l),k)} : RX P fn M call all (⟨d,.binOp b t x y u,ty,pos,af,none⟩ :: l) ⟨T,S,tk,n⟩ k tg=NX (aBin P b t (opv T x) (opv T y)) (fun v=>RX P fn M call all l ⟨putT T d v,S,tk,n⟩ k .mk) .mk:=Avo
theorem RX_un [Globs] [Ext P] {u:UnOp} {t:TypeId} {x:Operand} {tg:Tag (all,((⟨d,.unOp u t x,ty,pos,af,none⟩:Oper) :: l),k)} : RX P fn M call all (⟨d,.unOp u t x,ty,pos,af,none⟩ :: l) ⟨T,S,tk,n⟩ k tg=NX (aUn u (opv T x)) (fun v=>RX P fn M call all l ⟨putT T d v,S,tk,n⟩ k .mk) .mk:=RO_un
theorem RX_conv [Globs] [Ext P] {s t:TypeId} {x:Operand} {tg:Tag (all,((⟨d,.convert s t x,ty,pos,af,none⟩:Oper) :: l),k)} : RX P fn M call all (⟨d,.convert s t x,ty,pos,af,none⟩ :: l) ⟨T,S,tk,n⟩ k tg=NX (cvA P s t (opv T x)) (fun v=>RX P fn M call all l ⟨putT T d v,S,tk,n⟩ k .mk) .mk:=As1
theorem RX_extract [Globs] [Ext P] {x:Operand} {i:Nat} {tg:Tag (all,((⟨d,.extract x i,ty,pos,af,none⟩:Oper) :: l),k)} : RX P fn M call all (⟨d,.extract x i,ty,pos,af,none⟩ :: l) ⟨T,S,tk,n⟩ k tg=NX (extA (opv T x) i) (fun v=>RX P fn M call all l ⟨putT T d v,S,tk,n⟩ k .mk) .mk:=Ahu
theorem RX_field [Globs] [Ext P] {t:TypeId} {x:Operand} {i:Nat} {tg:Tag (all,((⟨d,.field t x i,ty,pos,af,none⟩:Oper) :: l),k)} : RX P fn M call all (⟨d,.field t x i,ty,pos,af,none⟩ :: l) ⟨T,S,tk,n⟩ k tg=NX (fldV (A4 P t i) (opv T x)) (fun v=>RX P fn M call all l ⟨putT T d v,S,tk,n⟩ k .mk) .mk:=Apg
theorem RX_indexAddr [Globs] [Ext P] {t:TypeId} {x i:Operand} {tg:Tag (all,((⟨d,.indexAddr t x i,ty,pos,af,none⟩:Oper) :: l),k)} : RX P fn M call all (⟨d,.indexAddr t x i,ty,pos,af,none⟩ :: l) ⟨T,S,tk,n⟩ k tg=NX (idxA P t (opv T x) (opv T i)) (fun v=>RX P fn M call all l ⟨putT T d v,S,tk,n⟩ k .mk) .mk:=Aae
theorem RX_fieldAddr [Globs] [Ext P] {t:TypeId} {x:Operand} {i:Nat} {tg:Tag (all,((⟨d,.fieldAddr t x i,ty,pos,af,none⟩:Oper) :: l),k)} : RX P fn M call all (⟨d,.fieldAddr t x i,ty,pos,af,none⟩ :: l) ⟨T,S,tk,n⟩ k tg=NX (fldA P t (opv T x) i) (fun v=>RX P fn M call all l ⟨putT T d v,S,tk,n⟩ k .mk) .mk:=Aad
theorem RX_index [Globs] [Ext P] {t:TypeId} {x i:Operand} {tg:Tag (all,((⟨d,.index t x i,ty,pos,af,none⟩:Oper) :: l),k)} : RX P fn M call all (⟨d,.index t x i,ty,pos,af,none⟩ :: l) ⟨T,S,tk,n⟩ k tg=NX (An7 (B1 P t) (opv T x) (intN (opv T i))) (fun v=>RX P fn M call all l ⟨putT T d v,S,tk,n⟩ k .mk) .mk:=Api
theorem RX_build [Globs] [Ext P] {t:TypeId} {ps:Array (Nat × Operand)} {tg:Tag (all,((⟨d,.build t ps,ty,pos,af,none⟩:Oper) :: l),k)} : RX P fn M call all (⟨d,.build t ps,ty,pos,af,none⟩ :: l) ⟨T,S,tk,n⟩ k tg=NX (bldA (A2 P t) (fieldsOf P t) (ps.toList.map fun (i,x)=>(i,opv T x))) (fun v=>RX P fn M call all l ⟨putT T d v,S,tk,n⟩ k .mk) .mk:=Apc
theorem RX_buildSlice [Globs] [Ext P] {t:TypeId} {len:Nat} {ps:Array (Nat × Operand)} {tg:Tag (all,((⟨d,.buildSlice t len ps,ty,pos,af,none⟩:Oper) :: l),k)} : RX P fn M call all (⟨d,.buildSlice t len ps,ty,pos,af,none⟩ :: l) ⟨T,S,tk,n⟩ k tg=NX (litA ((A6 P t).bind (szOf P)) ((A6 P t).bind (A2 P)) len (ps.toList.map fun (i,x)=>(i,opv T x))) (fun v=>RX P fn M call all l ⟨putT T d v,S,tk,n⟩ k .mk) .mk:=Yc
theorem RX_slice [Globs] [Ext P] {t:TypeId} {x:Operand} {lo hi mx:Option Operand} {tg:Tag (all,((⟨d,.slice t x lo hi mx,ty,pos,af,none⟩:Oper) :: l),k)} : RX P fn M call all (⟨d,.slice t x lo hi mx,ty,pos,af,none⟩ :: l) ⟨T,S,tk,n⟩ k tg=NX (Gw P t (opv T x) (lo.map (opv T)) (hi.map (opv T)) (mx.map (opv T))) (fun v=>RX P fn M call all l ⟨putT T d v,S,tk,n⟩ k .mk) .mk:=Apl
theorem RX_makeFunc [Globs] [Ext P] {f:FuncId} {caps:Array Operand} {tg:Tag (all,((⟨d,.makeFunc (.func f) #[] caps,ty,pos,af,none⟩:Oper) :: l),k)} : RX P fn M call all (⟨d,.makeFunc (.func f) #[] caps,ty,pos,af,none⟩ :: l) ⟨T,S,tk,n⟩ k tg=NX (if ((caps.toList.map (opv T)).all L4)=true then some (.fn f (caps.toList.map (opv T))) else none) (fun v=>RX P fn M call all l ⟨putT T d v,S,tk,n⟩ k .mk) .mk:=Adb
theorem RX_makeBound [Globs] [Ext P] {f:FuncId} {x:Operand} {tg:Tag (all,((⟨d,.makeFunc (.func f) #[x] #[],ty,pos,af,none⟩:Oper) :: l),k)} : RX P fn M call all (⟨d,.makeFunc (.func f) #[x] #[],ty,pos,af,none⟩ :: l) ⟨T,S,tk,n⟩ k tg=RX P fn M call all l ⟨putT T d (.bfn f [opv T x]),S,tk,n⟩ k .mk:=Aaf
theorem RX_load [Globs] [Ext P] {t:TypeId} {a:Operand} {tg:Tag (all,((⟨d,.load t a,ty,pos,af,none⟩:Oper) :: l),k)} : RX P fn M call all (⟨d,.load t a,ty,pos,af,none⟩ :: l) ⟨T,S,tk,n⟩ k tg=NX (ldG (@Globs.dr (gM M)) (ldA P t (opv T a) S)) (fun v=>RX P fn M call all l ⟨putT T d v,S,tk,n⟩ k .mk) .mk:=As3
theorem RX_store [Globs] [Ext P] {t:TypeId} {a x:Operand} {tg:Tag (all,((⟨none,.store t a x,ty,pos,af,none⟩:Oper) :: l),k)} : RX P fn M call all (⟨none,.store t a x,ty,pos,af,none⟩ :: l) ⟨T,S,tk,n⟩ k tg=NS (stA P t (opv T a) (opv T x) S) (fun S'=>RX P fn M call all l ⟨T,S',tk,n⟩ k .mk) .mk:=Apm
theorem RX_alloc [Globs] [Ext P] {t:TypeId} {tg:Tag (all,((⟨d,.alloc t,ty,pos,af,none⟩:Oper) :: l),k)} : RX P fn M call all (⟨d,.alloc t,ty,pos,af,none⟩ :: l) ⟨T,S,tk,n⟩ k tg=NS (A2 P t) (fun cs=>RX P fn M call all l ⟨putT T d (.ref S.length n 0),S++[⟨n,cs⟩],tk,n+1⟩ k .mk) .mk:=Apb
theorem RX_box [Globs] [Ext P] {t:TypeId} {x:Operand} {tg:Tag (all,((⟨d,.box t x,ty,pos,af,none⟩:Oper) :: l),k)} : RX P fn M call all (⟨d,.box t x,ty,pos,af,none⟩ :: l) ⟨T,S,tk,n⟩ k tg=NS (cellsOf (opv T x)) (fun cs=>RX P fn M call all l ⟨putT T d (.ref S.length n 0),S++[⟨n,cs⟩],tk,n+1⟩ k .mk) .mk:=Avp
theorem RX_appendO [Globs] [Ext P] {x y:Operand} {t:TypeId} {tg:Tag (all,((⟨d,.call ⟨.builtin .append,#[x,y],#[t,t]⟩,ty,pos,af,none⟩:Oper) :: l),k)} (ho:CkT (@Globs.own (gM M) d ty)):RX P fn M call all (⟨d,.call ⟨.builtin .append,#[x,y],#[t,t]⟩,ty,pos,af,none⟩ :: l) ⟨T,S,tk,n⟩ k tg=NS (apO P t (opv T x) (opv T y) S n) (fun (v,S',n')=>RX P fn M call all l ⟨putT T d v,S',tk,n'⟩ k .mk) .mk:=Ahs ho.h
theorem RX_append [Globs] [Ext P] {x y:Operand} {t:TypeId} {tg:Tag (all,((⟨d,.call ⟨.builtin .append,#[x,y],#[t,t]⟩,ty,pos,af,none⟩:Oper) :: l),k)} (ho:CkF (@Globs.own (gM M) d ty)):RX P fn M call all (⟨d,.call ⟨.builtin .append,#[x,y],#[t,t]⟩,ty,pos,af,none⟩ :: l) ⟨T,S,tk,n⟩ k tg=NS (apM M P t (opv T x) (opv T y) tk S) (fun (v,tk')=>RX P fn M call all l ⟨putT T d v,S,tk',n⟩ k .mk) .mk:=Aj4 ho.h
theorem RX_len [Globs] [Ext P] {x:Operand} {t:TypeId} {tg:Tag (all,((⟨d,.call ⟨.builtin .len,#[x],#[t]⟩,ty,pos,af,none⟩:Oper) :: l),k)} : RX P fn M call all (⟨d,.call ⟨.builtin .len,#[x],#[t]⟩,ty,pos,af,none⟩ :: l) ⟨T,S,tk,n⟩ k tg=NX (lenV (B1 P t) (A6 P t).isSome (opv T x)) (fun v=>RX P fn M call all l ⟨putT T d v,S,tk,n⟩ k .mk) .mk:=Avq
theorem RX_call [Globs] [Ext P] {f:FuncId} {args:Array Operand} {ats:Array TypeId} {tg:Tag (all,((⟨d,.call ⟨.value (.func f),args,ats⟩,ty,pos,af,none⟩:Oper) :: l),k)} (hx:CkF ((@Globs.dr (gM M) && @xF (gM M) f))):RX P fn M call all (⟨d,.call ⟨.value (.func f),args,ats⟩,ty,pos,af,none⟩ :: l) ⟨T,S,tk,n⟩ k tg=NS (call f (args.toList.map (opv T)) S tk n) (fun (v,S',tk',n')=>RX P fn M call all l ⟨putT T d v,S',tk',n'⟩ k .mk) .mk:=As0 hx.h
theorem RX_callL [Globs] [Ext P] {f:FuncId} {args:Array Operand} {ats:Array TypeId} {tg:Tag (all,((⟨d,.call ⟨.value (.func f),args,ats⟩,ty,pos,af,none⟩:Oper) :: l),k)} (hx:CkT (@lkOp (gM M) ⟨d,.call ⟨.value (.func f),args,ats⟩,ty,pos,af,none⟩)):RX P fn M call all (⟨d,.call ⟨.value (.func f),args,ats⟩,ty,pos,af,none⟩ :: l) ⟨T,S,tk,n⟩ k tg=NS (call f (args.toList.map (opv T)) S tk n) (fun (v,S',tk',n')=>NS (gO S S') (fun _=>RX P fn M call all l ⟨putT T d v,S',tk',n'⟩ k .mk) .mk) .mk:=Apd hx.h
theorem RX_callX [Globs] [Ext P] {f:FuncId} {args:Array Operand} {ats:Array TypeId} {tg:Tag (all,((⟨d,.call ⟨.value (.func f),args,ats⟩,ty,pos,af,none⟩:Oper) :: l),k)} (hx:CkT (@anOp (gM M) ⟨d,.call ⟨.value (.func f),args,ats⟩,ty,pos,af,none⟩)):RX P fn M call all (⟨d,.call ⟨.value (.func f),args,ats⟩,ty,pos,af,none⟩ :: l) ⟨T,S,tk,n⟩ k tg=NS (call f (args.toList.map (opv T)) S tk n) (fun (v,S',tk',n')=>NS (reA P all d T S S') (fun _=>RX P fn M call all l ⟨putT T d v,S',tk',n'⟩ k .mk) .mk) .mk:=Apf hx.h
theorem RX_invoke [Globs] [Ext P] {x:Operand} {m:String} {args:Array Operand} {ats:Array TypeId} {tg:Tag (all,((⟨d,.call ⟨.invoke x m,args,ats⟩,ty,pos,af,none⟩:Oper) :: l),k)} (hd:CkF (@Globs.dr (gM M))):RX P fn M call all (⟨d,.call ⟨.invoke x m,args,ats⟩,ty,pos,af,none⟩ :: l) ⟨T,S,tk,n⟩ k tg=NS (invV P call (opv T x) m (args.toList.map (opv T)) S tk n) (fun (v,S',tk',n')=>RX P fn M call all l ⟨putT T d v,S',tk',n'⟩ k .mk) .mk:=Aj6 hd.h
theorem RX_invokeL [Globs] [Ext P] {x:Operand} {m:String} {args:Array Operand} {ats:Array TypeId} {tg:Tag (all,((⟨d,.call ⟨.invoke x m,args,ats⟩,ty,pos,af,none⟩:Oper) :: l),k)} (hd:CkT (@Globs.dr (gM M))):RX P fn M call all (⟨d,.call ⟨.invoke x m,args,ats⟩,ty,pos,af,none⟩ :: l) ⟨T,S,tk,n⟩ k tg=NS (invV P call (opv T x) m (args.toList.map (opv T)) S tk n) (fun (v,S',tk',n')=>NS (gO S S') (fun _=>RX P fn M call all l ⟨putT T d v,S',tk',n'⟩ k .mk) .mk) .mk:=Ahv hd.h
theorem RX_makeM [Globs] [Ext P] {m:String} {x:Operand} {tg:Tag (all,((⟨d,.makeFunc (.method m) #[x] #[],ty,pos,af,none⟩:Oper) :: l),k)} : RX P fn M call all (⟨d,.makeFunc (.method m) #[x] #[],ty,pos,af,none⟩ :: l) ⟨T,S,tk,n⟩ k tg=NX (mthA m (opv T x)) (fun v=>RX P fn M call all l ⟨putT T d v,S,tk,n⟩ k .mk) .mk:=Apk
theorem RX_makeI [Globs] [Ext P] {t:TypeId} {x:Operand} {tg:Tag (all,((⟨d,.makeInterface t x,ty,pos,af,none⟩:Oper) :: l),k)} : RX P fn M call all (⟨d,.makeInterface t x,ty,pos,af,none⟩ :: l) ⟨T,S,tk,n⟩ k tg=NX (ifcA (Aie P t) t (opv T x)) (fun v=>RX P fn M call all l ⟨putT T d v,S,tk,n⟩ k .mk) .mk:=Apj
theorem RX_callV [Globs] [Ext P] {x:Tmp} {args:Array Operand} {ats:Array TypeId} {tg:Tag (all,((⟨d,.call ⟨.value (.tmp x),args,ats⟩,ty,pos,af,none⟩:Oper) :: l),k)} (hx:CkF ((@Globs.dr (gM M) && @Globs.xAny (gM M)))):RX P fn M call all (⟨d,.call ⟨.value (.tmp x),args,ats⟩,ty,pos,af,none⟩ :: l) ⟨T,S,tk,n⟩ k tg=NS (Ak1 call (getT T x) (args.toList.map (opv T)) S tk n) (fun (v,S',tk',n')=>RX P fn M call all l ⟨putT T d v,S',tk',n'⟩ k .mk) .mk:=Ape hx.h
theorem fin1_NX_not {c:Prop} [Decidable c] {v:AV} {f:AV->Option (AV × St)} {tg:Tag f} {r:AV} : fin1 (NX (if c then none else some v) f tg)=some r↔¬ c/\fin1 (f v)=some r:=by
 exact Ya0y
theorem fin1_NX_if {c:Prop} [Decidable c] {v:AV} {f:AV->Option (AV × St)} {tg:Tag f} {r:AV} : fin1 (NX (if c then some v else none) f tg)=some r↔c/\fin1 (f v)=some r:=by
 exact Ya0z
theorem fin1_NS_not {α:Type} {c:Prop} [Decidable c] {v:α} {f:α->Option (AV × St)} {tg:Tag f} {r:AV} : fin1 (NS (if c then none else some v) f tg)=some r↔¬ c/\fin1 (f v)=some r:=by
 exact Ya0y
theorem fin1_NS_if {α:Type} {c:Prop} [Decidable c] {v:α} {f:α->Option (AV × St)} {tg:Tag f} {r:AV} : fin1 (NS (if c then some v else none) f tg)=some r↔c/\fin1 (f v)=some r:=by
 exact Ya0z
theorem finS_NX_not {m:Nat} {c:Prop} [Decidable c] {v:AV} {f:AV->Option (AV × St)} {tg:Tag f} {r:AV × List Ent × List Nat × Nat} : finS m (NX (if c then none else some v) f tg)=some r↔¬ c/\finS m (f v)=some r:=by
 exact Ya0y
theorem finS_NX_if {m:Nat} {c:Prop} [Decidable c] {v:AV} {f:AV->Option (AV × St)} {tg:Tag f} {r:AV × List Ent × List Nat × Nat} : finS m (NX (if c then some v else none) f tg)=some r↔c/\finS m (f v)=some r:=by
 exact Ya0z
theorem finS_NS_not {m:Nat} {α:Type} {c:Prop} [Decidable c] {v:α} {f:α->Option (AV × St)} {tg:Tag f} {r:AV × List Ent × List Nat × Nat} : finS m (NS (if c then none else some v) f tg)=some r↔¬ c/\finS m (f v)=some r:=by
 exact Ya0y
theorem finS_NS_if {m:Nat} {α:Type} {c:Prop} [Decidable c] {v:α} {f:α->Option (AV × St)} {tg:Tag f} {r:AV × List Ent × List Nat × Nat} : finS m (NS (if c then some v else none) f tg)=some r↔c/\finS m (f v)=some r:=by
 exact Ya0z
theorem loop1 [Globs] [Ext P] {ι:Type} {c:Code} {tg:Tag (lO c,k)} (I:ι->St->Prop) (μ:ι->Nat) (G:ι->AV) (x:ι)
  (h:∀ x st,I x st->(∀ y st',μ y<μ x->I y st'->fin1 (KX P fn (.loop c) st' k .mk)=some (G y))->fin1 (KX P fn c st (.loop c st.S.length :: k) .mk)=some (G x)) {st:St} (h0:I x st):fin1 (KX P fn (.loop c) st k tg)=some (G x) :=
 Amq I μ G h h0
theorem Vq [Globs] [Ext P] {ι:Type} {c:Code} {m:Nat} {tg:Tag (lO c,k)} (I:ι->St->Prop) (μ:ι->Nat) (G:ι->AV × List Ent × List Nat × Nat) (x:ι)
  (h:∀ x st,I x st->(∀ y st',μ y<μ x->I y st'->finS m (KX P fn (.loop c) st' k .mk)=some (G y))->finS m (KX P fn c st (.loop c st.S.length :: k) .mk)=some (G x)) {st:St} (h0:I x st):finS m (KX P fn (.loop c) st k tg)=some (G x) :=
 Aim I μ G h h0
def tabl:Nat->(Nat->AV)->List AV
 | 0,_=>[]
 | n+1,g=>g 0 :: tabl n fun i=>g (i+1)
theorem Ap:∀ {n:Nat} {T:List AV},T.length=n->∃ g,(∀ t,getT T t=g t)/\T=tabl n g
 | 0,[],_=>⟨fun _=>.bot,fun _=>rfl,rfl⟩
 | n+1,x :: T,h=>by
  obtain ⟨g,h1,h2⟩:=Ap (n:=n) (T:=T) aO;exact ⟨fun|0=>x|i+1=>g i,fun|0=>rfl|i+1=>h1 i,by rw [h2]; rfl⟩
 | 0,_ :: _,h=>aR
 | _+1,[],h=>aR
theorem Bm {S:List Ent} {n:Nat} {cs:List AV} : entAt (S++[⟨n,cs⟩]) S.length n=some cs:=by
 unfold entAt;rw [Af,Fi (Ce _)];simp
theorem L6 {S:List Ent} {e:Ent} {id ep:Nat} {cs:List AV} (h:entAt S id ep=some cs):entAt (S++[e]) id ep=some cs:=by
 obtain ⟨x,h1,h2,h3⟩:=Ds h;unfold entAt;have hl:=Bl h1;rw [Af] at h1 ⊢;rw [Cy hl,h1];simp [h2,h3]
theorem chkM_ref {i e o:Nat} : chkM P (.ref i e o)=some (.ref i e o):=rfl
theorem chkM_fptr {cs:List AV} : chkM P (.fptr cs)=some (.fptr cs):=rfl
theorem chkM_fn {f:FuncId} {cs:List AV} : chkM P (.fn f cs)=some (.fn f cs):=rfl
theorem chkM_bfn {f:FuncId} {cs:List AV} : chkM P (.bfn f cs)=some (.bfn f cs):=rfl
theorem chkM_ifc {t:TypeId} {v:AV} : chkM P (.ifc t v)=some (.ifc t v):=rfl
theorem chkM_mfn {t:TypeId} {m:String} {v:AV} (h:(mRow P t m).isSome=true):chkM P (.mfn t m v)=some (.mfn t m v):=by simp [chkM,h]
theorem Aag [Globs] [Ext P] {t:TypeId} {x y:Operand} (hz:Wt ⟨d,.makeSlice t x y,ty,pos,af,none⟩ x=false):RO P fn M call all (⟨d,.makeSlice t x y,ty,pos,af,none⟩ :: l) ⟨T,S,tk,n⟩ k =
  ns (mkA P t (opv T x) (opv T y)) fun (m,sz,cs)=>RO P fn M call all l ⟨putT T d (.sref S.length n 0 m sz),S++[⟨n,cs⟩],tk,n+1⟩ k:=by
 rw [D2 rfl rfl];simp only [evO,hz];cases mkA P t (opv T x) (opv T y) <;> rfl
theorem Yd [Globs] [Ext P] {t:TypeId} {x y:Operand} (hz:len0 x=true):RO P fn M call all (⟨d,.makeSlice t x y,ty,pos,af,none⟩ :: l) ⟨T,S,tk,n⟩ k =
  ns (mkA P t (opv T x) (opv T y)) fun (m,sz,cs)=>RO P fn M call all l ⟨putT T d (.frz [] (.tok tk.length 0 sz)),S,tk++[0],n⟩ k:=by
 rw [D2 rfl rfl];simp only [evO,Wt,hz,jU];cases mkA P t (opv T x) (opv T y) <;> rfl
theorem Ye [Globs] [Ext P] {t:TypeId} {y:Operand} (hz:fzL ⟨d,.makeSlice t (.tmp 10) y,ty,pos,af,none⟩ (.tmp 10)=true):RO P fn M call all (⟨d,.makeSlice t (.tmp 10) y,ty,pos,af,none⟩ :: l) ⟨T,S,tk,n⟩ k =
  ns (mkA P t (opv T (.tmp 10)) (opv T y)) fun (m,sz,cs)=>RO P fn M call all l ⟨putT T d (tokA tk.length sz (Ms (Jc sz m cs))),S,tk++[0],n⟩ k:=by
 rw [D2 rfl rfl];simp only [evO,Wt,len0,hz,Oe];cases mkA P t (opv T (.tmp 10)) (opv T y) <;> rfl
theorem As2 [Globs] [Ext P] {x y:Operand} {t t':TypeId} : RO P fn M call all (⟨d,.call ⟨.builtin .copy,#[x,y],#[t,t']⟩,ty,pos,af,none⟩ :: l) ⟨T,S,tk,n⟩ k =
  ns (cpA P t (opv T x) (opv T y) S) fun (m,S')=>RO P fn M call all l ⟨putT T d (.int (m:Int)),S',tk,n⟩ k:=by
 rw [D2 rfl rfl];simp only [evO,Cm,Cp];cases cpA P t (opv T x) (opv T y) S <;> rfl
theorem Aht [Globs] [Ext P] {x y:Operand} {t t':TypeId} (ht:(t == t')=false) (ho:@Globs.own (gM M) d ty=false):RO P fn M call all (⟨d,.call ⟨.builtin .append,#[x,y],#[t,t']⟩,ty,pos,af,none⟩ :: l) ⟨T,S,tk,n⟩ k =
  ns (apS P t t' (opv T x) (opv T y) tk) fun (v,tk')=>RO P fn M call all l ⟨putT T d v,S,tk',n⟩ k:=by
 have ht':¬ t=t':=by simpa using ht
 rw [D2 rfl rfl];simp only [evO,Cm,Cp,if_neg ht',ho,C7,if_false];cases apS P t t' (opv T x) (opv T y) tk <;> rfl
theorem Adc [Globs] [Ext P] {x:Operand} : RO P fn M call all (⟨d,.nilCheck x,ty,pos,af,none⟩ :: l) ⟨T,S,tk,n⟩ k=nx (chkM P (opv T x)) fun v=>RO P fn M call all l ⟨putT T d v,S,tk,n⟩ k:=Dy rfl
theorem Avs [Globs] [Ext P] {x y:Operand} {ats:Array TypeId} : RO P fn M call all (⟨d,.call ⟨.builtin .min,#[x,y],ats⟩,ty,pos,af,none⟩ :: l) ⟨T,S,tk,n⟩ k=nx (minA (opv T x) (opv T y)) fun v=>RO P fn M call all l ⟨putT T d v,S,tk,n⟩ k:=Dy rfl
theorem Avr [Globs] [Ext P] {x y:Operand} {ats:Array TypeId} : RO P fn M call all (⟨d,.call ⟨.builtin .max,#[x,y],ats⟩,ty,pos,af,none⟩ :: l) ⟨T,S,tk,n⟩ k=nx (maxA (opv T x) (opv T y)) fun v=>RO P fn M call all l ⟨putT T d v,S,tk,n⟩ k:=Dy rfl
theorem RX_makeSlice [Globs] [Ext P] {t:TypeId} {x y:Operand} {tg:Tag (all,((⟨d,.makeSlice t x y,ty,pos,af,none⟩:Oper) :: l),k)} (hz:CkF (Wt ⟨d,.makeSlice t x y,ty,pos,af,none⟩ x)):RX P fn M call all (⟨d,.makeSlice t x y,ty,pos,af,none⟩ :: l) ⟨T,S,tk,n⟩ k tg=NS (mkA P t (opv T x) (opv T y)) (fun (m,sz,cs)=>RX P fn M call all l ⟨putT T d (.sref S.length n 0 m sz),S++[⟨n,cs⟩],tk,n+1⟩ k .mk) .mk:=Aag hz.h
theorem RX_makeSlice0 [Globs] [Ext P] {t:TypeId} {x y:Operand} {tg:Tag (all,((⟨d,.makeSlice t x y,ty,pos,af,none⟩:Oper) :: l),k)} (hz:CkT (len0 x)):RX P fn M call all (⟨d,.makeSlice t x y,ty,pos,af,none⟩ :: l) ⟨T,S,tk,n⟩ k tg=NS (mkA P t (opv T x) (opv T y)) (fun (m,sz,cs)=>RX P fn M call all l ⟨putT T d (.frz [] (.tok tk.length 0 sz)),S,tk++[0],n⟩ k .mk) .mk:=Yd hz.h
theorem Yf [Globs] [Ext P] {t:TypeId} {y:Operand} {tg:Tag (all,((⟨d,.makeSlice t (.tmp 10) y,ty,pos,af,none⟩:Oper) :: l),k)} (hz:CkT (fzL ⟨d,.makeSlice t (.tmp 10) y,ty,pos,af,none⟩ (.tmp 10))):RX P fn M call all (⟨d,.makeSlice t (.tmp 10) y,ty,pos,af,none⟩ :: l) ⟨T,S,tk,n⟩ k tg=NS (mkA P t (opv T (.tmp 10)) (opv T y)) (fun (m,sz,cs)=>RX P fn M call all l ⟨putT T d (tokA tk.length sz (Ms (Jc sz m cs))),S,tk++[0],n⟩ k .mk) .mk:=Ye hz.h
theorem RX_copy [Globs] [Ext P] {x y:Operand} {t t':TypeId} {tg:Tag (all,((⟨d,.call ⟨.builtin .copy,#[x,y],#[t,t']⟩,ty,pos,af,none⟩:Oper) :: l),k)} : RX P fn M call all (⟨d,.call ⟨.builtin .copy,#[x,y],#[t,t']⟩,ty,pos,af,none⟩ :: l) ⟨T,S,tk,n⟩ k tg=NS (cpA P t (opv T x) (opv T y) S) (fun (m,S')=>RX P fn M call all l ⟨putT T d (.int (m:Int)),S',tk,n⟩ k .mk) .mk:=As2
theorem RX_appendS [Globs] [Ext P] {x y:Operand} {t t':TypeId} {tg:Tag (all,((⟨d,.call ⟨.builtin .append,#[x,y],#[t,t']⟩,ty,pos,af,none⟩:Oper) :: l),k)} (ht:CkF ((t == t'))) (ho:CkF (@Globs.own (gM M) d ty)):RX P fn M call all (⟨d,.call ⟨.builtin .append,#[x,y],#[t,t']⟩,ty,pos,af,none⟩ :: l) ⟨T,S,tk,n⟩ k tg=NS (apS P t t' (opv T x) (opv T y) tk) (fun (v,tk')=>RX P fn M call all l ⟨putT T d v,S,tk',n⟩ k .mk) .mk:=Aht ht.h ho.h
theorem RX_nilCheck [Globs] [Ext P] {x:Operand} {tg:Tag (all,((⟨d,.nilCheck x,ty,pos,af,none⟩:Oper) :: l),k)} : RX P fn M call all (⟨d,.nilCheck x,ty,pos,af,none⟩ :: l) ⟨T,S,tk,n⟩ k tg=NX (chkM P (opv T x)) (fun v=>RX P fn M call all l ⟨putT T d v,S,tk,n⟩ k .mk) .mk:=Adc
theorem RX_min [Globs] [Ext P] {x y:Operand} {ats:Array TypeId} {tg:Tag (all,((⟨d,.call ⟨.builtin .min,#[x,y],ats⟩,ty,pos,af,none⟩:Oper) :: l),k)} : RX P fn M call all (⟨d,.call ⟨.builtin .min,#[x,y],ats⟩,ty,pos,af,none⟩ :: l) ⟨T,S,tk,n⟩ k tg=NX (minA (opv T x) (opv T y)) (fun v=>RX P fn M call all l ⟨putT T d v,S,tk,n⟩ k .mk) .mk:=Avs
theorem RX_max [Globs] [Ext P] {x y:Operand} {ats:Array TypeId} {tg:Tag (all,((⟨d,.call ⟨.builtin .max,#[x,y],ats⟩,ty,pos,af,none⟩:Oper) :: l),k)} : RX P fn M call all (⟨d,.call ⟨.builtin .max,#[x,y],ats⟩,ty,pos,af,none⟩ :: l) ⟨T,S,tk,n⟩ k tg=NX (maxA (opv T x) (opv T y)) (fun v=>RX P fn M call all l ⟨putT T d v,S,tk,n⟩ k .mk) .mk:=Avr
theorem cvA_int {s t:TypeId} {q:IntKind} {x:Int} : cvA P s t (.prim (.int q x))=Aal P s t (.prim (.int q x)):=rfl
theorem cvA_str {s t:TypeId} {b:ByteArray} : cvA P s t (.prim (.string b))=if (B1 P s && Ve P t && decide (b.size<=1048576))=true then some (.frz (bytesL b) .unk) else Aal P s t (.prim (.string b)):=rfl
theorem minA_int {q:IntKind} {x y:Int} : minA (.prim (.int q x)) (.prim (.int q y))=some (.prim (.int q (if y<x then y else x))):=by simp [minA]
theorem maxA_int {q:IntKind} {x y:Int} : maxA (.prim (.int q x)) (.prim (.int q y))=some (.prim (.int q (if y > x then y else x))):=by simp [maxA]
theorem aBin_refNil {b:BinOp} {t:TypeId} {i e o:Nat} : aBin P b t (.ref i e o) (.prim (.pointer none))=Lo b (Wu P t) false:=rfl
theorem aBin_fptrNil {b:BinOp} {t:TypeId} {cs:List AV} : aBin P b t (.fptr cs) (.prim (.pointer none))=Lo b (Wu P t) false:=rfl
theorem aBin_nilNil {b:BinOp} {t:TypeId} : aBin P b t (.prim (.pointer none)) (.prim (.pointer none))=Lo b (Wu P t) true:=rfl
theorem ptrNil_eql {r:Bool} : Lo .eql true r=some (.bool r):=rfl
theorem ptrNil_neq {r:Bool} : Lo .neq true r=some (.bool !r):=rfl
/- what returns -/
theorem fz3_tup {m:Nat} {vs:List AV} : fz3 m S (.tup vs)=.tup (vs.map (fz2 m S)):=rfl
theorem fz3_agg {m:Nat} {cs:List AV} : fz3 m S (.agg cs)=.agg (cs.map (fz1 m S)):=rfl
theorem fz3_prim {m:Nat} {v:Value} : fz3 m S (.prim v)=.prim v:=rfl
theorem fz3_frz {m:Nat} {es:List (List AV)} {c:Cap} : fz3 m S (.frz es c)=.frz es c:=rfl
theorem fz3_ref {m i e o:Nat} : fz3 m S (.ref i e o)=.ref i e o:=rfl
theorem fz3_fn {m:Nat} {f:FuncId} {cs:List AV} : fz3 m S (.fn f cs)=.fn f cs:=rfl
theorem fz3_sref {m i e o len sz:Nat} : fz3 m S (.sref i e o len sz)=fz1 m S (.sref i e o len sz):=rfl
theorem fz2_agg {m:Nat} {cs:List AV} : fz2 m S (.agg cs)=.agg (cs.map (fz1 m S)):=rfl
theorem fz2_prim {m:Nat} {v:Value} : fz2 m S (.prim v)=.prim v:=rfl
theorem fz2_frz {m:Nat} {es:List (List AV)} {c:Cap} : fz2 m S (.frz es c)=.frz es c:=rfl
theorem fz2_ref {m i e o:Nat} : fz2 m S (.ref i e o)=.ref i e o:=rfl
theorem fz2_fn {m:Nat} {f:FuncId} {cs:List AV} : fz2 m S (.fn f cs)=.fn f cs:=rfl
theorem fz2_sref {m i e o len sz:Nat} : fz2 m S (.sref i e o len sz)=fz1 m S (.sref i e o len sz):=rfl
theorem fz1_prim {m:Nat} {v:Value} : fz1 m S (.prim v)=.prim v:=rfl
theorem fz1_frz {m:Nat} {es:List (List AV)} {c:Cap} : fz1 m S (.frz es c)=.frz es c:=rfl
theorem fz1_ref {m i e o:Nat} : fz1 m S (.ref i e o)=.ref i e o:=rfl
theorem fz1_fn {m:Nat} {f:FuncId} {cs:List AV} : fz1 m S (.fn f cs)=.fn f cs:=rfl
theorem fz1_sref {m i e o len sz:Nat} (h:m<=i):fz1 m S (.sref i e o len sz)=fzB (entAt S i e) o len sz:=by simp [fz1,h]
theorem fz1_old {m i e o len sz:Nat} (h:i<m):fz1 m S (.sref i e o len sz)=.sref i e o len sz:=by simp [fz1]; omega
theorem fzB_some {cs:List AV} {o len sz:Nat} : fzB (some cs) o len sz=Ms (Jc sz len (cs.drop o)):=rfl
end
end
section
open Go
section
variable {P:Program}
def aggB (b:BinOp) (k:Option (List Nat)) (xs ys:List AV):Option AV :=
 match k with
 | some ks=>match b with
  | .eql=>(cellsEq ks xs ys).map .bool
  | .neq=>(cellsEq ks xs ys).map fun c=>.bool !c
  | _=>none
 | none=>none
theorem aBin_agg {b:BinOp} {t:TypeId} {xs ys:List AV} : aBin P b t (.agg xs) (.agg ys)=aggB b (Abh P t) xs ys:=rfl
theorem aggB_eql {ks:List Nat} {xs ys:List AV} : aggB .eql (some ks) xs ys=(cellsEq ks xs ys).map .bool:=rfl
theorem aggB_neq {ks:List Nat} {xs ys:List AV} : aggB .neq (some ks) xs ys=(cellsEq ks xs ys).map fun c=>.bool !c:=rfl
def nilB (b:BinOp) (r:Option Bool):Option AV :=
 match r with
 | some r=>match b with
  | .eql=>some (.bool r)
  | .neq=>some (.bool !r)
  | _=>none
 | none=>none
theorem aBin_nil {b:BinOp} {t:TypeId} {es:List (List AV)} {c:Cap} (h:(A6 P t).isSome=true):aBin P b t (.frz es c) (.frz [] .nilc)=nilB b (nilA es c):=by
 cases he:A6 P t with
 | none=>rw [he] at h; simp at h
 | some e=>cases hn:nilA es c <;> simp only [aBin,nilB,he,hn] <;> cases b <;> rfl
theorem nilB_eql {r:Bool} : nilB .eql (some r)=some (.bool r):=rfl
theorem nilB_neq {r:Bool} : nilB .neq (some r)=some (.bool !r):=rfl
theorem cellEq_int {q:IntKind} {a b:Int} : Ur 1 (.prim (.int q a)) (.prim (.int q b))=some (a == b):=by simp [Ur]
theorem cellEq_str {a b:ByteArray} : Ur 2 (.prim (.string a)) (.prim (.string b))=some (sEq a b):=rfl
theorem cellEq_bool {a b:Bool} : Ur 0 (.prim (.bool a)) (.prim (.bool b))=some (a == b):=rfl
def Awe (d s:Option IntKind) (n:Int):Option AV:=match d,s with|some k,some _=>some (.prim (.int k (k.wrap n)))|_,_=>none
theorem aConv_int {s d:TypeId} {q:IntKind} {n:Int} : Aal P s d (.prim (.int q n))=Awe (Ke P d) (Ke P s) n:=rfl
theorem convI_some {k q:IntKind} {n:Int} : Awe (some k) (some q) n=some (.prim (.int k (k.wrap n))):=rfl
theorem aConv_str {s d:TypeId} {b:ByteArray} : Aal P s d (.prim (.string b))=if (B1 P s && B1 P d)=true then some (.str b) else none:=rfl
/- append -/
def apB (sz:Option Nat) (es:List (List AV)) (c:Cap) (ys:List (List AV)) (tk:List Nat):Option (AV × List Nat) :=
 match sz with
 | some sz=>if Be tk c sz=true/\B2 sz es=true/\B2 sz ys=true/\Ano sz (es.length+ys.length)=true then some (.frz (es++ys) (Ay tk c sz),Eh tk c) else none
 | none=>none
theorem apA_eq {t:TypeId} {es ys:List (List AV)} {c c':Cap} {tk:List Nat} : apA P t (.frz es c) (.frz ys c') tk=apB (apT P t) es c ys tk:=by
 unfold apA apB; cases apT P t <;> rfl
theorem apB1_frz [Globs] {t:TypeId} {es ys:List (List AV)} {c c':Cap} {tk:List Nat} {S:List Ent} : apB1 P t (.frz es c) (.frz ys c') tk S=apB (apT P t) es c ys tk:=apA_eq
theorem apB_all {sz:Nat} {es ys:List (List AV)} {c:Cap} {tk:List Nat} (h1:Be tk c sz=true) (h2:B2 sz es=true) (h3:B2 sz ys=true) (h4:es.length+ys.length<=1048576):apB (some sz) es c ys tk=some (.frz (es++ys) (Ay tk c sz),Eh tk c):=by
 unfold apB; simp only; rw [if_pos ⟨h1,h2,h3,by unfold Ano; rw [decide_eq_true h4]; rfl⟩]
theorem apB_one {sz:Nat} {es:List (List AV)} {y:List AV} {c:Cap} {tk:List Nat} (h1:Be tk c sz=true) (h2:B2 sz es=true) (h3:(y.length == sz)=true) (h4:es.length+1<=1048576):apB (some sz) es c [y] tk=some (.frz (es++[y]) (Ay tk c sz),Eh tk c) :=
 apB_all h1 h2 (by simp [B2]; simpa using h3) (by simpa using h4)
theorem Ba {sz:Nat} {c:Cap} {tk:List Nat} (h:Be tk c sz=true):Be (Eh tk c) (Ay tk c sz) sz=true:=by
 have hn:∀ (l:List Nat) (i v:Nat),i<l.length->nth (put l i v) i=some v:=by
  intro l;induction l with
  | nil=>intro i v h; simp at h
  | cons a l ih =>
   intro i v h;cases i with
   | zero=>rfl
   | succ i=>exact ih i v aO
 cases c with
 | unk=>simp [Be] at h
 | nl=>simp [Be] at h
 | nn=>simp [Be] at h
 | tight=>simp only [Ay,Eh,Be,Af]; simp
 | nilc=>simp only [Ay,Eh,Be,Af]; simp
 | tok id ep s =>
  simp only [Be,Ch,beq_iff_eq] at h;simp only [Ay,Eh,Be,hn _ _ _ (Bl h.2)];simp
theorem Dh {α:Type} {f:α->List AV} {sz:Nat} (h:∀ a,(f a).length=sz) (l:List α):B2 sz (l.map f)=true:=by
 unfold B2; simp [h]
theorem Nd {sz:Nat} {z:List AV} (h:(z.length == sz+1 && z.all (fun c=>pure1 (w1 c)))=true):litA (some (sz+1)) (some z) 0 []=some (.frz [] .tight):=by
 simp only [Ch,beq_iff_eq] at h;rw [litA_some,if_pos ⟨h.1,h.2,by simp⟩]; rfl
/- variables behind the caller's -/
theorem entAt_mid {S:List Ent} {n:Nat} {cs:List AV} {e:Ent} : entAt (S++[⟨n,cs⟩]++[e]) S.length n=some cs:=L6 Bm
theorem Ah7 {S:List Ent} {e e':Ent} {id ep:Nat} {cs:List AV} (h:entAt S id ep=some cs):entAt (S++[e]++[e']) id ep=some cs:=L6 (L6 h)
theorem put_new {S:List Ent} {e e':Ent} : put (S++[e]) S.length e'=S++[e']:=by
 induction S with
 | nil=>rfl
 | cons a S ih=>simp only [Co,Cj,put,ih]
theorem put_mid {S:List Ent} {e e' e'':Ent} : put (S++[e]++[e'']) S.length e'=S++[e']++[e'']:=by
 induction S with
 | nil=>rfl
 | cons a S ih=>simp only [Co,Cj,put] at ih ⊢; rw [ih]
theorem take_two {S:List Ent} {e e':Ent} : (S++[e]++[e']).take S.length=S:=by
 rw [C6,List.take_left']; rfl
theorem P0 [Globs] [Ext P] {f:FuncId} {args args':List AV} {S:List Ent} {tk:List Nat} {n:Nat} (h:args.map w2=args'.map w2) (hp:(args.map w2).all pure2=true) (hx:(Ext.on P f || Ext.mv P f)=false):cL P f args S tk n=cL P f args' S tk n:=by
 simp only [F0] at hx;have:∀ k,evF P B0 k f args S tk n=evF P B0 k f args' S tk n:=by
  intro k;cases k with
  | zero=>rfl
  | succ k =>
   simp only [evF,hx.1,hx.2,C7,if_false];rw [h] at hp ⊢;simp only [hp,if_true]
 unfold cL;congr 1; funext k; exact this k
/- cells that are numbers -/
theorem Qp {cs:List AV} {v w:AV} : ∀ {i:Nat},nth cs i=some w->over cs i [v]=some (put cs i v):=by
 induction cs with
 | nil=>intro i h; simp [nth] at h
 | cons c cs ih=>intro i h; cases i with
  | zero=>cases cs <;> rfl
  | succ i=>simp only [over,ih (i:=i) h,put,Fa]
theorem Ph {α β:Type} {f:α->β} : ∀ {l:List α} {i:Nat} {v:α},put (l.map f) i (f v)=(put l i v).map f
 | [],_,_=>rfl
 | _ :: _,0,_=>rfl
 | _ :: l,i+1,_=>by simp only [Cm,put,Ph (l:=l)]
theorem V1 {α:Type} : ∀ {l:List α} {i:Nat} {v:α},put l i v=l.set i v
 | [],_,_=>rfl
 | _ :: _,0,_=>rfl
 | _ :: l,i+1,_=>by simp only [put,iC,V1 (l:=l)]
theorem Db {α:Type} {l:List α} {o:Nat} {x:α} (h:nth l o=some x):nth (l.drop o) 0=some x:=by
 rw [Af] at h ⊢;rw [iD]; exact h
theorem Aqf {v:AV} {c:Nat} : (Cg c [v]).flatten=Cg c v:=by
 induction c with
 | zero=>rfl
 | succ c ih=>simp [Oo,ih]
theorem Xz {α:Type} {f:α->AV} : ∀ {n:Nat} {l:List α},n<=l.length->Jc 1 n (l.map f)=some ((l.take n).map fun x=>[f x])
 | 0,_,_=>by simp [Jc]
 | n+1,[],h=>aR
 | n+1,x :: l,h=>by
  simp only [Cm,Jc,takeN,Fa,List.drop_succ_cons,Fz,Xz (n:=n) (l:=l) aO,He]
end
/- the equations of the evaluator,as one (simp takes it apart) -/
set_option linter.defProp false in
def evs:=Cc @KX_seq <|
 Cc @KX_skip <|
 Cc @KX_exit <|
 Cc @KX_ret <|
 Cc @KX_if <|
 Cc @KX_block <|
 Cc @KX_region <|
 Cc @KX_scope <|
 Cc @KX_label <|
 Cc @CX_seq <|
 Cc @CX_block <|
 Cc @CX_loop <|
 Cc @CX_loopK <|
 Cc @CX_exit_seq <|
 Cc @CX_exit_block <|
 Cc @CX_exit_loop <|
 Cc @CX_ret <|
 Cc @CX_ret_nil <|
 Cc @CX_normal_nil <|
 Cc @NX_some <|
 Cc @NS_some <|
 Cc @BR_true <|
 Cc @BR_false <|
 Cc @BR_not <|
 Cc @fin1_BR <|
 Cc @finS_BR <|
 Cc @RX_nil <|
 Cc @RX_guard <|
 Cc @RX_move <|
 Cc @RX_assign <|
 Cc @RX_pick <|
 Cc @RX_bin <|
 Cc @RX_un <|
 Cc @RX_conv <|
 Cc @RX_extract <|
 Cc @RX_field <|
 Cc @RX_indexAddr <|
 Cc @RX_fieldAddr <|
 Cc @RX_index <|
 Cc @RX_build <|
 Cc @RX_buildSlice <|
 Cc @RX_slice <|
 Cc @RX_makeFunc <|
 Cc @RX_makeBound <|
 Cc @RX_load <|
 Cc @ldG_off <|
 Cc @ldG_on <|
 Cc @RX_store <|
 Cc @RX_alloc <|
 Cc @RX_box <|
 Cc @RX_append <|
 Cc @RX_appendO <|
 Cc @RX_len <|
 Cc @RX_call <|
 Cc @RX_callL <|
 Cc @RX_callX <|
 Cc @RX_invoke <|
 Cc @RX_invokeL <|
 Cc @RX_makeM <|
 Cc @RX_makeI <|
 Cc @invV_ifc <|
 Cc @invF_some <|
 Cc @mthA_ifc <|
 Cc @ifcA_ok <|
 Cc @gO_refl <|
 Cc @chkM_ref <|
 Cc @chkM_fptr <|
 Cc @chkM_fn <|
 Cc @chkM_bfn <|
 Cc @chkM_ifc <|
 Cc @chkM_mfn <|
 Cc @RX_callV <|
 Cc @wantD_some <|
 Cc @wantV_bool <|
 Cc @wantV_undef <|
 Cc @DX_zero <|
 Cc @DX_succ <|
 Cc @asB_bool <|
 Cc @opv_tmp <|
 Cc @opv_const <|
 Cc @opv_func <|
 Cc @cst_int <|
 Cc @cst_bool <|
 Cc @cst_string <|
 Cc @cst_nil <|
 Cc @cst_ptr <|
 Cc @pickA_true <|
 Cc @pickA_false <|
 Cc @pickA_bool <|
 Cc @extA_tup <|
 Cc @fldV_agg <|
 Cc @bldA_some <|
 Cc @litA_some <|
 Cc @orLit_some <|
 Cc @orLit_none <|
 Cc @callV_fn <|
 Cc @callV_bfn <|
 Cc @aBin_int <|
 Cc @aBin_str <|
 Cc @aBin_bool <|
 Cc @fin1_some <|
 Cc @finS_some <|
 Cc @lenV_str <|
 Cc @lenV_frz <|
 Cc @lenV_sref <|
 Cc @Cm.{0,0} <|
 Cc @Cp.{0,0} <|
 Cc @Co.{0} <|
 Cc @Ct.{0} <|
 Cc @Cj.{0} <|
 Cc @Cv.{0} <|
 Cc @kX.{0} <|
 Cc @Fa.{0,0} <|
 Cc @Option.map_none.{0,0} <|
 Cc @Ov.{0,0} <|
 Cc @Option.bind_none.{0,0} <|
 Cc @Option.isSome_some.{0} <|
 Cc @beq_true <|
 Cc @beq_false <|
 Cc @Fq <|
 Cc @Fo <|
 Cc @jE <|
 Cc @S9 <|
 Cc @jU <|
 Cc @Bool.or_true <|
 Cc @Oe <|
 Cc @F5 <|
 Cc @Fs <|
 Cc @Fu <|
 Cc @C7 <|
 Cc @true_implies <|
 Cc @false_implies <|
 Cc @and_true <|
 Cc @true_and <|
 Cc @Fk <|
 Cc @fin1_NX_not <|
 Cc @fin1_NX_if <|
 Cc @fin1_NS_not <|
 Cc @fin1_NS_if <|
 Cc @finS_NX_not <|
 Cc @finS_NX_if <|
 Cc @finS_NS_not <|
 Cc @finS_NS_if <|
 Cc @Bg.{0} <|
 Cc @AV.tup.injEq <|
 Cc @AV.prim.injEq <|
 Cc @AV.agg.injEq <|
 Cc @AV.frz.injEq <|
 Cc @jO.injEq <|
 Cc @Value.bool.injEq <|
 Cc @Value.string.injEq <|
 Cc @jH.{0} <|
 Cc @decide_true <|
 Cc @decide_false <|
 Cc @lG.{0} <|
 Cc @List.take_nil.{0} <|
 Cc @He.{0} <|
 Cc @Sw.{0} <|
 Cc @List.all_nil.{0} <|
 Cc @Fz.{0} <|
 Cc @List.drop_succ_cons.{0} <|
 Cc @List.drop_nil.{0} <|
 Cc @Fg.{0,0} <|
 Cc @intN_cast <|
 Cc @intN_zero <|
 Cc @aBin_agg <|
 Cc @aggB_eql <|
 Cc @aggB_neq <|
 Cc @aBin_nil <|
 Cc @nilB_eql <|
 Cc @nilB_neq <|
 Cc @cellEq_int <|
 Cc @cellEq_str <|
 Cc @cellEq_bool <|
 Cc @apA_eq <|
 Cc @apB_one <|
 Cc @apB_all <|
 Cc @entAt_mid <|
 Cc @put_new <|
 Cc @put_mid <|
 Cc @take_two <|
 Cc @Oo.{0} <|
 Cc @List.replicate_zero.{0} <|
 Cc @aConv_int <|
 Cc @convI_some <|
 Cc @aConv_str <|
 Cc @RX_makeSlice <|
 Cc @RX_makeSlice0 <|
 Cc @RX_copy <|
 Cc @RX_appendS <|
 Cc @RX_nilCheck <|
 Cc @RX_min <|
 Cc @RX_max <|
 Cc @cvA_int <|
 Cc @cvA_str <|
 Cc @minA_int <|
 Cc @maxA_int <|
 Cc @aBin_refNil <|
 Cc @aBin_fptrNil <|
 Cc @aBin_nilNil <|
 Cc @ptrNil_eql <|
 Cc @ptrNil_neq <|
 Cc @fz3_tup <|
 Cc @fz3_agg <|
 Cc @fz3_prim <|
 Cc @fz3_frz <|
 Cc @fz3_ref <|
 Cc @fz3_fn <|
 Cc @fz3_sref <|
 Cc @fz2_agg <|
 Cc @fz2_prim <|
 Cc @fz2_frz <|
 Cc @fz2_ref <|
 Cc @fz2_fn <|
 Cc @fz2_sref <|
 Cc @fz1_prim <|
 Cc @fz1_frz <|
 Cc @fz1_ref <|
 Cc @fz1_fn <|
 Cc @fz1_sref <|
 Cc @fz1_old <|
 Cc @fzB_some <|
 Cc @finM_BR <|
 Cc @apB1_frz <|
 Cc @apM_false <|
 Cc @apM_look <|
 Cc @callM_look <|
 Cc @callM_vals <|
 Cc @apM_vals <|
 Cc @finM_some <|
 @Apq
theorem Iz {p:Prop} (h:p):p:=h
theorem dqd {p:Prop} (h:p:=by first|with_reducible assumption|exact ⟨rfl⟩|(refine Iz ?_; kernel_rfl)|omega):p:=h
section
variable {P:Program} {fn:Func} [Globs] [Ext P] {f:FuncId} {c:Code} {args args':List AV} {nt:Nat} {S:List Ent} {tk:List Nat} {n:Nat}
/- a call is opened: the function and the number of its slots are named -/
theorem opP {r : AV} (hf : P.funcs[f]? = some fn) (lx : fn.ntmps = nt) (h : fin1 (KX P fn c ⟨args' ++ bots (nt - args.length), [], [], 0⟩ [] .mk) = some r) (hx : (Ext.on P f || Ext.mv P f) = false := by exact rfl) (hb : fn.body = some c := by exact rfl) (ee : Ju c = false := by decide +kernel) (a7 : (fn.name == "runtime.NumGoroutine") = false := by decide +kernel) (aa : args.map w2 = args' := by exact rfl) (hp : args'.all pure2 = true := by exact rfl) (hp3 : pure3 r = true := by exact rfl) : cL P f args S tk n = some (r, S, tk, n) := Ak2 hf hx hb ee a7 lx aa hp S tk n hp3 h
theorem opS {r : AV × List Ent × List Nat × Nat} (hf : P.funcs[f]? = some fn) (lx : fn.ntmps = nt) (h : finS S.length (KX P fn c ⟨args ++ bots (nt - args.length), S, tk, n⟩ [] .mk) = some r) (hx : (Ext.on P f || Ext.mv P f) = false := by exact rfl) (hb : fn.body = some c := by exact rfl) (a7 : (fn.name == "runtime.NumGoroutine") = false := by decide +kernel) (hp : (args.map w2).all pure2 = false := by exact rfl) : cL P f args S tk n = some r := Uq hf hx hb a7 lx hp h
end
set_option linter.defProp false in
def evt:=Cc @evs <|
 Cc @KX_draw <|
 Cc @KX_drawQ <|
 Cc @KX_drawL <|
 Cc @KX_drawV <|
 Cc @KX_late <|
 Cc @openL_one <|
 Cc @openL_mk <|
 Cc @openL_old <|
 Cc @filtL_nil <|
 Cc @filtL_mk <|
 Cc @filtL_old <|
 Cc @KX_tail <|
 Cc @lastO_one <|
 Cc @lastO_more <|
 Cc @dropL_one <|
 Cc @dropL_more <|
 Cc @callP_eq <|
 Cc @callM_true <|
 Cc @LX_eq <|
 Cc @nth.eq_1 <|
 Cc @nth.eq_2 <|
 Cc @nth.eq_3 <|
 Cc @put.eq_1 <|
 Cc @put.eq_2 <|
 Cc @put.eq_3 <|
 Cc @putT.eq_def <|
 Cc @getT.eq_1 <|
 Cc @getT.eq_2 <|
 Cc @getT.eq_3 <|
 Cc @binInt.eq_def <|
 Cc @binStr.eq_def <|
 Cc @binBool.eq_def <|
 Cc @aUn.eq_def <|
 Cc @outA.eq_def <|
 Cc @resA.eq_def <|
 Cc @mapO.eq_1 <|
 Cc @mapO.eq_2 <|
 Cc @resA1.eq_def <|
 Cc @oneOf.eq_def <|
 Cc @w1.eq_def <|
 Cc @w2.eq_def <|
 Cc @w3.eq_def <|
 Cc @bots.eq_1 <|
 Cc @bots.eq_2 <|
 Cc @tabl.eq_1 <|
 Cc @tabl.eq_2 <|
 Cc @cellsOf.eq_def <|
 Cc @fldA.eq_def <|
 Cc @ldA.eq_def <|
 Cc @stA.eq_def <|
 Cc @partA.eq_def <|
 Cc @takeN.eq_1 <|
 Cc @takeN.eq_2 <|
 Cc @takeN.eq_3 <|
 Cc @over.eq_1 <|
 Cc @over.eq_2 <|
 Cc @over.eq_3 <|
 Cc @over.eq_4 <|
 Cc @over.eq_5 <|
 Cc @leafOk.eq_def <|
 Cc @idxA.eq_def <|
 Cc @nilA.eq_def <|
 Cc @cellsEq.eq_1 <|
 Cc @cellsEq.eq_2 <|
 Cc @cellsEq.eq_3 <|
 Cc @fillA.eq_1 <|
 Cc @fillA.eq_2 <|
 Cc @elemsA.eq_1 <|
 Cc @elemsA.eq_2 <|
 Cc @pure1.eq_def <|
 Cc @pure2.eq_def <|
 Cc @reps.eq_1 <|
 Cc @reps.eq_2 <|
 Cc @chkA.eq_def <|
 Cc @lastL.eq_def <|
 Cc @Value.oneCell'.eq_def <|
 Cc @cond_true.{1} <|
 Cc @cond_false.{1} <|
 Cc @if_true.{1} <|
 Cc @if_false.{1} <|
 Cc @ite_true.{1} <|
 Cc @ite_false.{1} <|
 Cc @implies_true.{1} <|
 Cc @BEq.rfl.{0} @beq_self_eq_true.{0}
end
end Go.Proofs.YthelkgdmgihhiaaGreat
