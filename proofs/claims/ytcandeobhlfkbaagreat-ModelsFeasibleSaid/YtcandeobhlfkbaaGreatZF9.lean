/- Part 9. -/
import Derived.Test.YtcandeobhlfkbaaGreatZF8
open And renaming intro->Bu
open Bool renaming and_eq_true->Ch,false_eq_true->C8,or_eq_false_iff->Fe,false_and->Fk,true_and->Fs,or_false->Fv,not_eq_true'->Ir,false_or->I1,true_or->Sr,not_true->Sz,not_false->T3,or_true->iN
open Go.Code renaming region->So
open Go.Proofs.YtcandeobhlfkbaaGreat.AV renaming int->Cd
open Go.Value renaming int->Sl
open List renaming replicate->Ci,length_cons->Ck,map_cons->Cp,cons_append->Cr,getElem?_append_left->Ct,length_nil->Cu,nil_append->Cw,getElem?_append_right->C6,append_assoc->Fa,map_nil->Fi,length_map->Fq,take_succ_cons->F1,append_nil->F4,drop_zero->F7,replicate_succ->Lg,getElem?_drop->Sq,all_cons->fU,set_cons_succ->gC,filter_cons_of_neg->gG,toList_toArray->iL,take_zero->iW,filter->iZ
open List.cons renaming injEq->I6
open Nat renaming le_refl->Cc,zero_add->Fg
open Option renaming map_eq_some_iff->Ca,map_some->C3,isNone_iff_eq_none->Ia,bind_some->I7
open Option.some renaming injEq->A2
open Prod.mk renaming injEq->Cg
namespace Go.Proofs.YtcandeobhlfkbaaGreat
section
section
variable {P:Program} {fn:Func} {M:Md} {call:B8} {all l:List Oper} {d:Option Tmp} {ty:TypeId} {pos:String} {af:Array Edge} {T:List AV} {S:List Ent} {tk:List Nat} {n:Nat} {k:List Kont}
def nx {β:Type} (x:Option AV) (f:AV->Option β):Option β:=match x with|some v=>f v|none=>none
def ns {α β:Type} (x:Option α) (f:α->Option β):Option β:=match x with|some v=>f v|none=>none
def wantD (T:List AV) (d:Option Tmp) (w:Bool):Option Bool :=
 match d with
 | none=>none
 | some d=>match getT T d with
  | .prim (.bool b)=>some (b == w)
  | .prim (.tuple _)=>some false
  | _=>none
def Amu (all:List Oper) (g:Nat):Option Tmp:=(nth all g).bind (·.dst)
def Aq4 (v:AV) (w:Bool):Option Bool:=match v with|.prim (.bool b)=>some (b == w)|.prim (.tuple _)=>some false|_=>none
theorem wantV_bool {b w:Bool} : Aq4 (.prim (.bool b)) w=some (b == w):=rfl
theorem wantV_undef {w:Bool} : Aq4 (.prim undef) w=some false:=rfl
theorem wantD_some {t:Tmp} {w:Bool} : wantD T (some t) w=Aq4 (getT T t) w:=rfl
theorem Al5 [Globs] [Ext P] {op:Op} {g:Nat} {w:Bool} : RO P fn M call all (⟨d,op,ty,pos,af,some (g,w)⟩ :: l) ⟨T,S,tk,n⟩ k =
  br (wantD T (Amu all g) w) (RO P fn M call all (⟨d,op,ty,pos,af,none⟩ :: l) ⟨T,S,tk,n⟩ k) (RO P fn M call all l ⟨putT T d (.prim undef),S,tk,n⟩ k):=by
 rw [Aba,Aba];have e:H4 all T ⟨d,op,ty,pos,af,some (g,w)⟩=wantD T (Amu all g) w:=by
  unfold H4 wantD Amu;simp only;cases (nth all g).bind (·.dst) <;> rfl
 rw [e];rfl
theorem Jy [Globs] [Ext P] {op:Op} : RO P fn M call all (⟨d,op,ty,pos,af,none⟩ :: l) ⟨T,S,tk,n⟩ k =
  match @evO (gM M) P call ⟨d,op,ty,pos,af,none⟩ ⟨T,S,tk,n⟩ with|some (v,st')=>if @chkO (gM M) P all ⟨d,op,ty,pos,af,none⟩ ⟨T,S,tk,n⟩ v st'=true then RO P fn M call all l { st' with T:=putT st'.T d v } k else none|none=>none:=by
 rw [Aba]; rfl
theorem Asa [G:Globs] {o:Oper} {st st':St} {v:AV} (hx:xOp o=false) (hl:isLd o=false):chkO P all o st v st'=true:=by
 unfold chkO;rw [hx,hl];cases (Globs.dr:Bool) <;> rfl
theorem Amn [G:Globs] {o:Oper} {st st':St} {v:AV} (h:(Globs.dr:Bool)=false):chkO P all o st v st'=true:=by
 unfold chkO;rw [h]; rfl
theorem D0 [Globs] [Ext P] {op:Op} (hx:@xOp (gM M) ⟨d,op,ty,pos,af,none⟩=false) (hl:isLd ⟨d,op,ty,pos,af,none⟩=false):RO P fn M call all (⟨d,op,ty,pos,af,none⟩ :: l) ⟨T,S,tk,n⟩ k =
  match @evO (gM M) P call ⟨d,op,ty,pos,af,none⟩ ⟨T,S,tk,n⟩ with|some (v,st')=>RO P fn M call all l { st' with T:=putT st'.T d v } k|none=>none:=by
 rw [Jy];cases @evO (gM M) P call ⟨d,op,ty,pos,af,none⟩ ⟨T,S,tk,n⟩ with
 | none=>rfl
 | some x =>
  simp only;rw [if_pos (Asa (G:=gM M) hx hl)]
theorem Ym [Globs] [Ext P] {op:Op} (hd:@Globs.dr (gM M)=false):RO P fn M call all (⟨d,op,ty,pos,af,none⟩ :: l) ⟨T,S,tk,n⟩ k =
  match @evO (gM M) P call ⟨d,op,ty,pos,af,none⟩ ⟨T,S,tk,n⟩ with|some (v,st')=>RO P fn M call all l { st' with T:=putT st'.T d v } k|none=>none:=by
 rw [Jy];cases @evO (gM M) P call ⟨d,op,ty,pos,af,none⟩ ⟨T,S,tk,n⟩ with
 | none=>rfl
 | some x =>
  simp only;rw [if_pos (Amn (G:=gM M) hd)]
theorem Dk [Globs] [Ext P] {op:Op} {x:Option AV} (h:@evO (gM M) P call ⟨d,op,ty,pos,af,none⟩ ⟨T,S,tk,n⟩=x.map fun v=>(v,⟨T,S,tk,n⟩)) (hx:@xOp (gM M) ⟨d,op,ty,pos,af,none⟩=false:=by rfl) (hl:isLd ⟨d,op,ty,pos,af,none⟩=false:=by rfl) :
  RO P fn M call all (⟨d,op,ty,pos,af,none⟩ :: l) ⟨T,S,tk,n⟩ k=nx x fun v=>RO P fn M call all l ⟨putT T d v,S,tk,n⟩ k:=by
 rw [D0 hx hl,h]; cases x <;> rfl
theorem Apg [Globs] [Ext P] {x:Operand} : RO P fn M call all (⟨d,.move x,ty,pos,af,none⟩ :: l) ⟨T,S,tk,n⟩ k=RO P fn M call all l ⟨putT T d (opv T x),S,tk,n⟩ k:=by rw [D0 rfl rfl]; rfl
theorem Ahm [Globs] [Ext P] {x:Operand} : RO P fn M call all (⟨d,.assign x,ty,pos,af,none⟩ :: l) ⟨T,S,tk,n⟩ k=RO P fn M call all l ⟨putT T d (opv T x),S,tk,n⟩ k:=by rw [D0 rfl rfl]; rfl
def Akf (c a b:AV):Option AV:=match c with|.prim (.bool t)=>some (if t then a else b)|_=>none
theorem pickA_true {a b:AV} : Akf (.prim (.bool true)) a b=some a:=rfl
theorem pickA_false {a b:AV} : Akf (.prim (.bool false)) a b=some b:=rfl
theorem pickA_bool {t x y:Bool} : Akf (.prim (.bool t)) (.prim (.bool x)) (.prim (.bool y))=some (.prim (.bool (bif t then x else y))):=by cases t <;> rfl
theorem Aph [Globs] [Ext P] {c a b:Operand} : RO P fn M call all (⟨d,.pick c a b,ty,pos,af,none⟩ :: l) ⟨T,S,tk,n⟩ k=nx (Akf (opv T c) (opv T a) (opv T b)) fun v=>RO P fn M call all l ⟨putT T d v,S,tk,n⟩ k:=Dk rfl
theorem Arn [Globs] [Ext P] {b:BinOp} {t u:TypeId} {x y:Operand} : RO P fn M call all (⟨d,.binOp b t x y u,ty,pos,af,none⟩ :: l) ⟨T,S,tk,n⟩ k=nx (aBin P b t (opv T x) (opv T y)) fun v=>RO P fn M call all l ⟨putT T d v,S,tk,n⟩ k:=Dk rfl
theorem RO_un [Globs] [Ext P] {u:UnOp} {t:TypeId} {x:Operand} : RO P fn M call all (⟨d,.unOp u t x,ty,pos,af,none⟩ :: l) ⟨T,S,tk,n⟩ k=nx (aUn u (opv T x)) fun v=>RO P fn M call all l ⟨putT T d v,S,tk,n⟩ k:=Dk rfl
theorem Apd [Globs] [Ext P] {s t:TypeId} {x:Operand} : RO P fn M call all (⟨d,.convert s t x,ty,pos,af,none⟩ :: l) ⟨T,S,tk,n⟩ k=nx (cvA P s t (opv T x)) fun v=>RO P fn M call all l ⟨putT T d v,S,tk,n⟩ k:=Dk rfl
def extA (v:AV) (i:Nat):Option AV:=match v with|.tup vs=>nth vs i|_=>none
theorem extA_tup {vs:List AV} {i:Nat} : extA (.tup vs) i=nth vs i:=rfl
theorem Afi [Globs] [Ext P] {x:Operand} {i:Nat} : RO P fn M call all (⟨d,.extract x i,ty,pos,af,none⟩ :: l) ⟨T,S,tk,n⟩ k=nx (extA (opv T x) i) fun v=>RO P fn M call all l ⟨putT T d v,S,tk,n⟩ k:=Dk rfl
def fldV (f:Option (Nat × Nat × Bool)) (x:AV):Option AV:=match f,x with|some (off,sz,b),.agg cs=>partA b sz (cs.drop off)|_,_=>none
theorem fldV_agg {off sz:Nat} {b:Bool} {cs:List AV} : fldV (some (off,sz,b)) (.agg cs)=partA b sz (cs.drop off):=rfl
theorem Al4 [Globs] [Ext P] {t:TypeId} {x:Operand} {i:Nat} : RO P fn M call all (⟨d,.field t x i,ty,pos,af,none⟩ :: l) ⟨T,S,tk,n⟩ k=nx (fldV (Az P t i) (opv T x)) fun v=>RO P fn M call all l ⟨putT T d v,S,tk,n⟩ k:=Dk (by
 simp only [evO,evQ,fldV];rfl)
theorem Yj [Globs] [Ext P] {t:TypeId} {x i:Operand} : RO P fn M call all (⟨d,.indexAddr t x i,ty,pos,af,none⟩ :: l) ⟨T,S,tk,n⟩ k=nx (idxA P t (opv T x) (opv T i)) fun v=>RO P fn M call all l ⟨putT T d v,S,tk,n⟩ k:=Dk rfl
theorem Yi [Globs] [Ext P] {t:TypeId} {x:Operand} {i:Nat} : RO P fn M call all (⟨d,.fieldAddr t x i,ty,pos,af,none⟩ :: l) ⟨T,S,tk,n⟩ k=nx (fldA P t (opv T x) i) fun v=>RO P fn M call all l ⟨putT T d v,S,tk,n⟩ k:=Dk rfl
def Ak6 (ok:Bool) (x:AV) (i:Option Nat):Option AV:=match x,i with|.prim (.string s),some k=>if ok then (s[k]?).map fun b=>.prim (.int .u8 b.toNat) else none|_,_=>none
theorem Al6 [Globs] [Ext P] {t:TypeId} {x i:Operand} : RO P fn M call all (⟨d,.index t x i,ty,pos,af,none⟩ :: l) ⟨T,S,tk,n⟩ k=nx (Ak6 (Bw P t) (opv T x) (intN (opv T i))) fun v=>RO P fn M call all l ⟨putT T d v,S,tk,n⟩ k:=Dk (by
 simp only [evO,evQ,Ak6];rfl)
def bldA (z:Option (List AV)) (pl:Option (List (Nat × Nat))) (ps:List (Nat × AV)):Option AV:=match z,pl with|some z,some pl=>(fillA pl z ps).map .agg|_,_=>none
theorem bldA_some {z:List AV} {pl:List (Nat × Nat)} {ps:List (Nat × AV)} : bldA (some z) (some pl) ps=(fillA pl z ps).map .agg:=rfl
theorem Al0 [Globs] [Ext P] {t:TypeId} {ps:Array (Nat × Operand)} : RO P fn M call all (⟨d,.build t ps,ty,pos,af,none⟩ :: l) ⟨T,S,tk,n⟩ k=nx (bldA (Ax P t) (fieldsOf P t) (ps.toList.map fun (i,x)=>(i,opv T x))) fun v=>RO P fn M call all l ⟨putT T d v,S,tk,n⟩ k:=Dk (by
 simp only [evO,evQ,bldA];rfl)
def litA (sz:Option Nat) (z:Option (List AV)) (len:Nat) (ps:List (Nat × AV)):Option AV:=match sz,z with
 | some (sz+1),some z=>if z.length=sz+1/\z.all (fun c=>pure1 (w1 c))=true/\len*(sz+1)<=4096 then Agb (elemsA (sz+1) (Ci len (z.map w1)) ps) (lit1 (sz+1) len ps) else none
 | _,_=>none
theorem orLit_some {es:List (List AV)} {x:Option AV} : Agb (some es) x=some (.frz es .tight):=rfl
theorem orLit_none {x:Option AV} : Agb none x=x:=rfl
def reps {α:Type} (x:α):Nat->List α|0=>[]|n+1=>x :: reps x n
theorem Akr {α:Type} (x:α):∀ n,Ci n x=reps x n|0=>rfl|n+1=>by rw [Lg,Akr x n]; rfl
theorem litA_some {sz:Nat} {z:List AV} {len:Nat} {ps:List (Nat × AV)} : litA (some (sz+1)) (some z) len ps=if z.length=sz+1/\z.all (fun c=>pure1 (w1 c))=true/\len*(sz+1)<=4096 then Agb (elemsA (sz+1) (reps (z.map w1) len) ps) (lit1 (sz+1) len ps) else none:=by
 rw [<- Akr]; rfl
theorem V7 [Globs] [Ext P] {t:TypeId} {len:Nat} {ps:Array (Nat × Operand)} : RO P fn M call all (⟨d,.buildSlice t len ps,ty,pos,af,none⟩ :: l) ⟨T,S,tk,n⟩ k =
  nx (litA ((A7 P t).bind (szOf P)) ((A7 P t).bind (Ax P)) len (ps.toList.map fun (i,x)=>(i,opv T x))) fun v=>RO P fn M call all l ⟨putT T d v,S,tk,n⟩ k:=Dk (by
 simp only [evO,evQ];congr 1;cases he:A7 P t with
 | none=>rfl
 | some e =>
  simp only [I7];unfold litA;cases szOf P e with
  | none=>rfl
  | some s=>cases s <;> cases Ax P e <;> rfl)
theorem Al9 [Globs] [Ext P] {t:TypeId} {x:Operand} {lo hi mx:Option Operand} : RO P fn M call all (⟨d,.slice t x lo hi mx,ty,pos,af,none⟩ :: l) ⟨T,S,tk,n⟩ k=nx (Kk P t (opv T x) (lo.map (opv T)) (hi.map (opv T)) (mx.map (opv T))) fun v=>RO P fn M call all l ⟨putT T d v,S,tk,n⟩ k:=Dk rfl
theorem Abb [Globs] [Ext P] {f:FuncId} {caps:Array Operand} : RO P fn M call all (⟨d,.makeFunc (.func f) #[] caps,ty,pos,af,none⟩ :: l) ⟨T,S,tk,n⟩ k =
  nx (if ((caps.toList.map (opv T)).all Kw)=true then some (.fn f (caps.toList.map (opv T))) else none) fun v=>RO P fn M call all l ⟨putT T d v,S,tk,n⟩ k:=Dk (by
 simp only [evO,evQ,List.all_map];have:(caps.toList.all fun x=>Kw (opv T x))=caps.toList.all (Kw ∘ opv T):=rfl;rw [this];by_cases hc:caps=#[]
 ·subst hc; simp
 ·have b9:caps.isEmpty=false:=by simpa using hc
  simp [b9])
theorem Yk [Globs] [Ext P] {f:FuncId} {x:Operand} : RO P fn M call all (⟨d,.makeFunc (.func f) #[x] #[],ty,pos,af,none⟩ :: l) ⟨T,S,tk,n⟩ k =
  RO P fn M call all l ⟨putT T d (.bfn f [opv T x]),S,tk,n⟩ k:=by
 rw [D0 rfl rfl];simp [evO,evQ]
structure CkF (b:Bool):Prop where
 h:b=false
structure CkT (b:Bool):Prop where
 h:b=true
def ldG (d:Bool) (x:Option AV):Option AV:=match x with|some v=>if (d && isB v)=true then none else some v|none=>none
theorem ldG_off {d:Bool} {x:Option AV} (h':CkF d):ldG d x=x:=by have h:=h'.h; subst h; cases x <;> rfl
theorem ldG_on {d:Bool} {v:AV} (h:CkF (isB v)):ldG d (some v)=some v:=by simp [ldG,h.h]
theorem Apf [Globs] [Ext P] {t:TypeId} {a:Operand} : RO P fn M call all (⟨d,.load t a,ty,pos,af,none⟩ :: l) ⟨T,S,tk,n⟩ k=nx (ldG (@Globs.dr (gM M)) (ldA P t (opv T a) S)) fun v=>RO P fn M call all l ⟨putT T d v,S,tk,n⟩ k:=by
 rw [Jy];simp only [evO];cases ldA P t (opv T a) S with
 | none=>rfl
 | some v =>
  simp only [C3,nx,ldG];have:@chkO (gM M) P all ⟨d,.load t a,ty,pos,af,none⟩ ⟨T,S,tk,n⟩ v ⟨T,S,tk,n⟩=!(@Globs.dr (gM M) && isB v):=by
   unfold chkO;cases @Globs.dr (gM M) <;> rfl
  rw [this];cases (@Globs.dr (gM M) && isB v) <;> rfl
theorem Ama [Globs] [Ext P] {t:TypeId} {a x:Operand} : RO P fn M call all (⟨none,.store t a x,ty,pos,af,none⟩ :: l) ⟨T,S,tk,n⟩ k=ns (stA P t (opv T a) (opv T x) S) fun S'=>RO P fn M call all l ⟨T,S',tk,n⟩ k:=by
 rw [D0 rfl rfl];simp only [evO];cases stA P t (opv T a) (opv T x) S <;> rfl
theorem Alz [Globs] [Ext P] {t:TypeId} : RO P fn M call all (⟨d,.alloc t,ty,pos,af,none⟩ :: l) ⟨T,S,tk,n⟩ k=ns (Ax P t) fun cs=>RO P fn M call all l ⟨putT T d (.ref S.length n 0),S++[⟨n,cs⟩],tk,n+1⟩ k:=by
 rw [D0 rfl rfl];simp only [evO];cases Ax P t <;> rfl
theorem Aro [Globs] [Ext P] {t:TypeId} {x:Operand} : RO P fn M call all (⟨d,.box t x,ty,pos,af,none⟩ :: l) ⟨T,S,tk,n⟩ k=ns (cellsOf (opv T x)) fun cs=>RO P fn M call all l ⟨putT T d (.ref S.length n 0),S++[⟨n,cs⟩],tk,n+1⟩ k:=by
 rw [D0 rfl rfl];simp only [evO];cases cellsOf (opv T x) <;> rfl
def apM [Globs] (M:Md) (P:Program) (t:TypeId) (x y:AV) (tk:List Nat) (S:List Ent):Option (AV × List Nat):=@apB1 (gM M) P t x y tk S
theorem apM_false [Globs] {t:TypeId} {x y:AV} : apM .no P t x y tk S=apB1 P t x y tk S:=rfl
theorem Amh [Globs] {t:TypeId} {x y:AV} : apM .quiet P t x y tk S=apA P t x y tk:=by simp [apM,apB1]
theorem apM_vals [Globs] {t:TypeId} {x y:AV} : apM .vals P t x y tk S=apB1 P t x y tk S:=rfl
theorem apM_look [Globs] {t:TypeId} {x y:AV} : apM .look P t x y tk S=apB1 P t x y tk S:=rfl
theorem Afg [Globs] [Ext P] {x y:Operand} {t:TypeId} (ho:@Globs.own (gM M) d ty=true):RO P fn M call all (⟨d,.call ⟨.builtin .append,#[x,y],#[t,t]⟩,ty,pos,af,none⟩ :: l) ⟨T,S,tk,n⟩ k=ns (apO P t (opv T x) (opv T y) S n) fun (v,S',n')=>RO P fn M call all l ⟨putT T d v,S',tk,n'⟩ k:=by
 rw [D0 rfl rfl];simp only [evO,Cp,Fi,if_true,ho];cases apO P t (opv T x) (opv T y) S n <;> rfl
theorem Ahl [Globs] [Ext P] {x y:Operand} {t:TypeId} (ho:@Globs.own (gM M) d ty=false):RO P fn M call all (⟨d,.call ⟨.builtin .append,#[x,y],#[t,t]⟩,ty,pos,af,none⟩ :: l) ⟨T,S,tk,n⟩ k=ns (apM M P t (opv T x) (opv T y) tk S) fun (v,tk')=>RO P fn M call all l ⟨putT T d v,S,tk',n⟩ k:=by
 rw [D0 rfl rfl];simp only [evO,Cp,Fi,if_true,ho,C8,if_false];unfold apM;cases @apB1 (gM M) P t (opv T x) (opv T y) tk S <;> rfl
def lenV (st sl:Bool) (x:AV):Option AV:=match x with
 | .prim (.string s)=>if st then some (.int s.size) else none
 | x=>if sl then (lenA x).map fun (n:Nat)=>Cd (n:Int) else none
theorem lenV_str {sl:Bool} {s:ByteArray} : lenV true sl (.prim (.string s))=some (.int s.size):=rfl
theorem lenV_frz {st:Bool} {es:List (List AV)} {c:Cap} : lenV st true (.frz es c)=some (.int es.length):=rfl
theorem lenV_sref {st:Bool} {id ep off len sz:Nat} : lenV st true (.sref id ep off len sz)=some (.int len):=rfl
theorem Arp [Globs] [Ext P] {x:Operand} {t:TypeId} : RO P fn M call all (⟨d,.call ⟨.builtin .len,#[x],#[t]⟩,ty,pos,af,none⟩ :: l) ⟨T,S,tk,n⟩ k=nx (lenV (Bw P t) (A7 P t).isSome (opv T x)) fun v=>RO P fn M call all l ⟨putT T d v,S,tk,n⟩ k:=Dk (by
 simp only [evO,evQ,Cp,Fi];congr 1;unfold lenV;cases opv T x with
 | prim v=>cases v <;> rfl
 | _=>rfl)
theorem Apc [Globs] [Ext P] {f:FuncId} {args:Array Operand} {ats:Array TypeId} (hx:(@Globs.dr (gM M) && @xF (gM M) f)=false):RO P fn M call all (⟨d,.call ⟨.value (.func f),args,ats⟩,ty,pos,af,none⟩ :: l) ⟨T,S,tk,n⟩ k =
  ns (call f (args.toList.map (opv T)) S tk n) fun (v,S',tk',n')=>RO P fn M call all l ⟨putT T d v,S',tk',n'⟩ k:=by
 rw [Jy];simp only [evO,E5,opv,F4];cases call f (args.toList.map (opv T)) S tk n with
 | none=>rfl
 | some x =>
  obtain ⟨v,S',tk',n'⟩:=x;simp only [C3,ns];rw [if_pos];unfold chkO;cases hd:@Globs.dr (gM M) with
  | false=>rfl
  | true =>
   rw [hd] at hx;have hx':@xOp (gM M) ⟨d,.call ⟨.value (.func f),args,ats⟩,ty,pos,af,none⟩=false:=hx;rw [hx']; rfl
noncomputable def gO (S S':List Ent):Option Unit:=by classical exact if Zx S S' then some () else none
theorem Aje {S S':List Ent} (h:Zx S S'):gO S S'=some ():=by unfold gO; rw [if_pos h]
theorem gO_refl {S:List Ent} : gO S S=some ():=Aje ⟨rfl,fun _=>.inl rfl⟩
noncomputable def reA (P:Program) (all:List Oper) (d:Option Tmp) (T:List AV) (S S':List Ent):Option Unit:=by classical exact if S.length<=S'.length/\(d.isSome=true->∀ q ∈ loadsB all d,Akw P T S' q) then some () else none
open Classical in
theorem Aom [G:Globs] {o:Oper} {st st':St} {v:AV} (h:lkOp o=true):chkO P all o st v st'=(gO st.S st'.S).isSome:=by
 obtain ⟨hd,hx⟩:=lk_x h;have ha:anOp o=false:=by simp [anOp,h]
 unfold chkO gO chkX;rw [hd,hx,h,ha];by_cases hg:Zx st.S st'.S
 ·rw [if_pos hg];exact @decide_eq_true _ (propDecidable _) ⟨fun _=>hg,fun h=>aN⟩
 ·rw [if_neg hg];exact @decide_eq_false _ (propDecidable _) fun h=>hg (h.1 rfl)
open Classical in
theorem Ar9 [G:Globs] {o:Oper} {st st':St} {v:AV} (h:anOp o=true):chkO P all o st v st'=(reA P all o.dst st.T st.S st'.S).isSome:=by
 obtain ⟨hd,hx⟩:=an_x h;have hl:lkOp o=false:=by
  unfold anOp at h;simp only [Ch,Ir] at h;exact h.2
 unfold chkO reA chkX;rw [hd,hx,h,hl];by_cases hg:st.S.length<=st'.S.length/\(o.dst.isSome=true->∀ q ∈ loadsB all o.dst,Akw P st.T st'.S q)
 ·rw [if_pos hg];exact @decide_eq_true _ (propDecidable _) ⟨fun h=>aN,fun _=>hg⟩
 ·rw [if_neg hg];exact @decide_eq_false _ (propDecidable _) fun h=>hg (h.2 rfl)
theorem Pl {α β:Type} {x:Option α} {b:Option β} : (if x.isSome=true then b else none)=ns x fun _=>b:=by cases x <;> rfl
theorem Al1 [Globs] [Ext P] {f:FuncId} {args:Array Operand} {ats:Array TypeId} (hx:@lkOp (gM M) ⟨d,.call ⟨.value (.func f),args,ats⟩,ty,pos,af,none⟩=true):RO P fn M call all (⟨d,.call ⟨.value (.func f),args,ats⟩,ty,pos,af,none⟩ :: l) ⟨T,S,tk,n⟩ k =
  ns (call f (args.toList.map (opv T)) S tk n) fun (v,S',tk',n')=>ns (gO S S') fun _=>RO P fn M call all l ⟨putT T d v,S',tk',n'⟩ k:=by
 rw [Jy];simp only [evO,E5,opv,F4];cases call f (args.toList.map (opv T)) S tk n with
 | none=>rfl
 | some x =>
  obtain ⟨v,S',tk',n'⟩:=x;simp only [C3,ns];rw [Aom (G:=gM M) hx,Pl]; rfl
theorem Al3 [Globs] [Ext P] {f:FuncId} {args:Array Operand} {ats:Array TypeId} (hx:@anOp (gM M) ⟨d,.call ⟨.value (.func f),args,ats⟩,ty,pos,af,none⟩=true):RO P fn M call all (⟨d,.call ⟨.value (.func f),args,ats⟩,ty,pos,af,none⟩ :: l) ⟨T,S,tk,n⟩ k =
  ns (call f (args.toList.map (opv T)) S tk n) fun (v,S',tk',n')=>ns (reA P all d T S S') fun _=>RO P fn M call all l ⟨putT T d v,S',tk',n'⟩ k:=by
 rw [Jy];simp only [evO,E5,opv,F4];cases call f (args.toList.map (opv T)) S tk n with
 | none=>rfl
 | some x =>
  obtain ⟨v,S',tk',n'⟩:=x;simp only [C3,ns];rw [Ar9 (G:=gM M) hx,Pl]; rfl
def invF (call:B8) (f:Option FuncId) (args:List AV) (S:List Ent) (tk:List Nat) (n:Nat):Option (AV × List Ent × List Nat × Nat):=match f with|some f=>call f args S tk n|none=>none
def invV (P:Program) (call:B8) (x:AV) (m:String) (args:List AV) (S:List Ent) (tk:List Nat) (n:Nat):Option (AV × List Ent × List Nat × Nat):=match x with|.ifc t v=>invF call (mRow P t m) (v :: args) S tk n|_=>none
theorem invV_ifc {t:TypeId} {v:AV} {m:String} {args:List AV} : invV P call (.ifc t v) m args S tk n=invF call (mRow P t m) (v :: args) S tk n:=rfl
theorem invF_some {f:FuncId} {args:List AV} : invF call (some f) args S tk n=call f args S tk n:=rfl
theorem Aiz [G:Globs] {x:Operand} {m:String} {args:Array Operand} {ats:Array TypeId} : evO P call ⟨d,.call ⟨.invoke x m,args,ats⟩,ty,pos,af,none⟩ ⟨T,S,tk,n⟩=(invV P call (opv T x) m (args.toList.map (opv T)) S tk n).map fun (v,S',tk',n')=>(v,⟨T,S',tk',n'⟩):=by
 simp only [evO,E5,invV,invF];cases opv T x with
 | ifc t v =>
  simp only;cases mRow P t m <;> rfl
 | _=>rfl
theorem Ahn [Globs] [Ext P] {x:Operand} {m:String} {args:Array Operand} {ats:Array TypeId} (hd:@Globs.dr (gM M)=false):RO P fn M call all (⟨d,.call ⟨.invoke x m,args,ats⟩,ty,pos,af,none⟩ :: l) ⟨T,S,tk,n⟩ k =
  ns (invV P call (opv T x) m (args.toList.map (opv T)) S tk n) fun (v,S',tk',n')=>RO P fn M call all l ⟨putT T d v,S',tk',n'⟩ k:=by
 rw [Ym hd,Aiz (G:=gM M)];cases invV P call (opv T x) m (args.toList.map (opv T)) S tk n <;> rfl
theorem Afj [Globs] [Ext P] {x:Operand} {m:String} {args:Array Operand} {ats:Array TypeId} (hd:@Globs.dr (gM M)=true):RO P fn M call all (⟨d,.call ⟨.invoke x m,args,ats⟩,ty,pos,af,none⟩ :: l) ⟨T,S,tk,n⟩ k =
  ns (invV P call (opv T x) m (args.toList.map (opv T)) S tk n) fun (v,S',tk',n')=>ns (gO S S') fun _=>RO P fn M call all l ⟨putT T d v,S',tk',n'⟩ k:=by
 have hl:@lkOp (gM M) ⟨d,.call ⟨.invoke x m,args,ats⟩,ty,pos,af,none⟩=true:=by
  unfold lkOp;rw [hd]; rfl
 rw [Jy,Aiz (G:=gM M)];cases invV P call (opv T x) m (args.toList.map (opv T)) S tk n with
 | none=>rfl
 | some x =>
  obtain ⟨v,S',tk',n'⟩:=x;simp only [C3,ns];rw [Aom (G:=gM M) hl,Pl]; rfl
theorem Al8 [Globs] [Ext P] {m:String} {x:Operand} : RO P fn M call all (⟨d,.makeFunc (.method m) #[x] #[],ty,pos,af,none⟩ :: l) ⟨T,S,tk,n⟩ k=nx (mthA m (opv T x)) fun v=>RO P fn M call all l ⟨putT T d v,S,tk,n⟩ k:=Dk (by simp [evO,evQ])
theorem mthA_ifc {m:String} {t:TypeId} {v:AV} : mthA m (.ifc t v)=some (.mfn t m v):=rfl
def ifcA (b:Bool) (t:TypeId) (v:AV):Option AV:=if b=true then none else some (.ifc t v)
theorem ifcA_ok {t:TypeId} {v:AV} : ifcA false t v=some (.ifc t v):=rfl
theorem Al7 [Globs] [Ext P] {t:TypeId} {x:Operand} : RO P fn M call all (⟨d,.makeInterface t x,ty,pos,af,none⟩ :: l) ⟨T,S,tk,n⟩ k=nx (ifcA (Afy P t) t (opv T x)) fun v=>RO P fn M call all l ⟨putT T d v,S,tk,n⟩ k:=Dk rfl
def Ah9 (call:B8) (f:AV) (args:List AV) (S:List Ent) (tk:List Nat) (n:Nat):Option (AV × List Ent × List Nat × Nat):=match f with|.fn f caps=>call f (args++caps) S tk n|.bfn f first=>call f (first++args) S tk n|_=>none
theorem callV_bfn {f:FuncId} {first args:List AV} : Ah9 call (.bfn f first) args S tk n=call f (first++args) S tk n:=rfl
theorem callV_fn {f:FuncId} {caps args:List AV} : Ah9 call (.fn f caps) args S tk n=call f (args++caps) S tk n:=rfl
theorem Al2 [Globs] [Ext P] {x:Tmp} {args:Array Operand} {ats:Array TypeId} (hx:(@Globs.dr (gM M) && @Globs.xAny (gM M))=false):RO P fn M call all (⟨d,.call ⟨.value (.tmp x),args,ats⟩,ty,pos,af,none⟩ :: l) ⟨T,S,tk,n⟩ k =
  ns (Ah9 call (getT T x) (args.toList.map (opv T)) S tk n) fun (v,S',tk',n')=>RO P fn M call all l ⟨putT T d v,S',tk',n'⟩ k:=by
 have hp:RO P fn M call all (⟨d,.call ⟨.value (.tmp x),args,ats⟩,ty,pos,af,none⟩ :: l) ⟨T,S,tk,n⟩ k=match @evO (gM M) P call ⟨d,.call ⟨.value (.tmp x),args,ats⟩,ty,pos,af,none⟩ ⟨T,S,tk,n⟩ with|some (v,st')=>RO P fn M call all l { st' with T:=putT st'.T d v } k|none=>none:=by
  cases hd:@Globs.dr (gM M) with
  | false=>exact Ym hd
  | true =>
   rw [hd] at hx;exact D0 hx rfl
 rw [hp];simp only [evO,E5,opv,Ah9];cases getT T x with
 | fn f caps =>
  simp only;cases call f (args.toList.map (opv T)++caps) S tk n <;> rfl
 | bfn f first =>
  simp only;cases call f (first++args.toList.map (opv T)) S tk n <;> rfl
 | _=>rfl
theorem aBin_int {b:BinOp} {t:TypeId} {q:IntKind} {x y:Int} : aBin P b t (.prim (.int q x)) (.prim (.int q y))=binInt b q x y:=by simp [aBin]
theorem aBin_str {b:BinOp} {t:TypeId} {x y:ByteArray} : aBin P b t (.prim (.string x)) (.prim (.string y))=binStr b x y:=rfl
def Ajm (P:Program) (t:TypeId):Bool:=match P.underlying t with|some .bool=>true|_=>false
theorem aBin_bool {b:BinOp} {t:TypeId} {x y:Bool} (h:Ajm P t=true):aBin P b t (.prim (.bool x)) (.prim (.bool y))=binBool b x y:=by
 unfold Ajm at h;split at h
 ·rename_i h'; simp [aBin,h']
 ·simp at h
theorem callP_eq [Globs] [Ext P] {f:FuncId} {args:List AV} : Eg P call f args S tk n=if (((args.map w2).all pure2 && !Ext.mv P f) || (shF f && P3 P f args.length && !Ext.mv P f && !Ext.on P f) || (xF f && Globs.dr))=true then call f args S tk n else none:=rfl
theorem callM_vals [Globs] [Ext P] {f:FuncId} {args:List AV} : Jl .vals P call f args S tk n=if (((args.map w2).all pure2 && !Ext.mv P f) || (shF f && P3 P f args.length && !Ext.mv P f && !Ext.on P f))=true then call f args S tk n else none:=by
 have:@Eg (gM .vals) P _ call f args S tk n=if (((args.map w2).all pure2 && !Ext.mv P f) || (shF f && P3 P f args.length && !Ext.mv P f && !Ext.on P f) || (false && true))=true then call f args S tk n else none:=rfl
 rw [Fk,Fv] at this;exact this
theorem callM_look [Globs] [Ext P] {f:FuncId} {args:List AV} : Jl .look P call f args S tk n=if (((args.map w2).all pure2 && !Ext.mv P f) || (shF f && P3 P f args.length && !Ext.mv P f && !Ext.on P f) || xF f)=true then call f args S tk n else none:=by
 have:@Eg (gM .look) P _ call f args S tk n=if (((args.map w2).all pure2 && !Ext.mv P f) || (shF f && P3 P f args.length && !Ext.mv P f && !Ext.on P f) || (xF f && true))=true then call f args S tk n else none:=rfl
 rw [Bool.and_true] at this;exact this
theorem callM_true [Globs] [Ext P] {f:FuncId} {args:List AV} : Jl .quiet P call f args S tk n=if ((args.map w2).all pure2 && !Ext.mv P f)=true then call f args S tk n else none:=by
 simp [Jl,Eg,shF,xF]
theorem opv_tmp {t:Tmp} : opv T (.tmp t)=getT T t:=rfl
theorem opv_const {v:Value} : opv T (.const v)=cst v:=rfl
theorem opv_func {f:FuncId} : opv T (.func f)=.fn f []:=rfl
theorem cst_int {q:IntKind} {x:Int} : cst (.int q x)=.prim (.int q x):=rfl
theorem cst_bool {b:Bool} : cst (.bool b)=.prim (.bool b):=rfl
theorem cst_string {s:ByteArray} : cst (.string s)=.prim (.string s):=rfl
theorem cst_nil:cst (.slice none 0 0)=.frz [] .nilc:=rfl
theorem cst_ptr:cst (.pointer none)=.prim (.pointer none):=rfl
theorem intN_cast {q:IntKind} {m:Nat} : intN (.prim (.int q (m:Int)))=some m:=by simp [intN]
theorem intN_zero {q:IntKind} : intN (.prim (.int q 0))=some 0:=rfl
inductive Tag {α:Type} (a:α):Type where|mk
def BR {β:Type} (w:Option Bool) (a b:Option β) (_:Tag (a,b)):Option β:=br w a b
def NX {β:Type} (x:Option AV) (f:AV->Option β) (_:Tag f):Option β:=nx x f
def NS {α β:Type} (x:Option α) (f:α->Option β) (_:Tag f):Option β:=ns x f
noncomputable def RX [Globs] (P:Program) [Ext P] (fn:Func) (M:Md) (call:B8) (all l:List Oper) (st:St) (k:List Kont) (_:Tag (all,l,k)):Option (AV × St):=RO P fn M call all l st k
noncomputable def KX [Globs] (P:Program) [Ext P] (fn:Func) (c:Code) (st:St) (k:List Kont) (_:Tag (c,k)):Option (AV × St):=RK P fn c st k
noncomputable def CX [Globs] (P:Program) [Ext P] (fn:Func) (e:Ex) (st:St) (k:List Kont) (_:Tag k):Option (AV × St):=cont P fn e st k
theorem NX_some {β:Type} {v:AV} {f:AV->Option β} {t:Tag f} : NX (some v) f t=f v:=rfl
theorem NS_some {α β:Type} {v:α} {f:α->Option β} {t:Tag f} : NS (some v) f t=f v:=rfl
theorem BR_true {β:Type} {a b:Option β} {t:Tag (a,b)} : BR (some true) a b t=a:=rfl
theorem BR_false {β:Type} {a b:Option β} {t:Tag (a,b)} : BR (some false) a b t=b:=rfl
theorem BR_not {β:Type} {x:Bool} {a b:Option β} {t:Tag (a,b)} : BR (some (!x)) a b t=BR (some x) b a .mk:=Ar8
theorem fin1_BR {x:Bool} {a b:Option (AV × St)} {r:AV} {t:Tag (a,b)} : fin1 (BR (some x) a b t)=some r↔(x=true->fin1 a=some r)/\(x=false->fin1 b=some r):=Ap2
theorem finS_BR {m:Nat} {x:Bool} {a b:Option (AV × St)} {r:AV × List Ent × List Nat × Nat} {t:Tag (a,b)} : finS m (BR (some x) a b t)=some r↔(x=true->finS m a=some r)/\(x=false->finS m b=some r):=Ap4
theorem finM_BR {x:Bool} {a b:Option (AV × St)} {r:AV × List Ent × List Nat × Nat} {t:Tag (a,b)} : finM (BR (some x) a b t)=some r↔(x=true->finM a=some r)/\(x=false->finM b=some r):=Ap3
variable {st:St}
theorem KX_seq [Globs] [Ext P] {a b:Code} {t:Tag (Code.seq a b,k)} : KX P fn (.seq a b) st k t=KX P fn a st (.seq b :: k) .mk:=Arm
theorem KX_skip [Globs] [Ext P] {t:Tag (Code.skip,k)} : KX P fn .skip st k t=CX P fn .normal st k .mk:=Apa
theorem KX_exit [Globs] [Ext P] {id:Nat} {t:Tag (Code.exit id,k)} : KX P fn (.exit id) st k t=CX P fn (.exit id) st k .mk:=Ao8
theorem KX_ret [Globs] [Ext P] {t:Tag (Code.ret,k)} : KX P fn .ret st k t=CX P fn .ret st k .mk:=Arl
theorem KX_if [Globs] [Ext P] {c:Operand} {a b:Code} {t:Tag (Code.cond c a b,k)} : KX P fn (.cond c a b) st k t=BR (asB (opv st.T c)) (KX P fn a st k .mk) (KX P fn b st k .mk) .mk:=RK_if
theorem KX_block [Globs] [Ext P] {id:Nat} {c:Code} {t:Tag (Code.block id c,k)} : KX P fn (.block id c) st k t=KX P fn c st (.block id :: k) .mk:=Alw
theorem KX_scope [Globs] [Ext P] {c:Code} {t:Tag (Code.scope c,k)} : KX P fn (.scope c) st k t=KX P fn c st k .mk:=Aly
theorem KX_label [Globs] [Ext P] {l:Nat} {t:Tag (Code.label l,k)} : KX P fn (.label l) st k t=CX P fn .normal st k .mk:=Alx
theorem KX_region [Globs] [Ext P] {id:Nat} {ops:List Oper} {t:Tag (So id ops.toArray false,k)} : KX P fn (.region id ops.toArray false) st k t=RX P fn .no (cL P) ops ops st k .mk:=Ahk
structure QmF [Globs] (ops:List Oper):Prop where
 h:mdOf ops=.no
structure QmT [Globs] (ops:List Oper):Prop where
 h:mdOf ops=.quiet
structure QmL [Globs] (ops:List Oper):Prop where
 h:mdOf ops=.look
structure QmV [Globs] (ops:List Oper):Prop where
 h:mdOf ops=.vals
structure TlF [Globs] (ops:List Oper):Prop where
 b:((Gw ops).isNone && (K2 ops).isNone)=true
theorem TlF.h [Globs] {ops:List Oper} (t:TlF ops):Gw ops=none:=Za01
theorem TlF.h2 [Globs] {ops:List Oper} (t:TlF ops):K2 ops=none:=Za0o
def Abx:List Oper->List Oper
 | []=>[]
 | [o]=>[o]
 | _ :: b :: l=>Abx (b :: l)
theorem lastO_one {o:Oper} : Abx [o]=[o]:=rfl
theorem lastO_more {a b:Oper} {l:List Oper} : Abx (a :: b :: l)=Abx (b :: l):=rfl
theorem dropL_one {o:Oper} : List.dropLast [o]=[]:=rfl
theorem dropL_more {a b:Oper} {l:List Oper} : List.dropLast (a :: b :: l)=a :: List.dropLast (b :: l):=rfl
structure TlT [Globs] (ops:List Oper):Prop where
 b:((Gw ops).isSome && ((Gw ops.dropLast).isNone && (K2 ops.dropLast).isNone))=true
theorem TlT.h [Globs] {ops:List Oper} (t:TlT ops):(Gw ops).isSome=true:=Za01
theorem TlT.h2 [Globs] {ops:List Oper} (t:TlT ops):Gw ops.dropLast=none:=by have:=t.b; simp only [Ch,Ia] at this; exact this.2.1
theorem TlT.h3 [Globs] {ops:List Oper} (t:TlT ops):K2 ops.dropLast=none:=by have:=t.b; simp only [Ch,Ia] at this; exact this.2.2
theorem KX_draw [Globs] [Ext P] {id:Nat} {ops:List Oper} {t:Tag (So id ops.toArray true,k)} (hq':QmF ops) (hs:TlF ops) (h:Db st ops=true):KX P fn (.region id ops.toArray true) st k t=RX P fn .no (Eg P (cL P)) ops ops st k .mk:=by
 have hq:=hq'.h;have e:Eg P (cL P)=Jl .no P (cL P):=rfl;rw [e,<- hq]; exact Q6 eM eK aJ
theorem KX_drawL [Globs] [Ext P] {id:Nat} {ops:List Oper} {t:Tag (So id ops.toArray true,k)} (hq':QmL ops) (hs:TlF ops) (h:Db st ops=true):KX P fn (.region id ops.toArray true) st k t=RX P fn .look (Jl .look P (cL P)) ops ops st k .mk:=by
 exact Yas
theorem KX_drawV [Globs] [Ext P] {id:Nat} {ops:List Oper} {t:Tag (So id ops.toArray true,k)} (hq':QmV ops) (hs:TlF ops) (h:Db st ops=true):KX P fn (.region id ops.toArray true) st k t=RX P fn .vals (Jl .vals P (cL P)) ops ops st k .mk:=by
 exact Yas
theorem KX_drawQ [Globs] [Ext P] {id:Nat} {ops:List Oper} {t:Tag (So id ops.toArray true,k)} (hq':QmT ops) (hs:TlF ops) (h:Db st ops=true):KX P fn (.region id ops.toArray true) st k t=RX P fn .quiet (Jl .quiet P (cL P)) ops ops st k .mk:=by
 exact Yas
theorem Ajq {L:List Oper} {o:Oper} {a:List Oper} (h:L=a++[o]):Abx L=[o]:=by
 subst h;induction a with
 | nil=>rfl
 | cons x a ih=>cases a with
  | nil=>rfl
  | cons y a=>exact ih
theorem KX_tail [Globs] [Ext P] {id:Nat} {ops:List Oper} {t:Tag (So id ops.toArray true,k)} (hs:TlT ops) (h:Db st ops.dropLast=true):KX P fn (.region id ops.toArray true) st k t=KX P fn (.region id ops.dropLast.toArray true) st (.seq (.region id (Abx ops).toArray false) :: k) .mk:=by
 have h1:=hs.h; have h2:=hs.h2; have h3:=hs.h3;cases pf:Gw ops with
 | none=>rw [pf] at h1; cases h1
 | some x =>
  obtain ⟨a,o⟩:=x;obtain ⟨hL,-⟩:=M1 pf;have hd:ops.dropLast=a:=by rw [hL]; simp
  rw [Ajq hL,hd];rw [hd] at h2 h3 h;exact Apb (by simpa using pf) h2 h3 h
structure TlL [Globs] (ops:List Oper):Prop where
 b:((Gw ops).isNone && (K2 ops).isSome)=true
theorem TlL.h [Globs] {ops:List Oper} (t:TlL ops):Gw ops=none:=Za01
theorem TlL.h2 [Globs] {ops:List Oper} (t:TlL ops):(K2 ops).isSome=true:=Za0o
structure Arg (o:Oper):Prop where
 h:isMk o=false
def lastL (ops:List Oper):List Oper:=(ops.filter isMk)++Abx ops
theorem openL_one {o:Oper} : openL [o]=[]:=rfl
theorem openL_mk {ds:Tmp} {t ty:TypeId} {pos:String} {af:Array Edge} {b:Oper} {l:List Oper} : openL (⟨some ds,.alloc t,ty,pos,af,none⟩ :: b :: l)=⟨some ds,.move (.global 0),ty,pos,af,none⟩ :: openL (b :: l):=rfl
theorem openL_old {o b:Oper} {l:List Oper} (h:Arg o):openL (o :: b :: l)=o :: openL (b :: l):=by
 show Uq o :: _=_;unfold Uq; rw [if_neg (by rw [h.h]; simp)]
theorem filtL_nil:iZ isMk []=[]:=rfl
theorem filtL_mk {ds:Tmp} {t ty:TypeId} {pos:String} {af:Array Edge} {l:List Oper} : iZ isMk (⟨some ds,.alloc t,ty,pos,af,none⟩ :: l)=⟨some ds,.alloc t,ty,pos,af,none⟩ :: iZ isMk l:=by rw [List.filter_cons_of_pos rfl]
theorem filtL_old {o:Oper} {l:List Oper} (h:Arg o):iZ isMk (o :: l)=iZ isMk l:=by rw [gG (by rw [h.h]; simp)]
theorem Nl:∀ {L:List Oper} {p:Nat} {al:Oper},Me L=some (p,al)->L.filter isMk=[al]
 | [],_,_,h=>by simp [Me] at h
 | o :: l,p,al,h=>by
  unfold Me at h;split at h
  ·rename_i hm;split at h
   ·rename_i hc;simp only [Ch,Ir] at hc;simp only [A2,Cg] at h;obtain ⟨-,rfl⟩:=h;rw [List.filter_cons_of_pos hm,List.filter_eq_nil_iff.2 fun x hx=>by simpa using List.any_eq_false.1 hc.2 x hx]
   ·cases h
  ·rename_i hm;simp only [Ca,Cg,Prod.exists] at h;obtain ⟨p',al',h,-,rfl⟩:=h;rw [gG hm]; exact Nl h
noncomputable def LX [Globs] (P:Program) [Ext P] (fn:Func) (id:Nat) (a z:List Oper) (st:St) (k:List Kont) (_:Tag (st,k)):Option (AV × St):=RX P fn .look (Jl .look P (cL P)) a a st (.seq (.region id z.toArray false) :: k) .mk
theorem LX_eq [Globs] [Ext P] {id:Nat} {a:Oper} {l z:List Oper} {tg:Tag (st,k)} : LX P fn id (a :: l) z st k tg=RX P fn .look (Jl .look P (cL P)) (a :: l) (a :: l) st (.seq (.region id z.toArray false) :: k) .mk:=rfl
theorem KX_late [Globs] [Ext P] {id:Nat} {ops:List Oper} {t:Tag (So id ops.toArray true,k)} (hs:TlL ops) (hq':QmL (openL ops)) (h:Db st (openL ops)=true):KX P fn (.region id ops.toArray true) st k t=LX P fn id (openL ops) (lastL ops) st k .mk:=by
 unfold LX;have h1:=hs.h; have h2:=hs.h2;have hq:=hq'.h;cases hl:K2 ops with
 | none=>rw [hl] at h2; cases h2
 | some x =>
  obtain ⟨p,al,o⟩:=x;obtain ⟨a,hL,-,ah,nh⟩:=Vk hl;have e:lastL ops=[al,o]:=by
   have hm:isMk o=false:=by
    unfold isSt at ah;unfold isMk;split at ah
    ·rename_i h; rw [h]
    ·cases ah
   unfold lastL;rw [Ajq hL,hL,List.filter_append,Nl nh,gG (by rw [hm]; simp)]; rfl
  rw [e];have:=Ao9 (P:=P) (fn:=fn) (st:=st) (k:=k) (id:=id) (ops:=ops.toArray) aR bP aJ;simp only [iL,hq] at this;exact this
theorem CX_seq [Globs] [Ext P] {c:Code} {t:Tag (Kont.seq c :: k)} : CX P fn .normal st (.seq c :: k) t=KX P fn c st k .mk:=rfl
theorem CX_block [Globs] [Ext P] {id:Nat} {t:Tag (Kont.block id :: k)} : CX P fn .normal st (.block id :: k) t=CX P fn .normal st k .mk:=rfl
theorem CX_loop [Globs] [Ext P] {c:Code} {m:Nat} {t:Tag (Kont.loop c m :: k)} (hk:CkF (Abw c)):CX P fn .normal st (.loop c m :: k) t=KX P fn (.loop c) { st with S:=st.S.take m } k .mk:=by
 exact Ya2s
theorem CX_loopK [Globs] [Ext P] {c:Code} {m:Nat} {t:Tag (Kont.loop c m :: k)} (hk:CkT (Abw c)):CX P fn .normal st (.loop c m :: k) t=KX P fn (.loop c) st k .mk:=by
 exact Ya2s
theorem CX_exit_seq [Globs] [Ext P] {c:Code} {id:Nat} {t:Tag (Kont.seq c :: k)} : CX P fn (.exit id) st (.seq c :: k) t=CX P fn (.exit id) st k .mk:=rfl
theorem CX_exit_block [Globs] [Ext P] {id id':Nat} {t:Tag (Kont.block id' :: k)} : CX P fn (.exit id) st (.block id' :: k) t=BR (some (id == id')) (CX P fn .normal st k .mk) (CX P fn (.exit id) st k .mk) .mk:=by
 show (if id=id' then cont P fn .normal st k else cont P fn (.exit id) st k)=br _ _ _;by_cases h:id=id'
 ·subst h; simp [br,CX]
 ·have e:(id == id')=false:=aJ
  rw [if_neg h,e]; rfl
theorem CX_exit_loop [Globs] [Ext P] {c:Code} {id m:Nat} {t:Tag (Kont.loop c m :: k)} : CX P fn (.exit id) st (.loop c m :: k) t=CX P fn (.exit id) st k .mk:=rfl
theorem CX_ret [Globs] [Ext P] {x:Kont} {t:Tag (x :: k)} : CX P fn .ret st (x :: k) t=CX P fn .ret st k .mk:=Amq
theorem CX_ret_nil [Globs] [Ext P] {t:Tag ([]:List Kont)} : CX P fn .ret st [] t=outA P fn (some (.ret,st)):=rfl
theorem CX_normal_nil [Globs] [Ext P] {t:Tag ([]:List Kont)} : CX P fn .normal st [] t=outA P fn (some (.normal,st)):=rfl
theorem RX_nil [Globs] [Ext P] {t:Tag (all,([]:List Oper),k)} : RX P fn M call all [] st k t=CX P fn .normal st k .mk:=rfl
theorem Ark [Globs] [Ext P] {c:Code} : RK P fn c st k=KX P fn c st k .mk:=rfl
def DX (all:List Oper) (g:Nat) (_:Tag all):Option Tmp:=Amu all g
theorem DX_zero {o:Oper} {tg:Tag (o :: l)} : DX (o :: l) 0 tg=o.dst:=rfl
theorem DX_succ {o:Oper} {g:Nat} {tg:Tag (o :: l)} : DX (o :: l) (g+1) tg=DX l g .mk:=rfl
theorem RX_guard [Globs] [Ext P] {op:Op} {g:Nat} {w:Bool} {tg:Tag (all,((⟨d,op,ty,pos,af,some (g,w)⟩:Oper) :: l),k)} : RX P fn M call all (⟨d,op,ty,pos,af,some (g,w)⟩ :: l) ⟨T,S,tk,n⟩ k tg=BR (wantD T (DX all g .mk) w) (RX P fn M call all (⟨d,op,ty,pos,af,none⟩ :: l) ⟨T,S,tk,n⟩ k .mk) (RX P fn M call all l ⟨putT T d (.prim undef),S,tk,n⟩ k .mk) .mk:=Al5
theorem RX_move [Globs] [Ext P] {x:Operand} {tg:Tag (all,((⟨d,.move x,ty,pos,af,none⟩:Oper) :: l),k)} : RX P fn M call all (⟨d,.move x,ty,pos,af,none⟩ :: l) ⟨T,S,tk,n⟩ k tg=RX P fn M call all l ⟨putT T d (opv T x),S,tk,n⟩ k .mk:=Apg
theorem RX_assign [Globs] [Ext P] {x:Operand} {tg:Tag (all,((⟨d,.assign x,ty,pos,af,none⟩:Oper) :: l),k)} : RX P fn M call all (⟨d,.assign x,ty,pos,af,none⟩ :: l) ⟨T,S,tk,n⟩ k tg=RX P fn M call all l ⟨putT T d (opv T x),S,tk,n⟩ k .mk:=Ahm
theorem RX_pick [Globs] [Ext P] {c a b:Operand} {tg:Tag (all,((⟨d,.pick c a b,ty,pos,af,none⟩:Oper) :: l),k)} : RX P fn M call all (⟨d,.pick c a b,ty,pos,af,none⟩ :: l) ⟨T,S,tk,n⟩ k tg=NX (Akf (opv T c) (opv T a) (opv T b)) (fun v=>RX P fn M call all l ⟨putT T d v,S,tk,n⟩ k .mk) .mk:=Aph
theorem RX_bin [Globs] [Ext P] {b:BinOp} {t u:TypeId} {x y:Operand} {tg:Tag (all,((⟨d,.binOp b t x y u,ty,pos,af,none⟩:Oper) :: l),k)} : RX P fn M call all (⟨d,.binOp b t x y u,ty,pos,af,none⟩ :: l) ⟨T,S,tk,n⟩ k tg=NX (aBin P b t (opv T x) (opv T y)) (fun v=>RX P fn M call all l ⟨putT T d v,S,tk,n⟩ k .mk) .mk:=Arn
theorem RX_un [Globs] [Ext P] {u:UnOp} {t:TypeId} {x:Operand} {tg:Tag (all,((⟨d,.unOp u t x,ty,pos,af,none⟩:Oper) :: l),k)} : RX P fn M call all (⟨d,.unOp u t x,ty,pos,af,none⟩ :: l) ⟨T,S,tk,n⟩ k tg=NX (aUn u (opv T x)) (fun v=>RX P fn M call all l ⟨putT T d v,S,tk,n⟩ k .mk) .mk:=RO_un
theorem RX_conv [Globs] [Ext P] {s t:TypeId} {x:Operand} {tg:Tag (all,((⟨d,.convert s t x,ty,pos,af,none⟩:Oper) :: l),k)} : RX P fn M call all (⟨d,.convert s t x,ty,pos,af,none⟩ :: l) ⟨T,S,tk,n⟩ k tg=NX (cvA P s t (opv T x)) (fun v=>RX P fn M call all l ⟨putT T d v,S,tk,n⟩ k .mk) .mk:=Apd
theorem RX_extract [Globs] [Ext P] {x:Operand} {i:Nat} {tg:Tag (all,((⟨d,.extract x i,ty,pos,af,none⟩:Oper) :: l),k)} : RX P fn M call all (⟨d,.extract x i,ty,pos,af,none⟩ :: l) ⟨T,S,tk,n⟩ k tg=NX (extA (opv T x) i) (fun v=>RX P fn M call all l ⟨putT T d v,S,tk,n⟩ k .mk) .mk:=Afi
theorem RX_field [Globs] [Ext P] {t:TypeId} {x:Operand} {i:Nat} {tg:Tag (all,((⟨d,.field t x i,ty,pos,af,none⟩:Oper) :: l),k)} : RX P fn M call all (⟨d,.field t x i,ty,pos,af,none⟩ :: l) ⟨T,S,tk,n⟩ k tg=NX (fldV (Az P t i) (opv T x)) (fun v=>RX P fn M call all l ⟨putT T d v,S,tk,n⟩ k .mk) .mk:=Al4
theorem RX_indexAddr [Globs] [Ext P] {t:TypeId} {x i:Operand} {tg:Tag (all,((⟨d,.indexAddr t x i,ty,pos,af,none⟩:Oper) :: l),k)} : RX P fn M call all (⟨d,.indexAddr t x i,ty,pos,af,none⟩ :: l) ⟨T,S,tk,n⟩ k tg=NX (idxA P t (opv T x) (opv T i)) (fun v=>RX P fn M call all l ⟨putT T d v,S,tk,n⟩ k .mk) .mk:=Yj
theorem RX_fieldAddr [Globs] [Ext P] {t:TypeId} {x:Operand} {i:Nat} {tg:Tag (all,((⟨d,.fieldAddr t x i,ty,pos,af,none⟩:Oper) :: l),k)} : RX P fn M call all (⟨d,.fieldAddr t x i,ty,pos,af,none⟩ :: l) ⟨T,S,tk,n⟩ k tg=NX (fldA P t (opv T x) i) (fun v=>RX P fn M call all l ⟨putT T d v,S,tk,n⟩ k .mk) .mk:=Yi
theorem RX_index [Globs] [Ext P] {t:TypeId} {x i:Operand} {tg:Tag (all,((⟨d,.index t x i,ty,pos,af,none⟩:Oper) :: l),k)} : RX P fn M call all (⟨d,.index t x i,ty,pos,af,none⟩ :: l) ⟨T,S,tk,n⟩ k tg=NX (Ak6 (Bw P t) (opv T x) (intN (opv T i))) (fun v=>RX P fn M call all l ⟨putT T d v,S,tk,n⟩ k .mk) .mk:=Al6
theorem RX_build [Globs] [Ext P] {t:TypeId} {ps:Array (Nat × Operand)} {tg:Tag (all,((⟨d,.build t ps,ty,pos,af,none⟩:Oper) :: l),k)} : RX P fn M call all (⟨d,.build t ps,ty,pos,af,none⟩ :: l) ⟨T,S,tk,n⟩ k tg=NX (bldA (Ax P t) (fieldsOf P t) (ps.toList.map fun (i,x)=>(i,opv T x))) (fun v=>RX P fn M call all l ⟨putT T d v,S,tk,n⟩ k .mk) .mk:=Al0
theorem RX_buildSlice [Globs] [Ext P] {t:TypeId} {len:Nat} {ps:Array (Nat × Operand)} {tg:Tag (all,((⟨d,.buildSlice t len ps,ty,pos,af,none⟩:Oper) :: l),k)} : RX P fn M call all (⟨d,.buildSlice t len ps,ty,pos,af,none⟩ :: l) ⟨T,S,tk,n⟩ k tg=NX (litA ((A7 P t).bind (szOf P)) ((A7 P t).bind (Ax P)) len (ps.toList.map fun (i,x)=>(i,opv T x))) (fun v=>RX P fn M call all l ⟨putT T d v,S,tk,n⟩ k .mk) .mk:=V7
theorem RX_slice [Globs] [Ext P] {t:TypeId} {x:Operand} {lo hi mx:Option Operand} {tg:Tag (all,((⟨d,.slice t x lo hi mx,ty,pos,af,none⟩:Oper) :: l),k)} : RX P fn M call all (⟨d,.slice t x lo hi mx,ty,pos,af,none⟩ :: l) ⟨T,S,tk,n⟩ k tg=NX (Kk P t (opv T x) (lo.map (opv T)) (hi.map (opv T)) (mx.map (opv T))) (fun v=>RX P fn M call all l ⟨putT T d v,S,tk,n⟩ k .mk) .mk:=Al9
theorem RX_makeFunc [Globs] [Ext P] {f:FuncId} {caps:Array Operand} {tg:Tag (all,((⟨d,.makeFunc (.func f) #[] caps,ty,pos,af,none⟩:Oper) :: l),k)} : RX P fn M call all (⟨d,.makeFunc (.func f) #[] caps,ty,pos,af,none⟩ :: l) ⟨T,S,tk,n⟩ k tg=NX (if ((caps.toList.map (opv T)).all Kw)=true then some (.fn f (caps.toList.map (opv T))) else none) (fun v=>RX P fn M call all l ⟨putT T d v,S,tk,n⟩ k .mk) .mk:=Abb
theorem RX_makeBound [Globs] [Ext P] {f:FuncId} {x:Operand} {tg:Tag (all,((⟨d,.makeFunc (.func f) #[x] #[],ty,pos,af,none⟩:Oper) :: l),k)} : RX P fn M call all (⟨d,.makeFunc (.func f) #[x] #[],ty,pos,af,none⟩ :: l) ⟨T,S,tk,n⟩ k tg=RX P fn M call all l ⟨putT T d (.bfn f [opv T x]),S,tk,n⟩ k .mk:=Yk
theorem RX_load [Globs] [Ext P] {t:TypeId} {a:Operand} {tg:Tag (all,((⟨d,.load t a,ty,pos,af,none⟩:Oper) :: l),k)} : RX P fn M call all (⟨d,.load t a,ty,pos,af,none⟩ :: l) ⟨T,S,tk,n⟩ k tg=NX (ldG (@Globs.dr (gM M)) (ldA P t (opv T a) S)) (fun v=>RX P fn M call all l ⟨putT T d v,S,tk,n⟩ k .mk) .mk:=Apf
theorem RX_store [Globs] [Ext P] {t:TypeId} {a x:Operand} {tg:Tag (all,((⟨none,.store t a x,ty,pos,af,none⟩:Oper) :: l),k)} : RX P fn M call all (⟨none,.store t a x,ty,pos,af,none⟩ :: l) ⟨T,S,tk,n⟩ k tg=NS (stA P t (opv T a) (opv T x) S) (fun S'=>RX P fn M call all l ⟨T,S',tk,n⟩ k .mk) .mk:=Ama
theorem RX_alloc [Globs] [Ext P] {t:TypeId} {tg:Tag (all,((⟨d,.alloc t,ty,pos,af,none⟩:Oper) :: l),k)} : RX P fn M call all (⟨d,.alloc t,ty,pos,af,none⟩ :: l) ⟨T,S,tk,n⟩ k tg=NS (Ax P t) (fun cs=>RX P fn M call all l ⟨putT T d (.ref S.length n 0),S++[⟨n,cs⟩],tk,n+1⟩ k .mk) .mk:=Alz
theorem RX_box [Globs] [Ext P] {t:TypeId} {x:Operand} {tg:Tag (all,((⟨d,.box t x,ty,pos,af,none⟩:Oper) :: l),k)} : RX P fn M call all (⟨d,.box t x,ty,pos,af,none⟩ :: l) ⟨T,S,tk,n⟩ k tg=NS (cellsOf (opv T x)) (fun cs=>RX P fn M call all l ⟨putT T d (.ref S.length n 0),S++[⟨n,cs⟩],tk,n+1⟩ k .mk) .mk:=Aro
theorem RX_appendO [Globs] [Ext P] {x y:Operand} {t:TypeId} {tg:Tag (all,((⟨d,.call ⟨.builtin .append,#[x,y],#[t,t]⟩,ty,pos,af,none⟩:Oper) :: l),k)} (ho:CkT (@Globs.own (gM M) d ty)):RX P fn M call all (⟨d,.call ⟨.builtin .append,#[x,y],#[t,t]⟩,ty,pos,af,none⟩ :: l) ⟨T,S,tk,n⟩ k tg=NS (apO P t (opv T x) (opv T y) S n) (fun (v,S',n')=>RX P fn M call all l ⟨putT T d v,S',tk,n'⟩ k .mk) .mk:=Afg ho.h
theorem RX_append [Globs] [Ext P] {x y:Operand} {t:TypeId} {tg:Tag (all,((⟨d,.call ⟨.builtin .append,#[x,y],#[t,t]⟩,ty,pos,af,none⟩:Oper) :: l),k)} (ho:CkF (@Globs.own (gM M) d ty)):RX P fn M call all (⟨d,.call ⟨.builtin .append,#[x,y],#[t,t]⟩,ty,pos,af,none⟩ :: l) ⟨T,S,tk,n⟩ k tg=NS (apM M P t (opv T x) (opv T y) tk S) (fun (v,tk')=>RX P fn M call all l ⟨putT T d v,S,tk',n⟩ k .mk) .mk:=Ahl ho.h
theorem RX_len [Globs] [Ext P] {x:Operand} {t:TypeId} {tg:Tag (all,((⟨d,.call ⟨.builtin .len,#[x],#[t]⟩,ty,pos,af,none⟩:Oper) :: l),k)} : RX P fn M call all (⟨d,.call ⟨.builtin .len,#[x],#[t]⟩,ty,pos,af,none⟩ :: l) ⟨T,S,tk,n⟩ k tg=NX (lenV (Bw P t) (A7 P t).isSome (opv T x)) (fun v=>RX P fn M call all l ⟨putT T d v,S,tk,n⟩ k .mk) .mk:=Arp
theorem RX_call [Globs] [Ext P] {f:FuncId} {args:Array Operand} {ats:Array TypeId} {tg:Tag (all,((⟨d,.call ⟨.value (.func f),args,ats⟩,ty,pos,af,none⟩:Oper) :: l),k)} (hx:CkF ((@Globs.dr (gM M) && @xF (gM M) f))):RX P fn M call all (⟨d,.call ⟨.value (.func f),args,ats⟩,ty,pos,af,none⟩ :: l) ⟨T,S,tk,n⟩ k tg=NS (call f (args.toList.map (opv T)) S tk n) (fun (v,S',tk',n')=>RX P fn M call all l ⟨putT T d v,S',tk',n'⟩ k .mk) .mk:=Apc hx.h
theorem RX_callL [Globs] [Ext P] {f:FuncId} {args:Array Operand} {ats:Array TypeId} {tg:Tag (all,((⟨d,.call ⟨.value (.func f),args,ats⟩,ty,pos,af,none⟩:Oper) :: l),k)} (hx:CkT (@lkOp (gM M) ⟨d,.call ⟨.value (.func f),args,ats⟩,ty,pos,af,none⟩)):RX P fn M call all (⟨d,.call ⟨.value (.func f),args,ats⟩,ty,pos,af,none⟩ :: l) ⟨T,S,tk,n⟩ k tg=NS (call f (args.toList.map (opv T)) S tk n) (fun (v,S',tk',n')=>NS (gO S S') (fun _=>RX P fn M call all l ⟨putT T d v,S',tk',n'⟩ k .mk) .mk) .mk:=Al1 hx.h
theorem RX_callX [Globs] [Ext P] {f:FuncId} {args:Array Operand} {ats:Array TypeId} {tg:Tag (all,((⟨d,.call ⟨.value (.func f),args,ats⟩,ty,pos,af,none⟩:Oper) :: l),k)} (hx:CkT (@anOp (gM M) ⟨d,.call ⟨.value (.func f),args,ats⟩,ty,pos,af,none⟩)):RX P fn M call all (⟨d,.call ⟨.value (.func f),args,ats⟩,ty,pos,af,none⟩ :: l) ⟨T,S,tk,n⟩ k tg=NS (call f (args.toList.map (opv T)) S tk n) (fun (v,S',tk',n')=>NS (reA P all d T S S') (fun _=>RX P fn M call all l ⟨putT T d v,S',tk',n'⟩ k .mk) .mk) .mk:=Al3 hx.h
theorem RX_invoke [Globs] [Ext P] {x:Operand} {m:String} {args:Array Operand} {ats:Array TypeId} {tg:Tag (all,((⟨d,.call ⟨.invoke x m,args,ats⟩,ty,pos,af,none⟩:Oper) :: l),k)} (hd:CkF (@Globs.dr (gM M))):RX P fn M call all (⟨d,.call ⟨.invoke x m,args,ats⟩,ty,pos,af,none⟩ :: l) ⟨T,S,tk,n⟩ k tg=NS (invV P call (opv T x) m (args.toList.map (opv T)) S tk n) (fun (v,S',tk',n')=>RX P fn M call all l ⟨putT T d v,S',tk',n'⟩ k .mk) .mk:=Ahn hd.h
theorem RX_invokeL [Globs] [Ext P] {x:Operand} {m:String} {args:Array Operand} {ats:Array TypeId} {tg:Tag (all,((⟨d,.call ⟨.invoke x m,args,ats⟩,ty,pos,af,none⟩:Oper) :: l),k)} (hd:CkT (@Globs.dr (gM M))):RX P fn M call all (⟨d,.call ⟨.invoke x m,args,ats⟩,ty,pos,af,none⟩ :: l) ⟨T,S,tk,n⟩ k tg=NS (invV P call (opv T x) m (args.toList.map (opv T)) S tk n) (fun (v,S',tk',n')=>NS (gO S S') (fun _=>RX P fn M call all l ⟨putT T d v,S',tk',n'⟩ k .mk) .mk) .mk:=Afj hd.h
theorem RX_makeM [Globs] [Ext P] {m:String} {x:Operand} {tg:Tag (all,((⟨d,.makeFunc (.method m) #[x] #[],ty,pos,af,none⟩:Oper) :: l),k)} : RX P fn M call all (⟨d,.makeFunc (.method m) #[x] #[],ty,pos,af,none⟩ :: l) ⟨T,S,tk,n⟩ k tg=NX (mthA m (opv T x)) (fun v=>RX P fn M call all l ⟨putT T d v,S,tk,n⟩ k .mk) .mk:=Al8
theorem RX_makeI [Globs] [Ext P] {t:TypeId} {x:Operand} {tg:Tag (all,((⟨d,.makeInterface t x,ty,pos,af,none⟩:Oper) :: l),k)} : RX P fn M call all (⟨d,.makeInterface t x,ty,pos,af,none⟩ :: l) ⟨T,S,tk,n⟩ k tg=NX (ifcA (Afy P t) t (opv T x)) (fun v=>RX P fn M call all l ⟨putT T d v,S,tk,n⟩ k .mk) .mk:=Al7
theorem RX_callV [Globs] [Ext P] {x:Tmp} {args:Array Operand} {ats:Array TypeId} {tg:Tag (all,((⟨d,.call ⟨.value (.tmp x),args,ats⟩,ty,pos,af,none⟩:Oper) :: l),k)} (hx:CkF ((@Globs.dr (gM M) && @Globs.xAny (gM M)))):RX P fn M call all (⟨d,.call ⟨.value (.tmp x),args,ats⟩,ty,pos,af,none⟩ :: l) ⟨T,S,tk,n⟩ k tg=NS (Ah9 call (getT T x) (args.toList.map (opv T)) S tk n) (fun (v,S',tk',n')=>RX P fn M call all l ⟨putT T d v,S',tk',n'⟩ k .mk) .mk:=Al2 hx.h
theorem fin1_NX_not {c:Prop} [Decidable c] {v:AV} {f:AV->Option (AV × St)} {tg:Tag f} {r:AV} : fin1 (NX (if c then none else some v) f tg)=some r↔¬ c/\fin1 (f v)=some r:=by
 exact Ya0o
theorem fin1_NX_if {c:Prop} [Decidable c] {v:AV} {f:AV->Option (AV × St)} {tg:Tag f} {r:AV} : fin1 (NX (if c then some v else none) f tg)=some r↔c/\fin1 (f v)=some r:=by
 exact Ya0p
theorem fin1_NS_not {α:Type} {c:Prop} [Decidable c] {v:α} {f:α->Option (AV × St)} {tg:Tag f} {r:AV} : fin1 (NS (if c then none else some v) f tg)=some r↔¬ c/\fin1 (f v)=some r:=by
 exact Ya0o
theorem fin1_NS_if {α:Type} {c:Prop} [Decidable c] {v:α} {f:α->Option (AV × St)} {tg:Tag f} {r:AV} : fin1 (NS (if c then some v else none) f tg)=some r↔c/\fin1 (f v)=some r:=by
 exact Ya0p
theorem finS_NX_not {m:Nat} {c:Prop} [Decidable c] {v:AV} {f:AV->Option (AV × St)} {tg:Tag f} {r:AV × List Ent × List Nat × Nat} : finS m (NX (if c then none else some v) f tg)=some r↔¬ c/\finS m (f v)=some r:=by
 exact Ya0o
theorem finS_NX_if {m:Nat} {c:Prop} [Decidable c] {v:AV} {f:AV->Option (AV × St)} {tg:Tag f} {r:AV × List Ent × List Nat × Nat} : finS m (NX (if c then some v else none) f tg)=some r↔c/\finS m (f v)=some r:=by
 exact Ya0p
theorem finS_NS_not {m:Nat} {α:Type} {c:Prop} [Decidable c] {v:α} {f:α->Option (AV × St)} {tg:Tag f} {r:AV × List Ent × List Nat × Nat} : finS m (NS (if c then none else some v) f tg)=some r↔¬ c/\finS m (f v)=some r:=by
 exact Ya0o
theorem finS_NS_if {m:Nat} {α:Type} {c:Prop} [Decidable c] {v:α} {f:α->Option (AV × St)} {tg:Tag f} {r:AV × List Ent × List Nat × Nat} : finS m (NS (if c then some v else none) f tg)=some r↔c/\finS m (f v)=some r:=by
 exact Ya0p
theorem loop1 [Globs] [Ext P] {ι:Type} {c:Code} {tg:Tag (Code.loop c,k)} (I:ι->St->Prop) (μ:ι->Nat) (G:ι->AV) (x:ι)
  (h:∀ x st,I x st->(∀ y st',μ y<μ x->I y st'->fin1 (KX P fn (.loop c) st' k .mk)=some (G y))->fin1 (KX P fn c st (.loop c st.S.length :: k) .mk)=some (G x)) {st:St} (h0:I x st):fin1 (KX P fn (.loop c) st k tg)=some (G x) :=
 Aj0 I μ G h h0
theorem Af5 [Globs] [Ext P] {ι:Type} {c:Code} {m:Nat} {tg:Tag (Code.loop c,k)} (I:ι->St->Prop) (μ:ι->Nat) (G:ι->AV × List Ent × List Nat × Nat) (x:ι)
  (h:∀ x st,I x st->(∀ y st',μ y<μ x->I y st'->finS m (KX P fn (.loop c) st' k .mk)=some (G y))->finS m (KX P fn c st (.loop c st.S.length :: k) .mk)=some (G x)) {st:St} (h0:I x st):finS m (KX P fn (.loop c) st k tg)=some (G x) :=
 Af6 I μ G h h0
def tabl:Nat->(Nat->AV)->List AV
 | 0,_=>[]
 | n+1,g=>g 0 :: tabl n fun i=>g (i+1)
theorem Au:∀ {n:Nat} {T:List AV},T.length=n->∃ g,(∀ t,getT T t=g t)/\T=tabl n g
 | 0,[],_=>⟨fun _=>.bot,fun _=>rfl,rfl⟩
 | n+1,x :: T,h=>by
  obtain ⟨g,h1,h2⟩:=Au (n:=n) (T:=T) aJ;exact ⟨fun|0=>x|i+1=>g i,fun|0=>rfl|i+1=>h1 i,by rw [h2]; rfl⟩
 | 0,_ :: _,h=>aN
 | _+1,[],h=>aN
theorem Bz {S:List Ent} {n:Nat} {cs:List AV} : entAt (S++[⟨n,cs⟩]) S.length n=some cs:=by
 unfold entAt;rw [Ae,C6 (Cc _)];simp
theorem Nf {S:List Ent} {e:Ent} {id ep:Nat} {cs:List AV} (h:entAt S id ep=some cs):entAt (S++[e]) id ep=some cs:=by
 obtain ⟨x,h1,h2,h3⟩:=Dz h;unfold entAt;have hl:=Bh h1;rw [Ae] at h1 ⊢;rw [Ct hl,h1];simp [h2,h3]
theorem chkM_ref {i e o:Nat} : chkM P (.ref i e o)=some (.ref i e o):=rfl
theorem chkM_fptr {cs:List AV} : chkM P (.fptr cs)=some (.fptr cs):=rfl
theorem chkM_fn {f:FuncId} {cs:List AV} : chkM P (.fn f cs)=some (.fn f cs):=rfl
theorem chkM_bfn {f:FuncId} {cs:List AV} : chkM P (.bfn f cs)=some (.bfn f cs):=rfl
theorem chkM_ifc {t:TypeId} {v:AV} : chkM P (.ifc t v)=some (.ifc t v):=rfl
theorem chkM_mfn {t:TypeId} {m:String} {v:AV} (h:(mRow P t m).isSome=true):chkM P (.mfn t m v)=some (.mfn t m v):=by simp [chkM,h]
theorem Yl [Globs] [Ext P] {t:TypeId} {x y:Operand} (hz:W0 ⟨d,.makeSlice t x y,ty,pos,af,none⟩ x=false):RO P fn M call all (⟨d,.makeSlice t x y,ty,pos,af,none⟩ :: l) ⟨T,S,tk,n⟩ k =
  ns (mkA P t (opv T x) (opv T y)) fun (m,sz,cs)=>RO P fn M call all l ⟨putT T d (.sref S.length n 0 m sz),S++[⟨n,cs⟩],tk,n+1⟩ k:=by
 rw [D0 rfl rfl];simp only [evO,hz];cases mkA P t (opv T x) (opv T y) <;> rfl
theorem V8 [Globs] [Ext P] {t:TypeId} {x y:Operand} (hz:len0 x=true):RO P fn M call all (⟨d,.makeSlice t x y,ty,pos,af,none⟩ :: l) ⟨T,S,tk,n⟩ k =
  ns (mkA P t (opv T x) (opv T y)) fun (m,sz,cs)=>RO P fn M call all l ⟨putT T d (.frz [] (.tok tk.length 0 sz)),S,tk++[0],n⟩ k:=by
 rw [D0 rfl rfl];simp only [evO,W0,hz,Sr];cases mkA P t (opv T x) (opv T y) <;> rfl
theorem Ape [Globs] [Ext P] {x y:Operand} {t t':TypeId} : RO P fn M call all (⟨d,.call ⟨.builtin .copy,#[x,y],#[t,t']⟩,ty,pos,af,none⟩ :: l) ⟨T,S,tk,n⟩ k =
  ns (cpA P t (opv T x) (opv T y) S) fun (m,S')=>RO P fn M call all l ⟨putT T d (.int (m:Int)),S',tk,n⟩ k:=by
 rw [D0 rfl rfl];simp only [evO,Cp,Fi];cases cpA P t (opv T x) (opv T y) S <;> rfl
theorem Afh [Globs] [Ext P] {x y:Operand} {t t':TypeId} (ht:(t == t')=false) (ho:@Globs.own (gM M) d ty=false):RO P fn M call all (⟨d,.call ⟨.builtin .append,#[x,y],#[t,t']⟩,ty,pos,af,none⟩ :: l) ⟨T,S,tk,n⟩ k =
  ns (apS P t t' (opv T x) (opv T y) tk) fun (v,tk')=>RO P fn M call all l ⟨putT T d v,S,tk',n⟩ k:=by
 have y3:¬ t=t':=by simpa using ht
 rw [D0 rfl rfl];simp only [evO,Cp,Fi,if_neg y3,ho,C8,if_false];cases apS P t t' (opv T x) (opv T y) tk <;> rfl
theorem Abc [Globs] [Ext P] {x:Operand} : RO P fn M call all (⟨d,.nilCheck x,ty,pos,af,none⟩ :: l) ⟨T,S,tk,n⟩ k=nx (chkM P (opv T x)) fun v=>RO P fn M call all l ⟨putT T d v,S,tk,n⟩ k:=Dk rfl
theorem Arr [Globs] [Ext P] {x y:Operand} {ats:Array TypeId} : RO P fn M call all (⟨d,.call ⟨.builtin .min,#[x,y],ats⟩,ty,pos,af,none⟩ :: l) ⟨T,S,tk,n⟩ k=nx (minA (opv T x) (opv T y)) fun v=>RO P fn M call all l ⟨putT T d v,S,tk,n⟩ k:=Dk rfl
theorem Arq [Globs] [Ext P] {x y:Operand} {ats:Array TypeId} : RO P fn M call all (⟨d,.call ⟨.builtin .max,#[x,y],ats⟩,ty,pos,af,none⟩ :: l) ⟨T,S,tk,n⟩ k=nx (maxA (opv T x) (opv T y)) fun v=>RO P fn M call all l ⟨putT T d v,S,tk,n⟩ k:=Dk rfl
theorem RX_makeSlice [Globs] [Ext P] {t:TypeId} {x y:Operand} {tg:Tag (all,((⟨d,.makeSlice t x y,ty,pos,af,none⟩:Oper) :: l),k)} (hz:CkF (W0 ⟨d,.makeSlice t x y,ty,pos,af,none⟩ x)):RX P fn M call all (⟨d,.makeSlice t x y,ty,pos,af,none⟩ :: l) ⟨T,S,tk,n⟩ k tg=NS (mkA P t (opv T x) (opv T y)) (fun (m,sz,cs)=>RX P fn M call all l ⟨putT T d (.sref S.length n 0 m sz),S++[⟨n,cs⟩],tk,n+1⟩ k .mk) .mk:=Yl hz.h
theorem RX_makeSlice0 [Globs] [Ext P] {t:TypeId} {x y:Operand} {tg:Tag (all,((⟨d,.makeSlice t x y,ty,pos,af,none⟩:Oper) :: l),k)} (hz:CkT (len0 x)):RX P fn M call all (⟨d,.makeSlice t x y,ty,pos,af,none⟩ :: l) ⟨T,S,tk,n⟩ k tg=NS (mkA P t (opv T x) (opv T y)) (fun (m,sz,cs)=>RX P fn M call all l ⟨putT T d (.frz [] (.tok tk.length 0 sz)),S,tk++[0],n⟩ k .mk) .mk:=V8 hz.h
theorem RX_copy [Globs] [Ext P] {x y:Operand} {t t':TypeId} {tg:Tag (all,((⟨d,.call ⟨.builtin .copy,#[x,y],#[t,t']⟩,ty,pos,af,none⟩:Oper) :: l),k)} : RX P fn M call all (⟨d,.call ⟨.builtin .copy,#[x,y],#[t,t']⟩,ty,pos,af,none⟩ :: l) ⟨T,S,tk,n⟩ k tg=NS (cpA P t (opv T x) (opv T y) S) (fun (m,S')=>RX P fn M call all l ⟨putT T d (.int (m:Int)),S',tk,n⟩ k .mk) .mk:=Ape
theorem RX_appendS [Globs] [Ext P] {x y:Operand} {t t':TypeId} {tg:Tag (all,((⟨d,.call ⟨.builtin .append,#[x,y],#[t,t']⟩,ty,pos,af,none⟩:Oper) :: l),k)} (ht:CkF ((t == t'))) (ho:CkF (@Globs.own (gM M) d ty)):RX P fn M call all (⟨d,.call ⟨.builtin .append,#[x,y],#[t,t']⟩,ty,pos,af,none⟩ :: l) ⟨T,S,tk,n⟩ k tg=NS (apS P t t' (opv T x) (opv T y) tk) (fun (v,tk')=>RX P fn M call all l ⟨putT T d v,S,tk',n⟩ k .mk) .mk:=Afh ht.h ho.h
theorem RX_nilCheck [Globs] [Ext P] {x:Operand} {tg:Tag (all,((⟨d,.nilCheck x,ty,pos,af,none⟩:Oper) :: l),k)} : RX P fn M call all (⟨d,.nilCheck x,ty,pos,af,none⟩ :: l) ⟨T,S,tk,n⟩ k tg=NX (chkM P (opv T x)) (fun v=>RX P fn M call all l ⟨putT T d v,S,tk,n⟩ k .mk) .mk:=Abc
theorem RX_min [Globs] [Ext P] {x y:Operand} {ats:Array TypeId} {tg:Tag (all,((⟨d,.call ⟨.builtin .min,#[x,y],ats⟩,ty,pos,af,none⟩:Oper) :: l),k)} : RX P fn M call all (⟨d,.call ⟨.builtin .min,#[x,y],ats⟩,ty,pos,af,none⟩ :: l) ⟨T,S,tk,n⟩ k tg=NX (minA (opv T x) (opv T y)) (fun v=>RX P fn M call all l ⟨putT T d v,S,tk,n⟩ k .mk) .mk:=Arr
theorem RX_max [Globs] [Ext P] {x y:Operand} {ats:Array TypeId} {tg:Tag (all,((⟨d,.call ⟨.builtin .max,#[x,y],ats⟩,ty,pos,af,none⟩:Oper) :: l),k)} : RX P fn M call all (⟨d,.call ⟨.builtin .max,#[x,y],ats⟩,ty,pos,af,none⟩ :: l) ⟨T,S,tk,n⟩ k tg=NX (maxA (opv T x) (opv T y)) (fun v=>RX P fn M call all l ⟨putT T d v,S,tk,n⟩ k .mk) .mk:=Arq
theorem cvA_int {s t:TypeId} {q:IntKind} {x:Int} : cvA P s t (.prim (.int q x))=Yq P s t (.prim (.int q x)):=rfl
theorem cvA_str {s t:TypeId} {b:ByteArray} : cvA P s t (.prim (.string b))=if (Bw P s && R6 P t && decide (b.size<=1048576))=true then some (.frz (bytesL b) .unk) else Yq P s t (.prim (.string b)):=rfl
theorem minA_int {q:IntKind} {x y:Int} : minA (.prim (.int q x)) (.prim (.int q y))=some (.prim (.int q (if y<x then y else x))):=by simp [minA]
theorem maxA_int {q:IntKind} {x y:Int} : maxA (.prim (.int q x)) (.prim (.int q y))=some (.prim (.int q (if y > x then y else x))):=by simp [maxA]
theorem aBin_refNil {b:BinOp} {t:TypeId} {i e o:Nat} : aBin P b t (.ref i e o) (.prim (.pointer none))=Kh b (Uo P t) false:=rfl
theorem aBin_fptrNil {b:BinOp} {t:TypeId} {cs:List AV} : aBin P b t (.fptr cs) (.prim (.pointer none))=Kh b (Uo P t) false:=rfl
theorem aBin_nilNil {b:BinOp} {t:TypeId} : aBin P b t (.prim (.pointer none)) (.prim (.pointer none))=Kh b (Uo P t) true:=rfl
theorem ptrNil_eql {r:Bool} : Kh .eql true r=some (.bool r):=rfl
theorem ptrNil_neq {r:Bool} : Kh .neq true r=some (.bool !r):=rfl
/- what returns -/
theorem fz3_tup {m:Nat} {vs:List AV} : fz3 m S (.tup vs)=.tup (vs.map (fz2 m S)):=rfl
theorem fz3_agg {m:Nat} {cs:List AV} : fz3 m S (.agg cs)=.agg (cs.map (fz1 m S)):=rfl
theorem fz3_prim {m:Nat} {v:Value} : fz3 m S (.prim v)=.prim v:=rfl
theorem fz3_frz {m:Nat} {es:List (List AV)} {c:Cap} : fz3 m S (.frz es c)=.frz es c:=rfl
theorem fz3_ref {m i e o:Nat} : fz3 m S (.ref i e o)=.ref i e o:=rfl
theorem fz3_fn {m:Nat} {f:FuncId} {cs:List AV} : fz3 m S (.fn f cs)=.fn f cs:=rfl
theorem fz3_sref {m i e o len sz:Nat} : fz3 m S (.sref i e o len sz)=fz1 m S (.sref i e o len sz):=rfl
theorem fz2_agg {m:Nat} {cs:List AV} : fz2 m S (.agg cs)=.agg (cs.map (fz1 m S)):=rfl
theorem fz2_prim {m:Nat} {v:Value} : fz2 m S (.prim v)=.prim v:=rfl
theorem fz2_frz {m:Nat} {es:List (List AV)} {c:Cap} : fz2 m S (.frz es c)=.frz es c:=rfl
theorem fz2_ref {m i e o:Nat} : fz2 m S (.ref i e o)=.ref i e o:=rfl
theorem fz2_fn {m:Nat} {f:FuncId} {cs:List AV} : fz2 m S (.fn f cs)=.fn f cs:=rfl
theorem fz2_sref {m i e o len sz:Nat} : fz2 m S (.sref i e o len sz)=fz1 m S (.sref i e o len sz):=rfl
theorem fz1_prim {m:Nat} {v:Value} : fz1 m S (.prim v)=.prim v:=rfl
theorem fz1_frz {m:Nat} {es:List (List AV)} {c:Cap} : fz1 m S (.frz es c)=.frz es c:=rfl
theorem fz1_ref {m i e o:Nat} : fz1 m S (.ref i e o)=.ref i e o:=rfl
theorem fz1_fn {m:Nat} {f:FuncId} {cs:List AV} : fz1 m S (.fn f cs)=.fn f cs:=rfl
theorem fz1_sref {m i e o len sz:Nat} (h:m<=i):fz1 m S (.sref i e o len sz)=fzB (entAt S i e) o len sz:=by simp [fz1,h]
theorem fz1_old {m i e o len sz:Nat} (h:i<m):fz1 m S (.sref i e o len sz)=.sref i e o len sz:=by simp [fz1]; omega
theorem fzB_some {cs:List AV} {o len sz:Nat} : fzB (some cs) o len sz=P8 (Jq sz len (cs.drop o)):=rfl
end
end
section
open Go
section
variable {P:Program}
def aggB (b:BinOp) (k:Option (List Nat)) (xs ys:List AV):Option AV :=
 match k with
 | some ks=>match b with
  | .eql=>(cellsEq ks xs ys).map .bool
  | .neq=>(cellsEq ks xs ys).map fun c=>.bool !c
  | _=>none
 | none=>none
theorem aBin_agg {b:BinOp} {t:TypeId} {xs ys:List AV} : aBin P b t (.agg xs) (.agg ys)=aggB b (Zq P t) xs ys:=rfl
theorem aggB_eql {ks:List Nat} {xs ys:List AV} : aggB .eql (some ks) xs ys=(cellsEq ks xs ys).map .bool:=rfl
theorem aggB_neq {ks:List Nat} {xs ys:List AV} : aggB .neq (some ks) xs ys=(cellsEq ks xs ys).map fun c=>.bool !c:=rfl
def nilB (b:BinOp) (r:Option Bool):Option AV :=
 match r with
 | some r=>match b with
  | .eql=>some (.bool r)
  | .neq=>some (.bool !r)
  | _=>none
 | none=>none
theorem aBin_nil {b:BinOp} {t:TypeId} {es:List (List AV)} {c:Cap} (h:(A7 P t).isSome=true):aBin P b t (.frz es c) (.frz [] .nilc)=nilB b (nilA es c):=by
 cases he:A7 P t with
 | none=>rw [he] at h; simp at h
 | some e=>cases hn:nilA es c <;> simp only [aBin,nilB,he,hn] <;> cases b <;> rfl
theorem nilB_eql {r:Bool} : nilB .eql (some r)=some (.bool r):=rfl
theorem nilB_neq {r:Bool} : nilB .neq (some r)=some (.bool !r):=rfl
theorem cellEq_int {q:IntKind} {a b:Int} : Rf 1 (.prim (.int q a)) (.prim (.int q b))=some (a == b):=by simp [Rf]
theorem cellEq_str {a b:ByteArray} : Rf 2 (.prim (.string a)) (.prim (.string b))=some (sEq a b):=rfl
theorem cellEq_bool {a b:Bool} : Rf 0 (.prim (.bool a)) (.prim (.bool b))=some (a == b):=rfl
def Asc (d s:Option IntKind) (n:Int):Option AV:=match d,s with|some k,some _=>some (.prim (.int k (k.wrap n)))|_,_=>none
theorem aConv_int {s d:TypeId} {q:IntKind} {n:Int} : Yq P s d (.prim (.int q n))=Asc (Jm P d) (Jm P s) n:=rfl
theorem convI_some {k q:IntKind} {n:Int} : Asc (some k) (some q) n=some (.prim (.int k (k.wrap n))):=rfl
theorem aConv_str {s d:TypeId} {b:ByteArray} : Yq P s d (.prim (.string b))=if (Bw P s && Bw P d)=true then some (.str b) else none:=rfl
/- append -/
def apB (sz:Option Nat) (es:List (List AV)) (c:Cap) (ys:List (List AV)) (tk:List Nat):Option (AV × List Nat) :=
 match sz with
 | some sz=>if Bd tk c sz=true/\B9 sz es=true/\B9 sz ys=true/\Agp sz (es.length+ys.length)=true then some (.frz (es++ys) (Bg tk c sz),G6 tk c) else none
 | none=>none
theorem apA_eq {t:TypeId} {es ys:List (List AV)} {c c':Cap} {tk:List Nat} : apA P t (.frz es c) (.frz ys c') tk=apB (apT P t) es c ys tk:=by
 unfold apA apB; cases apT P t <;> rfl
theorem apB1_frz [Globs] {t:TypeId} {es ys:List (List AV)} {c c':Cap} {tk:List Nat} {S:List Ent} : apB1 P t (.frz es c) (.frz ys c') tk S=apB (apT P t) es c ys tk:=apA_eq
theorem apB_all {sz:Nat} {es ys:List (List AV)} {c:Cap} {tk:List Nat} (h1:Bd tk c sz=true) (h2:B9 sz es=true) (h3:B9 sz ys=true) (h4:es.length+ys.length<=1048576):apB (some sz) es c ys tk=some (.frz (es++ys) (Bg tk c sz),G6 tk c):=by
 unfold apB; simp only; rw [if_pos ⟨h1,h2,h3,by unfold Agp; rw [decide_eq_true h4]; rfl⟩]
theorem apB_one {sz:Nat} {es:List (List AV)} {y:List AV} {c:Cap} {tk:List Nat} (h1:Bd tk c sz=true) (h2:B9 sz es=true) (h3:(y.length == sz)=true) (h4:es.length+1<=1048576):apB (some sz) es c [y] tk=some (.frz (es++[y]) (Bg tk c sz),G6 tk c) :=
 apB_all h1 h2 (by simp [B9]; simpa using h3) eV
theorem Dj {sz:Nat} {c:Cap} {tk:List Nat} (h:Bd tk c sz=true):Bd (G6 tk c) (Bg tk c sz) sz=true:=by
 have hn:∀ (l:List Nat) (i v:Nat),i<l.length->nth (put l i v) i=some v:=by
  intro l;induction l with
  | nil=>intro i v h; simp at h
  | cons a l ih =>
   intro i v h;cases i with
   | zero=>rfl
   | succ i=>exact ih i v aJ
 cases c with
 | unk=>simp [Bd] at h
 | nl=>simp [Bd] at h
 | nn=>simp [Bd] at h
 | tight=>simp only [Bg,G6,Bd,Ae]; simp
 | nilc=>simp only [Bg,G6,Bd,Ae]; simp
 | tok id ep s =>
  simp only [Bd,Ch,beq_iff_eq] at h;simp only [Bg,G6,Bd,hn _ _ _ (Bh h.2)];simp
theorem Gm {α:Type} {f:α->List AV} {sz:Nat} (h:∀ a,(f a).length=sz) (l:List α):B9 sz (l.map f)=true:=by
 unfold B9; simp [h]
theorem Xd {sz:Nat} {z:List AV} (h:(z.length == sz+1 && z.all (fun c=>pure1 (w1 c)))=true):litA (some (sz+1)) (some z) 0 []=some (.frz [] .tight):=by
 simp only [Ch,beq_iff_eq] at h;rw [litA_some,if_pos ⟨h.1,h.2,by simp⟩]; rfl
/- variables behind the caller's -/
theorem entAt_mid {S:List Ent} {n:Nat} {cs:List AV} {e:Ent} : entAt (S++[⟨n,cs⟩]++[e]) S.length n=some cs:=Nf Bz
theorem Afq {S:List Ent} {e e':Ent} {id ep:Nat} {cs:List AV} (h:entAt S id ep=some cs):entAt (S++[e]++[e']) id ep=some cs:=Nf (Nf h)
theorem put_new {S:List Ent} {e e':Ent} : put (S++[e]) S.length e'=S++[e']:=by
 induction S with
 | nil=>rfl
 | cons a S ih=>simp only [Cr,Ck,put,ih]
theorem put_mid {S:List Ent} {e e' e'':Ent} : put (S++[e]++[e'']) S.length e'=S++[e']++[e'']:=by
 induction S with
 | nil=>rfl
 | cons a S ih=>simp only [Cr,Ck,put] at ih ⊢; rw [ih]
theorem take_two {S:List Ent} {e e':Ent} : (S++[e]++[e']).take S.length=S:=by
 rw [Fa,List.take_left']; rfl
theorem Apm [Globs] [Ext P] {f:FuncId} {args args':List AV} {S:List Ent} {tk:List Nat} {n:Nat} (h:args.map w2=args'.map w2) (hp:(args.map w2).all pure2=true) (hx:(Ext.on P f || Ext.mv P f)=false):cL P f args S tk n=cL P f args' S tk n:=by
 simp only [Fe] at hx;have:∀ k,evF P Db k f args S tk n=evF P Db k f args' S tk n:=by
  intro k;cases k with
  | zero=>rfl
  | succ k =>
   simp only [evF,hx.1,hx.2,C8,if_false];rw [h] at hp ⊢;simp only [hp,if_true]
 unfold cL;congr 1; funext k; exact this k
/- cells that are numbers -/
theorem Xm {cs:List AV} {v w:AV} : ∀ {i:Nat},nth cs i=some w->over cs i [v]=some (put cs i v):=by
 induction cs with
 | nil=>intro i h; simp [nth] at h
 | cons c cs ih=>intro i h; cases i with
  | zero=>cases cs <;> rfl
  | succ i=>simp only [over,ih (i:=i) h,put,C3]
theorem Pp {α β:Type} {f:α->β} : ∀ {l:List α} {i:Nat} {v:α},put (l.map f) i (f v)=(put l i v).map f
 | [],_,_=>rfl
 | _ :: _,0,_=>rfl
 | _ :: l,i+1,_=>by simp only [Cp,put,Pp (l:=l)]
theorem Tt {α:Type} : ∀ {l:List α} {i:Nat} {v:α},put l i v=l.set i v
 | [],_,_=>rfl
 | _ :: _,0,_=>rfl
 | _ :: l,i+1,_=>by simp only [put,gC,Tt (l:=l)]
theorem Eb {α:Type} {l:List α} {o:Nat} {x:α} (h:nth l o=some x):nth (l.drop o) 0=some x:=by
 rw [Ae] at h ⊢;rw [Sq]; exact h
theorem Amz {v:AV} {c:Nat} : (Ci c [v]).flatten=Ci c v:=by
 induction c with
 | zero=>rfl
 | succ c ih=>simp [Lg,ih]
theorem Vv {α:Type} {f:α->AV} : ∀ {n:Nat} {l:List α},n<=l.length->Jq 1 n (l.map f)=some ((l.take n).map fun x=>[f x])
 | 0,_,_=>by simp [Jq]
 | n+1,[],h=>aN
 | n+1,x :: l,h=>by
  simp only [Cp,Jq,takeN,C3,List.drop_succ_cons,F7,Vv (n:=n) (l:=l) aJ,F1]
end
/- the equations of the evaluator,as one (simp takes it apart) -/
set_option linter.defProp false in
def evs:=Bu @KX_seq <|
 Bu @KX_skip <|
 Bu @KX_exit <|
 Bu @KX_ret <|
 Bu @KX_if <|
 Bu @KX_block <|
 Bu @KX_region <|
 Bu @KX_scope <|
 Bu @KX_label <|
 Bu @CX_seq <|
 Bu @CX_block <|
 Bu @CX_loop <|
 Bu @CX_loopK <|
 Bu @CX_exit_seq <|
 Bu @CX_exit_block <|
 Bu @CX_exit_loop <|
 Bu @CX_ret <|
 Bu @CX_ret_nil <|
 Bu @CX_normal_nil <|
 Bu @NX_some <|
 Bu @NS_some <|
 Bu @BR_true <|
 Bu @BR_false <|
 Bu @BR_not <|
 Bu @fin1_BR <|
 Bu @finS_BR <|
 Bu @RX_nil <|
 Bu @RX_guard <|
 Bu @RX_move <|
 Bu @RX_assign <|
 Bu @RX_pick <|
 Bu @RX_bin <|
 Bu @RX_un <|
 Bu @RX_conv <|
 Bu @RX_extract <|
 Bu @RX_field <|
 Bu @RX_indexAddr <|
 Bu @RX_fieldAddr <|
 Bu @RX_index <|
 Bu @RX_build <|
 Bu @RX_buildSlice <|
 Bu @RX_slice <|
 Bu @RX_makeFunc <|
 Bu @RX_makeBound <|
 Bu @RX_load <|
 Bu @ldG_off <|
 Bu @ldG_on <|
 Bu @RX_store <|
 Bu @RX_alloc <|
 Bu @RX_box <|
 Bu @RX_append <|
 Bu @RX_appendO <|
 Bu @RX_len <|
 Bu @RX_call <|
 Bu @RX_callL <|
 Bu @RX_callX <|
 Bu @RX_invoke <|
 Bu @RX_invokeL <|
 Bu @RX_makeM <|
 Bu @RX_makeI <|
 Bu @invV_ifc <|
 Bu @invF_some <|
 Bu @mthA_ifc <|
 Bu @ifcA_ok <|
 Bu @gO_refl <|
 Bu @chkM_ref <|
 Bu @chkM_fptr <|
 Bu @chkM_fn <|
 Bu @chkM_bfn <|
 Bu @chkM_ifc <|
 Bu @chkM_mfn <|
 Bu @RX_callV <|
 Bu @wantD_some <|
 Bu @wantV_bool <|
 Bu @wantV_undef <|
 Bu @DX_zero <|
 Bu @DX_succ <|
 Bu @asB_bool <|
 Bu @opv_tmp <|
 Bu @opv_const <|
 Bu @opv_func <|
 Bu @cst_int <|
 Bu @cst_bool <|
 Bu @cst_string <|
 Bu @cst_nil <|
 Bu @cst_ptr <|
 Bu @pickA_true <|
 Bu @pickA_false <|
 Bu @pickA_bool <|
 Bu @extA_tup <|
 Bu @fldV_agg <|
 Bu @bldA_some <|
 Bu @litA_some <|
 Bu @orLit_some <|
 Bu @orLit_none <|
 Bu @callV_fn <|
 Bu @callV_bfn <|
 Bu @aBin_int <|
 Bu @aBin_str <|
 Bu @aBin_bool <|
 Bu @fin1_some <|
 Bu @finS_some <|
 Bu @lenV_str <|
 Bu @lenV_frz <|
 Bu @lenV_sref <|
 Bu @Cp.{0,0} <|
 Bu @Fi.{0,0} <|
 Bu @Cr.{0} <|
 Bu @Cw.{0} <|
 Bu @Ck.{0} <|
 Bu @Cu.{0} <|
 Bu @iL.{0} <|
 Bu @C3.{0,0} <|
 Bu @Option.map_none.{0,0} <|
 Bu @I7.{0,0} <|
 Bu @Option.bind_none.{0,0} <|
 Bu @Option.isSome_some.{0} <|
 Bu @beq_true <|
 Bu @beq_false <|
 Bu @Fs <|
 Bu @Fk <|
 Bu @Bool.and_true <|
 Bu @Bool.and_false <|
 Bu @Sr <|
 Bu @iN <|
 Bu @I1 <|
 Bu @Fv <|
 Bu @Sz <|
 Bu @T3 <|
 Bu @C8 <|
 Bu @true_implies <|
 Bu @false_implies <|
 Bu @and_true <|
 Bu @true_and <|
 Bu @Fg <|
 Bu @fin1_NX_not <|
 Bu @fin1_NX_if <|
 Bu @fin1_NS_not <|
 Bu @fin1_NS_if <|
 Bu @finS_NX_not <|
 Bu @finS_NX_if <|
 Bu @finS_NS_not <|
 Bu @finS_NS_if <|
 Bu @A2.{0} <|
 Bu @AV.tup.injEq <|
 Bu @AV.prim.injEq <|
 Bu @AV.agg.injEq <|
 Bu @AV.frz.injEq <|
 Bu @Sl.injEq <|
 Bu @Value.bool.injEq <|
 Bu @Value.string.injEq <|
 Bu @I6.{0} <|
 Bu @decide_true <|
 Bu @decide_false <|
 Bu @iW.{0} <|
 Bu @List.take_nil.{0} <|
 Bu @F1.{0} <|
 Bu @fU.{0} <|
 Bu @List.all_nil.{0} <|
 Bu @F7.{0} <|
 Bu @List.drop_succ_cons.{0} <|
 Bu @List.drop_nil.{0} <|
 Bu @Fq.{0,0} <|
 Bu @intN_cast <|
 Bu @intN_zero <|
 Bu @aBin_agg <|
 Bu @aggB_eql <|
 Bu @aggB_neq <|
 Bu @aBin_nil <|
 Bu @nilB_eql <|
 Bu @nilB_neq <|
 Bu @cellEq_int <|
 Bu @cellEq_str <|
 Bu @cellEq_bool <|
 Bu @apA_eq <|
 Bu @apB_one <|
 Bu @apB_all <|
 Bu @entAt_mid <|
 Bu @put_new <|
 Bu @put_mid <|
 Bu @take_two <|
 Bu @Lg.{0} <|
 Bu @List.replicate_zero.{0} <|
 Bu @aConv_int <|
 Bu @convI_some <|
 Bu @aConv_str <|
 Bu @RX_makeSlice <|
 Bu @RX_makeSlice0 <|
 Bu @RX_copy <|
 Bu @RX_appendS <|
 Bu @RX_nilCheck <|
 Bu @RX_min <|
 Bu @RX_max <|
 Bu @cvA_int <|
 Bu @cvA_str <|
 Bu @minA_int <|
 Bu @maxA_int <|
 Bu @aBin_refNil <|
 Bu @aBin_fptrNil <|
 Bu @aBin_nilNil <|
 Bu @ptrNil_eql <|
 Bu @ptrNil_neq <|
 Bu @fz3_tup <|
 Bu @fz3_agg <|
 Bu @fz3_prim <|
 Bu @fz3_frz <|
 Bu @fz3_ref <|
 Bu @fz3_fn <|
 Bu @fz3_sref <|
 Bu @fz2_agg <|
 Bu @fz2_prim <|
 Bu @fz2_frz <|
 Bu @fz2_ref <|
 Bu @fz2_fn <|
 Bu @fz2_sref <|
 Bu @fz1_prim <|
 Bu @fz1_frz <|
 Bu @fz1_ref <|
 Bu @fz1_fn <|
 Bu @fz1_sref <|
 Bu @fz1_old <|
 Bu @fzB_some <|
 Bu @finM_BR <|
 Bu @apB1_frz <|
 Bu @apM_false <|
 Bu @apM_look <|
 Bu @callM_look <|
 Bu @callM_vals <|
 Bu @apM_vals <|
 Bu @finM_some <|
 @Amh
theorem Iz {p:Prop} (h:p):p:=h
theorem dqd {p:Prop} (h:p:=by first|with_reducible assumption|exact ⟨rfl⟩|(refine Iz ?_; kernel_rfl)|omega):p:=h
section
variable {P:Program} {fn:Func} [Globs] [Ext P] {f:FuncId} {c:Code} {args args':List AV} {nt:Nat} {S:List Ent} {tk:List Nat} {n:Nat}
/- a call is opened: the function and the number of its slots are named -/
theorem opP {r : AV} (hf : P.funcs[f]? = some fn) (jn : fn.ntmps = nt) (h : fin1 (KX P fn c ⟨args' ++ bots (nt - args.length), [], [], 0⟩ [] .mk) = some r) (hx : (Ext.on P f || Ext.mv P f) = false := by exact rfl) (hb : fn.body = some c := by exact rfl) (cw : Hv c = false := by decide +kernel) (ao : (fn.name == "runtime.NumGoroutine") = false := by decide +kernel) (aa : args.map w2 = args' := by exact rfl) (hp : args'.all pure2 = true := by exact rfl) (hp3 : pure3 r = true := by exact rfl) : cL P f args S tk n = some (r, S, tk, n) := Aia hf hx hb cw ao jn aa hp S tk n hp3 h
theorem opS {r : AV × List Ent × List Nat × Nat} (hf : P.funcs[f]? = some fn) (jn : fn.ntmps = nt) (h : finS S.length (KX P fn c ⟨args ++ bots (nt - args.length), S, tk, n⟩ [] .mk) = some r) (hx : (Ext.on P f || Ext.mv P f) = false := by exact rfl) (hb : fn.body = some c := by exact rfl) (ao : (fn.name == "runtime.NumGoroutine") = false := by decide +kernel) (hp : (args.map w2).all pure2 = false := by exact rfl) : cL P f args S tk n = some r := Re hf hx hb ao jn hp h
end
set_option linter.defProp false in
def evt:=Bu @evs <|
 Bu @KX_draw <|
 Bu @KX_drawQ <|
 Bu @KX_drawL <|
 Bu @KX_drawV <|
 Bu @KX_late <|
 Bu @openL_one <|
 Bu @openL_mk <|
 Bu @openL_old <|
 Bu @filtL_nil <|
 Bu @filtL_mk <|
 Bu @filtL_old <|
 Bu @KX_tail <|
 Bu @lastO_one <|
 Bu @lastO_more <|
 Bu @dropL_one <|
 Bu @dropL_more <|
 Bu @callP_eq <|
 Bu @callM_true <|
 Bu @LX_eq <|
 Bu @nth.eq_1 <|
 Bu @nth.eq_2 <|
 Bu @nth.eq_3 <|
 Bu @put.eq_1 <|
 Bu @put.eq_2 <|
 Bu @put.eq_3 <|
 Bu @putT.eq_def <|
 Bu @getT.eq_1 <|
 Bu @getT.eq_2 <|
 Bu @getT.eq_3 <|
 Bu @binInt.eq_def <|
 Bu @binStr.eq_def <|
 Bu @binBool.eq_def <|
 Bu @aUn.eq_def <|
 Bu @outA.eq_def <|
 Bu @resA.eq_def <|
 Bu @mapO.eq_1 <|
 Bu @mapO.eq_2 <|
 Bu @resA1.eq_def <|
 Bu @oneOf.eq_def <|
 Bu @w1.eq_def <|
 Bu @w2.eq_def <|
 Bu @w3.eq_def <|
 Bu @bots.eq_1 <|
 Bu @bots.eq_2 <|
 Bu @tabl.eq_1 <|
 Bu @tabl.eq_2 <|
 Bu @cellsOf.eq_def <|
 Bu @fldA.eq_def <|
 Bu @ldA.eq_def <|
 Bu @stA.eq_def <|
 Bu @partA.eq_def <|
 Bu @takeN.eq_1 <|
 Bu @takeN.eq_2 <|
 Bu @takeN.eq_3 <|
 Bu @over.eq_1 <|
 Bu @over.eq_2 <|
 Bu @over.eq_3 <|
 Bu @over.eq_4 <|
 Bu @over.eq_5 <|
 Bu @leafOk.eq_def <|
 Bu @idxA.eq_def <|
 Bu @nilA.eq_def <|
 Bu @cellsEq.eq_1 <|
 Bu @cellsEq.eq_2 <|
 Bu @cellsEq.eq_3 <|
 Bu @fillA.eq_1 <|
 Bu @fillA.eq_2 <|
 Bu @elemsA.eq_1 <|
 Bu @elemsA.eq_2 <|
 Bu @pure1.eq_def <|
 Bu @pure2.eq_def <|
 Bu @reps.eq_1 <|
 Bu @reps.eq_2 <|
 Bu @chkA.eq_def <|
 Bu @lastL.eq_def <|
 Bu @Value.oneCell'.eq_def <|
 Bu @cond_true.{1} <|
 Bu @cond_false.{1} <|
 Bu @if_true.{1} <|
 Bu @if_false.{1} <|
 Bu @ite_true.{1} <|
 Bu @ite_false.{1} <|
 Bu @implies_true.{1} <|
 Bu @BEq.rfl.{0} @beq_self_eq_true.{0}
end
end Go.Proofs.YtcandeobhlfkbaaGreat
