/- Part 8. -/
import Derived.Test.YthelkgdmgihhiaaGreatDoorZK7
namespace Go.Proofs.YthelkgdmgihhiaaGreatDoor
section
section
variable {P:Program} {fn:Func} {M:Md} {call:Ak} {all l:List Oper} {d:Option Tmp} {ty:TypeId} {pos:String} {af:Array Edge} {T:List AV} {S:List Ent} {tk:List Nat} {n:Nat} {k:List Kont}
def nx {β:Type} (x:Option AV) (f:AV->Option β):Option β:=match x with|some v=>f v|none=>none
def ns {α β:Type} (x:Option α) (f:α->Option β):Option β:=match x with|some v=>f v|none=>none
def Aa7 (T:List AV) (d:Option Tmp) (w:Bool):Option Bool :=
 match d with
 | none=>none
 | some d=>match getT T d with
  | .prim (.bool b)=>some (b == w)
  | .prim (.tuple _)=>some false
  | _=>none
def Ab8 (all:List Oper) (g:Nat):Option Tmp:=(nth all g).bind (·.dst)
def Aff (v:AV) (w:Bool):Option Bool:=match v with|.prim (.bool b)=>some (b == w)|.prim (.tuple _)=>some false|_=>none
theorem wantV_bool {b w:Bool} : Aff (.prim (.bool b)) w=some (b == w):=rfl
theorem wantV_undef {w:Bool} : Aff (.prim undef) w=some false:=rfl
theorem wantD_some {t:Tmp} {w:Bool} : Aa7 T (some t) w=Aff (getT T t) w:=rfl
theorem Abp [Globs] [Ext P] {op:Op} {g:Nat} {w:Bool} : RO P fn M call all (⟨d,op,ty,pos,af,some (g,w)⟩ :: l) ⟨T,S,tk,n⟩ k =
  br (Aa7 T (Ab8 all g) w) (RO P fn M call all (⟨d,op,ty,pos,af,none⟩ :: l) ⟨T,S,tk,n⟩ k) (RO P fn M call all l ⟨putT T d (.prim undef),S,tk,n⟩ k):=by
 rw [Tr,Tr]
 have e:Ea all T ⟨d,op,ty,pos,af,some (g,w)⟩=Aa7 T (Ab8 all g) w:=by
  unfold Ea Aa7 Ab8
  simp only
  cases (nth all g).bind (·.dst) <;> rfl
 rw [e]
 rfl
theorem Gf [Globs] [Ext P] {op:Op} : RO P fn M call all (⟨d,op,ty,pos,af,none⟩ :: l) ⟨T,S,tk,n⟩ k =
  match @evO (gM M) P call ⟨d,op,ty,pos,af,none⟩ ⟨T,S,tk,n⟩ with|some (v,st')=>if @chkO (gM M) P all ⟨d,op,ty,pos,af,none⟩ ⟨T,S,tk,n⟩ v st'=true then RO P fn M call all l { st' with T:=putT st'.T d v } k else none|none=>none:=by
 rw [Tr]; rfl
theorem Af4 [G:Globs] {o:Oper} {st st':St} {v:AV} (hx:xOp o=false) (hl:isLd o=false):chkO P all o st v st'=true:=by
 unfold chkO
 rw [hx,hl]
 cases (Globs.dr:Bool) <;> rfl
theorem Ab3 [G:Globs] {o:Oper} {st st':St} {v:AV} (h:(Globs.dr:Bool)=false):chkO P all o st v st'=true:=by
 unfold chkO
 rw [h]; rfl
theorem Bf [Globs] [Ext P] {op:Op} (hx:@xOp (gM M) ⟨d,op,ty,pos,af,none⟩=false) (hl:isLd ⟨d,op,ty,pos,af,none⟩=false):RO P fn M call all (⟨d,op,ty,pos,af,none⟩ :: l) ⟨T,S,tk,n⟩ k =
  match @evO (gM M) P call ⟨d,op,ty,pos,af,none⟩ ⟨T,S,tk,n⟩ with|some (v,st')=>RO P fn M call all l { st' with T:=putT st'.T d v } k|none=>none:=by
 rw [Gf]
 cases @evO (gM M) P call ⟨d,op,ty,pos,af,none⟩ ⟨T,S,tk,n⟩ with
 | none=>rfl
 | some x =>
  simp only
  rw [if_pos (Af4 (G:=gM M) hx hl)]
theorem Qy [Globs] [Ext P] {op:Op} (hd:@Globs.dr (gM M)=false):RO P fn M call all (⟨d,op,ty,pos,af,none⟩ :: l) ⟨T,S,tk,n⟩ k =
  match @evO (gM M) P call ⟨d,op,ty,pos,af,none⟩ ⟨T,S,tk,n⟩ with|some (v,st')=>RO P fn M call all l { st' with T:=putT st'.T d v } k|none=>none:=by
 rw [Gf]
 cases @evO (gM M) P call ⟨d,op,ty,pos,af,none⟩ ⟨T,S,tk,n⟩ with
 | none=>rfl
 | some x =>
  simp only
  rw [if_pos (Ab3 (G:=gM M) hd)]
theorem A8 [Globs] [Ext P] {op:Op} {x:Option AV} (h:@evO (gM M) P call ⟨d,op,ty,pos,af,none⟩ ⟨T,S,tk,n⟩=x.map fun v=>(v,⟨T,S,tk,n⟩)) (hx:@xOp (gM M) ⟨d,op,ty,pos,af,none⟩=false:=by rfl) (hl:isLd ⟨d,op,ty,pos,af,none⟩=false:=by rfl) :
  RO P fn M call all (⟨d,op,ty,pos,af,none⟩ :: l) ⟨T,S,tk,n⟩ k=nx x fun v=>RO P fn M call all l ⟨putT T d v,S,tk,n⟩ k:=by
 rw [Bf hx hl,h]; cases x <;> rfl
theorem Ad8 [Globs] [Ext P] {x:Operand} : RO P fn M call all (⟨d,.move x,ty,pos,af,none⟩ :: l) ⟨T,S,tk,n⟩ k=RO P fn M call all l ⟨putT T d (opv T x),S,tk,n⟩ k:=by rw [Bf rfl rfl]; rfl
theorem Ye [Globs] [Ext P] {x:Operand} : RO P fn M call all (⟨d,.assign x,ty,pos,af,none⟩ :: l) ⟨T,S,tk,n⟩ k=RO P fn M call all l ⟨putT T d (opv T x),S,tk,n⟩ k:=by rw [Bf rfl rfl]; rfl
def Z8 (c a b:AV):Option AV:=match c with|.prim (.bool t)=>some (if t then a else b)|_=>none
theorem pickA_true {a b:AV} : Z8 (.prim (.bool true)) a b=some a:=rfl
theorem pickA_false {a b:AV} : Z8 (.prim (.bool false)) a b=some b:=rfl
theorem pickA_bool {t x y:Bool} : Z8 (.prim (.bool t)) (.prim (.bool x)) (.prim (.bool y))=some (.prim (.bool (bif t then x else y))):=by cases t <;> rfl
theorem Ad9 [Globs] [Ext P] {c a b:Operand} : RO P fn M call all (⟨d,.pick c a b,ty,pos,af,none⟩ :: l) ⟨T,S,tk,n⟩ k=nx (Z8 (opv T c) (opv T a) (opv T b)) fun v=>RO P fn M call all l ⟨putT T d v,S,tk,n⟩ k:=A8 rfl
theorem Afr [Globs] [Ext P] {b:BinOp} {t u:TypeId} {x y:Operand} : RO P fn M call all (⟨d,.binOp b t x y u,ty,pos,af,none⟩ :: l) ⟨T,S,tk,n⟩ k=nx (aBin P b t (opv T x) (opv T y)) fun v=>RO P fn M call all l ⟨putT T d v,S,tk,n⟩ k:=A8 rfl
theorem RO_un [Globs] [Ext P] {u:UnOp} {t:TypeId} {x:Operand} : RO P fn M call all (⟨d,.unOp u t x,ty,pos,af,none⟩ :: l) ⟨T,S,tk,n⟩ k=nx (aUn u (opv T x)) fun v=>RO P fn M call all l ⟨putT T d v,S,tk,n⟩ k:=A8 rfl
theorem Ad5 [Globs] [Ext P] {s t:TypeId} {x:Operand} : RO P fn M call all (⟨d,.convert s t x,ty,pos,af,none⟩ :: l) ⟨T,S,tk,n⟩ k=nx (cvA P s t (opv T x)) fun v=>RO P fn M call all l ⟨putT T d v,S,tk,n⟩ k:=A8 rfl
def extA (v:AV) (i:Nat):Option AV:=match v with|.tup vs=>nth vs i|_=>none
theorem extA_tup {vs:List AV} {i:Nat} : extA (.tup vs) i=nth vs i:=rfl
theorem Wp [Globs] [Ext P] {x:Operand} {i:Nat} : RO P fn M call all (⟨d,.extract x i,ty,pos,af,none⟩ :: l) ⟨T,S,tk,n⟩ k=nx (extA (opv T x) i) fun v=>RO P fn M call all l ⟨putT T d v,S,tk,n⟩ k:=A8 rfl
def fldV (f:Option (Nat × Nat × Bool)) (x:AV):Option AV:=match f,x with|some (off,sz,b),.agg cs=>partA b sz (cs.drop off)|_,_=>none
theorem fldV_agg {off sz:Nat} {b:Bool} {cs:List AV} : fldV (some (off,sz,b)) (.agg cs)=partA b sz (cs.drop off):=rfl
theorem Abo [Globs] [Ext P] {t:TypeId} {x:Operand} {i:Nat} : RO P fn M call all (⟨d,.field t x i,ty,pos,af,none⟩ :: l) ⟨T,S,tk,n⟩ k=nx (fldV (Aw P t i) (opv T x)) fun v=>RO P fn M call all l ⟨putT T d v,S,tk,n⟩ k:=A8 (by
 simp only [evO,evQ,fldV]
 rfl)
theorem Qv [Globs] [Ext P] {t:TypeId} {x i:Operand} : RO P fn M call all (⟨d,.indexAddr t x i,ty,pos,af,none⟩ :: l) ⟨T,S,tk,n⟩ k=nx (idxA P t (opv T x) (opv T i)) fun v=>RO P fn M call all l ⟨putT T d v,S,tk,n⟩ k:=A8 rfl
theorem Qu [Globs] [Ext P] {t:TypeId} {x:Operand} {i:Nat} : RO P fn M call all (⟨d,.fieldAddr t x i,ty,pos,af,none⟩ :: l) ⟨T,S,tk,n⟩ k=nx (fldA P t (opv T x) i) fun v=>RO P fn M call all l ⟨putT T d v,S,tk,n⟩ k:=A8 rfl
def Tg (ok:Bool) (x:AV) (i:Option Nat):Option AV:=match x,i with|.prim (.string s),some k=>if ok then (s[k]?).map fun b=>.prim (.int .u8 b.toNat) else none|_,_=>none
theorem Abq [Globs] [Ext P] {t:TypeId} {x i:Operand} : RO P fn M call all (⟨d,.index t x i,ty,pos,af,none⟩ :: l) ⟨T,S,tk,n⟩ k=nx (Tg (Aj P t) (opv T x) (intN (opv T i))) fun v=>RO P fn M call all l ⟨putT T d v,S,tk,n⟩ k:=A8 (by
 simp only [evO,evQ,Tg]
 rfl)
def bldA (z:Option (List AV)) (pl:Option (List (Nat × Nat))) (ps:List (Nat × AV)):Option AV:=match z,pl with|some z,some pl=>(fillA pl z ps).map .agg|_,_=>none
theorem bldA_some {z:List AV} {pl:List (Nat × Nat)} {ps:List (Nat × AV)} : bldA (some z) (some pl) ps=(fillA pl z ps).map .agg:=rfl
theorem Abk [Globs] [Ext P] {t:TypeId} {ps:Array (Nat × Operand)} : RO P fn M call all (⟨d,.build t ps,ty,pos,af,none⟩ :: l) ⟨T,S,tk,n⟩ k=nx (bldA (Ae P t) (fieldsOf P t) (ps.toList.map fun (i,x)=>(i,opv T x))) fun v=>RO P fn M call all l ⟨putT T d v,S,tk,n⟩ k:=A8 (by
 simp only [evO,evQ,bldA]
 rfl)
def litA (sz:Option Nat) (z:Option (List AV)) (len:Nat) (ps:List (Nat × AV)):Option AV:=match sz,z with
 | some (sz+1),some z=>if z.length=sz+1/\z.all (fun c=>pure1 (w1 c))=true/\len*(sz+1)<=4096 then Xg (elemsA (sz+1) (List.replicate len (z.map w1)) ps) (lit1 (sz+1) len ps) else none
 | _,_=>none
theorem orLit_some {es:List (List AV)} {x:Option AV} : Xg (some es) x=some (.frz es .tight):=rfl
theorem orLit_none {x:Option AV} : Xg none x=x:=rfl
def reps {α:Type} (x:α):Nat->List α|0=>[]|n+1=>x :: reps x n
theorem Aag {α:Type} (x:α):∀ n,List.replicate n x=reps x n|0=>rfl|n+1=>by rw [List.replicate_succ,Aag x n]; rfl
theorem litA_some {sz:Nat} {z:List AV} {len:Nat} {ps:List (Nat × AV)} : litA (some (sz+1)) (some z) len ps=if z.length=sz+1/\z.all (fun c=>pure1 (w1 c))=true/\len*(sz+1)<=4096 then Xg (elemsA (sz+1) (reps (z.map w1) len) ps) (lit1 (sz+1) len ps) else none:=by
 rw [<- Aag]; rfl
theorem Pl [Globs] [Ext P] {t:TypeId} {len:Nat} {ps:Array (Nat × Operand)} : RO P fn M call all (⟨d,.buildSlice t len ps,ty,pos,af,none⟩ :: l) ⟨T,S,tk,n⟩ k =
  nx (litA ((Au P t).bind (szOf P)) ((Au P t).bind (Ae P)) len (ps.toList.map fun (i,x)=>(i,opv T x))) fun v=>RO P fn M call all l ⟨putT T d v,S,tk,n⟩ k:=A8 (by
 simp only [evO,evQ]
 congr 1
 cases he:Au P t with
 | none=>rfl
 | some e =>
  simp only [Option.bind_some]
  unfold litA
  cases szOf P e with
  | none=>rfl
  | some s=>cases s <;> cases Ae P e <;> rfl)
theorem Abt [Globs] [Ext P] {t:TypeId} {x:Operand} {lo hi mx:Option Operand} : RO P fn M call all (⟨d,.slice t x lo hi mx,ty,pos,af,none⟩ :: l) ⟨T,S,tk,n⟩ k=nx (Du P t (opv T x) (lo.map (opv T)) (hi.map (opv T)) (mx.map (opv T))) fun v=>RO P fn M call all l ⟨putT T d v,S,tk,n⟩ k:=A8 rfl
theorem Ts [Globs] [Ext P] {f:FuncId} {caps:Array Operand} : RO P fn M call all (⟨d,.makeFunc (.func f) #[] caps,ty,pos,af,none⟩ :: l) ⟨T,S,tk,n⟩ k =
  nx (if ((caps.toList.map (opv T)).all G9)=true then some (.fn f (caps.toList.map (opv T))) else none) fun v=>RO P fn M call all l ⟨putT T d v,S,tk,n⟩ k:=A8 (by
 simp only [evO,evQ,List.all_map]
 have:(caps.toList.all fun x=>G9 (opv T x))=caps.toList.all (G9 ∘ opv T):=rfl
 rw [this]
 by_cases hc:caps=#[]
 ·subst hc; simp
 ·have az:caps.isEmpty=false:=by simpa using hc
  simp [az])
theorem Qw [Globs] [Ext P] {f:FuncId} {x:Operand} : RO P fn M call all (⟨d,.makeFunc (.func f) #[x] #[],ty,pos,af,none⟩ :: l) ⟨T,S,tk,n⟩ k =
  RO P fn M call all l ⟨putT T d (.bfn f [opv T x]),S,tk,n⟩ k:=by
 rw [Bf rfl rfl]
 simp [evO,evQ]
structure CkF (b:Bool):Prop where
 h:b=false
structure CkT (b:Bool):Prop where
 h:b=true
def ldG (d:Bool) (x:Option AV):Option AV:=match x with|some v=>if (d && isB v)=true then none else some v|none=>none
theorem ldG_off {d:Bool} {x:Option AV} (h':CkF d):ldG d x=x:=by have h:=h'.h; subst h; cases x <;> rfl
theorem ldG_on {d:Bool} {v:AV} (h:CkF (isB v)):ldG d (some v)=some v:=by simp [ldG,h.h]
theorem Ad7 [Globs] [Ext P] {t:TypeId} {a:Operand} : RO P fn M call all (⟨d,.load t a,ty,pos,af,none⟩ :: l) ⟨T,S,tk,n⟩ k=nx (ldG (@Globs.dr (gM M)) (ldA P t (opv T a) S)) fun v=>RO P fn M call all l ⟨putT T d v,S,tk,n⟩ k:=by
 rw [Gf]
 simp only [evO]
 cases ldA P t (opv T a) S with
 | none=>rfl
 | some v =>
  simp only [Option.map_some,nx,ldG]
  have:@chkO (gM M) P all ⟨d,.load t a,ty,pos,af,none⟩ ⟨T,S,tk,n⟩ v ⟨T,S,tk,n⟩=!(@Globs.dr (gM M) && isB v):=by
   unfold chkO
   cases @Globs.dr (gM M) <;> rfl
  rw [this]
  cases (@Globs.dr (gM M) && isB v) <;> rfl
theorem Abu [Globs] [Ext P] {t:TypeId} {a x:Operand} : RO P fn M call all (⟨none,.store t a x,ty,pos,af,none⟩ :: l) ⟨T,S,tk,n⟩ k=ns (stA P t (opv T a) (opv T x) S) fun S'=>RO P fn M call all l ⟨T,S',tk,n⟩ k:=by
 rw [Bf rfl rfl]
 simp only [evO]
 cases stA P t (opv T a) (opv T x) S <;> rfl
theorem Abj [Globs] [Ext P] {t:TypeId} : RO P fn M call all (⟨d,.alloc t,ty,pos,af,none⟩ :: l) ⟨T,S,tk,n⟩ k=ns (Ae P t) fun cs=>RO P fn M call all l ⟨putT T d (.ref S.length n 0),S++[⟨n,cs⟩],tk,n+1⟩ k:=by
 rw [Bf rfl rfl]
 simp only [evO]
 cases Ae P t <;> rfl
theorem Afs [Globs] [Ext P] {t:TypeId} {x:Operand} : RO P fn M call all (⟨d,.box t x,ty,pos,af,none⟩ :: l) ⟨T,S,tk,n⟩ k=ns (cellsOf (opv T x)) fun cs=>RO P fn M call all l ⟨putT T d (.ref S.length n 0),S++[⟨n,cs⟩],tk,n+1⟩ k:=by
 rw [Bf rfl rfl]
 simp only [evO]
 cases cellsOf (opv T x) <;> rfl
def apM [Globs] (M:Md) (P:Program) (t:TypeId) (x y:AV) (tk:List Nat) (S:List Ent):Option (AV × List Nat):=@apB1 (gM M) P t x y tk S
theorem apM_false [Globs] {t:TypeId} {x y:AV} : apM .no P t x y tk S=apB1 P t x y tk S:=rfl
theorem Abx [Globs] {t:TypeId} {x y:AV} : apM .quiet P t x y tk S=apA P t x y tk:=by simp [apM,apB1]
theorem apM_vals [Globs] {t:TypeId} {x y:AV} : apM .vals P t x y tk S=apB1 P t x y tk S:=rfl
theorem apM_look [Globs] {t:TypeId} {x y:AV} : apM .look P t x y tk S=apB1 P t x y tk S:=rfl
theorem Wn [Globs] [Ext P] {x y:Operand} {t:TypeId} (ho:@Globs.own (gM M) d ty=true):RO P fn M call all (⟨d,.call ⟨.builtin .append,#[x,y],#[t,t]⟩,ty,pos,af,none⟩ :: l) ⟨T,S,tk,n⟩ k=ns (apO P t (opv T x) (opv T y) S n) fun (v,S',n')=>RO P fn M call all l ⟨putT T d v,S',tk,n'⟩ k:=by
 rw [Bf rfl rfl]
 simp only [evO,List.map_cons,List.map_nil,if_true,ho]
 cases apO P t (opv T x) (opv T y) S n <;> rfl
theorem Yd [Globs] [Ext P] {x y:Operand} {t:TypeId} (ho:@Globs.own (gM M) d ty=false):RO P fn M call all (⟨d,.call ⟨.builtin .append,#[x,y],#[t,t]⟩,ty,pos,af,none⟩ :: l) ⟨T,S,tk,n⟩ k=ns (apM M P t (opv T x) (opv T y) tk S) fun (v,tk')=>RO P fn M call all l ⟨putT T d v,S,tk',n⟩ k:=by
 rw [Bf rfl rfl]
 simp only [evO,List.map_cons,List.map_nil,if_true,ho,Bool.false_eq_true,if_false]
 unfold apM
 cases @apB1 (gM M) P t (opv T x) (opv T y) tk S <;> rfl
def lenV (st sl:Bool) (x:AV):Option AV:=match x with
 | .prim (.string s)=>if st then some (.int s.size) else none
 | x=>if sl then (lenA x).map fun (n:Nat)=>AV.int (n:Int) else none
theorem lenV_str {sl:Bool} {s:ByteArray} : lenV true sl (.prim (.string s))=some (.int s.size):=rfl
theorem lenV_frz {st:Bool} {es:List (List AV)} {c:Cap} : lenV st true (.frz es c)=some (.int es.length):=rfl
theorem lenV_sref {st:Bool} {id ep off len sz:Nat} : lenV st true (.sref id ep off len sz)=some (.int len):=rfl
theorem Aft [Globs] [Ext P] {x:Operand} {t:TypeId} : RO P fn M call all (⟨d,.call ⟨.builtin .len,#[x],#[t]⟩,ty,pos,af,none⟩ :: l) ⟨T,S,tk,n⟩ k=nx (lenV (Aj P t) (Au P t).isSome (opv T x)) fun v=>RO P fn M call all l ⟨putT T d v,S,tk,n⟩ k:=A8 (by
 simp only [evO,evQ,List.map_cons,List.map_nil]
 congr 1
 unfold lenV
 cases opv T x with
 | prim v=>cases v <;> rfl
 | _=>rfl)
theorem Ad4 [Globs] [Ext P] {f:FuncId} {args:Array Operand} {ats:Array TypeId} (hx:(@Globs.dr (gM M) && @xF (gM M) f)=false):RO P fn M call all (⟨d,.call ⟨.value (.func f),args,ats⟩,ty,pos,af,none⟩ :: l) ⟨T,S,tk,n⟩ k =
  ns (call f (args.toList.map (opv T)) S tk n) fun (v,S',tk',n')=>RO P fn M call all l ⟨putT T d v,S',tk',n'⟩ k:=by
 rw [Gf]
 simp only [evO,B3,opv,List.append_nil]
 cases call f (args.toList.map (opv T)) S tk n with
 | none=>rfl
 | some x =>
  obtain ⟨v,S',tk',n'⟩:=x
  simp only [Option.map_some,ns]
  rw [if_pos]
  unfold chkO
  cases hd:@Globs.dr (gM M) with
  | false=>rfl
  | true =>
   rw [hd] at hx
   have hx':@xOp (gM M) ⟨d,.call ⟨.value (.func f),args,ats⟩,ty,pos,af,none⟩=false:=hx
   rw [hx']; rfl
noncomputable def gO (S S':List Ent):Option Unit:=by classical exact if P2 S S' then some () else none
theorem Aeq {S S':List Ent} (h:P2 S S'):gO S S'=some ():=by unfold gO; rw [if_pos h]
theorem gO_refl {S:List Ent} : gO S S=some ():=Aeq ⟨rfl,fun _=>.inl rfl⟩
noncomputable def reA (P:Program) (all:List Oper) (d:Option Tmp) (T:List AV) (S S':List Ent):Option Unit:=by classical exact if S.length<=S'.length/\(d.isSome=true->∀ q ∈ loadsB all d,Aak P T S' q) then some () else none
open Classical in
theorem Adg [G:Globs] {o:Oper} {st st':St} {v:AV} (h:lkOp o=true):chkO P all o st v st'=(gO st.S st'.S).isSome:=by
 obtain ⟨hd,hx⟩:=lk_x h
 have ha:anOp o=false:=by simp [anOp,h]
 unfold chkO gO chkX
 rw [hd,hx,h,ha]
 by_cases hg:P2 st.S st'.S
 ·rw [if_pos hg]
  exact @decide_eq_true _ (propDecidable _) ⟨fun _=>hg,fun h=>by simp at h⟩
 ·rw [if_neg hg]
  exact @decide_eq_false _ (propDecidable _) fun h=>hg (h.1 rfl)
open Classical in
theorem Af3 [G:Globs] {o:Oper} {st st':St} {v:AV} (h:anOp o=true):chkO P all o st v st'=(reA P all o.dst st.T st.S st'.S).isSome:=by
 obtain ⟨hd,hx⟩:=an_x h
 have hl:lkOp o=false:=by
  unfold anOp at h
  simp only [Bool.and_eq_true,Bool.not_eq_true'] at h
  exact h.2
 unfold chkO reA chkX
 rw [hd,hx,h,hl]
 by_cases hg:st.S.length<=st'.S.length/\(o.dst.isSome=true->∀ q ∈ loadsB all o.dst,Aak P st.T st'.S q)
 ·rw [if_pos hg]
  exact @decide_eq_true _ (propDecidable _) ⟨fun h=>by simp at h,fun _=>hg⟩
 ·rw [if_neg hg]
  exact @decide_eq_false _ (propDecidable _) fun h=>hg (h.2 rfl)
theorem Ko {α β:Type} {x:Option α} {b:Option β} : (if x.isSome=true then b else none)=ns x fun _=>b:=by cases x <;> rfl
theorem Abl [Globs] [Ext P] {f:FuncId} {args:Array Operand} {ats:Array TypeId} (hx:@lkOp (gM M) ⟨d,.call ⟨.value (.func f),args,ats⟩,ty,pos,af,none⟩=true):RO P fn M call all (⟨d,.call ⟨.value (.func f),args,ats⟩,ty,pos,af,none⟩ :: l) ⟨T,S,tk,n⟩ k =
  ns (call f (args.toList.map (opv T)) S tk n) fun (v,S',tk',n')=>ns (gO S S') fun _=>RO P fn M call all l ⟨putT T d v,S',tk',n'⟩ k:=by
 rw [Gf]
 simp only [evO,B3,opv,List.append_nil]
 cases call f (args.toList.map (opv T)) S tk n with
 | none=>rfl
 | some x =>
  obtain ⟨v,S',tk',n'⟩:=x
  simp only [Option.map_some,ns]
  rw [Adg (G:=gM M) hx,Ko]; rfl
theorem Abn [Globs] [Ext P] {f:FuncId} {args:Array Operand} {ats:Array TypeId} (hx:@anOp (gM M) ⟨d,.call ⟨.value (.func f),args,ats⟩,ty,pos,af,none⟩=true):RO P fn M call all (⟨d,.call ⟨.value (.func f),args,ats⟩,ty,pos,af,none⟩ :: l) ⟨T,S,tk,n⟩ k =
  ns (call f (args.toList.map (opv T)) S tk n) fun (v,S',tk',n')=>ns (reA P all d T S S') fun _=>RO P fn M call all l ⟨putT T d v,S',tk',n'⟩ k:=by
 rw [Gf]
 simp only [evO,B3,opv,List.append_nil]
 cases call f (args.toList.map (opv T)) S tk n with
 | none=>rfl
 | some x =>
  obtain ⟨v,S',tk',n'⟩:=x
  simp only [Option.map_some,ns]
  rw [Af3 (G:=gM M) hx,Ko]; rfl
def invF (call:Ak) (f:Option FuncId) (args:List AV) (S:List Ent) (tk:List Nat) (n:Nat):Option (AV × List Ent × List Nat × Nat):=match f with|some f=>call f args S tk n|none=>none
def invV (P:Program) (call:Ak) (x:AV) (m:String) (args:List AV) (S:List Ent) (tk:List Nat) (n:Nat):Option (AV × List Ent × List Nat × Nat):=match x with|.ifc t v=>invF call (mRow P t m) (v :: args) S tk n|_=>none
theorem invV_ifc {t:TypeId} {v:AV} {m:String} {args:List AV} : invV P call (.ifc t v) m args S tk n=invF call (mRow P t m) (v :: args) S tk n:=rfl
theorem invF_some {f:FuncId} {args:List AV} : invF call (some f) args S tk n=call f args S tk n:=rfl
theorem Zc [G:Globs] {x:Operand} {m:String} {args:Array Operand} {ats:Array TypeId} : evO P call ⟨d,.call ⟨.invoke x m,args,ats⟩,ty,pos,af,none⟩ ⟨T,S,tk,n⟩=(invV P call (opv T x) m (args.toList.map (opv T)) S tk n).map fun (v,S',tk',n')=>(v,⟨T,S',tk',n'⟩):=by
 simp only [evO,B3,invV,invF]
 cases opv T x with
 | ifc t v =>
  simp only
  cases mRow P t m <;> rfl
 | _=>rfl
theorem Yf [Globs] [Ext P] {x:Operand} {m:String} {args:Array Operand} {ats:Array TypeId} (hd:@Globs.dr (gM M)=false):RO P fn M call all (⟨d,.call ⟨.invoke x m,args,ats⟩,ty,pos,af,none⟩ :: l) ⟨T,S,tk,n⟩ k =
  ns (invV P call (opv T x) m (args.toList.map (opv T)) S tk n) fun (v,S',tk',n')=>RO P fn M call all l ⟨putT T d v,S',tk',n'⟩ k:=by
 rw [Qy hd,Zc (G:=gM M)]
 cases invV P call (opv T x) m (args.toList.map (opv T)) S tk n <;> rfl
theorem Wq [Globs] [Ext P] {x:Operand} {m:String} {args:Array Operand} {ats:Array TypeId} (hd:@Globs.dr (gM M)=true):RO P fn M call all (⟨d,.call ⟨.invoke x m,args,ats⟩,ty,pos,af,none⟩ :: l) ⟨T,S,tk,n⟩ k =
  ns (invV P call (opv T x) m (args.toList.map (opv T)) S tk n) fun (v,S',tk',n')=>ns (gO S S') fun _=>RO P fn M call all l ⟨putT T d v,S',tk',n'⟩ k:=by
 have hl:@lkOp (gM M) ⟨d,.call ⟨.invoke x m,args,ats⟩,ty,pos,af,none⟩=true:=by
  unfold lkOp
  rw [hd]; rfl
 rw [Gf,Zc (G:=gM M)]
 cases invV P call (opv T x) m (args.toList.map (opv T)) S tk n with
 | none=>rfl
 | some x =>
  obtain ⟨v,S',tk',n'⟩:=x
  simp only [Option.map_some,ns]
  rw [Adg (G:=gM M) hl,Ko]; rfl
theorem Abs [Globs] [Ext P] {m:String} {x:Operand} : RO P fn M call all (⟨d,.makeFunc (.method m) #[x] #[],ty,pos,af,none⟩ :: l) ⟨T,S,tk,n⟩ k=nx (mthA m (opv T x)) fun v=>RO P fn M call all l ⟨putT T d v,S,tk,n⟩ k:=A8 (by simp [evO,evQ])
theorem mthA_ifc {m:String} {t:TypeId} {v:AV} : mthA m (.ifc t v)=some (.mfn t m v):=rfl
def ifcA (b:Bool) (t:TypeId) (v:AV):Option AV:=if b=true then none else some (.ifc t v)
theorem ifcA_ok {t:TypeId} {v:AV} : ifcA false t v=some (.ifc t v):=rfl
theorem Abr [Globs] [Ext P] {t:TypeId} {x:Operand} : RO P fn M call all (⟨d,.makeInterface t x,ty,pos,af,none⟩ :: l) ⟨T,S,tk,n⟩ k=nx (ifcA (Aci P t) t (opv T x)) fun v=>RO P fn M call all l ⟨putT T d v,S,tk,n⟩ k:=A8 rfl
def Yu (call:Ak) (f:AV) (args:List AV) (S:List Ent) (tk:List Nat) (n:Nat):Option (AV × List Ent × List Nat × Nat):=match f with|.fn f caps=>call f (args++caps) S tk n|.bfn f first=>call f (first++args) S tk n|_=>none
theorem callV_bfn {f:FuncId} {first args:List AV} : Yu call (.bfn f first) args S tk n=call f (first++args) S tk n:=rfl
theorem callV_fn {f:FuncId} {caps args:List AV} : Yu call (.fn f caps) args S tk n=call f (args++caps) S tk n:=rfl
theorem Abm [Globs] [Ext P] {x:Tmp} {args:Array Operand} {ats:Array TypeId} (hx:(@Globs.dr (gM M) && @Globs.xAny (gM M))=false):RO P fn M call all (⟨d,.call ⟨.value (.tmp x),args,ats⟩,ty,pos,af,none⟩ :: l) ⟨T,S,tk,n⟩ k =
  ns (Yu call (getT T x) (args.toList.map (opv T)) S tk n) fun (v,S',tk',n')=>RO P fn M call all l ⟨putT T d v,S',tk',n'⟩ k:=by
 have hp:RO P fn M call all (⟨d,.call ⟨.value (.tmp x),args,ats⟩,ty,pos,af,none⟩ :: l) ⟨T,S,tk,n⟩ k=match @evO (gM M) P call ⟨d,.call ⟨.value (.tmp x),args,ats⟩,ty,pos,af,none⟩ ⟨T,S,tk,n⟩ with|some (v,st')=>RO P fn M call all l { st' with T:=putT st'.T d v } k|none=>none:=by
  cases hd:@Globs.dr (gM M) with
  | false=>exact Qy hd
  | true =>
   rw [hd] at hx
   exact Bf hx rfl
 rw [hp]
 simp only [evO,B3,opv,Yu]
 cases getT T x with
 | fn f caps =>
  simp only
  cases call f (args.toList.map (opv T)++caps) S tk n <;> rfl
 | bfn f first =>
  simp only
  cases call f (first++args.toList.map (opv T)) S tk n <;> rfl
 | _=>rfl
theorem aBin_int {b:BinOp} {t:TypeId} {q:IntKind} {x y:Int} : aBin P b t (.prim (.int q x)) (.prim (.int q y))=binInt b q x y:=by simp [aBin]
theorem aBin_str {b:BinOp} {t:TypeId} {x y:ByteArray} : aBin P b t (.prim (.string x)) (.prim (.string y))=binStr b x y:=rfl
def Zr (P:Program) (t:TypeId):Bool:=match P.underlying t with|some .bool=>true|_=>false
theorem aBin_bool {b:BinOp} {t:TypeId} {x y:Bool} (h:Zr P t=true):aBin P b t (.prim (.bool x)) (.prim (.bool y))=binBool b x y:=by
 unfold Zr at h
 split at h
 ·rename_i h'; simp [aBin,h']
 ·simp at h
theorem callP_eq [Globs] [Ext P] {f:FuncId} {args:List AV} : Bq P call f args S tk n=if (((args.map w2).all pure2 && !Ext.mv P f) || (shF f && K1 P f args.length && !Ext.mv P f && !Ext.on P f) || (xF f && Globs.dr))=true then call f args S tk n else none:=rfl
theorem callM_vals [Globs] [Ext P] {f:FuncId} {args:List AV} : Eo .vals P call f args S tk n=if (((args.map w2).all pure2 && !Ext.mv P f) || (shF f && K1 P f args.length && !Ext.mv P f && !Ext.on P f))=true then call f args S tk n else none:=by
 have:@Bq (gM .vals) P _ call f args S tk n=if (((args.map w2).all pure2 && !Ext.mv P f) || (shF f && K1 P f args.length && !Ext.mv P f && !Ext.on P f) || (false && true))=true then call f args S tk n else none:=rfl
 rw [Bool.false_and,Bool.or_false] at this
 exact this
theorem callM_look [Globs] [Ext P] {f:FuncId} {args:List AV} : Eo .look P call f args S tk n=if (((args.map w2).all pure2 && !Ext.mv P f) || (shF f && K1 P f args.length && !Ext.mv P f && !Ext.on P f) || xF f)=true then call f args S tk n else none:=by
 have:@Bq (gM .look) P _ call f args S tk n=if (((args.map w2).all pure2 && !Ext.mv P f) || (shF f && K1 P f args.length && !Ext.mv P f && !Ext.on P f) || (xF f && true))=true then call f args S tk n else none:=rfl
 rw [Bool.and_true] at this
 exact this
theorem callM_true [Globs] [Ext P] {f:FuncId} {args:List AV} : Eo .quiet P call f args S tk n=if ((args.map w2).all pure2 && !Ext.mv P f)=true then call f args S tk n else none:=by
 simp [Eo,Bq,shF,xF]
theorem opv_tmp {t:Tmp} : opv T (.tmp t)=getT T t:=rfl
theorem opv_const {v:Value} : opv T (.const v)=cst v:=rfl
theorem opv_func {f:FuncId} : opv T (.func f)=.fn f []:=rfl
theorem cst_int {q:IntKind} {x:Int} : cst (.int q x)=.prim (.int q x):=rfl
theorem cst_bool {b:Bool} : cst (.bool b)=.prim (.bool b):=rfl
theorem cst_string {s:ByteArray} : cst (.string s)=.prim (.string s):=rfl
theorem cst_nil:cst (.slice none 0 0)=.frz [] .nilc:=rfl
theorem cst_ptr:cst (.pointer none)=.prim (.pointer none):=rfl
theorem intN_cast {q:IntKind} {m:Nat} : intN (.prim (.int q (m:Int)))=some m:=by simp [intN]
theorem intN_zero {q:IntKind} : intN (.prim (.int q 0))=some 0:=rfl
inductive Tag {α:Type} (a:α):Type where|mk
def BR {β:Type} (w:Option Bool) (a b:Option β) (_:Tag (a,b)):Option β:=br w a b
def NX {β:Type} (x:Option AV) (f:AV->Option β) (_:Tag f):Option β:=nx x f
def NS {α β:Type} (x:Option α) (f:α->Option β) (_:Tag f):Option β:=ns x f
noncomputable def RX [Globs] (P:Program) [Ext P] (fn:Func) (M:Md) (call:Ak) (all l:List Oper) (st:St) (k:List Kont) (_:Tag (all,l,k)):Option (AV × St):=RO P fn M call all l st k
noncomputable def KX [Globs] (P:Program) [Ext P] (fn:Func) (c:Code) (st:St) (k:List Kont) (_:Tag (c,k)):Option (AV × St):=RK P fn c st k
noncomputable def CX [Globs] (P:Program) [Ext P] (fn:Func) (e:Ex) (st:St) (k:List Kont) (_:Tag k):Option (AV × St):=cont P fn e st k
theorem NX_some {β:Type} {v:AV} {f:AV->Option β} {t:Tag f} : NX (some v) f t=f v:=rfl
theorem NS_some {α β:Type} {v:α} {f:α->Option β} {t:Tag f} : NS (some v) f t=f v:=rfl
theorem BR_true {β:Type} {a b:Option β} {t:Tag (a,b)} : BR (some true) a b t=a:=rfl
theorem BR_false {β:Type} {a b:Option β} {t:Tag (a,b)} : BR (some false) a b t=b:=rfl
theorem BR_not {β:Type} {x:Bool} {a b:Option β} {t:Tag (a,b)} : BR (some (!x)) a b t=BR (some x) b a .mk:=Afz
theorem fin1_BR {x:Bool} {a b:Option (AV × St)} {r:AV} {t:Tag (a,b)} : fin1 (BR (some x) a b t)=some r↔(x=true->fin1 a=some r)/\(x=false->fin1 b=some r):=Aen
theorem finS_BR {m:Nat} {x:Bool} {a b:Option (AV × St)} {r:AV × List Ent × List Nat × Nat} {t:Tag (a,b)} : finS m (BR (some x) a b t)=some r↔(x=true->finS m a=some r)/\(x=false->finS m b=some r):=Aep
theorem finM_BR {x:Bool} {a b:Option (AV × St)} {r:AV × List Ent × List Nat × Nat} {t:Tag (a,b)} : finM (BR (some x) a b t)=some r↔(x=true->finM a=some r)/\(x=false->finM b=some r):=Aeo
variable {st:St}
theorem KX_seq [Globs] [Ext P] {a b:Code} {t:Tag (Code.seq a b,k)} : KX P fn (.seq a b) st k t=KX P fn a st (.seq b :: k) .mk:=Afq
theorem KX_skip [Globs] [Ext P] {t:Tag (Code.skip,k)} : KX P fn .skip st k t=CX P fn .normal st k .mk:=Ad2
theorem KX_exit [Globs] [Ext P] {id:Nat} {t:Tag (Code.exit id,k)} : KX P fn (.exit id) st k t=CX P fn (.exit id) st k .mk:=Ad0
theorem KX_ret [Globs] [Ext P] {t:Tag (Code.ret,k)} : KX P fn .ret st k t=CX P fn .ret st k .mk:=Afp
theorem KX_if [Globs] [Ext P] {c:Operand} {a b:Code} {t:Tag (Code.cond c a b,k)} : KX P fn (.cond c a b) st k t=BR (asB (opv st.T c)) (KX P fn a st k .mk) (KX P fn b st k .mk) .mk:=RK_if
theorem KX_block [Globs] [Ext P] {id:Nat} {c:Code} {t:Tag (Code.block id c,k)} : KX P fn (.block id c) st k t=KX P fn c st (.block id :: k) .mk:=Abg
theorem KX_scope [Globs] [Ext P] {c:Code} {t:Tag (Code.scope c,k)} : KX P fn (.scope c) st k t=KX P fn c st k .mk:=Abi
theorem KX_label [Globs] [Ext P] {l:Nat} {t:Tag (Code.label l,k)} : KX P fn (.label l) st k t=CX P fn .normal st k .mk:=Abh
theorem KX_region [Globs] [Ext P] {id:Nat} {ops:List Oper} {t:Tag (Code.region id ops.toArray false,k)} : KX P fn (.region id ops.toArray false) st k t=RX P fn .no (cL P) ops ops st k .mk:=Yc
structure QmF [Globs] (ops:List Oper):Prop where
 h:mdOf ops=.no
structure QmT [Globs] (ops:List Oper):Prop where
 h:mdOf ops=.quiet
structure QmL [Globs] (ops:List Oper):Prop where
 h:mdOf ops=.look
structure QmV [Globs] (ops:List Oper):Prop where
 h:mdOf ops=.vals
structure TlF [Globs] (ops:List Oper):Prop where
 b:((Db ops).isNone && (Gl ops).isNone)=true
theorem TlF.h [Globs] {ops:List Oper} (t:TlF ops):Db ops=none:=by have:=t.b; simp only [Bool.and_eq_true,Option.isNone_iff_eq_none] at this; exact this.1
theorem TlF.h2 [Globs] {ops:List Oper} (t:TlF ops):Gl ops=none:=by have:=t.b; simp only [Bool.and_eq_true,Option.isNone_iff_eq_none] at this; exact this.2
def Ua:List Oper->List Oper
 | []=>[]
 | [o]=>[o]
 | _ :: b :: l=>Ua (b :: l)
theorem lastO_one {o:Oper} : Ua [o]=[o]:=rfl
theorem lastO_more {a b:Oper} {l:List Oper} : Ua (a :: b :: l)=Ua (b :: l):=rfl
theorem dropL_one {o:Oper} : List.dropLast [o]=[]:=rfl
theorem dropL_more {a b:Oper} {l:List Oper} : List.dropLast (a :: b :: l)=a :: List.dropLast (b :: l):=rfl
structure TlT [Globs] (ops:List Oper):Prop where
 b:((Db ops).isSome && ((Db ops.dropLast).isNone && (Gl ops.dropLast).isNone))=true
theorem TlT.h [Globs] {ops:List Oper} (t:TlT ops):(Db ops).isSome=true:=by have:=t.b; simp only [Bool.and_eq_true,Option.isNone_iff_eq_none] at this; exact this.1
theorem TlT.h2 [Globs] {ops:List Oper} (t:TlT ops):Db ops.dropLast=none:=by have:=t.b; simp only [Bool.and_eq_true,Option.isNone_iff_eq_none] at this; exact this.2.1
theorem TlT.h3 [Globs] {ops:List Oper} (t:TlT ops):Gl ops.dropLast=none:=by have:=t.b; simp only [Bool.and_eq_true,Option.isNone_iff_eq_none] at this; exact this.2.2
theorem KX_draw [Globs] [Ext P] {id:Nat} {ops:List Oper} {t:Tag (Code.region id ops.toArray true,k)} (bo:QmF ops) (hs:TlF ops) (h:Ar st ops=true):KX P fn (.region id ops.toArray true) st k t=RX P fn .no (Bq P (cL P)) ops ops st k .mk:=by
 have hq:=bo.h
 have e:Bq P (cL P)=Eo .no P (cL P):=rfl
 rw [e,<- hq]; exact Lm (by simpa using hs.h) (by simpa using hs.h2) (by simpa using h)
theorem KX_drawL [Globs] [Ext P] {id:Nat} {ops:List Oper} {t:Tag (Code.region id ops.toArray true,k)} (bo:QmL ops) (hs:TlF ops) (h:Ar st ops=true):KX P fn (.region id ops.toArray true) st k t=RX P fn .look (Eo .look P (cL P)) ops ops st k .mk:=by
 have hq:=bo.h
 have:=Lm (P:=P) (fn:=fn) (st:=st) (k:=k) (id:=id) (ops:=ops.toArray) (by simpa using hs.h) (by simpa using hs.h2) (by simpa using h)
 simp only [List.toList_toArray,hq] at this
 exact this
theorem KX_drawV [Globs] [Ext P] {id:Nat} {ops:List Oper} {t:Tag (Code.region id ops.toArray true,k)} (bo:QmV ops) (hs:TlF ops) (h:Ar st ops=true):KX P fn (.region id ops.toArray true) st k t=RX P fn .vals (Eo .vals P (cL P)) ops ops st k .mk:=by
 have hq:=bo.h
 have:=Lm (P:=P) (fn:=fn) (st:=st) (k:=k) (id:=id) (ops:=ops.toArray) (by simpa using hs.h) (by simpa using hs.h2) (by simpa using h)
 simp only [List.toList_toArray,hq] at this
 exact this
theorem KX_drawQ [Globs] [Ext P] {id:Nat} {ops:List Oper} {t:Tag (Code.region id ops.toArray true,k)} (bo:QmT ops) (hs:TlF ops) (h:Ar st ops=true):KX P fn (.region id ops.toArray true) st k t=RX P fn .quiet (Eo .quiet P (cL P)) ops ops st k .mk:=by
 have hq:=bo.h
 have:=Lm (P:=P) (fn:=fn) (st:=st) (k:=k) (id:=id) (ops:=ops.toArray) (by simpa using hs.h) (by simpa using hs.h2) (by simpa using h)
 simp only [List.toList_toArray,hq] at this
 exact this
theorem Zt {L:List Oper} {o:Oper} {a:List Oper} (h:L=a++[o]):Ua L=[o]:=by
 subst h
 induction a with
 | nil=>rfl
 | cons x a ih=>cases a with
  | nil=>rfl
  | cons y a=>exact ih
theorem KX_tail [Globs] [Ext P] {id:Nat} {ops:List Oper} {t:Tag (Code.region id ops.toArray true,k)} (hs:TlT ops) (h:Ar st ops.dropLast=true):KX P fn (.region id ops.toArray true) st k t=KX P fn (.region id ops.dropLast.toArray true) st (.seq (.region id (Ua ops).toArray false) :: k) .mk:=by
 have h1:=hs.h; have h2:=hs.h2; have h3:=hs.h3
 cases f7:Db ops with
 | none=>rw [f7] at h1; cases h1
 | some x =>
  obtain ⟨a,o⟩:=x
  obtain ⟨hL,-⟩:=Jn f7
  have hd:ops.dropLast=a:=by rw [hL]; simp
  rw [Zt hL,hd]
  rw [hd] at h2 h3 h
  exact Ad3 (by simpa using f7) h2 h3 h
structure TlL [Globs] (ops:List Oper):Prop where
 b:((Db ops).isNone && (Gl ops).isSome)=true
theorem TlL.h [Globs] {ops:List Oper} (t:TlL ops):Db ops=none:=by have:=t.b; simp only [Bool.and_eq_true,Option.isNone_iff_eq_none] at this; exact this.1
theorem TlL.h2 [Globs] {ops:List Oper} (t:TlL ops):(Gl ops).isSome=true:=by have:=t.b; simp only [Bool.and_eq_true,Option.isNone_iff_eq_none] at this; exact this.2
structure Afk (o:Oper):Prop where
 h:isMk o=false
def lastL (ops:List Oper):List Oper:=(ops.filter isMk)++Ua ops
theorem openL_one {o:Oper} : openL [o]=[]:=rfl
theorem openL_mk {ds:Tmp} {t ty:TypeId} {pos:String} {af:Array Edge} {b:Oper} {l:List Oper} : openL (⟨some ds,.alloc t,ty,pos,af,none⟩ :: b :: l)=⟨some ds,.move (.global 0),ty,pos,af,none⟩ :: openL (b :: l):=rfl
theorem openL_old {o b:Oper} {l:List Oper} (h:Afk o):openL (o :: b :: l)=o :: openL (b :: l):=by
 show Nb o :: _=_
 unfold Nb; rw [if_neg (by rw [h.h]; simp)]
theorem filtL_nil:List.filter isMk []=[]:=rfl
theorem filtL_mk {ds:Tmp} {t ty:TypeId} {pos:String} {af:Array Edge} {l:List Oper} : List.filter isMk (⟨some ds,.alloc t,ty,pos,af,none⟩ :: l)=⟨some ds,.alloc t,ty,pos,af,none⟩ :: List.filter isMk l:=by rw [List.filter_cons_of_pos rfl]
theorem filtL_old {o:Oper} {l:List Oper} (h:Afk o):List.filter isMk (o :: l)=List.filter isMk l:=by rw [List.filter_cons_of_neg (by rw [h.h]; simp)]
theorem Js:∀ {L:List Oper} {p:Nat} {al:Oper},H7 L=some (p,al)->L.filter isMk=[al]
 | [],_,_,h=>by simp [H7] at h
 | o :: l,p,al,h=>by
  unfold H7 at h
  split at h
  ·rename_i hm
   split at h
   ·rename_i hc
    simp only [Bool.and_eq_true,Bool.not_eq_true'] at hc
    simp only [Option.some.injEq,Prod.mk.injEq] at h
    obtain ⟨-,rfl⟩:=h
    rw [List.filter_cons_of_pos hm,List.filter_eq_nil_iff.2 fun x hx=>by simpa using List.any_eq_false.1 hc.2 x hx]
   ·cases h
  ·rename_i hm
   simp only [Option.map_eq_some_iff,Prod.mk.injEq,Prod.exists] at h
   obtain ⟨p',al',h,-,rfl⟩:=h
   rw [List.filter_cons_of_neg hm]; exact Js h
noncomputable def LX [Globs] (P:Program) [Ext P] (fn:Func) (id:Nat) (a z:List Oper) (st:St) (k:List Kont) (_:Tag (st,k)):Option (AV × St):=RX P fn .look (Eo .look P (cL P)) a a st (.seq (.region id z.toArray false) :: k) .mk
theorem LX_eq [Globs] [Ext P] {id:Nat} {a:Oper} {l z:List Oper} {tg:Tag (st,k)} : LX P fn id (a :: l) z st k tg=RX P fn .look (Eo .look P (cL P)) (a :: l) (a :: l) st (.seq (.region id z.toArray false) :: k) .mk:=rfl
theorem KX_late [Globs] [Ext P] {id:Nat} {ops:List Oper} {t:Tag (Code.region id ops.toArray true,k)} (hs:TlL ops) (bo:QmL (openL ops)) (h:Ar st (openL ops)=true):KX P fn (.region id ops.toArray true) st k t=LX P fn id (openL ops) (lastL ops) st k .mk:=by
 unfold LX
 have h1:=hs.h; have h2:=hs.h2
 have hq:=bo.h
 cases hl:Gl ops with
 | none=>rw [hl] at h2; cases h2
 | some x =>
  obtain ⟨p,al,o⟩:=x
  obtain ⟨a,hL,-,am,hix⟩:=N0 hl
  have e:lastL ops=[al,o]:=by
   have hm:isMk o=false:=by
    unfold isSt at am
    unfold isMk
    split at am
    ·rename_i h; rw [h]
    ·cases am
   unfold lastL
   rw [Zt hL,hL,List.filter_append,Js hix,List.filter_cons_of_neg (by rw [hm]; simp)]; rfl
  rw [e]
  have:=Ad1 (P:=P) (fn:=fn) (st:=st) (k:=k) (id:=id) (ops:=ops.toArray) (by simpa using h1) (by simpa using hl) (by simpa using h)
  simp only [List.toList_toArray,hq] at this
  exact this
theorem CX_seq [Globs] [Ext P] {c:Code} {t:Tag (Kont.seq c :: k)} : CX P fn .normal st (.seq c :: k) t=KX P fn c st k .mk:=rfl
theorem CX_block [Globs] [Ext P] {id:Nat} {t:Tag (Kont.block id :: k)} : CX P fn .normal st (.block id :: k) t=CX P fn .normal st k .mk:=rfl
theorem CX_loop [Globs] [Ext P] {c:Code} {m:Nat} {t:Tag (Kont.loop c m :: k)} (hk:CkF (Kp c)):CX P fn .normal st (.loop c m :: k) t=KX P fn (.loop c) { st with S:=st.S.take m } k .mk:=by
 show RK P fn (.loop c) { st with S:=cutS (Kp c) m st.S } k=_
 rw [hk.h]; rfl
theorem CX_loopK [Globs] [Ext P] {c:Code} {m:Nat} {t:Tag (Kont.loop c m :: k)} (hk:CkT (Kp c)):CX P fn .normal st (.loop c m :: k) t=KX P fn (.loop c) st k .mk:=by
 show RK P fn (.loop c) { st with S:=cutS (Kp c) m st.S } k=_
 rw [hk.h]; rfl
theorem CX_exit_seq [Globs] [Ext P] {c:Code} {id:Nat} {t:Tag (Kont.seq c :: k)} : CX P fn (.exit id) st (.seq c :: k) t=CX P fn (.exit id) st k .mk:=rfl
theorem CX_exit_block [Globs] [Ext P] {id id':Nat} {t:Tag (Kont.block id' :: k)} : CX P fn (.exit id) st (.block id' :: k) t=BR (some (id == id')) (CX P fn .normal st k .mk) (CX P fn (.exit id) st k .mk) .mk:=by
 show (if id=id' then cont P fn .normal st k else cont P fn (.exit id) st k)=br _ _ _
 by_cases h:id=id'
 ·subst h; simp [br,CX]
 ·have e:(id == id')=false:=by simpa using h
  rw [if_neg h,e]; rfl
theorem CX_exit_loop [Globs] [Ext P] {c:Code} {id m:Nat} {t:Tag (Kont.loop c m :: k)} : CX P fn (.exit id) st (.loop c m :: k) t=CX P fn (.exit id) st k .mk:=rfl
theorem CX_ret [Globs] [Ext P] {x:Kont} {t:Tag (x :: k)} : CX P fn .ret st (x :: k) t=CX P fn .ret st k .mk:=Ab5
theorem CX_ret_nil [Globs] [Ext P] {t:Tag ([]:List Kont)} : CX P fn .ret st [] t=outA P fn (some (.ret,st)):=rfl
theorem CX_normal_nil [Globs] [Ext P] {t:Tag ([]:List Kont)} : CX P fn .normal st [] t=outA P fn (some (.normal,st)):=rfl
theorem RX_nil [Globs] [Ext P] {t:Tag (all,([]:List Oper),k)} : RX P fn M call all [] st k t=CX P fn .normal st k .mk:=rfl
def DX (all:List Oper) (g:Nat) (_:Tag all):Option Tmp:=Ab8 all g
theorem DX_zero {o:Oper} {tg:Tag (o :: l)} : DX (o :: l) 0 tg=o.dst:=rfl
theorem DX_succ {o:Oper} {g:Nat} {tg:Tag (o :: l)} : DX (o :: l) (g+1) tg=DX l g .mk:=rfl
theorem RX_guard [Globs] [Ext P] {op:Op} {g:Nat} {w:Bool} {tg:Tag (all,((⟨d,op,ty,pos,af,some (g,w)⟩:Oper) :: l),k)} : RX P fn M call all (⟨d,op,ty,pos,af,some (g,w)⟩ :: l) ⟨T,S,tk,n⟩ k tg=BR (Aa7 T (DX all g .mk) w) (RX P fn M call all (⟨d,op,ty,pos,af,none⟩ :: l) ⟨T,S,tk,n⟩ k .mk) (RX P fn M call all l ⟨putT T d (.prim undef),S,tk,n⟩ k .mk) .mk:=Abp
theorem RX_move [Globs] [Ext P] {x:Operand} {tg:Tag (all,((⟨d,.move x,ty,pos,af,none⟩:Oper) :: l),k)} : RX P fn M call all (⟨d,.move x,ty,pos,af,none⟩ :: l) ⟨T,S,tk,n⟩ k tg=RX P fn M call all l ⟨putT T d (opv T x),S,tk,n⟩ k .mk:=Ad8
theorem RX_assign [Globs] [Ext P] {x:Operand} {tg:Tag (all,((⟨d,.assign x,ty,pos,af,none⟩:Oper) :: l),k)} : RX P fn M call all (⟨d,.assign x,ty,pos,af,none⟩ :: l) ⟨T,S,tk,n⟩ k tg=RX P fn M call all l ⟨putT T d (opv T x),S,tk,n⟩ k .mk:=Ye
theorem RX_pick [Globs] [Ext P] {c a b:Operand} {tg:Tag (all,((⟨d,.pick c a b,ty,pos,af,none⟩:Oper) :: l),k)} : RX P fn M call all (⟨d,.pick c a b,ty,pos,af,none⟩ :: l) ⟨T,S,tk,n⟩ k tg=NX (Z8 (opv T c) (opv T a) (opv T b)) (fun v=>RX P fn M call all l ⟨putT T d v,S,tk,n⟩ k .mk) .mk:=Ad9
theorem RX_bin [Globs] [Ext P] {b:BinOp} {t u:TypeId} {x y:Operand} {tg:Tag (all,((⟨d,.binOp b t x y u,ty,pos,af,none⟩:Oper) :: l),k)} : RX P fn M call all (⟨d,.binOp b t x y u,ty,pos,af,none⟩ :: l) ⟨T,S,tk,n⟩ k tg=NX (aBin P b t (opv T x) (opv T y)) (fun v=>RX P fn M call all l ⟨putT T d v,S,tk,n⟩ k .mk) .mk:=Afr
theorem RX_un [Globs] [Ext P] {u:UnOp} {t:TypeId} {x:Operand} {tg:Tag (all,((⟨d,.unOp u t x,ty,pos,af,none⟩:Oper) :: l),k)} : RX P fn M call all (⟨d,.unOp u t x,ty,pos,af,none⟩ :: l) ⟨T,S,tk,n⟩ k tg=NX (aUn u (opv T x)) (fun v=>RX P fn M call all l ⟨putT T d v,S,tk,n⟩ k .mk) .mk:=RO_un
theorem RX_conv [Globs] [Ext P] {s t:TypeId} {x:Operand} {tg:Tag (all,((⟨d,.convert s t x,ty,pos,af,none⟩:Oper) :: l),k)} : RX P fn M call all (⟨d,.convert s t x,ty,pos,af,none⟩ :: l) ⟨T,S,tk,n⟩ k tg=NX (cvA P s t (opv T x)) (fun v=>RX P fn M call all l ⟨putT T d v,S,tk,n⟩ k .mk) .mk:=Ad5
theorem RX_extract [Globs] [Ext P] {x:Operand} {i:Nat} {tg:Tag (all,((⟨d,.extract x i,ty,pos,af,none⟩:Oper) :: l),k)} : RX P fn M call all (⟨d,.extract x i,ty,pos,af,none⟩ :: l) ⟨T,S,tk,n⟩ k tg=NX (extA (opv T x) i) (fun v=>RX P fn M call all l ⟨putT T d v,S,tk,n⟩ k .mk) .mk:=Wp
theorem RX_field [Globs] [Ext P] {t:TypeId} {x:Operand} {i:Nat} {tg:Tag (all,((⟨d,.field t x i,ty,pos,af,none⟩:Oper) :: l),k)} : RX P fn M call all (⟨d,.field t x i,ty,pos,af,none⟩ :: l) ⟨T,S,tk,n⟩ k tg=NX (fldV (Aw P t i) (opv T x)) (fun v=>RX P fn M call all l ⟨putT T d v,S,tk,n⟩ k .mk) .mk:=Abo
theorem RX_indexAddr [Globs] [Ext P] {t:TypeId} {x i:Operand} {tg:Tag (all,((⟨d,.indexAddr t x i,ty,pos,af,none⟩:Oper) :: l),k)} : RX P fn M call all (⟨d,.indexAddr t x i,ty,pos,af,none⟩ :: l) ⟨T,S,tk,n⟩ k tg=NX (idxA P t (opv T x) (opv T i)) (fun v=>RX P fn M call all l ⟨putT T d v,S,tk,n⟩ k .mk) .mk:=Qv
theorem RX_fieldAddr [Globs] [Ext P] {t:TypeId} {x:Operand} {i:Nat} {tg:Tag (all,((⟨d,.fieldAddr t x i,ty,pos,af,none⟩:Oper) :: l),k)} : RX P fn M call all (⟨d,.fieldAddr t x i,ty,pos,af,none⟩ :: l) ⟨T,S,tk,n⟩ k tg=NX (fldA P t (opv T x) i) (fun v=>RX P fn M call all l ⟨putT T d v,S,tk,n⟩ k .mk) .mk:=Qu
theorem RX_index [Globs] [Ext P] {t:TypeId} {x i:Operand} {tg:Tag (all,((⟨d,.index t x i,ty,pos,af,none⟩:Oper) :: l),k)} : RX P fn M call all (⟨d,.index t x i,ty,pos,af,none⟩ :: l) ⟨T,S,tk,n⟩ k tg=NX (Tg (Aj P t) (opv T x) (intN (opv T i))) (fun v=>RX P fn M call all l ⟨putT T d v,S,tk,n⟩ k .mk) .mk:=Abq
theorem RX_build [Globs] [Ext P] {t:TypeId} {ps:Array (Nat × Operand)} {tg:Tag (all,((⟨d,.build t ps,ty,pos,af,none⟩:Oper) :: l),k)} : RX P fn M call all (⟨d,.build t ps,ty,pos,af,none⟩ :: l) ⟨T,S,tk,n⟩ k tg=NX (bldA (Ae P t) (fieldsOf P t) (ps.toList.map fun (i,x)=>(i,opv T x))) (fun v=>RX P fn M call all l ⟨putT T d v,S,tk,n⟩ k .mk) .mk:=Abk
theorem RX_buildSlice [Globs] [Ext P] {t:TypeId} {len:Nat} {ps:Array (Nat × Operand)} {tg:Tag (all,((⟨d,.buildSlice t len ps,ty,pos,af,none⟩:Oper) :: l),k)} : RX P fn M call all (⟨d,.buildSlice t len ps,ty,pos,af,none⟩ :: l) ⟨T,S,tk,n⟩ k tg=NX (litA ((Au P t).bind (szOf P)) ((Au P t).bind (Ae P)) len (ps.toList.map fun (i,x)=>(i,opv T x))) (fun v=>RX P fn M call all l ⟨putT T d v,S,tk,n⟩ k .mk) .mk:=Pl
theorem RX_slice [Globs] [Ext P] {t:TypeId} {x:Operand} {lo hi mx:Option Operand} {tg:Tag (all,((⟨d,.slice t x lo hi mx,ty,pos,af,none⟩:Oper) :: l),k)} : RX P fn M call all (⟨d,.slice t x lo hi mx,ty,pos,af,none⟩ :: l) ⟨T,S,tk,n⟩ k tg=NX (Du P t (opv T x) (lo.map (opv T)) (hi.map (opv T)) (mx.map (opv T))) (fun v=>RX P fn M call all l ⟨putT T d v,S,tk,n⟩ k .mk) .mk:=Abt
theorem RX_makeFunc [Globs] [Ext P] {f:FuncId} {caps:Array Operand} {tg:Tag (all,((⟨d,.makeFunc (.func f) #[] caps,ty,pos,af,none⟩:Oper) :: l),k)} : RX P fn M call all (⟨d,.makeFunc (.func f) #[] caps,ty,pos,af,none⟩ :: l) ⟨T,S,tk,n⟩ k tg=NX (if ((caps.toList.map (opv T)).all G9)=true then some (.fn f (caps.toList.map (opv T))) else none) (fun v=>RX P fn M call all l ⟨putT T d v,S,tk,n⟩ k .mk) .mk:=Ts
theorem RX_makeBound [Globs] [Ext P] {f:FuncId} {x:Operand} {tg:Tag (all,((⟨d,.makeFunc (.func f) #[x] #[],ty,pos,af,none⟩:Oper) :: l),k)} : RX P fn M call all (⟨d,.makeFunc (.func f) #[x] #[],ty,pos,af,none⟩ :: l) ⟨T,S,tk,n⟩ k tg=RX P fn M call all l ⟨putT T d (.bfn f [opv T x]),S,tk,n⟩ k .mk:=Qw
theorem RX_load [Globs] [Ext P] {t:TypeId} {a:Operand} {tg:Tag (all,((⟨d,.load t a,ty,pos,af,none⟩:Oper) :: l),k)} : RX P fn M call all (⟨d,.load t a,ty,pos,af,none⟩ :: l) ⟨T,S,tk,n⟩ k tg=NX (ldG (@Globs.dr (gM M)) (ldA P t (opv T a) S)) (fun v=>RX P fn M call all l ⟨putT T d v,S,tk,n⟩ k .mk) .mk:=Ad7
theorem RX_store [Globs] [Ext P] {t:TypeId} {a x:Operand} {tg:Tag (all,((⟨none,.store t a x,ty,pos,af,none⟩:Oper) :: l),k)} : RX P fn M call all (⟨none,.store t a x,ty,pos,af,none⟩ :: l) ⟨T,S,tk,n⟩ k tg=NS (stA P t (opv T a) (opv T x) S) (fun S'=>RX P fn M call all l ⟨T,S',tk,n⟩ k .mk) .mk:=Abu
theorem RX_alloc [Globs] [Ext P] {t:TypeId} {tg:Tag (all,((⟨d,.alloc t,ty,pos,af,none⟩:Oper) :: l),k)} : RX P fn M call all (⟨d,.alloc t,ty,pos,af,none⟩ :: l) ⟨T,S,tk,n⟩ k tg=NS (Ae P t) (fun cs=>RX P fn M call all l ⟨putT T d (.ref S.length n 0),S++[⟨n,cs⟩],tk,n+1⟩ k .mk) .mk:=Abj
theorem RX_box [Globs] [Ext P] {t:TypeId} {x:Operand} {tg:Tag (all,((⟨d,.box t x,ty,pos,af,none⟩:Oper) :: l),k)} : RX P fn M call all (⟨d,.box t x,ty,pos,af,none⟩ :: l) ⟨T,S,tk,n⟩ k tg=NS (cellsOf (opv T x)) (fun cs=>RX P fn M call all l ⟨putT T d (.ref S.length n 0),S++[⟨n,cs⟩],tk,n+1⟩ k .mk) .mk:=Afs
theorem RX_appendO [Globs] [Ext P] {x y:Operand} {t:TypeId} {tg:Tag (all,((⟨d,.call ⟨.builtin .append,#[x,y],#[t,t]⟩,ty,pos,af,none⟩:Oper) :: l),k)} (ho:CkT (@Globs.own (gM M) d ty)):RX P fn M call all (⟨d,.call ⟨.builtin .append,#[x,y],#[t,t]⟩,ty,pos,af,none⟩ :: l) ⟨T,S,tk,n⟩ k tg=NS (apO P t (opv T x) (opv T y) S n) (fun (v,S',n')=>RX P fn M call all l ⟨putT T d v,S',tk,n'⟩ k .mk) .mk:=Wn ho.h
theorem RX_append [Globs] [Ext P] {x y:Operand} {t:TypeId} {tg:Tag (all,((⟨d,.call ⟨.builtin .append,#[x,y],#[t,t]⟩,ty,pos,af,none⟩:Oper) :: l),k)} (ho:CkF (@Globs.own (gM M) d ty)):RX P fn M call all (⟨d,.call ⟨.builtin .append,#[x,y],#[t,t]⟩,ty,pos,af,none⟩ :: l) ⟨T,S,tk,n⟩ k tg=NS (apM M P t (opv T x) (opv T y) tk S) (fun (v,tk')=>RX P fn M call all l ⟨putT T d v,S,tk',n⟩ k .mk) .mk:=Yd ho.h
theorem RX_len [Globs] [Ext P] {x:Operand} {t:TypeId} {tg:Tag (all,((⟨d,.call ⟨.builtin .len,#[x],#[t]⟩,ty,pos,af,none⟩:Oper) :: l),k)} : RX P fn M call all (⟨d,.call ⟨.builtin .len,#[x],#[t]⟩,ty,pos,af,none⟩ :: l) ⟨T,S,tk,n⟩ k tg=NX (lenV (Aj P t) (Au P t).isSome (opv T x)) (fun v=>RX P fn M call all l ⟨putT T d v,S,tk,n⟩ k .mk) .mk:=Aft
theorem RX_call [Globs] [Ext P] {f:FuncId} {args:Array Operand} {ats:Array TypeId} {tg:Tag (all,((⟨d,.call ⟨.value (.func f),args,ats⟩,ty,pos,af,none⟩:Oper) :: l),k)} (hx:CkF ((@Globs.dr (gM M) && @xF (gM M) f))):RX P fn M call all (⟨d,.call ⟨.value (.func f),args,ats⟩,ty,pos,af,none⟩ :: l) ⟨T,S,tk,n⟩ k tg=NS (call f (args.toList.map (opv T)) S tk n) (fun (v,S',tk',n')=>RX P fn M call all l ⟨putT T d v,S',tk',n'⟩ k .mk) .mk:=Ad4 hx.h
theorem RX_callL [Globs] [Ext P] {f:FuncId} {args:Array Operand} {ats:Array TypeId} {tg:Tag (all,((⟨d,.call ⟨.value (.func f),args,ats⟩,ty,pos,af,none⟩:Oper) :: l),k)} (hx:CkT (@lkOp (gM M) ⟨d,.call ⟨.value (.func f),args,ats⟩,ty,pos,af,none⟩)):RX P fn M call all (⟨d,.call ⟨.value (.func f),args,ats⟩,ty,pos,af,none⟩ :: l) ⟨T,S,tk,n⟩ k tg=NS (call f (args.toList.map (opv T)) S tk n) (fun (v,S',tk',n')=>NS (gO S S') (fun _=>RX P fn M call all l ⟨putT T d v,S',tk',n'⟩ k .mk) .mk) .mk:=Abl hx.h
theorem RX_callX [Globs] [Ext P] {f:FuncId} {args:Array Operand} {ats:Array TypeId} {tg:Tag (all,((⟨d,.call ⟨.value (.func f),args,ats⟩,ty,pos,af,none⟩:Oper) :: l),k)} (hx:CkT (@anOp (gM M) ⟨d,.call ⟨.value (.func f),args,ats⟩,ty,pos,af,none⟩)):RX P fn M call all (⟨d,.call ⟨.value (.func f),args,ats⟩,ty,pos,af,none⟩ :: l) ⟨T,S,tk,n⟩ k tg=NS (call f (args.toList.map (opv T)) S tk n) (fun (v,S',tk',n')=>NS (reA P all d T S S') (fun _=>RX P fn M call all l ⟨putT T d v,S',tk',n'⟩ k .mk) .mk) .mk:=Abn hx.h
theorem RX_invoke [Globs] [Ext P] {x:Operand} {m:String} {args:Array Operand} {ats:Array TypeId} {tg:Tag (all,((⟨d,.call ⟨.invoke x m,args,ats⟩,ty,pos,af,none⟩:Oper) :: l),k)} (hd:CkF (@Globs.dr (gM M))):RX P fn M call all (⟨d,.call ⟨.invoke x m,args,ats⟩,ty,pos,af,none⟩ :: l) ⟨T,S,tk,n⟩ k tg=NS (invV P call (opv T x) m (args.toList.map (opv T)) S tk n) (fun (v,S',tk',n')=>RX P fn M call all l ⟨putT T d v,S',tk',n'⟩ k .mk) .mk:=Yf hd.h
theorem RX_invokeL [Globs] [Ext P] {x:Operand} {m:String} {args:Array Operand} {ats:Array TypeId} {tg:Tag (all,((⟨d,.call ⟨.invoke x m,args,ats⟩,ty,pos,af,none⟩:Oper) :: l),k)} (hd:CkT (@Globs.dr (gM M))):RX P fn M call all (⟨d,.call ⟨.invoke x m,args,ats⟩,ty,pos,af,none⟩ :: l) ⟨T,S,tk,n⟩ k tg=NS (invV P call (opv T x) m (args.toList.map (opv T)) S tk n) (fun (v,S',tk',n')=>NS (gO S S') (fun _=>RX P fn M call all l ⟨putT T d v,S',tk',n'⟩ k .mk) .mk) .mk:=Wq hd.h
theorem RX_makeM [Globs] [Ext P] {m:String} {x:Operand} {tg:Tag (all,((⟨d,.makeFunc (.method m) #[x] #[],ty,pos,af,none⟩:Oper) :: l),k)} : RX P fn M call all (⟨d,.makeFunc (.method m) #[x] #[],ty,pos,af,none⟩ :: l) ⟨T,S,tk,n⟩ k tg=NX (mthA m (opv T x)) (fun v=>RX P fn M call all l ⟨putT T d v,S,tk,n⟩ k .mk) .mk:=Abs
theorem RX_makeI [Globs] [Ext P] {t:TypeId} {x:Operand} {tg:Tag (all,((⟨d,.makeInterface t x,ty,pos,af,none⟩:Oper) :: l),k)} : RX P fn M call all (⟨d,.makeInterface t x,ty,pos,af,none⟩ :: l) ⟨T,S,tk,n⟩ k tg=NX (ifcA (Aci P t) t (opv T x)) (fun v=>RX P fn M call all l ⟨putT T d v,S,tk,n⟩ k .mk) .mk:=Abr
theorem RX_callV [Globs] [Ext P] {x:Tmp} {args:Array Operand} {ats:Array TypeId} {tg:Tag (all,((⟨d,.call ⟨.value (.tmp x),args,ats⟩,ty,pos,af,none⟩:Oper) :: l),k)} (hx:CkF ((@Globs.dr (gM M) && @Globs.xAny (gM M)))):RX P fn M call all (⟨d,.call ⟨.value (.tmp x),args,ats⟩,ty,pos,af,none⟩ :: l) ⟨T,S,tk,n⟩ k tg=NS (Yu call (getT T x) (args.toList.map (opv T)) S tk n) (fun (v,S',tk',n')=>RX P fn M call all l ⟨putT T d v,S',tk',n'⟩ k .mk) .mk:=Abm hx.h
theorem fin1_NX_not {c:Prop} [Decidable c] {v:AV} {f:AV->Option (AV × St)} {tg:Tag f} {r:AV} : fin1 (NX (if c then none else some v) f tg)=some r↔¬ c/\fin1 (f v)=some r:=by
 by_cases h:c
 ·simp [h]; intro h'; cases h'
 ·simp [h]; rfl
theorem fin1_NX_if {c:Prop} [Decidable c] {v:AV} {f:AV->Option (AV × St)} {tg:Tag f} {r:AV} : fin1 (NX (if c then some v else none) f tg)=some r↔c/\fin1 (f v)=some r:=by
 by_cases h:c
 ·simp [h]; rfl
 ·simp [h]; intro h'; cases h'
theorem fin1_NS_not {α:Type} {c:Prop} [Decidable c] {v:α} {f:α->Option (AV × St)} {tg:Tag f} {r:AV} : fin1 (NS (if c then none else some v) f tg)=some r↔¬ c/\fin1 (f v)=some r:=by
 by_cases h:c
 ·simp [h]; intro h'; cases h'
 ·simp [h]; rfl
theorem fin1_NS_if {α:Type} {c:Prop} [Decidable c] {v:α} {f:α->Option (AV × St)} {tg:Tag f} {r:AV} : fin1 (NS (if c then some v else none) f tg)=some r↔c/\fin1 (f v)=some r:=by
 by_cases h:c
 ·simp [h]; rfl
 ·simp [h]; intro h'; cases h'
theorem finS_NX_not {m:Nat} {c:Prop} [Decidable c] {v:AV} {f:AV->Option (AV × St)} {tg:Tag f} {r:AV × List Ent × List Nat × Nat} : finS m (NX (if c then none else some v) f tg)=some r↔¬ c/\finS m (f v)=some r:=by
 by_cases h:c
 ·simp [h]; intro h'; cases h'
 ·simp [h]; rfl
theorem finS_NX_if {m:Nat} {c:Prop} [Decidable c] {v:AV} {f:AV->Option (AV × St)} {tg:Tag f} {r:AV × List Ent × List Nat × Nat} : finS m (NX (if c then some v else none) f tg)=some r↔c/\finS m (f v)=some r:=by
 by_cases h:c
 ·simp [h]; rfl
 ·simp [h]; intro h'; cases h'
theorem finS_NS_not {m:Nat} {α:Type} {c:Prop} [Decidable c] {v:α} {f:α->Option (AV × St)} {tg:Tag f} {r:AV × List Ent × List Nat × Nat} : finS m (NS (if c then none else some v) f tg)=some r↔¬ c/\finS m (f v)=some r:=by
 by_cases h:c
 ·simp [h]; intro h'; cases h'
 ·simp [h]; rfl
theorem finS_NS_if {m:Nat} {α:Type} {c:Prop} [Decidable c] {v:α} {f:α->Option (AV × St)} {tg:Tag f} {r:AV × List Ent × List Nat × Nat} : finS m (NS (if c then some v else none) f tg)=some r↔c/\finS m (f v)=some r:=by
 by_cases h:c
 ·simp [h]; rfl
 ·simp [h]; intro h'; cases h'
theorem loop1 [Globs] [Ext P] {ι:Type} {c:Code} {tg:Tag (Code.loop c,k)} (I:ι->St->Prop) (μ:ι->Nat) (G:ι->AV) (x:ι)
  (h:∀ x st,I x st->(∀ y st',μ y<μ x->I y st'->fin1 (KX P fn (.loop c) st' k .mk)=some (G y))->fin1 (KX P fn c st (.loop c st.S.length :: k) .mk)=some (G x)) {st:St} (h0:I x st):fin1 (KX P fn (.loop c) st k tg)=some (G x) :=
 Zy I μ G h h0
theorem Agi [Globs] [Ext P] {ι:Type} {c:Code} {m:Nat} {tg:Tag (Code.loop c,k)} (I:ι->St->Prop) (μ:ι->Nat) (G:ι->AV × List Ent × List Nat × Nat) (x:ι)
  (h:∀ x st,I x st->(∀ y st',μ y<μ x->I y st'->finS m (KX P fn (.loop c) st' k .mk)=some (G y))->finS m (KX P fn c st (.loop c st.S.length :: k) .mk)=some (G x)) {st:St} (h0:I x st):finS m (KX P fn (.loop c) st k tg)=some (G x) :=
 Xb I μ G h h0
def tabl:Nat->(Nat->AV)->List AV
 | 0,_=>[]
 | n+1,g=>g 0 :: tabl n fun i=>g (i+1)
theorem A4:∀ {n:Nat} {T:List AV},T.length=n->∃ g,(∀ t,getT T t=g t)/\T=tabl n g
 | 0,[],_=>⟨fun _=>.bot,fun _=>rfl,rfl⟩
 | n+1,x :: T,h=>by
  obtain ⟨g,h1,h2⟩:=A4 (n:=n) (T:=T) (by simpa using h)
  exact ⟨fun|0=>x|i+1=>g i,fun|0=>rfl|i+1=>h1 i,by rw [h2]; rfl⟩
 | 0,_ :: _,h=>by simp at h
 | _+1,[],h=>by simp at h
theorem Rf {S:List Ent} {n:Nat} {cs:List AV} : entAt (S++[⟨n,cs⟩]) S.length n=some cs:=by
 unfold entAt
 rw [Ab,List.getElem?_append_right (Nat.le_refl _)]
 simp
theorem Jq {S:List Ent} {e:Ent} {id ep:Nat} {cs:List AV} (h:entAt S id ep=some cs):entAt (S++[e]) id ep=some cs:=by
 obtain ⟨x,h1,h2,h3⟩:=Bw h
 unfold entAt
 have hl:=A7 h1
 rw [Ab] at h1 ⊢
 rw [List.getElem?_append_left hl,h1]
 simp [h2,h3]
theorem chkM_ref {i e o:Nat} : chkM P (.ref i e o)=some (.ref i e o):=rfl
theorem chkM_fptr {cs:List AV} : chkM P (.fptr cs)=some (.fptr cs):=rfl
theorem chkM_fn {f:FuncId} {cs:List AV} : chkM P (.fn f cs)=some (.fn f cs):=rfl
theorem chkM_bfn {f:FuncId} {cs:List AV} : chkM P (.bfn f cs)=some (.bfn f cs):=rfl
theorem chkM_ifc {t:TypeId} {v:AV} : chkM P (.ifc t v)=some (.ifc t v):=rfl
theorem chkM_mfn {t:TypeId} {m:String} {v:AV} (h:(mRow P t m).isSome=true):chkM P (.mfn t m v)=some (.mfn t m v):=by simp [chkM,h]
theorem Qx [Globs] [Ext P] {t:TypeId} {x y:Operand} (hz:L2 ⟨d,.makeSlice t x y,ty,pos,af,none⟩ x=false):RO P fn M call all (⟨d,.makeSlice t x y,ty,pos,af,none⟩ :: l) ⟨T,S,tk,n⟩ k =
  ns (mkA P t (opv T x) (opv T y)) fun (m,sz,cs)=>RO P fn M call all l ⟨putT T d (.sref S.length n 0 m sz),S++[⟨n,cs⟩],tk,n+1⟩ k:=by
 rw [Bf rfl rfl]
 simp only [evO,hz]
 cases mkA P t (opv T x) (opv T y) <;> rfl
theorem Pm [Globs] [Ext P] {t:TypeId} {x y:Operand} (hz:len0 x=true):RO P fn M call all (⟨d,.makeSlice t x y,ty,pos,af,none⟩ :: l) ⟨T,S,tk,n⟩ k =
  ns (mkA P t (opv T x) (opv T y)) fun (m,sz,cs)=>RO P fn M call all l ⟨putT T d (.frz [] (.tok tk.length 0 sz)),S,tk++[0],n⟩ k:=by
 rw [Bf rfl rfl]
 simp only [evO,L2,hz,Bool.true_or]
 cases mkA P t (opv T x) (opv T y) <;> rfl
theorem Ad6 [Globs] [Ext P] {x y:Operand} {t t':TypeId} : RO P fn M call all (⟨d,.call ⟨.builtin .copy,#[x,y],#[t,t']⟩,ty,pos,af,none⟩ :: l) ⟨T,S,tk,n⟩ k =
  ns (cpA P t (opv T x) (opv T y) S) fun (m,S')=>RO P fn M call all l ⟨putT T d (.int (m:Int)),S',tk,n⟩ k:=by
 rw [Bf rfl rfl]
 simp only [evO,List.map_cons,List.map_nil]
 cases cpA P t (opv T x) (opv T y) S <;> rfl
theorem Wo [Globs] [Ext P] {x y:Operand} {t t':TypeId} (ht:(t == t')=false) (ho:@Globs.own (gM M) d ty=false):RO P fn M call all (⟨d,.call ⟨.builtin .append,#[x,y],#[t,t']⟩,ty,pos,af,none⟩ :: l) ⟨T,S,tk,n⟩ k =
  ns (apS P t t' (opv T x) (opv T y) tk) fun (v,tk')=>RO P fn M call all l ⟨putT T d v,S,tk',n⟩ k:=by
 have gu:¬ t=t':=by simpa using ht
 rw [Bf rfl rfl]
 simp only [evO,List.map_cons,List.map_nil,if_neg gu,ho,Bool.false_eq_true,if_false]
 cases apS P t t' (opv T x) (opv T y) tk <;> rfl
theorem Tt [Globs] [Ext P] {x:Operand} : RO P fn M call all (⟨d,.nilCheck x,ty,pos,af,none⟩ :: l) ⟨T,S,tk,n⟩ k=nx (chkM P (opv T x)) fun v=>RO P fn M call all l ⟨putT T d v,S,tk,n⟩ k:=A8 rfl
theorem Afv [Globs] [Ext P] {x y:Operand} {ats:Array TypeId} : RO P fn M call all (⟨d,.call ⟨.builtin .min,#[x,y],ats⟩,ty,pos,af,none⟩ :: l) ⟨T,S,tk,n⟩ k=nx (minA (opv T x) (opv T y)) fun v=>RO P fn M call all l ⟨putT T d v,S,tk,n⟩ k:=A8 rfl
theorem Afu [Globs] [Ext P] {x y:Operand} {ats:Array TypeId} : RO P fn M call all (⟨d,.call ⟨.builtin .max,#[x,y],ats⟩,ty,pos,af,none⟩ :: l) ⟨T,S,tk,n⟩ k=nx (maxA (opv T x) (opv T y)) fun v=>RO P fn M call all l ⟨putT T d v,S,tk,n⟩ k:=A8 rfl
theorem RX_makeSlice [Globs] [Ext P] {t:TypeId} {x y:Operand} {tg:Tag (all,((⟨d,.makeSlice t x y,ty,pos,af,none⟩:Oper) :: l),k)} (hz:CkF (L2 ⟨d,.makeSlice t x y,ty,pos,af,none⟩ x)):RX P fn M call all (⟨d,.makeSlice t x y,ty,pos,af,none⟩ :: l) ⟨T,S,tk,n⟩ k tg=NS (mkA P t (opv T x) (opv T y)) (fun (m,sz,cs)=>RX P fn M call all l ⟨putT T d (.sref S.length n 0 m sz),S++[⟨n,cs⟩],tk,n+1⟩ k .mk) .mk:=Qx hz.h
theorem RX_makeSlice0 [Globs] [Ext P] {t:TypeId} {x y:Operand} {tg:Tag (all,((⟨d,.makeSlice t x y,ty,pos,af,none⟩:Oper) :: l),k)} (hz:CkT (len0 x)):RX P fn M call all (⟨d,.makeSlice t x y,ty,pos,af,none⟩ :: l) ⟨T,S,tk,n⟩ k tg=NS (mkA P t (opv T x) (opv T y)) (fun (m,sz,cs)=>RX P fn M call all l ⟨putT T d (.frz [] (.tok tk.length 0 sz)),S,tk++[0],n⟩ k .mk) .mk:=Pm hz.h
theorem RX_copy [Globs] [Ext P] {x y:Operand} {t t':TypeId} {tg:Tag (all,((⟨d,.call ⟨.builtin .copy,#[x,y],#[t,t']⟩,ty,pos,af,none⟩:Oper) :: l),k)} : RX P fn M call all (⟨d,.call ⟨.builtin .copy,#[x,y],#[t,t']⟩,ty,pos,af,none⟩ :: l) ⟨T,S,tk,n⟩ k tg=NS (cpA P t (opv T x) (opv T y) S) (fun (m,S')=>RX P fn M call all l ⟨putT T d (.int (m:Int)),S',tk,n⟩ k .mk) .mk:=Ad6
theorem RX_appendS [Globs] [Ext P] {x y:Operand} {t t':TypeId} {tg:Tag (all,((⟨d,.call ⟨.builtin .append,#[x,y],#[t,t']⟩,ty,pos,af,none⟩:Oper) :: l),k)} (ht:CkF ((t == t'))) (ho:CkF (@Globs.own (gM M) d ty)):RX P fn M call all (⟨d,.call ⟨.builtin .append,#[x,y],#[t,t']⟩,ty,pos,af,none⟩ :: l) ⟨T,S,tk,n⟩ k tg=NS (apS P t t' (opv T x) (opv T y) tk) (fun (v,tk')=>RX P fn M call all l ⟨putT T d v,S,tk',n⟩ k .mk) .mk:=Wo ht.h ho.h
theorem RX_nilCheck [Globs] [Ext P] {x:Operand} {tg:Tag (all,((⟨d,.nilCheck x,ty,pos,af,none⟩:Oper) :: l),k)} : RX P fn M call all (⟨d,.nilCheck x,ty,pos,af,none⟩ :: l) ⟨T,S,tk,n⟩ k tg=NX (chkM P (opv T x)) (fun v=>RX P fn M call all l ⟨putT T d v,S,tk,n⟩ k .mk) .mk:=Tt
theorem RX_min [Globs] [Ext P] {x y:Operand} {ats:Array TypeId} {tg:Tag (all,((⟨d,.call ⟨.builtin .min,#[x,y],ats⟩,ty,pos,af,none⟩:Oper) :: l),k)} : RX P fn M call all (⟨d,.call ⟨.builtin .min,#[x,y],ats⟩,ty,pos,af,none⟩ :: l) ⟨T,S,tk,n⟩ k tg=NX (minA (opv T x) (opv T y)) (fun v=>RX P fn M call all l ⟨putT T d v,S,tk,n⟩ k .mk) .mk:=Afv
theorem RX_max [Globs] [Ext P] {x y:Operand} {ats:Array TypeId} {tg:Tag (all,((⟨d,.call ⟨.builtin .max,#[x,y],ats⟩,ty,pos,af,none⟩:Oper) :: l),k)} : RX P fn M call all (⟨d,.call ⟨.builtin .max,#[x,y],ats⟩,ty,pos,af,none⟩ :: l) ⟨T,S,tk,n⟩ k tg=NX (maxA (opv T x) (opv T y)) (fun v=>RX P fn M call all l ⟨putT T d v,S,tk,n⟩ k .mk) .mk:=Afu
theorem cvA_int {s t:TypeId} {q:IntKind} {x:Int} : cvA P s t (.prim (.int q x))=Q1 P s t (.prim (.int q x)):=rfl
theorem cvA_str {s t:TypeId} {b:ByteArray} : cvA P s t (.prim (.string b))=if (Aj P s && L5 P t && decide (b.size<=1048576))=true then some (.frz (bytesL b) .unk) else Q1 P s t (.prim (.string b)):=rfl
theorem minA_int {q:IntKind} {x y:Int} : minA (.prim (.int q x)) (.prim (.int q y))=some (.prim (.int q (if y<x then y else x))):=by simp [minA]
theorem maxA_int {q:IntKind} {x y:Int} : maxA (.prim (.int q x)) (.prim (.int q y))=some (.prim (.int q (if y > x then y else x))):=by simp [maxA]
theorem aBin_refNil {b:BinOp} {t:TypeId} {i e o:Nat} : aBin P b t (.ref i e o) (.prim (.pointer none))=Ja b (Rq P t) false:=rfl
theorem aBin_fptrNil {b:BinOp} {t:TypeId} {cs:List AV} : aBin P b t (.fptr cs) (.prim (.pointer none))=Ja b (Rq P t) false:=rfl
theorem aBin_nilNil {b:BinOp} {t:TypeId} : aBin P b t (.prim (.pointer none)) (.prim (.pointer none))=Ja b (Rq P t) true:=rfl
theorem ptrNil_eql {r:Bool} : Ja .eql true r=some (.bool r):=rfl
theorem ptrNil_neq {r:Bool} : Ja .neq true r=some (.bool !r):=rfl
/- what returns -/
theorem fz3_tup {m:Nat} {vs:List AV} : fz3 m S (.tup vs)=.tup (vs.map (fz2 m S)):=rfl
theorem fz3_agg {m:Nat} {cs:List AV} : fz3 m S (.agg cs)=.agg (cs.map (fz1 m S)):=rfl
theorem fz3_prim {m:Nat} {v:Value} : fz3 m S (.prim v)=.prim v:=rfl
theorem fz3_frz {m:Nat} {es:List (List AV)} {c:Cap} : fz3 m S (.frz es c)=.frz es c:=rfl
theorem fz3_ref {m i e o:Nat} : fz3 m S (.ref i e o)=.ref i e o:=rfl
theorem fz3_fn {m:Nat} {f:FuncId} {cs:List AV} : fz3 m S (.fn f cs)=.fn f cs:=rfl
theorem fz3_sref {m i e o len sz:Nat} : fz3 m S (.sref i e o len sz)=fz1 m S (.sref i e o len sz):=rfl
theorem fz2_agg {m:Nat} {cs:List AV} : fz2 m S (.agg cs)=.agg (cs.map (fz1 m S)):=rfl
theorem fz2_prim {m:Nat} {v:Value} : fz2 m S (.prim v)=.prim v:=rfl
theorem fz2_frz {m:Nat} {es:List (List AV)} {c:Cap} : fz2 m S (.frz es c)=.frz es c:=rfl
theorem fz2_ref {m i e o:Nat} : fz2 m S (.ref i e o)=.ref i e o:=rfl
theorem fz2_fn {m:Nat} {f:FuncId} {cs:List AV} : fz2 m S (.fn f cs)=.fn f cs:=rfl
theorem fz2_sref {m i e o len sz:Nat} : fz2 m S (.sref i e o len sz)=fz1 m S (.sref i e o len sz):=rfl
theorem fz1_prim {m:Nat} {v:Value} : fz1 m S (.prim v)=.prim v:=rfl
theorem fz1_frz {m:Nat} {es:List (List AV)} {c:Cap} : fz1 m S (.frz es c)=.frz es c:=rfl
theorem fz1_ref {m i e o:Nat} : fz1 m S (.ref i e o)=.ref i e o:=rfl
theorem fz1_fn {m:Nat} {f:FuncId} {cs:List AV} : fz1 m S (.fn f cs)=.fn f cs:=rfl
theorem fz1_sref {m i e o len sz:Nat} (h:m<=i):fz1 m S (.sref i e o len sz)=fzB (entAt S i e) o len sz:=by simp [fz1,h]
theorem fz1_old {m i e o len sz:Nat} (h:i<m):fz1 m S (.sref i e o len sz)=.sref i e o len sz:=by simp [fz1]; omega
theorem fzB_some {cs:List AV} {o len sz:Nat} : fzB (some cs) o len sz=K3 (E8 sz len (cs.drop o)):=rfl
end
end
section
open Go
section
variable {P:Program}
def aggB (b:BinOp) (k:Option (List Nat)) (xs ys:List AV):Option AV :=
 match k with
 | some ks=>match b with
  | .eql=>(cellsEq ks xs ys).map .bool
  | .neq=>(cellsEq ks xs ys).map fun c=>.bool !c
  | _=>none
 | none=>none
theorem aBin_agg {b:BinOp} {t:TypeId} {xs ys:List AV} : aBin P b t (.agg xs) (.agg ys)=aggB b (Ace P t) xs ys:=rfl
theorem aggB_eql {ks:List Nat} {xs ys:List AV} : aggB .eql (some ks) xs ys=(cellsEq ks xs ys).map .bool:=rfl
theorem aggB_neq {ks:List Nat} {xs ys:List AV} : aggB .neq (some ks) xs ys=(cellsEq ks xs ys).map fun c=>.bool !c:=rfl
def nilB (b:BinOp) (r:Option Bool):Option AV :=
 match r with
 | some r=>match b with
  | .eql=>some (.bool r)
  | .neq=>some (.bool !r)
  | _=>none
 | none=>none
theorem aBin_nil {b:BinOp} {t:TypeId} {es:List (List AV)} {c:Cap} (h:(Au P t).isSome=true):aBin P b t (.frz es c) (.frz [] .nilc)=nilB b (nilA es c):=by
 cases he:Au P t with
 | none=>rw [he] at h; simp at h
 | some e=>cases hn:nilA es c <;> simp only [aBin,nilB,he,hn] <;> cases b <;> rfl
theorem nilB_eql {r:Bool} : nilB .eql (some r)=some (.bool r):=rfl
theorem nilB_neq {r:Bool} : nilB .neq (some r)=some (.bool !r):=rfl
theorem cellEq_int {q:IntKind} {a b:Int} : Lr 1 (.prim (.int q a)) (.prim (.int q b))=some (a == b):=by simp [Lr]
theorem cellEq_str {a b:ByteArray} : Lr 2 (.prim (.string a)) (.prim (.string b))=some (sEq a b):=rfl
theorem cellEq_bool {a b:Bool} : Lr 0 (.prim (.bool a)) (.prim (.bool b))=some (a == b):=rfl
def Af7 (d s:Option IntKind) (n:Int):Option AV:=match d,s with|some k,some _=>some (.prim (.int k (k.wrap n)))|_,_=>none
theorem aConv_int {s d:TypeId} {q:IntKind} {n:Int} : Q1 P s d (.prim (.int q n))=Af7 (Ef P d) (Ef P s) n:=rfl
theorem convI_some {k q:IntKind} {n:Int} : Af7 (some k) (some q) n=some (.prim (.int k (k.wrap n))):=rfl
theorem aConv_str {s d:TypeId} {b:ByteArray} : Q1 P s d (.prim (.string b))=if (Aj P s && Aj P d)=true then some (.str b) else none:=rfl
/- append -/
def apB (sz:Option Nat) (es:List (List AV)) (c:Cap) (ys:List (List AV)) (tk:List Nat):Option (AV × List Nat) :=
 match sz with
 | some sz=>if Aq tk c sz=true/\B7 sz es=true/\B7 sz ys=true/\Aah sz (es.length+ys.length)=true then some (.frz (es++ys) (Ed tk c sz),H3 tk c) else none
 | none=>none
theorem apA_eq {t:TypeId} {es ys:List (List AV)} {c c':Cap} {tk:List Nat} : apA P t (.frz es c) (.frz ys c') tk=apB (apT P t) es c ys tk:=by
 unfold apA apB; cases apT P t <;> rfl
theorem apB1_frz [Globs] {t:TypeId} {es ys:List (List AV)} {c c':Cap} {tk:List Nat} {S:List Ent} : apB1 P t (.frz es c) (.frz ys c') tk S=apB (apT P t) es c ys tk:=apA_eq
theorem apB_all {sz:Nat} {es ys:List (List AV)} {c:Cap} {tk:List Nat} (h1:Aq tk c sz=true) (h2:B7 sz es=true) (h3:B7 sz ys=true) (h4:es.length+ys.length<=1048576):apB (some sz) es c ys tk=some (.frz (es++ys) (Ed tk c sz),H3 tk c):=by
 unfold apB; simp only; rw [if_pos ⟨h1,h2,h3,by unfold Aah; rw [decide_eq_true h4]; rfl⟩]
theorem apB_one {sz:Nat} {es:List (List AV)} {y:List AV} {c:Cap} {tk:List Nat} (h1:Aq tk c sz=true) (h2:B7 sz es=true) (h3:(y.length == sz)=true) (h4:es.length+1<=1048576):apB (some sz) es c [y] tk=some (.frz (es++[y]) (Ed tk c sz),H3 tk c) :=
 apB_all h1 h2 (by simp [B7]; simpa using h3) (by simpa using h4)
theorem Jz {sz:Nat} {c:Cap} {tk:List Nat} (h:Aq tk c sz=true):Aq (H3 tk c) (Ed tk c sz) sz=true:=by
 have hn:∀ (l:List Nat) (i v:Nat),i<l.length->nth (put l i v) i=some v:=by
  intro l
  induction l with
  | nil=>intro i v h; simp at h
  | cons a l ih =>
   intro i v h
   cases i with
   | zero=>rfl
   | succ i=>exact ih i v (by simpa using h)
 cases c with
 | unk=>simp [Aq] at h
 | nl=>simp [Aq] at h
 | nn=>simp [Aq] at h
 | tight=>simp only [Ed,H3,Aq,Ab]; simp
 | nilc=>simp only [Ed,H3,Aq,Ab]; simp
 | tok id ep s =>
  simp only [Aq,Bool.and_eq_true,beq_iff_eq] at h
  simp only [Ed,H3,Aq,hn _ _ _ (A7 h.2)]
  simp
theorem E9 {α:Type} {f:α->List AV} {sz:Nat} (h:∀ a,(f a).length=sz) (l:List α):B7 sz (l.map f)=true:=by
 unfold B7; simp [h]
theorem entAt_mid {S:List Ent} {n:Nat} {cs:List AV} {e:Ent} : entAt (S++[⟨n,cs⟩]++[e]) S.length n=some cs:=Jq Rf
theorem Wv {S:List Ent} {e e':Ent} {id ep:Nat} {cs:List AV} (h:entAt S id ep=some cs):entAt (S++[e]++[e']) id ep=some cs:=Jq (Jq h)
theorem put_new {S:List Ent} {e e':Ent} : put (S++[e]) S.length e'=S++[e']:=by
 induction S with
 | nil=>rfl
 | cons a S ih=>simp only [List.cons_append,List.length_cons,put,ih]
theorem put_mid {S:List Ent} {e e' e'':Ent} : put (S++[e]++[e'']) S.length e'=S++[e']++[e'']:=by
 induction S with
 | nil=>rfl
 | cons a S ih=>simp only [List.cons_append,List.length_cons,put] at ih ⊢; rw [ih]
theorem take_two {S:List Ent} {e e':Ent} : (S++[e]++[e']).take S.length=S:=by
 rw [List.append_assoc,List.take_left']; rfl
theorem Ab1 [Globs] [Ext P] {f:FuncId} {args args':List AV} {S:List Ent} {tk:List Nat} {n:Nat} (h:args.map w2=args'.map w2) (hp:(args.map w2).all pure2=true) (hx:(Ext.on P f || Ext.mv P f)=false):cL P f args S tk n=cL P f args' S tk n:=by
 simp only [Bool.or_eq_false_iff] at hx
 have:∀ k,evF P Ar k f args S tk n=evF P Ar k f args' S tk n:=by
  intro k
  cases k with
  | zero=>rfl
  | succ k =>
   simp only [evF,hx.1,hx.2,Bool.false_eq_true,if_false]
   rw [h] at hp ⊢
   simp only [hp,if_true]
 unfold cL
 congr 1; funext k; exact this k
/- cells that are numbers -/
theorem Acx {cs:List AV} {v w:AV} : ∀ {i:Nat},nth cs i=some w->over cs i [v]=some (put cs i v):=by
 induction cs with
 | nil=>intro i h; simp [nth] at h
 | cons c cs ih=>intro i h; cases i with
  | zero=>cases cs <;> rfl
  | succ i=>simp only [over,ih (i:=i) h,put,Option.map_some]
theorem Aac {α β:Type} {f:α->β} : ∀ {l:List α} {i:Nat} {v:α},put (l.map f) i (f v)=(put l i v).map f
 | [],_,_=>rfl
 | _ :: _,0,_=>rfl
 | _ :: l,i+1,_=>by simp only [List.map_cons,put,Aac (l:=l)]
theorem Uo {α:Type} : ∀ {l:List α} {i:Nat} {v:α},put l i v=l.set i v
 | [],_,_=>rfl
 | _ :: _,0,_=>rfl
 | _ :: l,i+1,_=>by simp only [put,List.set_cons_succ,Uo (l:=l)]
theorem Ab7 {α:Type} {l:List α} {o:Nat} {x:α} (h:nth l o=some x):nth (l.drop o) 0=some x:=by
 rw [Ab] at h ⊢
 rw [List.getElem?_drop]; exact h
theorem Acf {v:AV} {c:Nat} : (List.replicate c [v]).flatten=List.replicate c v:=by
 induction c with
 | zero=>rfl
 | succ c ih=>simp [List.replicate_succ,ih]
theorem Pa {α:Type} {f:α->AV} : ∀ {n:Nat} {l:List α},n<=l.length->E8 1 n (l.map f)=some ((l.take n).map fun x=>[f x])
 | 0,_,_=>by simp [E8]
 | n+1,[],h=>by simp at h
 | n+1,x :: l,h=>by
  simp only [List.map_cons,E8,takeN,Option.map_some,List.drop_succ_cons,List.drop_zero,Pa (n:=n) (l:=l) (by simpa using h),List.take_succ_cons]
end
/- the equations of the evaluator,as one (simp takes it apart) -/
set_option linter.defProp false in
def evs:=And.intro @KX_seq <|
 And.intro @KX_skip <|
 And.intro @KX_exit <|
 And.intro @KX_ret <|
 And.intro @KX_if <|
 And.intro @KX_block <|
 And.intro @KX_region <|
 And.intro @KX_scope <|
 And.intro @KX_label <|
 And.intro @CX_seq <|
 And.intro @CX_block <|
 And.intro @CX_loop <|
 And.intro @CX_loopK <|
 And.intro @CX_exit_seq <|
 And.intro @CX_exit_block <|
 And.intro @CX_exit_loop <|
 And.intro @CX_ret <|
 And.intro @CX_ret_nil <|
 And.intro @CX_normal_nil <|
 And.intro @NX_some <|
 And.intro @NS_some <|
 And.intro @BR_true <|
 And.intro @BR_false <|
 And.intro @BR_not <|
 And.intro @fin1_BR <|
 And.intro @finS_BR <|
 And.intro @RX_nil <|
 And.intro @RX_guard <|
 And.intro @RX_move <|
 And.intro @RX_assign <|
 And.intro @RX_pick <|
 And.intro @RX_bin <|
 And.intro @RX_un <|
 And.intro @RX_conv <|
 And.intro @RX_extract <|
 And.intro @RX_field <|
 And.intro @RX_indexAddr <|
 And.intro @RX_fieldAddr <|
 And.intro @RX_index <|
 And.intro @RX_build <|
 And.intro @RX_buildSlice <|
 And.intro @RX_slice <|
 And.intro @RX_makeFunc <|
 And.intro @RX_makeBound <|
 And.intro @RX_load <|
 And.intro @ldG_off <|
 And.intro @ldG_on <|
 And.intro @RX_store <|
 And.intro @RX_alloc <|
 And.intro @RX_box <|
 And.intro @RX_append <|
 And.intro @RX_appendO <|
 And.intro @RX_len <|
 And.intro @RX_call <|
 And.intro @RX_callL <|
 And.intro @RX_callX <|
 And.intro @RX_invoke <|
 And.intro @RX_invokeL <|
 And.intro @RX_makeM <|
 And.intro @RX_makeI <|
 And.intro @invV_ifc <|
 And.intro @invF_some <|
 And.intro @mthA_ifc <|
 And.intro @ifcA_ok <|
 And.intro @gO_refl <|
 And.intro @chkM_ref <|
 And.intro @chkM_fptr <|
 And.intro @chkM_fn <|
 And.intro @chkM_bfn <|
 And.intro @chkM_ifc <|
 And.intro @chkM_mfn <|
 And.intro @RX_callV <|
 And.intro @wantD_some <|
 And.intro @wantV_bool <|
 And.intro @wantV_undef <|
 And.intro @DX_zero <|
 And.intro @DX_succ <|
 And.intro @asB_bool <|
 And.intro @opv_tmp <|
 And.intro @opv_const <|
 And.intro @opv_func <|
 And.intro @cst_int <|
 And.intro @cst_bool <|
 And.intro @cst_string <|
 And.intro @cst_nil <|
 And.intro @cst_ptr <|
 And.intro @pickA_true <|
 And.intro @pickA_false <|
 And.intro @pickA_bool <|
 And.intro @extA_tup <|
 And.intro @fldV_agg <|
 And.intro @bldA_some <|
 And.intro @litA_some <|
 And.intro @orLit_some <|
 And.intro @orLit_none <|
 And.intro @callV_fn <|
 And.intro @callV_bfn <|
 And.intro @aBin_int <|
 And.intro @aBin_str <|
 And.intro @aBin_bool <|
 And.intro @fin1_some <|
 And.intro @finS_some <|
 And.intro @lenV_str <|
 And.intro @lenV_frz <|
 And.intro @lenV_sref <|
 And.intro @List.map_cons.{0,0} <|
 And.intro @List.map_nil.{0,0} <|
 And.intro @List.cons_append.{0} <|
 And.intro @List.nil_append.{0} <|
 And.intro @List.length_cons.{0} <|
 And.intro @List.length_nil.{0} <|
 And.intro @List.toList_toArray.{0} <|
 And.intro @Option.map_some.{0,0} <|
 And.intro @Option.map_none.{0,0} <|
 And.intro @Option.bind_some.{0,0} <|
 And.intro @Option.bind_none.{0,0} <|
 And.intro @Option.isSome_some.{0} <|
 And.intro @beq_true <|
 And.intro @beq_false <|
 And.intro @Bool.true_and <|
 And.intro @Bool.false_and <|
 And.intro @Bool.and_true <|
 And.intro @Bool.and_false <|
 And.intro @Bool.true_or <|
 And.intro @Bool.or_true <|
 And.intro @Bool.false_or <|
 And.intro @Bool.or_false <|
 And.intro @Bool.not_true <|
 And.intro @Bool.not_false <|
 And.intro @Bool.false_eq_true <|
 And.intro @true_implies <|
 And.intro @false_implies <|
 And.intro @and_true <|
 And.intro @true_and <|
 And.intro @Nat.zero_add <|
 And.intro @fin1_NX_not <|
 And.intro @fin1_NX_if <|
 And.intro @fin1_NS_not <|
 And.intro @fin1_NS_if <|
 And.intro @finS_NX_not <|
 And.intro @finS_NX_if <|
 And.intro @finS_NS_not <|
 And.intro @finS_NS_if <|
 And.intro @Option.some.injEq.{0} <|
 And.intro @AV.tup.injEq <|
 And.intro @AV.prim.injEq <|
 And.intro @AV.agg.injEq <|
 And.intro @AV.frz.injEq <|
 And.intro @Value.int.injEq <|
 And.intro @Value.bool.injEq <|
 And.intro @Value.string.injEq <|
 And.intro @List.cons.injEq.{0} <|
 And.intro @decide_true <|
 And.intro @decide_false <|
 And.intro @List.take_zero.{0} <|
 And.intro @List.take_nil.{0} <|
 And.intro @List.take_succ_cons.{0} <|
 And.intro @List.all_cons.{0} <|
 And.intro @List.all_nil.{0} <|
 And.intro @List.drop_zero.{0} <|
 And.intro @List.drop_succ_cons.{0} <|
 And.intro @List.drop_nil.{0} <|
 And.intro @List.length_map.{0,0} <|
 And.intro @intN_cast <|
 And.intro @intN_zero <|
 And.intro @aBin_agg <|
 And.intro @aggB_eql <|
 And.intro @aggB_neq <|
 And.intro @aBin_nil <|
 And.intro @nilB_eql <|
 And.intro @nilB_neq <|
 And.intro @cellEq_int <|
 And.intro @cellEq_str <|
 And.intro @cellEq_bool <|
 And.intro @apA_eq <|
 And.intro @apB_one <|
 And.intro @apB_all <|
 And.intro @entAt_mid <|
 And.intro @put_new <|
 And.intro @put_mid <|
 And.intro @take_two <|
 And.intro @List.replicate_succ.{0} <|
 And.intro @List.replicate_zero.{0} <|
 And.intro @aConv_int <|
 And.intro @convI_some <|
 And.intro @aConv_str <|
 And.intro @RX_makeSlice <|
 And.intro @RX_makeSlice0 <|
 And.intro @RX_copy <|
 And.intro @RX_appendS <|
 And.intro @RX_nilCheck <|
 And.intro @RX_min <|
 And.intro @RX_max <|
 And.intro @cvA_int <|
 And.intro @cvA_str <|
 And.intro @minA_int <|
 And.intro @maxA_int <|
 And.intro @aBin_refNil <|
 And.intro @aBin_fptrNil <|
 And.intro @aBin_nilNil <|
 And.intro @ptrNil_eql <|
 And.intro @ptrNil_neq <|
 And.intro @fz3_tup <|
 And.intro @fz3_agg <|
 And.intro @fz3_prim <|
 And.intro @fz3_frz <|
 And.intro @fz3_ref <|
 And.intro @fz3_fn <|
 And.intro @fz3_sref <|
 And.intro @fz2_agg <|
 And.intro @fz2_prim <|
 And.intro @fz2_frz <|
 And.intro @fz2_ref <|
 And.intro @fz2_fn <|
 And.intro @fz2_sref <|
 And.intro @fz1_prim <|
 And.intro @fz1_frz <|
 And.intro @fz1_ref <|
 And.intro @fz1_fn <|
 And.intro @fz1_sref <|
 And.intro @fz1_old <|
 And.intro @fzB_some <|
 And.intro @finM_BR <|
 And.intro @apB1_frz <|
 And.intro @apM_false <|
 And.intro @apM_look <|
 And.intro @callM_look <|
 And.intro @callM_vals <|
 And.intro @apM_vals <|
 And.intro @finM_some <|
 @Abx
theorem Iz {p:Prop} (h:p):p:=h
theorem dqd {p:Prop} (h:p:=by first|with_reducible assumption|exact ⟨rfl⟩|(refine Iz ?_; kernel_rfl)|omega):p:=h
section
variable {P:Program} {fn:Func} [Globs] [Ext P] {f:FuncId} {c:Code} {args args':List AV} {nt:Nat} {S:List Ent} {tk:List Nat} {n:Nat}
/- a call is opened: the function and the number of its slots are named -/
theorem opP {r : AV} (hf : P.funcs[f]? = some fn) (ew : fn.ntmps = nt) (h : fin1 (KX P fn c ⟨args' ++ bots (nt - args.length), [], [], 0⟩ [] .mk) = some r) (hx : (Ext.on P f || Ext.mv P f) = false := by exact rfl) (hb : fn.body = some c := by exact rfl) (au : D7 c = false := by decide +kernel) (ao : (fn.name == "runtime.NumGoroutine") = false := by decide +kernel) (aa : args.map w2 = args' := by exact rfl) (hp : args'.all pure2 = true := by exact rfl) (hp3 : pure3 r = true := by exact rfl) : cL P f args S tk n = some (r, S, tk, n) := Q8 hf hx hb au ao ew aa hp S tk n hp3 h
theorem opS {r : AV × List Ent × List Nat × Nat} (hf : P.funcs[f]? = some fn) (ew : fn.ntmps = nt) (h : finS S.length (KX P fn c ⟨args ++ bots (nt - args.length), S, tk, n⟩ [] .mk) = some r) (hx : (Ext.on P f || Ext.mv P f) = false := by exact rfl) (hb : fn.body = some c := by exact rfl) (ao : (fn.name == "runtime.NumGoroutine") = false := by decide +kernel) (hp : (args.map w2).all pure2 = false := by exact rfl) : cL P f args S tk n = some r := Lq hf hx hb ao ew hp h
end
set_option linter.defProp false in
def evt:=And.intro @evs <|
 And.intro @KX_draw <|
 And.intro @KX_drawQ <|
 And.intro @KX_drawL <|
 And.intro @KX_drawV <|
 And.intro @KX_late <|
 And.intro @openL_one <|
 And.intro @openL_mk <|
 And.intro @openL_old <|
 And.intro @filtL_nil <|
 And.intro @filtL_mk <|
 And.intro @filtL_old <|
 And.intro @KX_tail <|
 And.intro @lastO_one <|
 And.intro @lastO_more <|
 And.intro @dropL_one <|
 And.intro @dropL_more <|
 And.intro @callP_eq <|
 And.intro @callM_true <|
 And.intro @LX_eq <|
 And.intro @nth.eq_1 <|
 And.intro @nth.eq_2 <|
 And.intro @nth.eq_3 <|
 And.intro @put.eq_1 <|
 And.intro @put.eq_2 <|
 And.intro @put.eq_3 <|
 And.intro @putT.eq_def <|
 And.intro @getT.eq_1 <|
 And.intro @getT.eq_2 <|
 And.intro @getT.eq_3 <|
 And.intro @binInt.eq_def <|
 And.intro @binStr.eq_def <|
 And.intro @binBool.eq_def <|
 And.intro @aUn.eq_def <|
 And.intro @outA.eq_def <|
 And.intro @resA.eq_def <|
 And.intro @mapO.eq_1 <|
 And.intro @mapO.eq_2 <|
 And.intro @resA1.eq_def <|
 And.intro @oneOf.eq_def <|
 And.intro @w1.eq_def <|
 And.intro @w2.eq_def <|
 And.intro @w3.eq_def <|
 And.intro @bots.eq_1 <|
 And.intro @bots.eq_2 <|
 And.intro @tabl.eq_1 <|
 And.intro @tabl.eq_2 <|
 And.intro @cellsOf.eq_def <|
 And.intro @fldA.eq_def <|
 And.intro @ldA.eq_def <|
 And.intro @stA.eq_def <|
 And.intro @partA.eq_def <|
 And.intro @takeN.eq_1 <|
 And.intro @takeN.eq_2 <|
 And.intro @takeN.eq_3 <|
 And.intro @over.eq_1 <|
 And.intro @over.eq_2 <|
 And.intro @over.eq_3 <|
 And.intro @over.eq_4 <|
 And.intro @over.eq_5 <|
 And.intro @leafOk.eq_def <|
 And.intro @idxA.eq_def <|
 And.intro @nilA.eq_def <|
 And.intro @cellsEq.eq_1 <|
 And.intro @cellsEq.eq_2 <|
 And.intro @cellsEq.eq_3 <|
 And.intro @fillA.eq_1 <|
 And.intro @fillA.eq_2 <|
 And.intro @elemsA.eq_1 <|
 And.intro @elemsA.eq_2 <|
 And.intro @pure1.eq_def <|
 And.intro @pure2.eq_def <|
 And.intro @reps.eq_1 <|
 And.intro @reps.eq_2 <|
 And.intro @chkA.eq_def <|
 And.intro @lastL.eq_def <|
 And.intro @Value.oneCell'.eq_def <|
 And.intro @cond_true.{1} <|
 And.intro @cond_false.{1} <|
 And.intro @if_true.{1} <|
 And.intro @if_false.{1} <|
 And.intro @ite_true.{1} <|
 And.intro @ite_false.{1} <|
 And.intro @implies_true.{1} <|
 And.intro @BEq.rfl.{0} @beq_self_eq_true.{0}
end
end Go.Proofs.YthelkgdmgihhiaaGreatDoor
