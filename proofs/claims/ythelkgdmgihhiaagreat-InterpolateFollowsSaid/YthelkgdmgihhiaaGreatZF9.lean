/- Part 9. -/
import Derived.Test.YthelkgdmgihhiaaGreatZF8
open And renaming intro->B6
open Bool renaming and_eq_true->Ch,false_eq_true->C6,false_and->Ff,true_and->Fq,or_eq_false_iff->Fv,or_false->Fy,not_true->Gf,not_false->Hs,not_eq_true'->Ih,false_or->N2,and_false->iH,true_or->jI,and_true->kA
open Go.Code renaming region->jD,loop->lE
open Go.Proofs.YthelkgdmgihhiaaGreat.AV renaming int->Ca
open Go.Value renaming int->jC
open List renaming replicate->Cg,length_cons->Ci,map_cons->Cn,cons_append->Co,nil_append->Cr,map_nil->Cs,length_nil->Cu,getElem?_append_left->Cv,append_assoc->Cy,length_map->Fg,getElem?_append_right->Fh,append_nil->Fo,drop_zero->Fx,take_succ_cons->Ga,replicate_succ->Og,all_cons->Ox,set_cons_succ->Sz,getElem?_drop->S7,filter_cons_of_neg->jE,toList_toArray->kQ,take_zero->kW,filter->kY
open List.cons renaming injEq->iV
open Nat renaming le_refl->Ce,zero_add->Fm
open Option renaming map_eq_some_iff->Cc,map_some->C7,isNone_iff_eq_none->Ie,bind_some->Oj
open Option.some renaming injEq->Ba
open Prod.mk renaming injEq->Cf
namespace Go.Proofs.YthelkgdmgihhiaaGreat
section
section
variable {P:Program} {fn:Func} {M:Md} {call:Bo} {all l:List Oper} {d:Option Tmp} {ty:TypeId} {pos:String} {af:Array Edge} {T:List AV} {S:List Ent} {tk:List Nat} {n:Nat} {k:List Kont}
def nx {β:Type} (x:Option AV) (f:AV->Option β):Option β:=match x with|some v=>f v|none=>none
def ns {α β:Type} (x:Option α) (f:α->Option β):Option β:=match x with|some v=>f v|none=>none
def Ano (T:List AV) (d:Option Tmp) (w:Bool):Option Bool :=
 match d with
 | none=>none
 | some d=>match getT T d with
  | .prim (.bool b)=>some (b == w)
  | .prim (.tuple _)=>some false
  | _=>none
def Ao3 (all:List Oper) (g:Nat):Option Tmp:=(nth all g).bind (·.dst)
def Atf (v:AV) (w:Bool):Option Bool:=match v with|.prim (.bool b)=>some (b == w)|.prim (.tuple _)=>some false|_=>none
theorem wantV_bool {b w:Bool} : Atf (.prim (.bool b)) w=some (b == w):=rfl
theorem wantV_undef {w:Bool} : Atf (.prim undef) w=some false:=rfl
theorem wantD_some {t:Tmp} {w:Bool} : Ano T (some t) w=Atf (getT T t) w:=rfl
theorem Aoh [Globs] [Ext P] {op:Op} {g:Nat} {w:Bool} : RO P fn M call all (⟨d,op,ty,pos,af,some (g,w)⟩ :: l) ⟨T,S,tk,n⟩ k =
  br (Ano T (Ao3 all g) w) (RO P fn M call all (⟨d,op,ty,pos,af,none⟩ :: l) ⟨T,S,tk,n⟩ k) (RO P fn M call all l ⟨putT T d (.prim undef),S,tk,n⟩ k):=by
 rw [Acg,Acg];have e:H9 all T ⟨d,op,ty,pos,af,some (g,w)⟩=Ano T (Ao3 all g) w:=by
  unfold H9 Ano Ao3;simp only;cases (nth all g).bind (·.dst) <;> rfl
 rw [e];rfl
theorem Kn [Globs] [Ext P] {op:Op} : RO P fn M call all (⟨d,op,ty,pos,af,none⟩ :: l) ⟨T,S,tk,n⟩ k =
  match @evO (gM M) P call ⟨d,op,ty,pos,af,none⟩ ⟨T,S,tk,n⟩ with|some (v,st')=>if @chkO (gM M) P all ⟨d,op,ty,pos,af,none⟩ ⟨T,S,tk,n⟩ v st'=true then RO P fn M call all l { st' with T:=putT st'.T d v } k else none|none=>none:=by
 rw [Acg]; rfl
theorem Aum [G:Globs] {o:Oper} {st st':St} {v:AV} (hx:xOp o=false) (hl:isLd o=false):chkO P all o st v st'=true:=by
 unfold chkO;rw [hx,hl];cases (Globs.dr:Bool) <;> rfl
theorem Aow [G:Globs] {o:Oper} {st st':St} {v:AV} (h:(Globs.dr:Bool)=false):chkO P all o st v st'=true:=by
 unfold chkO;rw [h]; rfl
theorem Dw [Globs] [Ext P] {op:Op} (hx:@xOp (gM M) ⟨d,op,ty,pos,af,none⟩=false) (hl:isLd ⟨d,op,ty,pos,af,none⟩=false):RO P fn M call all (⟨d,op,ty,pos,af,none⟩ :: l) ⟨T,S,tk,n⟩ k =
  match @evO (gM M) P call ⟨d,op,ty,pos,af,none⟩ ⟨T,S,tk,n⟩ with|some (v,st')=>RO P fn M call all l { st' with T:=putT st'.T d v } k|none=>none:=by
 rw [Kn];cases @evO (gM M) P call ⟨d,op,ty,pos,af,none⟩ ⟨T,S,tk,n⟩ with
 | none=>rfl
 | some x =>
  simp only;rw [if_pos (Aum (G:=gM M) hx hl)]
theorem Zr [Globs] [Ext P] {op:Op} (hd:@Globs.dr (gM M)=false):RO P fn M call all (⟨d,op,ty,pos,af,none⟩ :: l) ⟨T,S,tk,n⟩ k =
  match @evO (gM M) P call ⟨d,op,ty,pos,af,none⟩ ⟨T,S,tk,n⟩ with|some (v,st')=>RO P fn M call all l { st' with T:=putT st'.T d v } k|none=>none:=by
 rw [Kn];cases @evO (gM M) P call ⟨d,op,ty,pos,af,none⟩ ⟨T,S,tk,n⟩ with
 | none=>rfl
 | some x =>
  simp only;rw [if_pos (Aow (G:=gM M) hd)]
theorem Ds [Globs] [Ext P] {op:Op} {x:Option AV} (h:@evO (gM M) P call ⟨d,op,ty,pos,af,none⟩ ⟨T,S,tk,n⟩=x.map fun v=>(v,⟨T,S,tk,n⟩)) (hx:@xOp (gM M) ⟨d,op,ty,pos,af,none⟩=false:=by rfl) (hl:isLd ⟨d,op,ty,pos,af,none⟩=false:=by rfl) :
  RO P fn M call all (⟨d,op,ty,pos,af,none⟩ :: l) ⟨T,S,tk,n⟩ k=nx x fun v=>RO P fn M call all l ⟨putT T d v,S,tk,n⟩ k:=by
 rw [Dw hx hl,h]; cases x <;> rfl
theorem Ar0 [Globs] [Ext P] {x:Operand} : RO P fn M call all (⟨d,.move x,ty,pos,af,none⟩ :: l) ⟨T,S,tk,n⟩ k=RO P fn M call all l ⟨putT T d (opv T x),S,tk,n⟩ k:=by rw [Dw rfl rfl]; rfl
theorem Ajc [Globs] [Ext P] {x:Operand} : RO P fn M call all (⟨d,.assign x,ty,pos,af,none⟩ :: l) ⟨T,S,tk,n⟩ k=RO P fn M call all l ⟨putT T d (opv T x),S,tk,n⟩ k:=by rw [Dw rfl rfl]; rfl
def Amf (c a b:AV):Option AV:=match c with|.prim (.bool t)=>some (if t then a else b)|_=>none
theorem pickA_true {a b:AV} : Amf (.prim (.bool true)) a b=some a:=rfl
theorem pickA_false {a b:AV} : Amf (.prim (.bool false)) a b=some b:=rfl
theorem pickA_bool {t x y:Bool} : Amf (.prim (.bool t)) (.prim (.bool x)) (.prim (.bool y))=some (.prim (.bool (bif t then x else y))):=by cases t <;> rfl
theorem Ar1 [Globs] [Ext P] {c a b:Operand} : RO P fn M call all (⟨d,.pick c a b,ty,pos,af,none⟩ :: l) ⟨T,S,tk,n⟩ k=nx (Amf (opv T c) (opv T a) (opv T b)) fun v=>RO P fn M call all l ⟨putT T d v,S,tk,n⟩ k:=Ds rfl
theorem Aty [Globs] [Ext P] {b:BinOp} {t u:TypeId} {x y:Operand} : RO P fn M call all (⟨d,.binOp b t x y u,ty,pos,af,none⟩ :: l) ⟨T,S,tk,n⟩ k=nx (aBin P b t (opv T x) (opv T y)) fun v=>RO P fn M call all l ⟨putT T d v,S,tk,n⟩ k:=Ds rfl
theorem RO_un [Globs] [Ext P] {u:UnOp} {t:TypeId} {x:Operand} : RO P fn M call all (⟨d,.unOp u t x,ty,pos,af,none⟩ :: l) ⟨T,S,tk,n⟩ k=nx (aUn u (opv T x)) fun v=>RO P fn M call all l ⟨putT T d v,S,tk,n⟩ k:=Ds rfl
theorem Arx [Globs] [Ext P] {s t:TypeId} {x:Operand} : RO P fn M call all (⟨d,.convert s t x,ty,pos,af,none⟩ :: l) ⟨T,S,tk,n⟩ k=nx (cvA P s t (opv T x)) fun v=>RO P fn M call all l ⟨putT T d v,S,tk,n⟩ k:=Ds rfl
def extA (v:AV) (i:Nat):Option AV:=match v with|.tup vs=>nth vs i|_=>none
theorem extA_tup {vs:List AV} {i:Nat} : extA (.tup vs) i=nth vs i:=rfl
theorem Ag5 [Globs] [Ext P] {x:Operand} {i:Nat} : RO P fn M call all (⟨d,.extract x i,ty,pos,af,none⟩ :: l) ⟨T,S,tk,n⟩ k=nx (extA (opv T x) i) fun v=>RO P fn M call all l ⟨putT T d v,S,tk,n⟩ k:=Ds rfl
def fldV (f:Option (Nat × Nat × Bool)) (x:AV):Option AV:=match f,x with|some (off,sz,b),.agg cs=>partA b sz (cs.drop off)|_,_=>none
theorem fldV_agg {off sz:Nat} {b:Bool} {cs:List AV} : fldV (some (off,sz,b)) (.agg cs)=partA b sz (cs.drop off):=rfl
theorem Aog [Globs] [Ext P] {t:TypeId} {x:Operand} {i:Nat} : RO P fn M call all (⟨d,.field t x i,ty,pos,af,none⟩ :: l) ⟨T,S,tk,n⟩ k=nx (fldV (A3 P t i) (opv T x)) fun v=>RO P fn M call all l ⟨putT T d v,S,tk,n⟩ k:=Ds (by
 simp only [evO,evQ,fldV];rfl)
theorem Zo [Globs] [Ext P] {t:TypeId} {x i:Operand} : RO P fn M call all (⟨d,.indexAddr t x i,ty,pos,af,none⟩ :: l) ⟨T,S,tk,n⟩ k=nx (idxA P t (opv T x) (opv T i)) fun v=>RO P fn M call all l ⟨putT T d v,S,tk,n⟩ k:=Ds rfl
theorem Zn [Globs] [Ext P] {t:TypeId} {x:Operand} {i:Nat} : RO P fn M call all (⟨d,.fieldAddr t x i,ty,pos,af,none⟩ :: l) ⟨T,S,tk,n⟩ k=nx (fldA P t (opv T x) i) fun v=>RO P fn M call all l ⟨putT T d v,S,tk,n⟩ k:=Ds rfl
def Am6 (ok:Bool) (x:AV) (i:Option Nat):Option AV:=match x,i with|.prim (.string s),some k=>if ok then (s[k]?).map fun b=>.prim (.int .u8 b.toNat) else none|_,_=>none
theorem Aoi [Globs] [Ext P] {t:TypeId} {x i:Operand} : RO P fn M call all (⟨d,.index t x i,ty,pos,af,none⟩ :: l) ⟨T,S,tk,n⟩ k=nx (Am6 (Dd P t) (opv T x) (intN (opv T i))) fun v=>RO P fn M call all l ⟨putT T d v,S,tk,n⟩ k:=Ds (by
 simp only [evO,evQ,Am6];rfl)
def bldA (z:Option (List AV)) (pl:Option (List (Nat × Nat))) (ps:List (Nat × AV)):Option AV:=match z,pl with|some z,some pl=>(fillA pl z ps).map .agg|_,_=>none
theorem bldA_some {z:List AV} {pl:List (Nat × Nat)} {ps:List (Nat × AV)} : bldA (some z) (some pl) ps=(fillA pl z ps).map .agg:=rfl
theorem Aoc [Globs] [Ext P] {t:TypeId} {ps:Array (Nat × Operand)} : RO P fn M call all (⟨d,.build t ps,ty,pos,af,none⟩ :: l) ⟨T,S,tk,n⟩ k=nx (bldA (A2 P t) (fieldsOf P t) (ps.toList.map fun (i,x)=>(i,opv T x))) fun v=>RO P fn M call all l ⟨putT T d v,S,tk,n⟩ k:=Ds (by
 simp only [evO,evQ,bldA];rfl)
def litA (sz:Option Nat) (z:Option (List AV)) (len:Nat) (ps:List (Nat × AV)):Option AV:=match sz,z with
 | some (sz+1),some z=>if z.length=sz+1/\z.all (fun c=>pure1 (w1 c))=true/\len*(sz+1)<=4096 then Ahz (elemsA (sz+1) (Cg len (z.map w1)) ps) (lit1 (sz+1) len ps) else none
 | _,_=>none
theorem orLit_some {es:List (List AV)} {x:Option AV} : Ahz (some es) x=some (.frz es .tight):=rfl
theorem orLit_none {x:Option AV} : Ahz none x=x:=rfl
def reps {α:Type} (x:α):Nat->List α|0=>[]|n+1=>x :: reps x n
theorem Amp {α:Type} (x:α):∀ n,Cg n x=reps x n|0=>rfl|n+1=>by rw [Og,Amp x n]; rfl
theorem litA_some {sz:Nat} {z:List AV} {len:Nat} {ps:List (Nat × AV)} : litA (some (sz+1)) (some z) len ps=if z.length=sz+1/\z.all (fun c=>pure1 (w1 c))=true/\len*(sz+1)<=4096 then Ahz (elemsA (sz+1) (reps (z.map w1) len) ps) (lit1 (sz+1) len ps) else none:=by
 rw [<- Amp]; rfl
theorem Xl [Globs] [Ext P] {t:TypeId} {len:Nat} {ps:Array (Nat × Operand)} : RO P fn M call all (⟨d,.buildSlice t len ps,ty,pos,af,none⟩ :: l) ⟨T,S,tk,n⟩ k =
  nx (litA ((Bc P t).bind (szOf P)) ((Bc P t).bind (A2 P)) len (ps.toList.map fun (i,x)=>(i,opv T x))) fun v=>RO P fn M call all l ⟨putT T d v,S,tk,n⟩ k:=Ds (by
 simp only [evO,evQ];congr 1;cases he:Bc P t with
 | none=>rfl
 | some e =>
  simp only [Oj];unfold litA;cases szOf P e with
  | none=>rfl
  | some s=>cases s <;> cases A2 P e <;> rfl)
theorem Aol [Globs] [Ext P] {t:TypeId} {x:Operand} {lo hi mx:Option Operand} : RO P fn M call all (⟨d,.slice t x lo hi mx,ty,pos,af,none⟩ :: l) ⟨T,S,tk,n⟩ k=nx (Hy P t (opv T x) (lo.map (opv T)) (hi.map (opv T)) (mx.map (opv T))) fun v=>RO P fn M call all l ⟨putT T d v,S,tk,n⟩ k:=Ds rfl
theorem Ach [Globs] [Ext P] {f:FuncId} {caps:Array Operand} : RO P fn M call all (⟨d,.makeFunc (.func f) #[] caps,ty,pos,af,none⟩ :: l) ⟨T,S,tk,n⟩ k =
  nx (if ((caps.toList.map (opv T)).all Lk)=true then some (.fn f (caps.toList.map (opv T))) else none) fun v=>RO P fn M call all l ⟨putT T d v,S,tk,n⟩ k:=Ds (by
 simp only [evO,evQ,List.all_map];have:(caps.toList.all fun x=>Lk (opv T x))=caps.toList.all (Lk ∘ opv T):=rfl;rw [this];by_cases hc:caps=#[]
 ·subst hc; simp
 ·have ew:caps.isEmpty=false:=by simpa using hc
  simp [ew])
theorem Zp [Globs] [Ext P] {f:FuncId} {x:Operand} : RO P fn M call all (⟨d,.makeFunc (.func f) #[x] #[],ty,pos,af,none⟩ :: l) ⟨T,S,tk,n⟩ k =
  RO P fn M call all l ⟨putT T d (.bfn f [opv T x]),S,tk,n⟩ k:=by
 rw [Dw rfl rfl];simp [evO,evQ]
structure CkF (b:Bool):Prop where
 h:b=false
structure CkT (b:Bool):Prop where
 h:b=true
def ldG (d:Bool) (x:Option AV):Option AV:=match x with|some v=>if (d && isB v)=true then none else some v|none=>none
theorem ldG_off {d:Bool} {x:Option AV} (h':CkF d):ldG d x=x:=by have h:=h'.h; subst h; cases x <;> rfl
theorem ldG_on {d:Bool} {v:AV} (h:CkF (isB v)):ldG d (some v)=some v:=by simp [ldG,h.h]
theorem Arz [Globs] [Ext P] {t:TypeId} {a:Operand} : RO P fn M call all (⟨d,.load t a,ty,pos,af,none⟩ :: l) ⟨T,S,tk,n⟩ k=nx (ldG (@Globs.dr (gM M)) (ldA P t (opv T a) S)) fun v=>RO P fn M call all l ⟨putT T d v,S,tk,n⟩ k:=by
 rw [Kn];simp only [evO];cases ldA P t (opv T a) S with
 | none=>rfl
 | some v =>
  simp only [C7,nx,ldG];have:@chkO (gM M) P all ⟨d,.load t a,ty,pos,af,none⟩ ⟨T,S,tk,n⟩ v ⟨T,S,tk,n⟩=!(@Globs.dr (gM M) && isB v):=by
   unfold chkO;cases @Globs.dr (gM M) <;> rfl
  rw [this];cases (@Globs.dr (gM M) && isB v) <;> rfl
theorem Aom [Globs] [Ext P] {t:TypeId} {a x:Operand} : RO P fn M call all (⟨none,.store t a x,ty,pos,af,none⟩ :: l) ⟨T,S,tk,n⟩ k=ns (stA P t (opv T a) (opv T x) S) fun S'=>RO P fn M call all l ⟨T,S',tk,n⟩ k:=by
 rw [Dw rfl rfl];simp only [evO];cases stA P t (opv T a) (opv T x) S <;> rfl
theorem Aob [Globs] [Ext P] {t:TypeId} : RO P fn M call all (⟨d,.alloc t,ty,pos,af,none⟩ :: l) ⟨T,S,tk,n⟩ k=ns (A2 P t) fun cs=>RO P fn M call all l ⟨putT T d (.ref S.length n 0),S++[⟨n,cs⟩],tk,n+1⟩ k:=by
 rw [Dw rfl rfl];simp only [evO];cases A2 P t <;> rfl
theorem Atz [Globs] [Ext P] {t:TypeId} {x:Operand} : RO P fn M call all (⟨d,.box t x,ty,pos,af,none⟩ :: l) ⟨T,S,tk,n⟩ k=ns (cellsOf (opv T x)) fun cs=>RO P fn M call all l ⟨putT T d (.ref S.length n 0),S++[⟨n,cs⟩],tk,n+1⟩ k:=by
 rw [Dw rfl rfl];simp only [evO];cases cellsOf (opv T x) <;> rfl
def apM [Globs] (M:Md) (P:Program) (t:TypeId) (x y:AV) (tk:List Nat) (S:List Ent):Option (AV × List Nat):=@apB1 (gM M) P t x y tk S
theorem apM_false [Globs] {t:TypeId} {x y:AV} : apM .no P t x y tk S=apB1 P t x y tk S:=rfl
theorem Aor [Globs] {t:TypeId} {x y:AV} : apM .quiet P t x y tk S=apA P t x y tk:=by simp [apM,apB1]
theorem apM_vals [Globs] {t:TypeId} {x y:AV} : apM .vals P t x y tk S=apB1 P t x y tk S:=rfl
theorem apM_look [Globs] {t:TypeId} {x y:AV} : apM .look P t x y tk S=apB1 P t x y tk S:=rfl
theorem Ag3 [Globs] [Ext P] {x y:Operand} {t:TypeId} (ho:@Globs.own (gM M) d ty=true):RO P fn M call all (⟨d,.call ⟨.builtin .append,#[x,y],#[t,t]⟩,ty,pos,af,none⟩ :: l) ⟨T,S,tk,n⟩ k=ns (apO P t (opv T x) (opv T y) S n) fun (v,S',n')=>RO P fn M call all l ⟨putT T d v,S',tk,n'⟩ k:=by
 rw [Dw rfl rfl];simp only [evO,Cn,Cs,if_true,ho];cases apO P t (opv T x) (opv T y) S n <;> rfl
theorem Ajb [Globs] [Ext P] {x y:Operand} {t:TypeId} (ho:@Globs.own (gM M) d ty=false):RO P fn M call all (⟨d,.call ⟨.builtin .append,#[x,y],#[t,t]⟩,ty,pos,af,none⟩ :: l) ⟨T,S,tk,n⟩ k=ns (apM M P t (opv T x) (opv T y) tk S) fun (v,tk')=>RO P fn M call all l ⟨putT T d v,S,tk',n⟩ k:=by
 rw [Dw rfl rfl];simp only [evO,Cn,Cs,if_true,ho,C6,if_false];unfold apM;cases @apB1 (gM M) P t (opv T x) (opv T y) tk S <;> rfl
def lenV (st sl:Bool) (x:AV):Option AV:=match x with
 | .prim (.string s)=>if st then some (.int s.size) else none
 | x=>if sl then (lenA x).map fun (n:Nat)=>Ca (n:Int) else none
theorem lenV_str {sl:Bool} {s:ByteArray} : lenV true sl (.prim (.string s))=some (.int s.size):=rfl
theorem lenV_frz {st:Bool} {es:List (List AV)} {c:Cap} : lenV st true (.frz es c)=some (.int es.length):=rfl
theorem lenV_sref {st:Bool} {id ep off len sz:Nat} : lenV st true (.sref id ep off len sz)=some (.int len):=rfl
theorem At0 [Globs] [Ext P] {x:Operand} {t:TypeId} : RO P fn M call all (⟨d,.call ⟨.builtin .len,#[x],#[t]⟩,ty,pos,af,none⟩ :: l) ⟨T,S,tk,n⟩ k=nx (lenV (Dd P t) (Bc P t).isSome (opv T x)) fun v=>RO P fn M call all l ⟨putT T d v,S,tk,n⟩ k:=Ds (by
 simp only [evO,evQ,Cn,Cs];congr 1;unfold lenV;cases opv T x with
 | prim v=>cases v <;> rfl
 | _=>rfl)
theorem Arw [Globs] [Ext P] {f:FuncId} {args:Array Operand} {ats:Array TypeId} (hx:(@Globs.dr (gM M) && @xF (gM M) f)=false):RO P fn M call all (⟨d,.call ⟨.value (.func f),args,ats⟩,ty,pos,af,none⟩ :: l) ⟨T,S,tk,n⟩ k =
  ns (call f (args.toList.map (opv T)) S tk n) fun (v,S',tk',n')=>RO P fn M call all l ⟨putT T d v,S',tk',n'⟩ k:=by
 rw [Kn];simp only [evO,Ew,opv,Fo];cases call f (args.toList.map (opv T)) S tk n with
 | none=>rfl
 | some x =>
  obtain ⟨v,S',tk',n'⟩:=x;simp only [C7,ns];rw [if_pos];unfold chkO;cases hd:@Globs.dr (gM M) with
  | false=>rfl
  | true =>
   rw [hd] at hx;have hx':@xOp (gM M) ⟨d,.call ⟨.value (.func f),args,ats⟩,ty,pos,af,none⟩=false:=hx;rw [hx']; rfl
noncomputable def gO (S S':List Ent):Option Unit:=by classical exact if X9 S S' then some () else none
theorem Ak7 {S S':List Ent} (h:X9 S S'):gO S S'=some ():=by unfold gO; rw [if_pos h]
theorem gO_refl {S:List Ent} : gO S S=some ():=Ak7 ⟨rfl,fun _=>.inl rfl⟩
noncomputable def reA (P:Program) (all:List Oper) (d:Option Tmp) (T:List AV) (S S':List Ent):Option Unit:=by classical exact if S.length<=S'.length/\(d.isSome=true->∀ q ∈ loadsB all d,Agk P T S' q) then some () else none
theorem Aga {S S':List Ent} {L:List (TypeId × Operand × Option Tmp × Bool)} (hL:loadsB all d=L) (h2:S.length<=S'.length) (h3:∀ q ∈ L,Agk P T S' q):reA P all d T S S'=some ():=by
 subst hL; unfold reA; rw [if_pos ⟨h2,fun _=>h3⟩]
open Classical in
theorem Aqu [G:Globs] {o:Oper} {st st':St} {v:AV} (h:lkOp o=true):chkO P all o st v st'=(gO st.S st'.S).isSome:=by
 obtain ⟨hd,hx⟩:=lk_x h;have ha:anOp o=false:=by simp [anOp,h]
 unfold chkO gO chkX;rw [hd,hx,h,ha];by_cases hg:X9 st.S st'.S
 ·rw [if_pos hg];exact @decide_eq_true _ (propDecidable _) ⟨fun _=>hg,fun h=>aO⟩
 ·rw [if_neg hg];exact @decide_eq_false _ (propDecidable _) fun h=>hg (h.1 rfl)
open Classical in
theorem Aul [G:Globs] {o:Oper} {st st':St} {v:AV} (h:anOp o=true):chkO P all o st v st'=(reA P all o.dst st.T st.S st'.S).isSome:=by
 obtain ⟨hd,hx⟩:=an_x h;have hl:lkOp o=false:=by
  unfold anOp at h;simp only [Ch,Ih] at h;exact h.2
 unfold chkO reA chkX;rw [hd,hx,h,hl];by_cases hg:st.S.length<=st'.S.length/\(o.dst.isSome=true->∀ q ∈ loadsB all o.dst,Agk P st.T st'.S q)
 ·rw [if_pos hg];exact @decide_eq_true _ (propDecidable _) ⟨fun h=>aO,fun _=>hg⟩
 ·rw [if_neg hg];exact @decide_eq_false _ (propDecidable _) fun h=>hg (h.2 rfl)
theorem Q1 {α β:Type} {x:Option α} {b:Option β} : (if x.isSome=true then b else none)=ns x fun _=>b:=by cases x <;> rfl
theorem Aod [Globs] [Ext P] {f:FuncId} {args:Array Operand} {ats:Array TypeId} (hx:@lkOp (gM M) ⟨d,.call ⟨.value (.func f),args,ats⟩,ty,pos,af,none⟩=true):RO P fn M call all (⟨d,.call ⟨.value (.func f),args,ats⟩,ty,pos,af,none⟩ :: l) ⟨T,S,tk,n⟩ k =
  ns (call f (args.toList.map (opv T)) S tk n) fun (v,S',tk',n')=>ns (gO S S') fun _=>RO P fn M call all l ⟨putT T d v,S',tk',n'⟩ k:=by
 rw [Kn];simp only [evO,Ew,opv,Fo];cases call f (args.toList.map (opv T)) S tk n with
 | none=>rfl
 | some x =>
  obtain ⟨v,S',tk',n'⟩:=x;simp only [C7,ns];rw [Aqu (G:=gM M) hx,Q1]; rfl
theorem Aof [Globs] [Ext P] {f:FuncId} {args:Array Operand} {ats:Array TypeId} (hx:@anOp (gM M) ⟨d,.call ⟨.value (.func f),args,ats⟩,ty,pos,af,none⟩=true):RO P fn M call all (⟨d,.call ⟨.value (.func f),args,ats⟩,ty,pos,af,none⟩ :: l) ⟨T,S,tk,n⟩ k =
  ns (call f (args.toList.map (opv T)) S tk n) fun (v,S',tk',n')=>ns (reA P all d T S S') fun _=>RO P fn M call all l ⟨putT T d v,S',tk',n'⟩ k:=by
 rw [Kn];simp only [evO,Ew,opv,Fo];cases call f (args.toList.map (opv T)) S tk n with
 | none=>rfl
 | some x =>
  obtain ⟨v,S',tk',n'⟩:=x;simp only [C7,ns];rw [Aul (G:=gM M) hx,Q1]; rfl
def invF (call:Bo) (f:Option FuncId) (args:List AV) (S:List Ent) (tk:List Nat) (n:Nat):Option (AV × List Ent × List Nat × Nat):=match f with|some f=>call f args S tk n|none=>none
def invV (P:Program) (call:Bo) (x:AV) (m:String) (args:List AV) (S:List Ent) (tk:List Nat) (n:Nat):Option (AV × List Ent × List Nat × Nat):=match x with|.ifc t v=>invF call (mRow P t m) (v :: args) S tk n|_=>none
theorem invV_ifc {t:TypeId} {v:AV} {m:String} {args:List AV} : invV P call (.ifc t v) m args S tk n=invF call (mRow P t m) (v :: args) S tk n:=rfl
theorem invF_some {f:FuncId} {args:List AV} : invF call (some f) args S tk n=call f args S tk n:=rfl
theorem Akw [G:Globs] {x:Operand} {m:String} {args:Array Operand} {ats:Array TypeId} : evO P call ⟨d,.call ⟨.invoke x m,args,ats⟩,ty,pos,af,none⟩ ⟨T,S,tk,n⟩=(invV P call (opv T x) m (args.toList.map (opv T)) S tk n).map fun (v,S',tk',n')=>(v,⟨T,S',tk',n'⟩):=by
 simp only [evO,Ew,invV,invF];cases opv T x with
 | ifc t v =>
  simp only;cases mRow P t m <;> rfl
 | _=>rfl
theorem Ajd [Globs] [Ext P] {x:Operand} {m:String} {args:Array Operand} {ats:Array TypeId} (hd:@Globs.dr (gM M)=false):RO P fn M call all (⟨d,.call ⟨.invoke x m,args,ats⟩,ty,pos,af,none⟩ :: l) ⟨T,S,tk,n⟩ k =
  ns (invV P call (opv T x) m (args.toList.map (opv T)) S tk n) fun (v,S',tk',n')=>RO P fn M call all l ⟨putT T d v,S',tk',n'⟩ k:=by
 rw [Zr hd,Akw (G:=gM M)];cases invV P call (opv T x) m (args.toList.map (opv T)) S tk n <;> rfl
theorem Ag6 [Globs] [Ext P] {x:Operand} {m:String} {args:Array Operand} {ats:Array TypeId} (hd:@Globs.dr (gM M)=true):RO P fn M call all (⟨d,.call ⟨.invoke x m,args,ats⟩,ty,pos,af,none⟩ :: l) ⟨T,S,tk,n⟩ k =
  ns (invV P call (opv T x) m (args.toList.map (opv T)) S tk n) fun (v,S',tk',n')=>ns (gO S S') fun _=>RO P fn M call all l ⟨putT T d v,S',tk',n'⟩ k:=by
 have hl:@lkOp (gM M) ⟨d,.call ⟨.invoke x m,args,ats⟩,ty,pos,af,none⟩=true:=by
  unfold lkOp;rw [hd]; rfl
 rw [Kn,Akw (G:=gM M)];cases invV P call (opv T x) m (args.toList.map (opv T)) S tk n with
 | none=>rfl
 | some x =>
  obtain ⟨v,S',tk',n'⟩:=x;simp only [C7,ns];rw [Aqu (G:=gM M) hl,Q1]; rfl
theorem Aok [Globs] [Ext P] {m:String} {x:Operand} : RO P fn M call all (⟨d,.makeFunc (.method m) #[x] #[],ty,pos,af,none⟩ :: l) ⟨T,S,tk,n⟩ k=nx (mthA m (opv T x)) fun v=>RO P fn M call all l ⟨putT T d v,S,tk,n⟩ k:=Ds (by simp [evO,evQ])
theorem mthA_ifc {m:String} {t:TypeId} {v:AV} : mthA m (.ifc t v)=some (.mfn t m v):=rfl
def ifcA (b:Bool) (t:TypeId) (v:AV):Option AV:=if b=true then none else some (.ifc t v)
theorem ifcA_ok {t:TypeId} {v:AV} : ifcA false t v=some (.ifc t v):=rfl
theorem Aoj [Globs] [Ext P] {t:TypeId} {x:Operand} : RO P fn M call all (⟨d,.makeInterface t x,ty,pos,af,none⟩ :: l) ⟨T,S,tk,n⟩ k=nx (ifcA (Ahm P t) t (opv T x)) fun v=>RO P fn M call all l ⟨putT T d v,S,tk,n⟩ k:=Ds rfl
def Aj2 (call:Bo) (f:AV) (args:List AV) (S:List Ent) (tk:List Nat) (n:Nat):Option (AV × List Ent × List Nat × Nat):=match f with|.fn f caps=>call f (args++caps) S tk n|.bfn f first=>call f (first++args) S tk n|_=>none
theorem callV_bfn {f:FuncId} {first args:List AV} : Aj2 call (.bfn f first) args S tk n=call f (first++args) S tk n:=rfl
theorem callV_fn {f:FuncId} {caps args:List AV} : Aj2 call (.fn f caps) args S tk n=call f (args++caps) S tk n:=rfl
theorem Aoe [Globs] [Ext P] {x:Tmp} {args:Array Operand} {ats:Array TypeId} (hx:(@Globs.dr (gM M) && @Globs.xAny (gM M))=false):RO P fn M call all (⟨d,.call ⟨.value (.tmp x),args,ats⟩,ty,pos,af,none⟩ :: l) ⟨T,S,tk,n⟩ k =
  ns (Aj2 call (getT T x) (args.toList.map (opv T)) S tk n) fun (v,S',tk',n')=>RO P fn M call all l ⟨putT T d v,S',tk',n'⟩ k:=by
 have hp:RO P fn M call all (⟨d,.call ⟨.value (.tmp x),args,ats⟩,ty,pos,af,none⟩ :: l) ⟨T,S,tk,n⟩ k=match @evO (gM M) P call ⟨d,.call ⟨.value (.tmp x),args,ats⟩,ty,pos,af,none⟩ ⟨T,S,tk,n⟩ with|some (v,st')=>RO P fn M call all l { st' with T:=putT st'.T d v } k|none=>none:=by
  cases hd:@Globs.dr (gM M) with
  | false=>exact Zr hd
  | true =>
   rw [hd] at hx;exact Dw hx rfl
 rw [hp];simp only [evO,Ew,opv,Aj2];cases getT T x with
 | fn f caps =>
  simp only;cases call f (args.toList.map (opv T)++caps) S tk n <;> rfl
 | bfn f first =>
  simp only;cases call f (first++args.toList.map (opv T)) S tk n <;> rfl
 | _=>rfl
theorem aBin_int {b:BinOp} {t:TypeId} {q:IntKind} {x y:Int} : aBin P b t (.prim (.int q x)) (.prim (.int q y))=binInt b q x y:=by simp [aBin]
theorem aBin_str {b:BinOp} {t:TypeId} {x y:ByteArray} : aBin P b t (.prim (.string x)) (.prim (.string y))=binStr b x y:=rfl
def Ali (P:Program) (t:TypeId):Bool:=match P.underlying t with|some .bool=>true|_=>false
theorem aBin_bool {b:BinOp} {t:TypeId} {x y:Bool} (h:Ali P t=true):aBin P b t (.prim (.bool x)) (.prim (.bool y))=binBool b x y:=by
 unfold Ali at h;split at h
 ·rename_i h'; simp [aBin,h']
 ·simp at h
theorem callP_eq [Globs] [Ext P] {f:FuncId} {args:List AV} : Gc P call f args S tk n=if (((args.map w2).all pure2 && !Ext.mv P f) || (shF f && Rt P f args.length && !Ext.mv P f && !Ext.on P f) || (xF f && Globs.dr))=true then call f args S tk n else none:=rfl
theorem callM_vals [Globs] [Ext P] {f:FuncId} {args:List AV} : Jn .vals P call f args S tk n=if (((args.map w2).all pure2 && !Ext.mv P f) || (shF f && Rt P f args.length && !Ext.mv P f && !Ext.on P f))=true then call f args S tk n else none:=by
 have:@Gc (gM .vals) P _ call f args S tk n=if (((args.map w2).all pure2 && !Ext.mv P f) || (shF f && Rt P f args.length && !Ext.mv P f && !Ext.on P f) || (false && true))=true then call f args S tk n else none:=rfl
 rw [Ff,Fy] at this;exact this
theorem callM_look [Globs] [Ext P] {f:FuncId} {args:List AV} : Jn .look P call f args S tk n=if (((args.map w2).all pure2 && !Ext.mv P f) || (shF f && Rt P f args.length && !Ext.mv P f && !Ext.on P f) || xF f)=true then call f args S tk n else none:=by
 have:@Gc (gM .look) P _ call f args S tk n=if (((args.map w2).all pure2 && !Ext.mv P f) || (shF f && Rt P f args.length && !Ext.mv P f && !Ext.on P f) || (xF f && true))=true then call f args S tk n else none:=rfl
 rw [kA] at this;exact this
theorem callM_true [Globs] [Ext P] {f:FuncId} {args:List AV} : Jn .quiet P call f args S tk n=if ((args.map w2).all pure2 && !Ext.mv P f)=true then call f args S tk n else none:=by
 simp [Jn,Gc,shF,xF]
theorem opv_tmp {t:Tmp} : opv T (.tmp t)=getT T t:=rfl
theorem opv_const {v:Value} : opv T (.const v)=cst v:=rfl
theorem opv_func {f:FuncId} : opv T (.func f)=.fn f []:=rfl
theorem cst_int {q:IntKind} {x:Int} : cst (.int q x)=.prim (.int q x):=rfl
theorem cst_bool {b:Bool} : cst (.bool b)=.prim (.bool b):=rfl
theorem cst_string {s:ByteArray} : cst (.string s)=.prim (.string s):=rfl
theorem cst_nil:cst (.slice none 0 0)=.frz [] .nilc:=rfl
theorem cst_ptr:cst (.pointer none)=.prim (.pointer none):=rfl
theorem intN_cast {q:IntKind} {m:Nat} : intN (.prim (.int q (m:Int)))=some m:=by simp [intN]
theorem intN_zero {q:IntKind} : intN (.prim (.int q 0))=some 0:=rfl
inductive Tag {α:Type} (a:α):Type where|mk
def BR {β:Type} (w:Option Bool) (a b:Option β) (_:Tag (a,b)):Option β:=br w a b
def NX {β:Type} (x:Option AV) (f:AV->Option β) (_:Tag f):Option β:=nx x f
def NS {α β:Type} (x:Option α) (f:α->Option β) (_:Tag f):Option β:=ns x f
noncomputable def RX [Globs] (P:Program) [Ext P] (fn:Func) (M:Md) (call:Bo) (all l:List Oper) (st:St) (k:List Kont) (_:Tag (all,l,k)):Option (AV × St):=RO P fn M call all l st k
noncomputable def KX [Globs] (P:Program) [Ext P] (fn:Func) (c:Code) (st:St) (k:List Kont) (_:Tag (c,k)):Option (AV × St):=RK P fn c st k
noncomputable def CX [Globs] (P:Program) [Ext P] (fn:Func) (e:Ex) (st:St) (k:List Kont) (_:Tag k):Option (AV × St):=cont P fn e st k
theorem NX_some {β:Type} {v:AV} {f:AV->Option β} {t:Tag f} : NX (some v) f t=f v:=rfl
theorem NS_some {α β:Type} {v:α} {f:α->Option β} {t:Tag f} : NS (some v) f t=f v:=rfl
theorem BR_true {β:Type} {a b:Option β} {t:Tag (a,b)} : BR (some true) a b t=a:=rfl
theorem BR_false {β:Type} {a b:Option β} {t:Tag (a,b)} : BR (some false) a b t=b:=rfl
theorem BR_not {β:Type} {x:Bool} {a b:Option β} {t:Tag (a,b)} : BR (some (!x)) a b t=BR (some x) b a .mk:=Auj
theorem fin1_BR {x:Bool} {a b:Option (AV × St)} {r:AV} {t:Tag (a,b)} : fin1 (BR (some x) a b t)=some r↔(x=true->fin1 a=some r)/\(x=false->fin1 b=some r):=Ash
theorem finS_BR {m:Nat} {x:Bool} {a b:Option (AV × St)} {r:AV × List Ent × List Nat × Nat} {t:Tag (a,b)} : finS m (BR (some x) a b t)=some r↔(x=true->finS m a=some r)/\(x=false->finS m b=some r):=Asj
theorem finM_BR {x:Bool} {a b:Option (AV × St)} {r:AV × List Ent × List Nat × Nat} {t:Tag (a,b)} : finM (BR (some x) a b t)=some r↔(x=true->finM a=some r)/\(x=false->finM b=some r):=Asi
variable {st:St}
theorem KX_seq [Globs] [Ext P] {a b:Code} {t:Tag (Code.seq a b,k)} : KX P fn (.seq a b) st k t=KX P fn a st (.seq b :: k) .mk:=Atx
theorem KX_skip [Globs] [Ext P] {t:Tag (Code.skip,k)} : KX P fn .skip st k t=CX P fn .normal st k .mk:=Aru
theorem KX_exit [Globs] [Ext P] {id:Nat} {t:Tag (Code.exit id,k)} : KX P fn (.exit id) st k t=CX P fn (.exit id) st k .mk:=Ars
theorem KX_ret [Globs] [Ext P] {t:Tag (Code.ret,k)} : KX P fn .ret st k t=CX P fn .ret st k .mk:=Atw
theorem KX_if [Globs] [Ext P] {c:Operand} {a b:Code} {t:Tag (Code.cond c a b,k)} : KX P fn (.cond c a b) st k t=BR (asB (opv st.T c)) (KX P fn a st k .mk) (KX P fn b st k .mk) .mk:=RK_if
theorem KX_block [Globs] [Ext P] {id:Nat} {c:Code} {t:Tag (Code.block id c,k)} : KX P fn (.block id c) st k t=KX P fn c st (.block id :: k) .mk:=An8
theorem KX_scope [Globs] [Ext P] {c:Code} {t:Tag (Code.scope c,k)} : KX P fn (.scope c) st k t=KX P fn c st k .mk:=Aoa
theorem KX_label [Globs] [Ext P] {l:Nat} {t:Tag (Code.label l,k)} : KX P fn (.label l) st k t=CX P fn .normal st k .mk:=An9
theorem KX_region [Globs] [Ext P] {id:Nat} {ops:List Oper} {t:Tag (jD id ops.toArray false,k)} : KX P fn (.region id ops.toArray false) st k t=RX P fn .no (cL P) ops ops st k .mk:=Aja
structure QmF [Globs] (ops:List Oper):Prop where
 h:mdOf ops=.no
structure QmT [Globs] (ops:List Oper):Prop where
 h:mdOf ops=.quiet
structure QmL [Globs] (ops:List Oper):Prop where
 h:mdOf ops=.look
structure QmV [Globs] (ops:List Oper):Prop where
 h:mdOf ops=.vals
structure TlF [Globs] (ops:List Oper):Prop where
 b:((Gr ops).isNone && (Kt ops).isNone)=true
theorem TlF.h [Globs] {ops:List Oper} (t:TlF ops):Gr ops=none:=Za09
theorem TlF.h2 [Globs] {ops:List Oper} (t:TlF ops):Kt ops=none:=Za11
def Ac7:List Oper->List Oper
 | []=>[]
 | [o]=>[o]
 | _ :: b :: l=>Ac7 (b :: l)
theorem lastO_one {o:Oper} : Ac7 [o]=[o]:=rfl
theorem lastO_more {a b:Oper} {l:List Oper} : Ac7 (a :: b :: l)=Ac7 (b :: l):=rfl
theorem dropL_one {o:Oper} : List.dropLast [o]=[]:=rfl
theorem dropL_more {a b:Oper} {l:List Oper} : List.dropLast (a :: b :: l)=a :: List.dropLast (b :: l):=rfl
structure TlT [Globs] (ops:List Oper):Prop where
 b:((Gr ops).isSome && ((Gr ops.dropLast).isNone && (Kt ops.dropLast).isNone))=true
theorem TlT.h [Globs] {ops:List Oper} (t:TlT ops):(Gr ops).isSome=true:=Za09
theorem TlT.h2 [Globs] {ops:List Oper} (t:TlT ops):Gr ops.dropLast=none:=by have:=t.b; simp only [Ch,Ie] at this; exact this.2.1
theorem TlT.h3 [Globs] {ops:List Oper} (t:TlT ops):Kt ops.dropLast=none:=by have:=t.b; simp only [Ch,Ie] at this; exact this.2.2
theorem KX_draw [Globs] [Ext P] {id:Nat} {ops:List Oper} {t:Tag (jD id ops.toArray true,k)} (l7:QmF ops) (hs:TlF ops) (h:Bx st ops=true):KX P fn (.region id ops.toArray true) st k t=RX P fn .no (Gc P (cL P)) ops ops st k .mk:=by
 have hq:=l7.h;have e:Gc P (cL P)=Jn .no P (cL P):=rfl;rw [e,<- hq]; exact Tw fO fK aL
theorem KX_drawL [Globs] [Ext P] {id:Nat} {ops:List Oper} {t:Tag (jD id ops.toArray true,k)} (l7:QmL ops) (hs:TlF ops) (h:Bx st ops=true):KX P fn (.region id ops.toArray true) st k t=RX P fn .look (Jn .look P (cL P)) ops ops st k .mk:=by
 exact Ya01
theorem KX_drawV [Globs] [Ext P] {id:Nat} {ops:List Oper} {t:Tag (jD id ops.toArray true,k)} (l7:QmV ops) (hs:TlF ops) (h:Bx st ops=true):KX P fn (.region id ops.toArray true) st k t=RX P fn .vals (Jn .vals P (cL P)) ops ops st k .mk:=by
 exact Ya01
theorem KX_drawQ [Globs] [Ext P] {id:Nat} {ops:List Oper} {t:Tag (jD id ops.toArray true,k)} (l7:QmT ops) (hs:TlF ops) (h:Bx st ops=true):KX P fn (.region id ops.toArray true) st k t=RX P fn .quiet (Jn .quiet P (cL P)) ops ops st k .mk:=by
 exact Ya01
theorem Alm {L:List Oper} {o:Oper} {a:List Oper} (h:L=a++[o]):Ac7 L=[o]:=by
 subst h;induction a with
 | nil=>rfl
 | cons x a ih=>cases a with
  | nil=>rfl
  | cons y a=>exact ih
theorem KX_tail [Globs] [Ext P] {id:Nat} {ops:List Oper} {t:Tag (jD id ops.toArray true,k)} (hs:TlT ops) (h:Bx st ops.dropLast=true):KX P fn (.region id ops.toArray true) st k t=KX P fn (.region id ops.dropLast.toArray true) st (.seq (.region id (Ac7 ops).toArray false) :: k) .mk:=by
 have h1:=hs.h; have h2:=hs.h2; have h3:=hs.h3;cases vu:Gr ops with
 | none=>rw [vu] at h1; cases h1
 | some x =>
  obtain ⟨a,o⟩:=x;obtain ⟨hL,-⟩:=N0 vu;have hd:ops.dropLast=a:=by rw [hL]; simp
  rw [Alm hL,hd];rw [hd] at h2 h3 h;exact Arv (by simpa using vu) h2 h3 h
structure TlL [Globs] (ops:List Oper):Prop where
 b:((Gr ops).isNone && (Kt ops).isSome)=true
theorem TlL.h [Globs] {ops:List Oper} (t:TlL ops):Gr ops=none:=Za09
theorem TlL.h2 [Globs] {ops:List Oper} (t:TlL ops):(Kt ops).isSome=true:=Za11
structure Atr (o:Oper):Prop where
 h:isMk o=false
def lastL (ops:List Oper):List Oper:=(ops.filter isMk)++Ac7 ops
theorem openL_one {o:Oper} : openL [o]=[]:=rfl
theorem openL_mk {ds:Tmp} {t ty:TypeId} {pos:String} {af:Array Edge} {b:Oper} {l:List Oper} : openL (⟨some ds,.alloc t,ty,pos,af,none⟩ :: b :: l)=⟨some ds,.move (.global 0),ty,pos,af,none⟩ :: openL (b :: l):=rfl
theorem openL_old {o b:Oper} {l:List Oper} (h:Atr o):openL (o :: b :: l)=o :: openL (b :: l):=by
 show V8 o :: _=_;unfold V8; rw [if_neg (by rw [h.h]; simp)]
theorem filtL_nil:kY isMk []=[]:=rfl
theorem filtL_mk {ds:Tmp} {t ty:TypeId} {pos:String} {af:Array Edge} {l:List Oper} : kY isMk (⟨some ds,.alloc t,ty,pos,af,none⟩ :: l)=⟨some ds,.alloc t,ty,pos,af,none⟩ :: kY isMk l:=by rw [List.filter_cons_of_pos rfl]
theorem filtL_old {o:Oper} {l:List Oper} (h:Atr o):kY isMk (o :: l)=kY isMk l:=by rw [jE (by rw [h.h]; simp)]
theorem Pr:∀ {L:List Oper} {p:Nat} {al:Oper},Na L=some (p,al)->L.filter isMk=[al]
 | [],_,_,h=>by simp [Na] at h
 | o :: l,p,al,h=>by
  unfold Na at h;split at h
  ·rename_i hm;split at h
   ·rename_i hc;simp only [Ch,Ih] at hc;simp only [Ba,Cf] at h;obtain ⟨-,rfl⟩:=h;rw [List.filter_cons_of_pos hm,List.filter_eq_nil_iff.2 fun x hx=>by simpa using List.any_eq_false.1 hc.2 x hx]
   ·cases h
  ·rename_i hm;simp only [Cc,Cf,Prod.exists] at h;obtain ⟨p',al',h,-,rfl⟩:=h;rw [jE hm]; exact Pr h
noncomputable def LX [Globs] (P:Program) [Ext P] (fn:Func) (id:Nat) (a z:List Oper) (st:St) (k:List Kont) (_:Tag (st,k)):Option (AV × St):=RX P fn .look (Jn .look P (cL P)) a a st (.seq (.region id z.toArray false) :: k) .mk
theorem LX_eq [Globs] [Ext P] {id:Nat} {a:Oper} {l z:List Oper} {tg:Tag (st,k)} : LX P fn id (a :: l) z st k tg=RX P fn .look (Jn .look P (cL P)) (a :: l) (a :: l) st (.seq (.region id z.toArray false) :: k) .mk:=rfl
theorem KX_late [Globs] [Ext P] {id:Nat} {ops:List Oper} {t:Tag (jD id ops.toArray true,k)} (hs:TlL ops) (l7:QmL (openL ops)) (h:Bx st (openL ops)=true):KX P fn (.region id ops.toArray true) st k t=LX P fn id (openL ops) (lastL ops) st k .mk:=by
 unfold LX;have h1:=hs.h; have h2:=hs.h2;have hq:=l7.h;cases hl:Kt ops with
 | none=>rw [hl] at h2; cases h2
 | some x =>
  obtain ⟨p,al,o⟩:=x;obtain ⟨a,hL,-,aj,nj⟩:=Ww hl;have e:lastL ops=[al,o]:=by
   have hm:isMk o=false:=by
    unfold isSt at aj;unfold isMk;split at aj
    ·rename_i h; rw [h]
    ·cases aj
   unfold lastL;rw [Alm hL,hL,List.filter_append,Pr nj,jE (by rw [hm]; simp)]; rfl
  rw [e];have:=Art (P:=P) (fn:=fn) (st:=st) (k:=k) (id:=id) (ops:=ops.toArray) aW cD aL;simp only [kQ,hq] at this;exact this
theorem CX_seq [Globs] [Ext P] {c:Code} {t:Tag (Kont.seq c :: k)} : CX P fn .normal st (.seq c :: k) t=KX P fn c st k .mk:=rfl
theorem CX_block [Globs] [Ext P] {id:Nat} {t:Tag (Kont.block id :: k)} : CX P fn .normal st (.block id :: k) t=CX P fn .normal st k .mk:=rfl
theorem CX_loop [Globs] [Ext P] {c:Code} {m:Nat} {t:Tag (Kont.loop c m :: k)} (hk:CkF (Q2 c)):CX P fn .normal st (.loop c m :: k) t=KX P fn (.loop c) { st with S:=st.S.take m } k .mk:=by
 exact Ya3a
theorem CX_loopK [Globs] [Ext P] {c:Code} {m:Nat} {t:Tag (Kont.loop c m :: k)} (hk:CkT (Q2 c)):CX P fn .normal st (.loop c m :: k) t=KX P fn (.loop c) st k .mk:=by
 exact Ya3a
theorem CX_exit_seq [Globs] [Ext P] {c:Code} {id:Nat} {t:Tag (Kont.seq c :: k)} : CX P fn (.exit id) st (.seq c :: k) t=CX P fn (.exit id) st k .mk:=rfl
theorem CX_exit_block [Globs] [Ext P] {id id':Nat} {t:Tag (Kont.block id' :: k)} : CX P fn (.exit id) st (.block id' :: k) t=BR (some (id == id')) (CX P fn .normal st k .mk) (CX P fn (.exit id) st k .mk) .mk:=by
 show (if id=id' then cont P fn .normal st k else cont P fn (.exit id) st k)=br _ _ _;by_cases h:id=id'
 ·subst h; simp [br,CX]
 ·have e:(id == id')=false:=aL
  rw [if_neg h,e]; rfl
theorem CX_exit_loop [Globs] [Ext P] {c:Code} {id m:Nat} {t:Tag (Kont.loop c m :: k)} : CX P fn (.exit id) st (.loop c m :: k) t=CX P fn (.exit id) st k .mk:=rfl
theorem CX_ret [Globs] [Ext P] {x:Kont} {t:Tag (x :: k)} : CX P fn .ret st (x :: k) t=CX P fn .ret st k .mk:=Aoz
theorem CX_ret_nil [Globs] [Ext P] {t:Tag ([]:List Kont)} : CX P fn .ret st [] t=outA P fn (some (.ret,st)):=rfl
theorem CX_normal_nil [Globs] [Ext P] {t:Tag ([]:List Kont)} : CX P fn .normal st [] t=outA P fn (some (.normal,st)):=rfl
theorem RX_nil [Globs] [Ext P] {t:Tag (all,([]:List Oper),k)} : RX P fn M call all [] st k t=CX P fn .normal st k .mk:=rfl
theorem Atv [Globs] [Ext P] {c:Code} : RK P fn c st k=KX P fn c st k .mk:=rfl
def DX (all:List Oper) (g:Nat) (_:Tag all):Option Tmp:=Ao3 all g
theorem DX_zero {o:Oper} {tg:Tag (o :: l)} : DX (o :: l) 0 tg=o.dst:=rfl
theorem DX_succ {o:Oper} {g:Nat} {tg:Tag (o :: l)} : DX (o :: l) (g+1) tg=DX l g .mk:=rfl
theorem RX_guard [Globs] [Ext P] {op:Op} {g:Nat} {w:Bool} {tg:Tag (all,((⟨d,op,ty,pos,af,some (g,w)⟩:Oper) :: l),k)} : RX P fn M call all (⟨d,op,ty,pos,af,some (g,w)⟩ :: l) ⟨T,S,tk,n⟩ k tg=BR (Ano T (DX all g .mk) w) (RX P fn M call all (⟨d,op,ty,pos,af,none⟩ :: l) ⟨T,S,tk,n⟩ k .mk) (RX P fn M call all l ⟨putT T d (.prim undef),S,tk,n⟩ k .mk) .mk:=Aoh
theorem RX_move [Globs] [Ext P] {x:Operand} {tg:Tag (all,((⟨d,.move x,ty,pos,af,none⟩:Oper) :: l),k)} : RX P fn M call all (⟨d,.move x,ty,pos,af,none⟩ :: l) ⟨T,S,tk,n⟩ k tg=RX P fn M call all l ⟨putT T d (opv T x),S,tk,n⟩ k .mk:=Ar0
theorem RX_assign [Globs] [Ext P] {x:Operand} {tg:Tag (all,((⟨d,.assign x,ty,pos,af,none⟩:Oper) :: l),k)} : RX P fn M call all (⟨d,.assign x,ty,pos,af,none⟩ :: l) ⟨T,S,tk,n⟩ k tg=RX P fn M call all l ⟨putT T d (opv T x),S,tk,n⟩ k .mk:=Ajc
theorem RX_pick [Globs] [Ext P] {c a b:Operand} {tg:Tag (all,((⟨d,.pick c a b,ty,pos,af,none⟩:Oper) :: l),k)} : RX P fn M call all (⟨d,.pick c a b,ty,pos,af,none⟩ :: l) ⟨T,S,tk,n⟩ k tg=NX (Amf (opv T c) (opv T a) (opv T b)) (fun v=>RX P fn M call all l ⟨putT T d v,S,tk,n⟩ k .mk) .mk:=Ar1
theorem RX_bin [Globs] [Ext P] {b:BinOp} {t u:TypeId} {x y:Operand} {tg:Tag (all,((⟨d,.binOp b t x y u,ty,pos,af,none⟩:Oper) :: l),k)} : RX P fn M call all (⟨d,.binOp b t x y u,ty,pos,af,none⟩ :: l) ⟨T,S,tk,n⟩ k tg=NX (aBin P b t (opv T x) (opv T y)) (fun v=>RX P fn M call all l ⟨putT T d v,S,tk,n⟩ k .mk) .mk:=Aty
theorem RX_un [Globs] [Ext P] {u:UnOp} {t:TypeId} {x:Operand} {tg:Tag (all,((⟨d,.unOp u t x,ty,pos,af,none⟩:Oper) :: l),k)} : RX P fn M call all (⟨d,.unOp u t x,ty,pos,af,none⟩ :: l) ⟨T,S,tk,n⟩ k tg=NX (aUn u (opv T x)) (fun v=>RX P fn M call all l ⟨putT T d v,S,tk,n⟩ k .mk) .mk:=RO_un
theorem RX_conv [Globs] [Ext P] {s t:TypeId} {x:Operand} {tg:Tag (all,((⟨d,.convert s t x,ty,pos,af,none⟩:Oper) :: l),k)} : RX P fn M call all (⟨d,.convert s t x,ty,pos,af,none⟩ :: l) ⟨T,S,tk,n⟩ k tg=NX (cvA P s t (opv T x)) (fun v=>RX P fn M call all l ⟨putT T d v,S,tk,n⟩ k .mk) .mk:=Arx
theorem RX_extract [Globs] [Ext P] {x:Operand} {i:Nat} {tg:Tag (all,((⟨d,.extract x i,ty,pos,af,none⟩:Oper) :: l),k)} : RX P fn M call all (⟨d,.extract x i,ty,pos,af,none⟩ :: l) ⟨T,S,tk,n⟩ k tg=NX (extA (opv T x) i) (fun v=>RX P fn M call all l ⟨putT T d v,S,tk,n⟩ k .mk) .mk:=Ag5
theorem RX_field [Globs] [Ext P] {t:TypeId} {x:Operand} {i:Nat} {tg:Tag (all,((⟨d,.field t x i,ty,pos,af,none⟩:Oper) :: l),k)} : RX P fn M call all (⟨d,.field t x i,ty,pos,af,none⟩ :: l) ⟨T,S,tk,n⟩ k tg=NX (fldV (A3 P t i) (opv T x)) (fun v=>RX P fn M call all l ⟨putT T d v,S,tk,n⟩ k .mk) .mk:=Aog
theorem RX_indexAddr [Globs] [Ext P] {t:TypeId} {x i:Operand} {tg:Tag (all,((⟨d,.indexAddr t x i,ty,pos,af,none⟩:Oper) :: l),k)} : RX P fn M call all (⟨d,.indexAddr t x i,ty,pos,af,none⟩ :: l) ⟨T,S,tk,n⟩ k tg=NX (idxA P t (opv T x) (opv T i)) (fun v=>RX P fn M call all l ⟨putT T d v,S,tk,n⟩ k .mk) .mk:=Zo
theorem RX_fieldAddr [Globs] [Ext P] {t:TypeId} {x:Operand} {i:Nat} {tg:Tag (all,((⟨d,.fieldAddr t x i,ty,pos,af,none⟩:Oper) :: l),k)} : RX P fn M call all (⟨d,.fieldAddr t x i,ty,pos,af,none⟩ :: l) ⟨T,S,tk,n⟩ k tg=NX (fldA P t (opv T x) i) (fun v=>RX P fn M call all l ⟨putT T d v,S,tk,n⟩ k .mk) .mk:=Zn
theorem RX_index [Globs] [Ext P] {t:TypeId} {x i:Operand} {tg:Tag (all,((⟨d,.index t x i,ty,pos,af,none⟩:Oper) :: l),k)} : RX P fn M call all (⟨d,.index t x i,ty,pos,af,none⟩ :: l) ⟨T,S,tk,n⟩ k tg=NX (Am6 (Dd P t) (opv T x) (intN (opv T i))) (fun v=>RX P fn M call all l ⟨putT T d v,S,tk,n⟩ k .mk) .mk:=Aoi
theorem RX_build [Globs] [Ext P] {t:TypeId} {ps:Array (Nat × Operand)} {tg:Tag (all,((⟨d,.build t ps,ty,pos,af,none⟩:Oper) :: l),k)} : RX P fn M call all (⟨d,.build t ps,ty,pos,af,none⟩ :: l) ⟨T,S,tk,n⟩ k tg=NX (bldA (A2 P t) (fieldsOf P t) (ps.toList.map fun (i,x)=>(i,opv T x))) (fun v=>RX P fn M call all l ⟨putT T d v,S,tk,n⟩ k .mk) .mk:=Aoc
theorem RX_buildSlice [Globs] [Ext P] {t:TypeId} {len:Nat} {ps:Array (Nat × Operand)} {tg:Tag (all,((⟨d,.buildSlice t len ps,ty,pos,af,none⟩:Oper) :: l),k)} : RX P fn M call all (⟨d,.buildSlice t len ps,ty,pos,af,none⟩ :: l) ⟨T,S,tk,n⟩ k tg=NX (litA ((Bc P t).bind (szOf P)) ((Bc P t).bind (A2 P)) len (ps.toList.map fun (i,x)=>(i,opv T x))) (fun v=>RX P fn M call all l ⟨putT T d v,S,tk,n⟩ k .mk) .mk:=Xl
theorem RX_slice [Globs] [Ext P] {t:TypeId} {x:Operand} {lo hi mx:Option Operand} {tg:Tag (all,((⟨d,.slice t x lo hi mx,ty,pos,af,none⟩:Oper) :: l),k)} : RX P fn M call all (⟨d,.slice t x lo hi mx,ty,pos,af,none⟩ :: l) ⟨T,S,tk,n⟩ k tg=NX (Hy P t (opv T x) (lo.map (opv T)) (hi.map (opv T)) (mx.map (opv T))) (fun v=>RX P fn M call all l ⟨putT T d v,S,tk,n⟩ k .mk) .mk:=Aol
theorem RX_makeFunc [Globs] [Ext P] {f:FuncId} {caps:Array Operand} {tg:Tag (all,((⟨d,.makeFunc (.func f) #[] caps,ty,pos,af,none⟩:Oper) :: l),k)} : RX P fn M call all (⟨d,.makeFunc (.func f) #[] caps,ty,pos,af,none⟩ :: l) ⟨T,S,tk,n⟩ k tg=NX (if ((caps.toList.map (opv T)).all Lk)=true then some (.fn f (caps.toList.map (opv T))) else none) (fun v=>RX P fn M call all l ⟨putT T d v,S,tk,n⟩ k .mk) .mk:=Ach
theorem RX_makeBound [Globs] [Ext P] {f:FuncId} {x:Operand} {tg:Tag (all,((⟨d,.makeFunc (.func f) #[x] #[],ty,pos,af,none⟩:Oper) :: l),k)} : RX P fn M call all (⟨d,.makeFunc (.func f) #[x] #[],ty,pos,af,none⟩ :: l) ⟨T,S,tk,n⟩ k tg=RX P fn M call all l ⟨putT T d (.bfn f [opv T x]),S,tk,n⟩ k .mk:=Zp
theorem RX_load [Globs] [Ext P] {t:TypeId} {a:Operand} {tg:Tag (all,((⟨d,.load t a,ty,pos,af,none⟩:Oper) :: l),k)} : RX P fn M call all (⟨d,.load t a,ty,pos,af,none⟩ :: l) ⟨T,S,tk,n⟩ k tg=NX (ldG (@Globs.dr (gM M)) (ldA P t (opv T a) S)) (fun v=>RX P fn M call all l ⟨putT T d v,S,tk,n⟩ k .mk) .mk:=Arz
theorem RX_store [Globs] [Ext P] {t:TypeId} {a x:Operand} {tg:Tag (all,((⟨none,.store t a x,ty,pos,af,none⟩:Oper) :: l),k)} : RX P fn M call all (⟨none,.store t a x,ty,pos,af,none⟩ :: l) ⟨T,S,tk,n⟩ k tg=NS (stA P t (opv T a) (opv T x) S) (fun S'=>RX P fn M call all l ⟨T,S',tk,n⟩ k .mk) .mk:=Aom
theorem RX_alloc [Globs] [Ext P] {t:TypeId} {tg:Tag (all,((⟨d,.alloc t,ty,pos,af,none⟩:Oper) :: l),k)} : RX P fn M call all (⟨d,.alloc t,ty,pos,af,none⟩ :: l) ⟨T,S,tk,n⟩ k tg=NS (A2 P t) (fun cs=>RX P fn M call all l ⟨putT T d (.ref S.length n 0),S++[⟨n,cs⟩],tk,n+1⟩ k .mk) .mk:=Aob
theorem RX_box [Globs] [Ext P] {t:TypeId} {x:Operand} {tg:Tag (all,((⟨d,.box t x,ty,pos,af,none⟩:Oper) :: l),k)} : RX P fn M call all (⟨d,.box t x,ty,pos,af,none⟩ :: l) ⟨T,S,tk,n⟩ k tg=NS (cellsOf (opv T x)) (fun cs=>RX P fn M call all l ⟨putT T d (.ref S.length n 0),S++[⟨n,cs⟩],tk,n+1⟩ k .mk) .mk:=Atz
theorem RX_appendO [Globs] [Ext P] {x y:Operand} {t:TypeId} {tg:Tag (all,((⟨d,.call ⟨.builtin .append,#[x,y],#[t,t]⟩,ty,pos,af,none⟩:Oper) :: l),k)} (ho:CkT (@Globs.own (gM M) d ty)):RX P fn M call all (⟨d,.call ⟨.builtin .append,#[x,y],#[t,t]⟩,ty,pos,af,none⟩ :: l) ⟨T,S,tk,n⟩ k tg=NS (apO P t (opv T x) (opv T y) S n) (fun (v,S',n')=>RX P fn M call all l ⟨putT T d v,S',tk,n'⟩ k .mk) .mk:=Ag3 ho.h
theorem RX_append [Globs] [Ext P] {x y:Operand} {t:TypeId} {tg:Tag (all,((⟨d,.call ⟨.builtin .append,#[x,y],#[t,t]⟩,ty,pos,af,none⟩:Oper) :: l),k)} (ho:CkF (@Globs.own (gM M) d ty)):RX P fn M call all (⟨d,.call ⟨.builtin .append,#[x,y],#[t,t]⟩,ty,pos,af,none⟩ :: l) ⟨T,S,tk,n⟩ k tg=NS (apM M P t (opv T x) (opv T y) tk S) (fun (v,tk')=>RX P fn M call all l ⟨putT T d v,S,tk',n⟩ k .mk) .mk:=Ajb ho.h
theorem RX_len [Globs] [Ext P] {x:Operand} {t:TypeId} {tg:Tag (all,((⟨d,.call ⟨.builtin .len,#[x],#[t]⟩,ty,pos,af,none⟩:Oper) :: l),k)} : RX P fn M call all (⟨d,.call ⟨.builtin .len,#[x],#[t]⟩,ty,pos,af,none⟩ :: l) ⟨T,S,tk,n⟩ k tg=NX (lenV (Dd P t) (Bc P t).isSome (opv T x)) (fun v=>RX P fn M call all l ⟨putT T d v,S,tk,n⟩ k .mk) .mk:=At0
theorem RX_call [Globs] [Ext P] {f:FuncId} {args:Array Operand} {ats:Array TypeId} {tg:Tag (all,((⟨d,.call ⟨.value (.func f),args,ats⟩,ty,pos,af,none⟩:Oper) :: l),k)} (hx:CkF ((@Globs.dr (gM M) && @xF (gM M) f))):RX P fn M call all (⟨d,.call ⟨.value (.func f),args,ats⟩,ty,pos,af,none⟩ :: l) ⟨T,S,tk,n⟩ k tg=NS (call f (args.toList.map (opv T)) S tk n) (fun (v,S',tk',n')=>RX P fn M call all l ⟨putT T d v,S',tk',n'⟩ k .mk) .mk:=Arw hx.h
theorem RX_callL [Globs] [Ext P] {f:FuncId} {args:Array Operand} {ats:Array TypeId} {tg:Tag (all,((⟨d,.call ⟨.value (.func f),args,ats⟩,ty,pos,af,none⟩:Oper) :: l),k)} (hx:CkT (@lkOp (gM M) ⟨d,.call ⟨.value (.func f),args,ats⟩,ty,pos,af,none⟩)):RX P fn M call all (⟨d,.call ⟨.value (.func f),args,ats⟩,ty,pos,af,none⟩ :: l) ⟨T,S,tk,n⟩ k tg=NS (call f (args.toList.map (opv T)) S tk n) (fun (v,S',tk',n')=>NS (gO S S') (fun _=>RX P fn M call all l ⟨putT T d v,S',tk',n'⟩ k .mk) .mk) .mk:=Aod hx.h
theorem RX_callX [Globs] [Ext P] {f:FuncId} {args:Array Operand} {ats:Array TypeId} {tg:Tag (all,((⟨d,.call ⟨.value (.func f),args,ats⟩,ty,pos,af,none⟩:Oper) :: l),k)} (hx:CkT (@anOp (gM M) ⟨d,.call ⟨.value (.func f),args,ats⟩,ty,pos,af,none⟩)):RX P fn M call all (⟨d,.call ⟨.value (.func f),args,ats⟩,ty,pos,af,none⟩ :: l) ⟨T,S,tk,n⟩ k tg=NS (call f (args.toList.map (opv T)) S tk n) (fun (v,S',tk',n')=>NS (reA P all d T S S') (fun _=>RX P fn M call all l ⟨putT T d v,S',tk',n'⟩ k .mk) .mk) .mk:=Aof hx.h
theorem RX_invoke [Globs] [Ext P] {x:Operand} {m:String} {args:Array Operand} {ats:Array TypeId} {tg:Tag (all,((⟨d,.call ⟨.invoke x m,args,ats⟩,ty,pos,af,none⟩:Oper) :: l),k)} (hd:CkF (@Globs.dr (gM M))):RX P fn M call all (⟨d,.call ⟨.invoke x m,args,ats⟩,ty,pos,af,none⟩ :: l) ⟨T,S,tk,n⟩ k tg=NS (invV P call (opv T x) m (args.toList.map (opv T)) S tk n) (fun (v,S',tk',n')=>RX P fn M call all l ⟨putT T d v,S',tk',n'⟩ k .mk) .mk:=Ajd hd.h
theorem RX_invokeL [Globs] [Ext P] {x:Operand} {m:String} {args:Array Operand} {ats:Array TypeId} {tg:Tag (all,((⟨d,.call ⟨.invoke x m,args,ats⟩,ty,pos,af,none⟩:Oper) :: l),k)} (hd:CkT (@Globs.dr (gM M))):RX P fn M call all (⟨d,.call ⟨.invoke x m,args,ats⟩,ty,pos,af,none⟩ :: l) ⟨T,S,tk,n⟩ k tg=NS (invV P call (opv T x) m (args.toList.map (opv T)) S tk n) (fun (v,S',tk',n')=>NS (gO S S') (fun _=>RX P fn M call all l ⟨putT T d v,S',tk',n'⟩ k .mk) .mk) .mk:=Ag6 hd.h
theorem RX_makeM [Globs] [Ext P] {m:String} {x:Operand} {tg:Tag (all,((⟨d,.makeFunc (.method m) #[x] #[],ty,pos,af,none⟩:Oper) :: l),k)} : RX P fn M call all (⟨d,.makeFunc (.method m) #[x] #[],ty,pos,af,none⟩ :: l) ⟨T,S,tk,n⟩ k tg=NX (mthA m (opv T x)) (fun v=>RX P fn M call all l ⟨putT T d v,S,tk,n⟩ k .mk) .mk:=Aok
theorem RX_makeI [Globs] [Ext P] {t:TypeId} {x:Operand} {tg:Tag (all,((⟨d,.makeInterface t x,ty,pos,af,none⟩:Oper) :: l),k)} : RX P fn M call all (⟨d,.makeInterface t x,ty,pos,af,none⟩ :: l) ⟨T,S,tk,n⟩ k tg=NX (ifcA (Ahm P t) t (opv T x)) (fun v=>RX P fn M call all l ⟨putT T d v,S,tk,n⟩ k .mk) .mk:=Aoj
theorem RX_callV [Globs] [Ext P] {x:Tmp} {args:Array Operand} {ats:Array TypeId} {tg:Tag (all,((⟨d,.call ⟨.value (.tmp x),args,ats⟩,ty,pos,af,none⟩:Oper) :: l),k)} (hx:CkF ((@Globs.dr (gM M) && @Globs.xAny (gM M)))):RX P fn M call all (⟨d,.call ⟨.value (.tmp x),args,ats⟩,ty,pos,af,none⟩ :: l) ⟨T,S,tk,n⟩ k tg=NS (Aj2 call (getT T x) (args.toList.map (opv T)) S tk n) (fun (v,S',tk',n')=>RX P fn M call all l ⟨putT T d v,S',tk',n'⟩ k .mk) .mk:=Aoe hx.h
theorem fin1_NX_not {c:Prop} [Decidable c] {v:AV} {f:AV->Option (AV × St)} {tg:Tag f} {r:AV} : fin1 (NX (if c then none else some v) f tg)=some r↔¬ c/\fin1 (f v)=some r:=by
 exact Ya0v
theorem fin1_NX_if {c:Prop} [Decidable c] {v:AV} {f:AV->Option (AV × St)} {tg:Tag f} {r:AV} : fin1 (NX (if c then some v else none) f tg)=some r↔c/\fin1 (f v)=some r:=by
 exact Ya0w
theorem fin1_NS_not {α:Type} {c:Prop} [Decidable c] {v:α} {f:α->Option (AV × St)} {tg:Tag f} {r:AV} : fin1 (NS (if c then none else some v) f tg)=some r↔¬ c/\fin1 (f v)=some r:=by
 exact Ya0v
theorem fin1_NS_if {α:Type} {c:Prop} [Decidable c] {v:α} {f:α->Option (AV × St)} {tg:Tag f} {r:AV} : fin1 (NS (if c then some v else none) f tg)=some r↔c/\fin1 (f v)=some r:=by
 exact Ya0w
theorem finS_NX_not {m:Nat} {c:Prop} [Decidable c] {v:AV} {f:AV->Option (AV × St)} {tg:Tag f} {r:AV × List Ent × List Nat × Nat} : finS m (NX (if c then none else some v) f tg)=some r↔¬ c/\finS m (f v)=some r:=by
 exact Ya0v
theorem finS_NX_if {m:Nat} {c:Prop} [Decidable c] {v:AV} {f:AV->Option (AV × St)} {tg:Tag f} {r:AV × List Ent × List Nat × Nat} : finS m (NX (if c then some v else none) f tg)=some r↔c/\finS m (f v)=some r:=by
 exact Ya0w
theorem finS_NS_not {m:Nat} {α:Type} {c:Prop} [Decidable c] {v:α} {f:α->Option (AV × St)} {tg:Tag f} {r:AV × List Ent × List Nat × Nat} : finS m (NS (if c then none else some v) f tg)=some r↔¬ c/\finS m (f v)=some r:=by
 exact Ya0v
theorem finS_NS_if {m:Nat} {α:Type} {c:Prop} [Decidable c] {v:α} {f:α->Option (AV × St)} {tg:Tag f} {r:AV × List Ent × List Nat × Nat} : finS m (NS (if c then some v else none) f tg)=some r↔c/\finS m (f v)=some r:=by
 exact Ya0w
theorem loop1 [Globs] [Ext P] {ι:Type} {c:Code} {tg:Tag (lE c,k)} (I:ι->St->Prop) (μ:ι->Nat) (G:ι->AV) (x:ι)
  (h:∀ x st,I x st->(∀ y st',μ y<μ x->I y st'->fin1 (KX P fn (.loop c) st' k .mk)=some (G y))->fin1 (KX P fn c st (.loop c st.S.length :: k) .mk)=some (G x)) {st:St} (h0:I x st):fin1 (KX P fn (.loop c) st k tg)=some (G x) :=
 Alv I μ G h h0
theorem Ada [Globs] [Ext P] {ι:Type} {c:Code} {m:Nat} {tg:Tag (lE c,k)} (I:ι->St->Prop) (μ:ι->Nat) (G:ι->AV × List Ent × List Nat × Nat) (x:ι)
  (h:∀ x st,I x st->(∀ y st',μ y<μ x->I y st'->finS m (KX P fn (.loop c) st' k .mk)=some (G y))->finS m (KX P fn c st (.loop c st.S.length :: k) .mk)=some (G x)) {st:St} (h0:I x st):finS m (KX P fn (.loop c) st k tg)=some (G x) :=
 Ahu I μ G h h0
def tabl:Nat->(Nat->AV)->List AV
 | 0,_=>[]
 | n+1,g=>g 0 :: tabl n fun i=>g (i+1)
theorem Ar:∀ {n:Nat} {T:List AV},T.length=n->∃ g,(∀ t,getT T t=g t)/\T=tabl n g
 | 0,[],_=>⟨fun _=>.bot,fun _=>rfl,rfl⟩
 | n+1,x :: T,h=>by
  obtain ⟨g,h1,h2⟩:=Ar (n:=n) (T:=T) aL;exact ⟨fun|0=>x|i+1=>g i,fun|0=>rfl|i+1=>h1 i,by rw [h2]; rfl⟩
 | 0,_ :: _,h=>aO
 | _+1,[],h=>aO
theorem Bk {S:List Ent} {n:Nat} {cs:List AV} : entAt (S++[⟨n,cs⟩]) S.length n=some cs:=by
 unfold entAt;rw [Af,Fh (Ce _)];simp
theorem Ll {S:List Ent} {e:Ent} {id ep:Nat} {cs:List AV} (h:entAt S id ep=some cs):entAt (S++[e]) id ep=some cs:=by
 obtain ⟨x,h1,h2,h3⟩:=Du h;unfold entAt;have hl:=Bn h1;rw [Af] at h1 ⊢;rw [Cv hl,h1];simp [h2,h3]
theorem chkM_ref {i e o:Nat} : chkM P (.ref i e o)=some (.ref i e o):=rfl
theorem chkM_fptr {cs:List AV} : chkM P (.fptr cs)=some (.fptr cs):=rfl
theorem chkM_fn {f:FuncId} {cs:List AV} : chkM P (.fn f cs)=some (.fn f cs):=rfl
theorem chkM_bfn {f:FuncId} {cs:List AV} : chkM P (.bfn f cs)=some (.bfn f cs):=rfl
theorem chkM_ifc {t:TypeId} {v:AV} : chkM P (.ifc t v)=some (.ifc t v):=rfl
theorem chkM_mfn {t:TypeId} {m:String} {v:AV} (h:(mRow P t m).isSome=true):chkM P (.mfn t m v)=some (.mfn t m v):=by simp [chkM,h]
theorem Zq [Globs] [Ext P] {t:TypeId} {x y:Operand} (hz:R4 ⟨d,.makeSlice t x y,ty,pos,af,none⟩ x=false):RO P fn M call all (⟨d,.makeSlice t x y,ty,pos,af,none⟩ :: l) ⟨T,S,tk,n⟩ k =
  ns (mkA P t (opv T x) (opv T y)) fun (m,sz,cs)=>RO P fn M call all l ⟨putT T d (.sref S.length n 0 m sz),S++[⟨n,cs⟩],tk,n+1⟩ k:=by
 rw [Dw rfl rfl];simp only [evO,hz];cases mkA P t (opv T x) (opv T y) <;> rfl
theorem Xm [Globs] [Ext P] {t:TypeId} {x y:Operand} (hz:len0 x=true):RO P fn M call all (⟨d,.makeSlice t x y,ty,pos,af,none⟩ :: l) ⟨T,S,tk,n⟩ k =
  ns (mkA P t (opv T x) (opv T y)) fun (m,sz,cs)=>RO P fn M call all l ⟨putT T d (.frz [] (.tok tk.length 0 sz)),S,tk++[0],n⟩ k:=by
 rw [Dw rfl rfl];simp only [evO,R4,hz,jI];cases mkA P t (opv T x) (opv T y) <;> rfl
theorem Xn [Globs] [Ext P] {t:TypeId} {y:Operand} (hz:fzL ⟨d,.makeSlice t (.tmp 10) y,ty,pos,af,none⟩ (.tmp 10)=true):RO P fn M call all (⟨d,.makeSlice t (.tmp 10) y,ty,pos,af,none⟩ :: l) ⟨T,S,tk,n⟩ k =
  ns (mkA P t (opv T (.tmp 10)) (opv T y)) fun (m,sz,cs)=>RO P fn M call all l ⟨putT T d (tokA tk.length sz (L8 (Hx sz m cs))),S,tk++[0],n⟩ k:=by
 rw [Dw rfl rfl];simp only [evO,R4,len0,hz,N2];cases mkA P t (opv T (.tmp 10)) (opv T y) <;> rfl
theorem Ary [Globs] [Ext P] {x y:Operand} {t t':TypeId} : RO P fn M call all (⟨d,.call ⟨.builtin .copy,#[x,y],#[t,t']⟩,ty,pos,af,none⟩ :: l) ⟨T,S,tk,n⟩ k =
  ns (cpA P t (opv T x) (opv T y) S) fun (m,S')=>RO P fn M call all l ⟨putT T d (.int (m:Int)),S',tk,n⟩ k:=by
 rw [Dw rfl rfl];simp only [evO,Cn,Cs];cases cpA P t (opv T x) (opv T y) S <;> rfl
theorem Ag4 [Globs] [Ext P] {x y:Operand} {t t':TypeId} (ht:(t == t')=false) (ho:@Globs.own (gM M) d ty=false):RO P fn M call all (⟨d,.call ⟨.builtin .append,#[x,y],#[t,t']⟩,ty,pos,af,none⟩ :: l) ⟨T,S,tk,n⟩ k =
  ns (apS P t t' (opv T x) (opv T y) tk) fun (v,tk')=>RO P fn M call all l ⟨putT T d v,S,tk',n⟩ k:=by
 have zt:¬ t=t':=by simpa using ht
 rw [Dw rfl rfl];simp only [evO,Cn,Cs,if_neg zt,ho,C6,if_false];cases apS P t t' (opv T x) (opv T y) tk <;> rfl
theorem Aci [Globs] [Ext P] {x:Operand} : RO P fn M call all (⟨d,.nilCheck x,ty,pos,af,none⟩ :: l) ⟨T,S,tk,n⟩ k=nx (chkM P (opv T x)) fun v=>RO P fn M call all l ⟨putT T d v,S,tk,n⟩ k:=Ds rfl
theorem At2 [Globs] [Ext P] {x y:Operand} {ats:Array TypeId} : RO P fn M call all (⟨d,.call ⟨.builtin .min,#[x,y],ats⟩,ty,pos,af,none⟩ :: l) ⟨T,S,tk,n⟩ k=nx (minA (opv T x) (opv T y)) fun v=>RO P fn M call all l ⟨putT T d v,S,tk,n⟩ k:=Ds rfl
theorem At1 [Globs] [Ext P] {x y:Operand} {ats:Array TypeId} : RO P fn M call all (⟨d,.call ⟨.builtin .max,#[x,y],ats⟩,ty,pos,af,none⟩ :: l) ⟨T,S,tk,n⟩ k=nx (maxA (opv T x) (opv T y)) fun v=>RO P fn M call all l ⟨putT T d v,S,tk,n⟩ k:=Ds rfl
theorem RX_makeSlice [Globs] [Ext P] {t:TypeId} {x y:Operand} {tg:Tag (all,((⟨d,.makeSlice t x y,ty,pos,af,none⟩:Oper) :: l),k)} (hz:CkF (R4 ⟨d,.makeSlice t x y,ty,pos,af,none⟩ x)):RX P fn M call all (⟨d,.makeSlice t x y,ty,pos,af,none⟩ :: l) ⟨T,S,tk,n⟩ k tg=NS (mkA P t (opv T x) (opv T y)) (fun (m,sz,cs)=>RX P fn M call all l ⟨putT T d (.sref S.length n 0 m sz),S++[⟨n,cs⟩],tk,n+1⟩ k .mk) .mk:=Zq hz.h
theorem RX_makeSlice0 [Globs] [Ext P] {t:TypeId} {x y:Operand} {tg:Tag (all,((⟨d,.makeSlice t x y,ty,pos,af,none⟩:Oper) :: l),k)} (hz:CkT (len0 x)):RX P fn M call all (⟨d,.makeSlice t x y,ty,pos,af,none⟩ :: l) ⟨T,S,tk,n⟩ k tg=NS (mkA P t (opv T x) (opv T y)) (fun (m,sz,cs)=>RX P fn M call all l ⟨putT T d (.frz [] (.tok tk.length 0 sz)),S,tk++[0],n⟩ k .mk) .mk:=Xm hz.h
theorem Xo [Globs] [Ext P] {t:TypeId} {y:Operand} {tg:Tag (all,((⟨d,.makeSlice t (.tmp 10) y,ty,pos,af,none⟩:Oper) :: l),k)} (hz:CkT (fzL ⟨d,.makeSlice t (.tmp 10) y,ty,pos,af,none⟩ (.tmp 10))):RX P fn M call all (⟨d,.makeSlice t (.tmp 10) y,ty,pos,af,none⟩ :: l) ⟨T,S,tk,n⟩ k tg=NS (mkA P t (opv T (.tmp 10)) (opv T y)) (fun (m,sz,cs)=>RX P fn M call all l ⟨putT T d (tokA tk.length sz (L8 (Hx sz m cs))),S,tk++[0],n⟩ k .mk) .mk:=Xn hz.h
theorem RX_copy [Globs] [Ext P] {x y:Operand} {t t':TypeId} {tg:Tag (all,((⟨d,.call ⟨.builtin .copy,#[x,y],#[t,t']⟩,ty,pos,af,none⟩:Oper) :: l),k)} : RX P fn M call all (⟨d,.call ⟨.builtin .copy,#[x,y],#[t,t']⟩,ty,pos,af,none⟩ :: l) ⟨T,S,tk,n⟩ k tg=NS (cpA P t (opv T x) (opv T y) S) (fun (m,S')=>RX P fn M call all l ⟨putT T d (.int (m:Int)),S',tk,n⟩ k .mk) .mk:=Ary
theorem RX_appendS [Globs] [Ext P] {x y:Operand} {t t':TypeId} {tg:Tag (all,((⟨d,.call ⟨.builtin .append,#[x,y],#[t,t']⟩,ty,pos,af,none⟩:Oper) :: l),k)} (ht:CkF ((t == t'))) (ho:CkF (@Globs.own (gM M) d ty)):RX P fn M call all (⟨d,.call ⟨.builtin .append,#[x,y],#[t,t']⟩,ty,pos,af,none⟩ :: l) ⟨T,S,tk,n⟩ k tg=NS (apS P t t' (opv T x) (opv T y) tk) (fun (v,tk')=>RX P fn M call all l ⟨putT T d v,S,tk',n⟩ k .mk) .mk:=Ag4 ht.h ho.h
theorem RX_nilCheck [Globs] [Ext P] {x:Operand} {tg:Tag (all,((⟨d,.nilCheck x,ty,pos,af,none⟩:Oper) :: l),k)} : RX P fn M call all (⟨d,.nilCheck x,ty,pos,af,none⟩ :: l) ⟨T,S,tk,n⟩ k tg=NX (chkM P (opv T x)) (fun v=>RX P fn M call all l ⟨putT T d v,S,tk,n⟩ k .mk) .mk:=Aci
theorem RX_min [Globs] [Ext P] {x y:Operand} {ats:Array TypeId} {tg:Tag (all,((⟨d,.call ⟨.builtin .min,#[x,y],ats⟩,ty,pos,af,none⟩:Oper) :: l),k)} : RX P fn M call all (⟨d,.call ⟨.builtin .min,#[x,y],ats⟩,ty,pos,af,none⟩ :: l) ⟨T,S,tk,n⟩ k tg=NX (minA (opv T x) (opv T y)) (fun v=>RX P fn M call all l ⟨putT T d v,S,tk,n⟩ k .mk) .mk:=At2
theorem RX_max [Globs] [Ext P] {x y:Operand} {ats:Array TypeId} {tg:Tag (all,((⟨d,.call ⟨.builtin .max,#[x,y],ats⟩,ty,pos,af,none⟩:Oper) :: l),k)} : RX P fn M call all (⟨d,.call ⟨.builtin .max,#[x,y],ats⟩,ty,pos,af,none⟩ :: l) ⟨T,S,tk,n⟩ k tg=NX (maxA (opv T x) (opv T y)) (fun v=>RX P fn M call all l ⟨putT T d v,S,tk,n⟩ k .mk) .mk:=At1
theorem cvA_int {s t:TypeId} {q:IntKind} {x:Int} : cvA P s t (.prim (.int q x))=Zv P s t (.prim (.int q x)):=rfl
theorem cvA_str {s t:TypeId} {b:ByteArray} : cvA P s t (.prim (.string b))=if (Dd P s && Uq P t && decide (b.size<=1048576))=true then some (.frz (bytesL b) .unk) else Zv P s t (.prim (.string b)):=rfl
theorem minA_int {q:IntKind} {x y:Int} : minA (.prim (.int q x)) (.prim (.int q y))=some (.prim (.int q (if y<x then y else x))):=by simp [minA]
theorem maxA_int {q:IntKind} {x y:Int} : maxA (.prim (.int q x)) (.prim (.int q y))=some (.prim (.int q (if y > x then y else x))):=by simp [maxA]
theorem aBin_refNil {b:BinOp} {t:TypeId} {i e o:Nat} : aBin P b t (.ref i e o) (.prim (.pointer none))=K6 b (V5 P t) false:=rfl
theorem aBin_fptrNil {b:BinOp} {t:TypeId} {cs:List AV} : aBin P b t (.fptr cs) (.prim (.pointer none))=K6 b (V5 P t) false:=rfl
theorem aBin_nilNil {b:BinOp} {t:TypeId} : aBin P b t (.prim (.pointer none)) (.prim (.pointer none))=K6 b (V5 P t) true:=rfl
theorem ptrNil_eql {r:Bool} : K6 .eql true r=some (.bool r):=rfl
theorem ptrNil_neq {r:Bool} : K6 .neq true r=some (.bool !r):=rfl
/- what returns -/
theorem fz3_tup {m:Nat} {vs:List AV} : fz3 m S (.tup vs)=.tup (vs.map (fz2 m S)):=rfl
theorem fz3_agg {m:Nat} {cs:List AV} : fz3 m S (.agg cs)=.agg (cs.map (fz1 m S)):=rfl
theorem fz3_prim {m:Nat} {v:Value} : fz3 m S (.prim v)=.prim v:=rfl
theorem fz3_frz {m:Nat} {es:List (List AV)} {c:Cap} : fz3 m S (.frz es c)=.frz es c:=rfl
theorem fz3_ref {m i e o:Nat} : fz3 m S (.ref i e o)=.ref i e o:=rfl
theorem fz3_fn {m:Nat} {f:FuncId} {cs:List AV} : fz3 m S (.fn f cs)=.fn f cs:=rfl
theorem fz3_sref {m i e o len sz:Nat} : fz3 m S (.sref i e o len sz)=fz1 m S (.sref i e o len sz):=rfl
theorem fz2_agg {m:Nat} {cs:List AV} : fz2 m S (.agg cs)=.agg (cs.map (fz1 m S)):=rfl
theorem fz2_prim {m:Nat} {v:Value} : fz2 m S (.prim v)=.prim v:=rfl
theorem fz2_frz {m:Nat} {es:List (List AV)} {c:Cap} : fz2 m S (.frz es c)=.frz es c:=rfl
theorem fz2_ref {m i e o:Nat} : fz2 m S (.ref i e o)=.ref i e o:=rfl
theorem fz2_fn {m:Nat} {f:FuncId} {cs:List AV} : fz2 m S (.fn f cs)=.fn f cs:=rfl
theorem fz2_sref {m i e o len sz:Nat} : fz2 m S (.sref i e o len sz)=fz1 m S (.sref i e o len sz):=rfl
theorem fz1_prim {m:Nat} {v:Value} : fz1 m S (.prim v)=.prim v:=rfl
theorem fz1_frz {m:Nat} {es:List (List AV)} {c:Cap} : fz1 m S (.frz es c)=.frz es c:=rfl
theorem fz1_ref {m i e o:Nat} : fz1 m S (.ref i e o)=.ref i e o:=rfl
theorem fz1_fn {m:Nat} {f:FuncId} {cs:List AV} : fz1 m S (.fn f cs)=.fn f cs:=rfl
theorem fz1_sref {m i e o len sz:Nat} (h:m<=i):fz1 m S (.sref i e o len sz)=fzB (entAt S i e) o len sz:=by simp [fz1,h]
theorem fz1_old {m i e o len sz:Nat} (h:i<m):fz1 m S (.sref i e o len sz)=.sref i e o len sz:=by simp [fz1]; omega
theorem fzB_some {cs:List AV} {o len sz:Nat} : fzB (some cs) o len sz=L8 (Hx sz len (cs.drop o)):=rfl
end
end
section
open Go
section
variable {P:Program}
def aggB (b:BinOp) (k:Option (List Nat)) (xs ys:List AV):Option AV :=
 match k with
 | some ks=>match b with
  | .eql=>(cellsEq ks xs ys).map .bool
  | .neq=>(cellsEq ks xs ys).map fun c=>.bool !c
  | _=>none
 | none=>none
theorem aBin_agg {b:BinOp} {t:TypeId} {xs ys:List AV} : aBin P b t (.agg xs) (.agg ys)=aggB b (Aar P t) xs ys:=rfl
theorem aggB_eql {ks:List Nat} {xs ys:List AV} : aggB .eql (some ks) xs ys=(cellsEq ks xs ys).map .bool:=rfl
theorem aggB_neq {ks:List Nat} {xs ys:List AV} : aggB .neq (some ks) xs ys=(cellsEq ks xs ys).map fun c=>.bool !c:=rfl
def nilB (b:BinOp) (r:Option Bool):Option AV :=
 match r with
 | some r=>match b with
  | .eql=>some (.bool r)
  | .neq=>some (.bool !r)
  | _=>none
 | none=>none
theorem aBin_nil {b:BinOp} {t:TypeId} {es:List (List AV)} {c:Cap} (h:(Bc P t).isSome=true):aBin P b t (.frz es c) (.frz [] .nilc)=nilB b (nilA es c):=by
 cases he:Bc P t with
 | none=>rw [he] at h; simp at h
 | some e=>cases hn:nilA es c <;> simp only [aBin,nilB,he,hn] <;> cases b <;> rfl
theorem nilB_eql {r:Bool} : nilB .eql (some r)=some (.bool r):=rfl
theorem nilB_neq {r:Bool} : nilB .neq (some r)=some (.bool !r):=rfl
theorem cellEq_int {q:IntKind} {a b:Int} : T5 1 (.prim (.int q a)) (.prim (.int q b))=some (a == b):=by simp [T5]
theorem cellEq_str {a b:ByteArray} : T5 2 (.prim (.string a)) (.prim (.string b))=some (sEq a b):=rfl
theorem cellEq_bool {a b:Bool} : T5 0 (.prim (.bool a)) (.prim (.bool b))=some (a == b):=rfl
def Auq (d s:Option IntKind) (n:Int):Option AV:=match d,s with|some k,some _=>some (.prim (.int k (k.wrap n)))|_,_=>none
theorem aConv_int {s d:TypeId} {q:IntKind} {n:Int} : Zv P s d (.prim (.int q n))=Auq (Ke P d) (Ke P s) n:=rfl
theorem convI_some {k q:IntKind} {n:Int} : Auq (some k) (some q) n=some (.prim (.int k (k.wrap n))):=rfl
theorem aConv_str {s d:TypeId} {b:ByteArray} : Zv P s d (.prim (.string b))=if (Dd P s && Dd P d)=true then some (.str b) else none:=rfl
/- append -/
def apB (sz:Option Nat) (es:List (List AV)) (c:Cap) (ys:List (List AV)) (tk:List Nat):Option (AV × List Nat) :=
 match sz with
 | some sz=>if Be tk c sz=true/\Db sz es=true/\Db sz ys=true/\Ams sz (es.length+ys.length)=true then some (.frz (es++ys) (Az tk c sz),En tk c) else none
 | none=>none
theorem apA_eq {t:TypeId} {es ys:List (List AV)} {c c':Cap} {tk:List Nat} : apA P t (.frz es c) (.frz ys c') tk=apB (apT P t) es c ys tk:=by
 unfold apA apB; cases apT P t <;> rfl
theorem apB1_frz [Globs] {t:TypeId} {es ys:List (List AV)} {c c':Cap} {tk:List Nat} {S:List Ent} : apB1 P t (.frz es c) (.frz ys c') tk S=apB (apT P t) es c ys tk:=apA_eq
theorem apB_all {sz:Nat} {es ys:List (List AV)} {c:Cap} {tk:List Nat} (h1:Be tk c sz=true) (h2:Db sz es=true) (h3:Db sz ys=true) (h4:es.length+ys.length<=1048576):apB (some sz) es c ys tk=some (.frz (es++ys) (Az tk c sz),En tk c):=by
 unfold apB; simp only; rw [if_pos ⟨h1,h2,h3,by unfold Ams; rw [decide_eq_true h4]; rfl⟩]
theorem apB_one {sz:Nat} {es:List (List AV)} {y:List AV} {c:Cap} {tk:List Nat} (h1:Be tk c sz=true) (h2:Db sz es=true) (h3:(y.length == sz)=true) (h4:es.length+1<=1048576):apB (some sz) es c [y] tk=some (.frz (es++[y]) (Az tk c sz),En tk c) :=
 apB_all h1 h2 (by simp [Db]; simpa using h3) (by simpa using h4)
theorem Bi {sz:Nat} {c:Cap} {tk:List Nat} (h:Be tk c sz=true):Be (En tk c) (Az tk c sz) sz=true:=by
 have hn:∀ (l:List Nat) (i v:Nat),i<l.length->nth (put l i v) i=some v:=by
  intro l;induction l with
  | nil=>intro i v h; simp at h
  | cons a l ih =>
   intro i v h;cases i with
   | zero=>rfl
   | succ i=>exact ih i v aL
 cases c with
 | unk=>simp [Be] at h
 | nl=>simp [Be] at h
 | nn=>simp [Be] at h
 | tight=>simp only [Az,En,Be,Af]; simp
 | nilc=>simp only [Az,En,Be,Af]; simp
 | tok id ep s =>
  simp only [Be,Ch,beq_iff_eq] at h;simp only [Az,En,Be,hn _ _ _ (Bn h.2)];simp
theorem Dq {α:Type} {f:α->List AV} {sz:Nat} (h:∀ a,(f a).length=sz) (l:List α):Db sz (l.map f)=true:=by
 unfold Db; simp [h]
theorem Mv {sz:Nat} {z:List AV} (h:(z.length == sz+1 && z.all (fun c=>pure1 (w1 c)))=true):litA (some (sz+1)) (some z) 0 []=some (.frz [] .tight):=by
 simp only [Ch,beq_iff_eq] at h;rw [litA_some,if_pos ⟨h.1,h.2,by simp⟩]; rfl
/- variables behind the caller's -/
theorem entAt_mid {S:List Ent} {n:Nat} {cs:List AV} {e:Ent} : entAt (S++[⟨n,cs⟩]++[e]) S.length n=some cs:=Ll Bk
theorem Ahf {S:List Ent} {e e':Ent} {id ep:Nat} {cs:List AV} (h:entAt S id ep=some cs):entAt (S++[e]++[e']) id ep=some cs:=Ll (Ll h)
theorem put_new {S:List Ent} {e e':Ent} : put (S++[e]) S.length e'=S++[e']:=by
 induction S with
 | nil=>rfl
 | cons a S ih=>simp only [Co,Ci,put,ih]
theorem put_mid {S:List Ent} {e e' e'':Ent} : put (S++[e]++[e'']) S.length e'=S++[e']++[e'']:=by
 induction S with
 | nil=>rfl
 | cons a S ih=>simp only [Co,Ci,put] at ih ⊢; rw [ih]
theorem take_two {S:List Ent} {e e':Ent} : (S++[e]++[e']).take S.length=S:=by
 rw [Cy,List.take_left']; rfl
theorem Aco [Globs] [Ext P] {f:FuncId} {args args':List AV} {S:List Ent} {tk:List Nat} {n:Nat} (h:args.map w2=args'.map w2) (hp:(args.map w2).all pure2=true) (hx:(Ext.on P f || Ext.mv P f)=false):cL P f args S tk n=cL P f args' S tk n:=by
 simp only [Fv] at hx;have:∀ k,evF P Bx k f args S tk n=evF P Bx k f args' S tk n:=by
  intro k;cases k with
  | zero=>rfl
  | succ k =>
   simp only [evF,hx.1,hx.2,C6,if_false];rw [h] at hp ⊢;simp only [hp,if_true]
 unfold cL;congr 1; funext k; exact this k
/- cells that are numbers -/
theorem P6 {cs:List AV} {v w:AV} : ∀ {i:Nat},nth cs i=some w->over cs i [v]=some (put cs i v):=by
 induction cs with
 | nil=>intro i h; simp [nth] at h
 | cons c cs ih=>intro i h; cases i with
  | zero=>cases cs <;> rfl
  | succ i=>simp only [over,ih (i:=i) h,put,C7]
theorem Nw {α β:Type} {f:α->β} : ∀ {l:List α} {i:Nat} {v:α},put (l.map f) i (f v)=(put l i v).map f
 | [],_,_=>rfl
 | _ :: _,0,_=>rfl
 | _ :: l,i+1,_=>by simp only [Cn,put,Nw (l:=l)]
theorem Vf {α:Type} : ∀ {l:List α} {i:Nat} {v:α},put l i v=l.set i v
 | [],_,_=>rfl
 | _ :: _,0,_=>rfl
 | _ :: l,i+1,_=>by simp only [put,Sz,Vf (l:=l)]
theorem B9 {α:Type} {l:List α} {o:Nat} {x:α} (h:nth l o=some x):nth (l.drop o) 0=some x:=by
 rw [Af] at h ⊢;rw [S7]; exact h
theorem Apa {v:AV} {c:Nat} : (Cg c [v]).flatten=Cg c v:=by
 induction c with
 | zero=>rfl
 | succ c ih=>simp [Og,ih]
theorem W9 {α:Type} {f:α->AV} : ∀ {n:Nat} {l:List α},n<=l.length->Hx 1 n (l.map f)=some ((l.take n).map fun x=>[f x])
 | 0,_,_=>by simp [Hx]
 | n+1,[],h=>aO
 | n+1,x :: l,h=>by
  simp only [Cn,Hx,takeN,C7,List.drop_succ_cons,Fx,W9 (n:=n) (l:=l) aL,Ga]
end
/- the equations of the evaluator,as one (simp takes it apart) -/
set_option linter.defProp false in
def evs:=B6 @KX_seq <|
 B6 @KX_skip <|
 B6 @KX_exit <|
 B6 @KX_ret <|
 B6 @KX_if <|
 B6 @KX_block <|
 B6 @KX_region <|
 B6 @KX_scope <|
 B6 @KX_label <|
 B6 @CX_seq <|
 B6 @CX_block <|
 B6 @CX_loop <|
 B6 @CX_loopK <|
 B6 @CX_exit_seq <|
 B6 @CX_exit_block <|
 B6 @CX_exit_loop <|
 B6 @CX_ret <|
 B6 @CX_ret_nil <|
 B6 @CX_normal_nil <|
 B6 @NX_some <|
 B6 @NS_some <|
 B6 @BR_true <|
 B6 @BR_false <|
 B6 @BR_not <|
 B6 @fin1_BR <|
 B6 @finS_BR <|
 B6 @RX_nil <|
 B6 @RX_guard <|
 B6 @RX_move <|
 B6 @RX_assign <|
 B6 @RX_pick <|
 B6 @RX_bin <|
 B6 @RX_un <|
 B6 @RX_conv <|
 B6 @RX_extract <|
 B6 @RX_field <|
 B6 @RX_indexAddr <|
 B6 @RX_fieldAddr <|
 B6 @RX_index <|
 B6 @RX_build <|
 B6 @RX_buildSlice <|
 B6 @RX_slice <|
 B6 @RX_makeFunc <|
 B6 @RX_makeBound <|
 B6 @RX_load <|
 B6 @ldG_off <|
 B6 @ldG_on <|
 B6 @RX_store <|
 B6 @RX_alloc <|
 B6 @RX_box <|
 B6 @RX_append <|
 B6 @RX_appendO <|
 B6 @RX_len <|
 B6 @RX_call <|
 B6 @RX_callL <|
 B6 @RX_callX <|
 B6 @RX_invoke <|
 B6 @RX_invokeL <|
 B6 @RX_makeM <|
 B6 @RX_makeI <|
 B6 @invV_ifc <|
 B6 @invF_some <|
 B6 @mthA_ifc <|
 B6 @ifcA_ok <|
 B6 @gO_refl <|
 B6 @chkM_ref <|
 B6 @chkM_fptr <|
 B6 @chkM_fn <|
 B6 @chkM_bfn <|
 B6 @chkM_ifc <|
 B6 @chkM_mfn <|
 B6 @RX_callV <|
 B6 @wantD_some <|
 B6 @wantV_bool <|
 B6 @wantV_undef <|
 B6 @DX_zero <|
 B6 @DX_succ <|
 B6 @asB_bool <|
 B6 @opv_tmp <|
 B6 @opv_const <|
 B6 @opv_func <|
 B6 @cst_int <|
 B6 @cst_bool <|
 B6 @cst_string <|
 B6 @cst_nil <|
 B6 @cst_ptr <|
 B6 @pickA_true <|
 B6 @pickA_false <|
 B6 @pickA_bool <|
 B6 @extA_tup <|
 B6 @fldV_agg <|
 B6 @bldA_some <|
 B6 @litA_some <|
 B6 @orLit_some <|
 B6 @orLit_none <|
 B6 @callV_fn <|
 B6 @callV_bfn <|
 B6 @aBin_int <|
 B6 @aBin_str <|
 B6 @aBin_bool <|
 B6 @fin1_some <|
 B6 @finS_some <|
 B6 @lenV_str <|
 B6 @lenV_frz <|
 B6 @lenV_sref <|
 B6 @Cn.{0,0} <|
 B6 @Cs.{0,0} <|
 B6 @Co.{0} <|
 B6 @Cr.{0} <|
 B6 @Ci.{0} <|
 B6 @Cu.{0} <|
 B6 @kQ.{0} <|
 B6 @C7.{0,0} <|
 B6 @Option.map_none.{0,0} <|
 B6 @Oj.{0,0} <|
 B6 @Option.bind_none.{0,0} <|
 B6 @Option.isSome_some.{0} <|
 B6 @beq_true <|
 B6 @beq_false <|
 B6 @Fq <|
 B6 @Ff <|
 B6 @kA <|
 B6 @iH <|
 B6 @jI <|
 B6 @Bool.or_true <|
 B6 @N2 <|
 B6 @Fy <|
 B6 @Gf <|
 B6 @Hs <|
 B6 @C6 <|
 B6 @true_implies <|
 B6 @false_implies <|
 B6 @and_true <|
 B6 @true_and <|
 B6 @Fm <|
 B6 @fin1_NX_not <|
 B6 @fin1_NX_if <|
 B6 @fin1_NS_not <|
 B6 @fin1_NS_if <|
 B6 @finS_NX_not <|
 B6 @finS_NX_if <|
 B6 @finS_NS_not <|
 B6 @finS_NS_if <|
 B6 @Ba.{0} <|
 B6 @AV.tup.injEq <|
 B6 @AV.prim.injEq <|
 B6 @AV.agg.injEq <|
 B6 @AV.frz.injEq <|
 B6 @jC.injEq <|
 B6 @Value.bool.injEq <|
 B6 @Value.string.injEq <|
 B6 @iV.{0} <|
 B6 @decide_true <|
 B6 @decide_false <|
 B6 @kW.{0} <|
 B6 @List.take_nil.{0} <|
 B6 @Ga.{0} <|
 B6 @Ox.{0} <|
 B6 @List.all_nil.{0} <|
 B6 @Fx.{0} <|
 B6 @List.drop_succ_cons.{0} <|
 B6 @List.drop_nil.{0} <|
 B6 @Fg.{0,0} <|
 B6 @intN_cast <|
 B6 @intN_zero <|
 B6 @aBin_agg <|
 B6 @aggB_eql <|
 B6 @aggB_neq <|
 B6 @aBin_nil <|
 B6 @nilB_eql <|
 B6 @nilB_neq <|
 B6 @cellEq_int <|
 B6 @cellEq_str <|
 B6 @cellEq_bool <|
 B6 @apA_eq <|
 B6 @apB_one <|
 B6 @apB_all <|
 B6 @entAt_mid <|
 B6 @put_new <|
 B6 @put_mid <|
 B6 @take_two <|
 B6 @Og.{0} <|
 B6 @List.replicate_zero.{0} <|
 B6 @aConv_int <|
 B6 @convI_some <|
 B6 @aConv_str <|
 B6 @RX_makeSlice <|
 B6 @RX_makeSlice0 <|
 B6 @RX_copy <|
 B6 @RX_appendS <|
 B6 @RX_nilCheck <|
 B6 @RX_min <|
 B6 @RX_max <|
 B6 @cvA_int <|
 B6 @cvA_str <|
 B6 @minA_int <|
 B6 @maxA_int <|
 B6 @aBin_refNil <|
 B6 @aBin_fptrNil <|
 B6 @aBin_nilNil <|
 B6 @ptrNil_eql <|
 B6 @ptrNil_neq <|
 B6 @fz3_tup <|
 B6 @fz3_agg <|
 B6 @fz3_prim <|
 B6 @fz3_frz <|
 B6 @fz3_ref <|
 B6 @fz3_fn <|
 B6 @fz3_sref <|
 B6 @fz2_agg <|
 B6 @fz2_prim <|
 B6 @fz2_frz <|
 B6 @fz2_ref <|
 B6 @fz2_fn <|
 B6 @fz2_sref <|
 B6 @fz1_prim <|
 B6 @fz1_frz <|
 B6 @fz1_ref <|
 B6 @fz1_fn <|
 B6 @fz1_sref <|
 B6 @fz1_old <|
 B6 @fzB_some <|
 B6 @finM_BR <|
 B6 @apB1_frz <|
 B6 @apM_false <|
 B6 @apM_look <|
 B6 @callM_look <|
 B6 @callM_vals <|
 B6 @apM_vals <|
 B6 @finM_some <|
 @Aor
theorem Iz {p:Prop} (h:p):p:=h
theorem dqd {p:Prop} (h:p:=by first|with_reducible assumption|exact ⟨rfl⟩|(refine Iz ?_; kernel_rfl)|omega):p:=h
section
variable {P:Program} {fn:Func} [Globs] [Ext P] {f:FuncId} {c:Code} {args args':List AV} {nt:Nat} {S:List Ent} {tk:List Nat} {n:Nat}
/- a call is opened: the function and the number of its slots are named -/
theorem opP {r : AV} (hf : P.funcs[f]? = some fn) (lh : fn.ntmps = nt) (h : fin1 (KX P fn c ⟨args' ++ bots (nt - args.length), [], [], 0⟩ [] .mk) = some r) (hx : (Ext.on P f || Ext.mv P f) = false := by exact rfl) (hb : fn.body = some c := by exact rfl) (d7 : Hw c = false := by decide +kernel) (bg : (fn.name == "runtime.NumGoroutine") = false := by decide +kernel) (aa : args.map w2 = args' := by exact rfl) (hp : args'.all pure2 = true := by exact rfl) (hp3 : pure3 r = true := by exact rfl) : cL P f args S tk n = some (r, S, tk, n) := Z5 hf hx hb d7 bg lh aa hp S tk n hp3 h
theorem opS {r : AV × List Ent × List Nat × Nat} (hf : P.funcs[f]? = some fn) (lh : fn.ntmps = nt) (h : finS S.length (KX P fn c ⟨args ++ bots (nt - args.length), S, tk, n⟩ [] .mk) = some r) (hx : (Ext.on P f || Ext.mv P f) = false := by exact rfl) (hb : fn.body = some c := by exact rfl) (bg : (fn.name == "runtime.NumGoroutine") = false := by decide +kernel) (hp : (args.map w2).all pure2 = false := by exact rfl) : cL P f args S tk n = some r := Ni hf hx hb bg lh hp h
end
set_option linter.defProp false in
def evt:=B6 @evs <|
 B6 @KX_draw <|
 B6 @KX_drawQ <|
 B6 @KX_drawL <|
 B6 @KX_drawV <|
 B6 @KX_late <|
 B6 @openL_one <|
 B6 @openL_mk <|
 B6 @openL_old <|
 B6 @filtL_nil <|
 B6 @filtL_mk <|
 B6 @filtL_old <|
 B6 @KX_tail <|
 B6 @lastO_one <|
 B6 @lastO_more <|
 B6 @dropL_one <|
 B6 @dropL_more <|
 B6 @callP_eq <|
 B6 @callM_true <|
 B6 @LX_eq <|
 B6 @nth.eq_1 <|
 B6 @nth.eq_2 <|
 B6 @nth.eq_3 <|
 B6 @put.eq_1 <|
 B6 @put.eq_2 <|
 B6 @put.eq_3 <|
 B6 @putT.eq_def <|
 B6 @getT.eq_1 <|
 B6 @getT.eq_2 <|
 B6 @getT.eq_3 <|
 B6 @binInt.eq_def <|
 B6 @binStr.eq_def <|
 B6 @binBool.eq_def <|
 B6 @aUn.eq_def <|
 B6 @outA.eq_def <|
 B6 @resA.eq_def <|
 B6 @mapO.eq_1 <|
 B6 @mapO.eq_2 <|
 B6 @resA1.eq_def <|
 B6 @oneOf.eq_def <|
 B6 @w1.eq_def <|
 B6 @w2.eq_def <|
 B6 @w3.eq_def <|
 B6 @bots.eq_1 <|
 B6 @bots.eq_2 <|
 B6 @tabl.eq_1 <|
 B6 @tabl.eq_2 <|
 B6 @cellsOf.eq_def <|
 B6 @fldA.eq_def <|
 B6 @ldA.eq_def <|
 B6 @stA.eq_def <|
 B6 @partA.eq_def <|
 B6 @takeN.eq_1 <|
 B6 @takeN.eq_2 <|
 B6 @takeN.eq_3 <|
 B6 @over.eq_1 <|
 B6 @over.eq_2 <|
 B6 @over.eq_3 <|
 B6 @over.eq_4 <|
 B6 @over.eq_5 <|
 B6 @leafOk.eq_def <|
 B6 @idxA.eq_def <|
 B6 @nilA.eq_def <|
 B6 @cellsEq.eq_1 <|
 B6 @cellsEq.eq_2 <|
 B6 @cellsEq.eq_3 <|
 B6 @fillA.eq_1 <|
 B6 @fillA.eq_2 <|
 B6 @elemsA.eq_1 <|
 B6 @elemsA.eq_2 <|
 B6 @pure1.eq_def <|
 B6 @pure2.eq_def <|
 B6 @reps.eq_1 <|
 B6 @reps.eq_2 <|
 B6 @chkA.eq_def <|
 B6 @lastL.eq_def <|
 B6 @Value.oneCell'.eq_def <|
 B6 @cond_true.{1} <|
 B6 @cond_false.{1} <|
 B6 @if_true.{1} <|
 B6 @if_false.{1} <|
 B6 @ite_true.{1} <|
 B6 @ite_false.{1} <|
 B6 @implies_true.{1} <|
 B6 @BEq.rfl.{0} @beq_self_eq_true.{0}
end
end Go.Proofs.YthelkgdmgihhiaaGreat
