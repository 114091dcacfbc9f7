/- Part 1. -/
import Derived.Orders
import Derived.Tactics
import Derived.KernelRfl
namespace Go.Proofs.YthelkgdmgihhiaaGreatDoor
section
inductive Cap where
 | unk|tight|tok (id ep sz:Nat)|nilc|nl|nn
inductive AV where
 | bot
 | prim (v:Value)
 | frz (es:List (List AV)) (c:Cap)
 | fptr (cs:List AV)
 | agg (cs:List AV)
 | tup (vs:List AV)
 | ref (id ep off:Nat)
 | sref (id ep off len sz:Nat)
 | fn (f:FuncId) (caps:List AV)
 | bfn (f:FuncId) (first:List AV)
 | ifc (t:TypeId) (v:AV)
 | mfn (t:TypeId) (m:String) (v:AV)
 | lit (len:Nat) (cs:List AV)
abbrev AV.int (n:Int):AV:=.prim (.int .i64 n)
abbrev AV.bool (b:Bool):AV:=.prim (.bool b)
abbrev AV.str (s:ByteArray):AV:=.prim (.string s)
structure Ent where
 ep:Nat
 cells:List AV
structure St where
 T:List AV
 S:List Ent
 tk:List Nat
 n:Nat
def nth {α:Type} : List α->Nat->Option α
 | [],_=>none
 | v :: _,0=>some v
 | _ :: l,n+1=>nth l n
def put {α:Type} : List α->Nat->α->List α
 | [],_,_=>[]
 | _ :: l,0,v=>v :: l
 | x :: l,n+1,v=>x :: put l n v
def getT:List AV->Nat->AV
 | [],_=>.bot
 | v :: _,0=>v
 | _ :: l,n+1=>getT l n
def putT (T:List AV) (d:Option Tmp) (v:AV):List AV:=match d with|some d=>put T d v|none=>T
def w1:AV->AV
 | .frz es _=>.frz es .unk
 | v=>v
def w2:AV->AV
 | .agg cs=>.agg (cs.map w1)
 | v=>w1 v
def pure1:AV->Bool
 | .prim v=>v.oneCell'
 | .frz _ .unk=>true
 | .fptr _=>true
 | .fn _ []=>true
 | _=>false
def pure2:AV->Bool
 | .agg cs=>cs.all pure1
 | v=>pure1 v
def cst1:Value->AV
 | .slice none 0 0=>.frz [] .nilc
 | .bool b=>.prim (.bool b)
 | .int k n=>.prim (.int k n)
 | .string s=>.prim (.string s)
 | .pointer none=>.prim (.pointer none)
 | .nilFunc=>.prim .nilFunc
 | .nilIface=>.prim .nilIface
 | _=>.bot
def cst:Value->AV
 | .agg cs=>.agg (cs.toList.map cst1)
 | v=>cst1 v
def opv (T:List AV):Operand->AV
 | .tmp t=>getT T t
 | .const v=>cst v
 | .global _=>.bot
 | .func f=>.fn f []
/- types -/
def Au (P:Program) (t:TypeId):Option TypeId:=match P.underlying t with|some (.slice e)=>some e|_=>none
def szOf (P:Program) (t:TypeId):Option Nat:=(P.info? t).map (·.size)
def aggT (P:Program) (t:TypeId):Option Bool:=(P.underlying t).map fun|.struct _=>true|.array _ _=>true|_=>false
def Ae (P:Program) (t:TypeId):Option (List AV):=((P.info? t).bind (·.zero)).map fun v=>v.cells.toList.map cst1
def Aw (P:Program) (t:TypeId) (k:Nat):Option (Nat × Nat × Bool) :=
 match P.underlying t with
 | some (.struct fs)=>match fs[k]? with
  | some f=>match szOf P f.type,aggT P f.type with|some (s+1),some b=>some (f.offset,s+1,b)|_,_=>none
  | none=>none
 | _=>none
def Ly (P:Program):List Field->Option (List (Nat × Nat))
 | []=>some []
 | f :: fs=>match szOf P f.type,Ly P fs with|some s,some l=>some ((f.offset,s) :: l)|_,_=>none
def fieldsOf (P:Program) (t:TypeId):Option (List (Nat × Nat)) :=
 match P.underlying t with
 | some (.struct fs)=>Ly P fs.toList
 | _=>none
def Aj (P:Program) (t:TypeId):Bool:=match P.underlying t with|some .string=>true|_=>false
def Ef (P:Program) (t:TypeId):Option IntKind:=match P.underlying t with|some (.int k)=>some k|_=>none
/- operations on values alone -/
def sEq (a b:ByteArray):Bool:=a.toList == b.toList
def sLt (a b:ByteArray):Bool:=Op.bytesLess a.toList b.toList
def binInt (b:BinOp) (k:IntKind) (x y:Int):Option AV :=
 match b with
 | .add=>some (.prim (.int k (k.wrap (x+y))))
 | .sub=>some (.prim (.int k (k.wrap (x - y))))
 | .mul=>some (.prim (.int k (k.wrap (x*y))))
 | .quo=>if y=0 then none else some (.prim (.int k (k.wrap (x.tdiv y))))
 | .rem=>if y=0 then none else some (.prim (.int k (x.tmod y)))
 | .eql=>some (.bool (x == y))
 | .neq=>some (.bool (x != y))
 | .lss=>some (.bool (x<y))
 | .leq=>some (.bool (x<=y))
 | .gtr=>some (.bool (x > y))
 | .geq=>some (.bool (x >= y))
 | .shr=>if 0<=y/\y<64/\k.bits=64 then some (.prim (.int k (x.fdiv (2 ^ y.toNat)))) else none
 | _=>none
def binStr (b:BinOp) (x y:ByteArray):Option AV :=
 match b with
 | .add=>if x.size+y.size<=2 ^ 62 then some (.str (x++y)) else none
 | .eql=>some (.bool (sEq x y))
 | .neq=>some (.bool (!sEq x y))
 | .lss=>some (.bool (sLt x y))
 | .leq=>some (.bool (sLt x y || sEq x y))
 | .gtr=>some (.bool !(sLt x y || sEq x y))
 | .geq=>some (.bool !sLt x y)
 | _=>none
def binBool (b:BinOp) (x y:Bool):Option AV :=
 match b with
 | .eql=>some (.bool (x == y))
 | .neq=>some (.bool (!(x == y)))
 | _=>none
def Lr:Nat->AV->AV->Option Bool
 | 0,.prim (.bool a),.prim (.bool b)=>some (a == b)
 | 1,.prim (.int k a),.prim (.int k' b)=>if k=k' then some (a == b) else none
 | 2,.prim (.string a),.prim (.string b)=>some (sEq a b)
 | _,_,_=>none
def cellsEq:List Nat->List AV->List AV->Option Bool
 | [],[],[]=>some true
 | k :: ks,x :: xs,y :: ys=>match Lr k x y,cellsEq ks xs ys with|some a,some b=>some (a && b)|_,_=>none
 | _,_,_=>none
def Rv (P:Program) (t:TypeId):Option Nat :=
 match P.underlying t with
 | some .bool=>some 0
 | some (.int _)=>some 1
 | some .string=>some 2
 | _=>none
def Ma (P:Program):Nat->List Field->Option (List Nat)
 | _,[]=>some []
 | i, f :: fs => if f.name = "_" ∨ f.offset ≠ i ∨ aggT P f.type ≠ some false then none else match Rv P f.type, Ma P (i + 1) fs with | some k, some ks => some (k :: ks) | _, _ => none
def Ace (P:Program) (t:TypeId):Option (List Nat) :=
 match P.underlying t with
 | some (.struct fs)=>if P.stoodInHeld t=false/\P.eqGuardType P.depth t=false then Ma P 0 fs.toList else none
 | _=>none
def nilA:List (List AV)->Cap->Option Bool
 | _ :: _,_=>some false
 | [],.nilc=>some true
 | [],.nl=>some true
 | [],.nn=>some false
 | [],_=>none
def Rq (P:Program) (t:TypeId):Bool:=match P.underlying t with|some (.pointer _)=>true|_=>false
def Ja (b:BinOp) (ok r:Bool):Option AV :=
 if ok=true then (match b with|.eql=>some (.bool r)|.neq=>some (.bool !r)|_=>none) else none
def aBin (P:Program) (b:BinOp) (t:TypeId) (x y:AV):Option AV :=
 match x,y with
 | .prim (.int k x),.prim (.int k' y)=>if k=k' then binInt b k x y else none
 | .prim (.string x),.prim (.string y)=>binStr b x y
 | .prim (.bool x),.prim (.bool y)=>match P.underlying t with|some .bool=>binBool b x y|_=>none
 | .agg xs,.agg ys=>match Ace P t with
  | some ks=>match b with
   | .eql=>(cellsEq ks xs ys).map .bool
   | .neq=>(cellsEq ks xs ys).map fun c=>.bool !c
   | _=>none
  | none=>none
 | .ref _ _ _,.prim (.pointer none)=>Ja b (Rq P t) false
 | .fptr _,.prim (.pointer none)=>Ja b (Rq P t) false
 | .prim (.pointer none),.prim (.pointer none)=>Ja b (Rq P t) true
 | .frz es c,.frz [] .nilc=>match Au P t,nilA es c with
  | some _,some r=>match b with
   | .eql=>some (.bool r)
   | .neq=>some (.bool !r)
   | _=>none
  | _,_=>none
 | _,_=>none
def aUn (u:UnOp) (x:AV):Option AV :=
 match u,x with
 | .neg,.prim (.int k n)=>some (.prim (.int k (k.wrap (0 - n))))
 | .not,.prim (.bool b)=>some (.bool !b)
 | _,_=>none
def Q1 (P:Program) (s d:TypeId) (x:AV):Option AV :=
 match x with
 | .prim (.int _ n)=>match Ef P d,Ef P s with|some k,some _=>some (.prim (.int k (k.wrap n)))|_,_=>none
 | .prim (.string b)=>if Aj P s && Aj P d then some (.str b) else none
 | _=>none
def L5 (P:Program) (t:TypeId):Bool:=match (Au P t).bind (Ef P) with|some .u8=>true|_=>false
def bytesL (b:ByteArray):List (List AV):=b.data.toList.map fun x=>[.prim (.int .u8 x.toNat)]
def cvA (P:Program) (s d:TypeId) (x:AV):Option AV :=
 match x with
 | .prim (.string b)=>if (Aj P s && L5 P d && decide (b.size<=1048576))=true then some (.frz (bytesL b) .unk) else Q1 P s d x
 | x=>Q1 P s d x
def chkA:AV->Option AV
 | .ref id ep off=>some (.ref id ep off)
 | .fptr cs=>some (.fptr cs)
 | .fn f caps=>some (.fn f caps)
 | .bfn f first=>some (.bfn f first)
 | .ifc t v=>some (.ifc t v)
 | _=>none
def mRow (P:Program) (t:TypeId) (m:String):Option FuncId :=
 match (P.info? t).bind fun i=>i.methods.find? (·.name == m) with
 | some r=>if r.path.isEmpty=true then (match r.func,P.underlying t with
  | some (f,true),some (.pointer _)=>some f
  | some (f,false),some (.struct _)=>some f
  | _,_=>none) else none
 | none=>none
def Aci (P:Program) (t:TypeId):Bool:=match P.underlying t with|some (.interface _)=>true|none=>true|_=>false
def chkM (P:Program) (x:AV):Option AV :=
 match x with
 | .mfn t m v=>if (mRow P t m).isSome=true then some (.mfn t m v) else none
 | x=>chkA x
def mthA (m:String) (x:AV):Option AV:=match x with|.ifc t v=>some (.mfn t m v)|_=>none
def cellsOf:AV->Option (List AV)
 | .agg cs=>some cs
 | .tup _=>none
 | .bot=>none
 | .prim (.agg _)=>none
 | .prim (.tuple _)=>none
 | v=>some [v]
def leafOk:AV->Bool
 | .prim v=>v.oneCell'
 | .bot=>false
 | .agg _=>false
 | .tup _=>false
 | _=>true
def over:List AV->Nat->List AV->Option (List AV)
 | cs,0,[]=>some cs
 | c :: cs,k+1,vs=>(over cs k vs).map (c :: ·)
 | _ :: cs,0,v :: vs=>(over cs 0 vs).map (v :: ·)
 | [],0,_ :: _=>none
 | [],_+1,_=>none
def slot (l:List (Nat × Nat)) (i:Nat):Option (Nat × Nat):=nth l i
def fillA (pl:List (Nat × Nat)):List AV->List (Nat × AV)->Option (List AV)
 | cs,[]=>some cs
 | cs,(i,v) :: r=>match nth pl i,cellsOf v with
  | some (off,sz),some vs=>if vs.length=sz then match over cs off vs with|some cs=>fillA pl cs r|none=>none else none
  | _,_=>none
def takeN:Nat->List AV->Option (List AV)
 | 0,_=>some []
 | _+1,[]=>none
 | n+1,c :: cs=>(takeN n cs).map (c :: ·)
def elemsA (sz:Nat):List (List AV)->List (Nat × AV)->Option (List (List AV))
 | es,[]=>some es
 | es,(i,v) :: r=>match cellsOf (w2 v) with
  | some vs=>if vs.length=sz/\vs.all pure1=true/\i<es.length then elemsA sz (put es i vs) r else none
  | none=>none
def lenA:AV->Option Nat
 | .frz es _=>some es.length
 | .sref _ _ _ len _=>some len
 | _=>none
def intN:AV->Option Nat
 | .prim (.int _ i)=>if 0<=i then some i.toNat else none
 | _=>none
def Yq (P:Program) (t:TypeId):Option (Nat × Nat):=match P.underlying t with|some (.array n e)=>(szOf P e).map fun s=>(n,s)|_=>none
def idxA (P:Program) (t:TypeId) (x i:AV):Option AV :=
 match x,intN i with
 | .ref id ep off,some k=>match Yq P t with|some (n,sz)=>if k<n then some (.ref id ep (off+k*sz)) else none|none=>none
 | .fptr cs,some k=>match Yq P t with|some (n,sz)=>if k<n then some (.fptr (cs.drop (k*sz))) else none|none=>none
 | .frz es _,some k=>match nth es k,(Au P t).bind (szOf P) with|some cs,some sz=>if cs.length=sz then some (.fptr cs) else none|_,_=>none
 | .sref id ep off len sz,some k=>if k<len/\(Au P t).bind (szOf P)=some sz then some (.ref id ep (off+k*sz)) else none
 | _,_=>none
def fldA (P:Program) (t:TypeId) (x:AV) (k:Nat):Option AV :=
 match Aw P t k,x with
 | some (off,_,_),.fptr cs=>some (.fptr (cs.drop off))
 | some (off,_,_),.ref id ep o=>some (.ref id ep (o+off))
 | _,_=>none
def partA (b:Bool) (sz:Nat) (cs:List AV):Option AV :=
 if b then (takeN sz cs).map .agg else nth cs 0
def bound (len:Nat) (o:Option AV) (dflt:Nat):Option Nat :=
 match o with
 | none=>some dflt
 | some v=>match intN v with|some k=>if k<=len then some k else none|none=>none
def B7 (sz:Nat) (es:List (List AV)):Bool:=es.all fun e=>e.length == sz
def Du (P:Program) (t:TypeId) (x:AV) (lo hi mx:Option AV):Option AV :=
 match x with
 | .prim (.string s)=>if Aj P t then match bound s.size hi s.size with
   | some h=>match bound h lo 0,mx with|some l,none=>some (.str (s.extract l h))|_,_=>none
   | none=>none
  else none
 | .frz es c=>match (Au P t).bind (szOf P) with
  | some sz=>if B7 sz es=true then match bound es.length hi es.length with
   | some h=>match bound h lo 0,mx with
    | some l,none=>some (.frz ((es.take h).drop l) .unk)
    | some l,some m=>if hi.isSome/\intN m=some h then some (.frz ((es.take h).drop l) .tight) else none
    | none,_=>none
   | none=>none
   else none
  | none=>none
 | .sref id ep off len sz=>if (Au P t).bind (szOf P)=some sz then match bound len hi len with
   | some h=>match bound h lo 0,mx with
    | some l,none=>some (.sref id ep (off+l*sz) (h - l) sz)
    | some l,some m=>if hi.isSome/\intN m=some h then some (.sref id ep (off+l*sz) (h - l) sz) else none
    | none,_=>none
   | none=>none
  else none
 | _=>none
def mapO {α β:Type} (f:α->Option β):List α->Option (List β)
 | []=>some []
 | a :: l=>match f a,mapO f l with|some b,some l=>some (b :: l)|_,_=>none
def G9:AV->Bool
 | .agg _=>false
 | .tup _=>false
 | .bot=>false
 | _=>true
def lit1 (sz len:Nat) (ps:List (Nat × AV)):Option AV :=
 match len,ps with
 | 1,[(0,x)]=>match cellsOf x with|some vs=>if vs.length=sz/\vs.all leafOk=true then some (.lit 1 vs) else none|none=>none
 | _,_=>none
def Xg (es:Option (List (List AV))) (x:Option AV):Option AV:=match es with|some es=>some (.frz es .tight)|none=>x
def bots:Nat->List AV
 | 0=>[]
 | n+1=>.bot :: bots n
theorem Lp:∀ n,bots n=List.replicate n .bot
 | 0=>rfl
 | n+1=>by rw [bots,Lp n]; rfl
def minA:AV->AV->Option AV
 | .prim (.int k x),.prim (.int k' y)=>if k=k' then some (.prim (.int k (if y<x then y else x))) else none
 | _,_=>none
def maxA:AV->AV->Option AV
 | .prim (.int k x),.prim (.int k' y)=>if k=k' then some (.prim (.int k (if y > x then y else x))) else none
 | _,_=>none
def evQ (P:Program) (o:Oper) (ρ:Operand->AV):Option AV :=
 match o.op with
 | .move x|.assign x=>some (ρ x)
 | .pick c a b=>match ρ c with|.prim (.bool t)=>some (if t then ρ a else ρ b)|_=>none
 | .binOp b t x y _=>aBin P b t (ρ x) (ρ y)
 | .unOp u _ x=>aUn u (ρ x)
 | .convert s d x=>cvA P s d (ρ x)
 | .extract t i=>match ρ t with|.tup vs=>nth vs i|_=>none
 | .field t x k=>match Aw P t k,ρ x with|some (off,sz,b),.agg cs=>partA b sz (cs.drop off)|_,_=>none
 | .indexAddr t x i=>idxA P t (ρ x) (ρ i)
 | .fieldAddr t x k=>fldA P t (ρ x) k
 | .index t x i=>match ρ x,intN (ρ i) with
  | .prim (.string s),some k=>if Aj P t then (s[k]?).map fun b=>.prim (.int .u8 b.toNat) else none
  | _,_=>none
 | .build t ps=>match Ae P t,fieldsOf P t with|some z,some pl=>(fillA pl z (ps.toList.map fun (i,x)=>(i,ρ x))).map .agg|_,_=>none
 | .buildSlice t len ps=>match Au P t with
  | some e=>match szOf P e,Ae P e with
   | some (sz+1),some z=>if z.length=sz+1/\z.all (fun c=>pure1 (w1 c))=true/\len*(sz+1)<=4096 then Xg (elemsA (sz+1) (List.replicate len (z.map w1)) (ps.toList.map fun (i,x)=>(i,ρ x))) (lit1 (sz+1) len (ps.toList.map fun (i,x)=>(i,ρ x))) else none
   | _,_=>none
  | none=>none
 | .slice t x lo hi mx=>Du P t (ρ x) (lo.map ρ) (hi.map ρ) (mx.map ρ)
 | .makeFunc (.func f) first caps=>if first.isEmpty/\(caps.toList.all fun x=>G9 (ρ x))=true then some (.fn f (caps.toList.map ρ)) else if caps.isEmpty then some (.bfn f (first.toList.map ρ)) else none
 | .call c=>match c.callee with
  | .builtin .len=>match c.args.toList.map ρ,c.argTypes.toList with
   | [.prim (.string s)],[t]=>if Aj P t then some (.int s.size) else none
   | [x],[t]=>if (Au P t).isSome then (lenA x).map fun (n:Nat)=>AV.int (n:Int) else none
   | _,_=>none
  | .builtin .min=>match c.args.toList.map ρ with | [x,y]=>minA x y|_=>none
  | .builtin .max=>match c.args.toList.map ρ with | [x,y]=>maxA x y|_=>none
  | _=>none
 | .makeFunc (.method m) first caps=>match first.toList,caps.toList with | [x],[]=>mthA m (ρ x)|_,_=>none
 | .makeInterface t x=>if Aci P t=true then none else some (.ifc t (ρ x))
 | .nilCheck x=>chkM P (ρ x)
 | _=>none
/- operations on variables -/
def entAt (S:List Ent) (id ep:Nat):Option (List AV):=match nth S id with|some e=>if e.ep=ep then some e.cells else none|none=>none
def ldA (P:Program) (t:TypeId) (a:AV) (S:List Ent):Option AV :=
 match szOf P t,aggT P t with
 | some sz,some b=>match a with
  | .fptr cs=>partA b sz cs
  | .ref id ep off=>match entAt S id ep with|some cs=>partA b sz (cs.drop off)|none=>none
  | _=>none
 | _,_=>none
def stA (P:Program) (t:TypeId) (a v:AV) (S:List Ent):Option (List Ent) :=
 match a,szOf P t,cellsOf v with
 | .ref id ep off,some sz,some vs=>if vs.length=sz/\vs.all leafOk=true then match entAt S id ep with
   | some cs=>match over cs off vs with|some cs=>some (put S id ⟨ep,cs⟩)|none=>none
   | none=>none
  else none
 | _,_,_=>none
def Aq (tk:List Nat) (c:Cap) (sz:Nat):Bool :=
 match c with
 | .unk=>false
 | .tight=>true
 | .nilc=>true
 | .nl=>false
 | .nn=>false
 | .tok id ep s=>s == sz && nth tk id == some ep
def Ed (tk:List Nat) (c:Cap) (sz:Nat):Cap :=
 match c with
 | .tok id ep _=>.tok id (ep+1) sz
 | _=>.tok tk.length 0 sz
def H3 (tk:List Nat) (c:Cap):List Nat :=
 match c with
 | .tok id ep _=>put tk id (ep+1)
 | _=>tk++[0]
def roomy (n:Nat):Bool:=decide (n<=1048576)
def Aah (sz n:Nat):Bool:=decide (n<=1048576) || (sz == 3 && decide (n<=3518437208883))
def apT (P:Program) (t:TypeId):Option Nat :=
 match Au P t with
 | some e=>match szOf P e,Ae P e,P.info? e with
  | some (sz+1),some z,some i=>if z.length=sz+1/\i.bytes<=1048576/\(sz=2->i.bytes<=40) then some (sz+1) else none
  | _,_,_=>none
 | none=>none
def apA (P:Program) (t:TypeId) (x y:AV) (tk:List Nat):Option (AV × List Nat) :=
 match x,y,apT P t with
 | .frz es c,.frz ys _,some sz=>if Aq tk c sz=true/\B7 sz es=true/\B7 sz ys=true/\Aah sz (es.length+ys.length)=true then some (.frz (es++ys) (Ed tk c sz),H3 tk c) else none
 | _,_,_=>none
class Globs where
 gl:List (Nat × Array Value)
 sh:FuncId->Bool
 shAny:Bool
 own:Option Tmp->TypeId->Bool
 lk:FuncId->Bool
 an:FuncId->Bool
 xAny:Bool
 dr:Bool
def shF [Globs] (f:FuncId):Bool:=Globs.shAny && Globs.sh f
def xF [Globs] (f:FuncId):Bool:=Globs.xAny && (Globs.lk f || Globs.an f)
inductive Md where
 | no|quiet|look|vals
@[reducible] def gM [G:Globs]:Md->Globs
 | .quiet=>⟨G.gl,fun _=>false,false,G.own,fun _=>false,fun _=>false,false,false⟩
 | .look=>⟨G.gl,G.sh,G.shAny,G.own,G.lk,G.an,G.xAny,true⟩
 | .vals=>⟨G.gl,G.sh,G.shAny,G.own,fun _=>false,fun _=>false,false,false⟩
 | .no=>G
def Uw [Globs] (c:Call):Bool:=match c.callee with|.invoke _ _=>true|.value (.func f)=>xF f|.value _=>Globs.xAny|_=>false
def xOpN [Globs] (o:Oper):Bool:=match o.op with|.call c=>(match c.callee with|.invoke _ _=>true|.value (.func f)=>xF f|_=>false)|_=>false
def xOp [Globs] (o:Oper):Bool:=match o.op with|.call c=>Uw c|_=>false
def lkOp [Globs] (o:Oper):Bool:=Globs.dr && (match o.op with|.call c=>(match c.callee with|.invoke _ _=>true|.value (.func f)=>xF f && Globs.lk f|_=>false)|_=>false)
def anOp [Globs] (o:Oper):Bool:=Globs.dr && xOp o && !lkOp o
def isMk (o:Oper):Bool:=match o.op with|.alloc _|.box _ _=>true|_=>false
def qm (ops:List Oper):Bool:=ops.any isMk
def mdOf [Globs] (ops:List Oper):Md:=if qm ops=true then .quiet else if (ops.any xOp)=true then (if (ops.any xOpN)=true then .look else .vals) else .no
def E8 (sz:Nat):Nat->List AV->Option (List (List AV))
 | 0,_=>some []
 | n+1,cs=>match takeN sz cs,E8 sz n (cs.drop sz) with|some e,some es=>some (e :: es)|_,_=>none
def apR (P:Program) (t:TypeId) (x y:AV) (tk:List Nat) (S:List Ent):Option (AV × List Nat) :=
 match y with
 | .sref id ep off len sz=>match entAt S id ep with
  | some cs=>match E8 sz len (cs.drop off) with
   | some es=>if (es.all fun e=>e.all fun c=>pure1 (w1 c))=true then apA P t x (.frz (es.map (·.map w1)) .unk) tk else none
   | none=>none
  | none=>none
 | _=>none
def Agg:AV->Bool|.sref _ _ _ _ _=>true|_=>false
def apB1 [Globs] (P:Program) (t:TypeId) (x y:AV) (tk:List Nat) (S:List Ent):Option (AV × List Nat):=if (Agg y && Globs.shAny)=true then apR P t x y tk S else apA P t x y tk
def litC (sz:Nat) (y:AV):Option (Nat × List AV) :=
 match y with
 | .frz ys _=>if B7 sz ys=true/\(ys.all fun e=>e.all leafOk)=true then some (ys.length,ys.flatten) else none
 | .lit m cs=>if cs.length=m*sz/\cs.all leafOk=true then some (m,cs) else none
 | _=>none
def apO2 (sz:Nat) (x:AV) (ms:Nat) (ys:List AV) (S:List Ent) (n:Nat):Option (AV × List Ent × Nat) :=
 match x with
 | .frz [] .nilc=>some (.sref S.length n 0 ms sz,S++[⟨n,ys⟩],n+1)
 | .sref id ep 0 len sz'=>if sz'=sz/\0<len then (match entAt S id ep with
   | some cs=>if cs.length=len*sz/\roomy (len+ms)=true then some (.sref id n 0 (len+ms) sz,put S id ⟨n,cs++ys⟩,n+1) else none
   | none=>none) else none
 | _=>none
def apO (P:Program) (t:TypeId) (x y:AV) (S:List Ent) (n:Nat):Option (AV × List Ent × Nat) :=
 match apT P t with
 | some sz=>match litC sz y with
  | some (m,ys)=>if 0<m/\roomy m=true then apO2 sz x m ys S n else none
  | none=>none
 | none=>none
def apS (P:Program) (t t':TypeId) (x y:AV) (tk:List Nat):Option (AV × List Nat) :=
 match y with
 | .prim (.string b)=>if (Aj P t' && L5 P t && apT P t == some 1)=true then apA P t x (.frz (bytesL b) .unk) tk else none
 | _=>none
def mkB (z:Option (List AV)) (sz:Option Nat) (b:Option Nat) (l c:Option Nat):Option (Nat × Nat × List AV) :=
 match l,c,sz,z,b with
 | some l,some c,some (sz+1),some z,some b=>if l<=c/\c<=1048576/\b<=1048576/\z.length=sz+1 then some (l,sz+1,(List.replicate c z).flatten) else none
 | _,_,_,_,_=>none
def Pr (P:Program) (t:TypeId):Option Nat:=(P.info? t).map (·.bytes)
def mkA (P:Program) (t:TypeId) (l c:AV):Option (Nat × Nat × List AV) :=
 mkB ((Au P t).bind (Ae P)) ((Au P t).bind (szOf P)) ((Au P t).bind (Pr P)) (intN l) (intN c)
def len0:Operand->Bool
 | .const (.int _ 0)=>true
 | _=>false
def K3 (o:Option (List (List AV))):AV :=
 match o with
 | some es=>if (es.all fun e=>e.all fun c=>pure1 (w1 c))=true then .frz (es.map (·.map w1)) .unk else .bot
 | none=>.bot
def fzL (o:Oper):Operand->Bool
 | .tmp 10=>o.after.toList.all fun d=>d.on == 0
 | _=>false
def L2 (o:Oper) (l:Operand):Bool:=len0 l || fzL o l
def tokA (id sz:Nat):AV->AV
 | .frz es _=>.frz es (.tok id 0 sz)
 | _=>.bot
def mkV (z:Bool) (id l sz:Nat) (cs:List AV):AV:=if z=true then .frz [] (.tok id 0 sz) else tokA id sz (K3 (E8 sz l cs))
def srcA (sz n:Nat) (s:AV) (S:List Ent):Option (List AV) :=
 match s with
 | .frz es _=>if B7 sz es=true then some (es.take n).flatten else none
 | .sref id ep off _ sz'=>if sz=sz' then (match entAt S id ep with|some cs=>takeN (n*sz) (cs.drop off)|none=>none) else none
 | _=>none
def cpA (P:Program) (t:TypeId) (d s:AV) (S:List Ent):Option (Nat × List Ent) :=
 match d,lenA s with
 | .sref id ep off len sz,some m=>if (Au P t).bind (szOf P)=some sz then (match srcA sz (min m len) s S,entAt S id ep with
   | some vs,some cs=>if vs.all leafOk=true then (match over cs off vs with|some cs=>some (min m len,put S id ⟨ep,cs⟩)|none=>none) else none
   | _,_=>none) else none
 | _,_=>none
def Ea (ops:List Oper) (T:List AV) (o:Oper):Option Bool :=
 match o.guard with
 | none=>some true
 | some (g,want)=>match (nth ops g).bind (·.dst) with
  | none=>none
  | some d=>match getT T d with
   | .prim (.bool b)=>some (b == want)
   | .prim (.tuple _)=>some false
   | _=>none
abbrev Ak:=FuncId->List AV->List Ent->List Nat->Nat->Option (AV × List Ent × List Nat × Nat)
class Ext (P:Program) where
 on:FuncId->Bool
 call:Ak
 mv:FuncId->Bool
def B3 (P:Program) (T:List AV) (c:Call):Option (FuncId × List AV) :=
 match c.callee with
 | .invoke x m=>match opv T x with
  | .ifc t v=>(mRow P t m).map fun f=>(f,v :: c.args.toList.map (opv T))
  | _=>none
 | .value x=>match opv T x with
  | .fn f caps=>some (f,c.args.toList.map (opv T)++caps)
  | .bfn f first=>some (f,first++c.args.toList.map (opv T))
  | _=>none
 | _=>none
def evO [Globs] (P:Program) (call:Ak) (o:Oper) (st:St):Option (AV × St) :=
 match o.op with
 | .load t a=>(ldA P t (opv st.T a) st.S).map fun v=>(v,st)
 | .store t a v=>(stA P t (opv st.T a) (opv st.T v) st.S).map fun S=>(.prim undef,{ st with S:=S })
 | .alloc t=>(Ae P t).map fun cs=>(.ref st.S.length st.n 0,{ st with S:=st.S++[⟨st.n,cs⟩],n:=st.n+1 })
 | .box _ x=>(cellsOf (opv st.T x)).map fun cs=>(.ref st.S.length st.n 0,{ st with S:=st.S++[⟨st.n,cs⟩],n:=st.n+1 })
 | .makeSlice t l c=>(mkA P t (opv st.T l) (opv st.T c)).map fun (l',sz,cs)=>if L2 o l=true then (mkV (len0 l) st.tk.length l' sz cs,{ st with tk:=st.tk++[0] }) else (.sref st.S.length st.n 0 l' sz,{ st with S:=st.S++[⟨st.n,cs⟩],n:=st.n+1 })
 | .call c=>match c.callee with
  | .builtin .append=>match c.args.toList.map (opv st.T),c.argTypes.toList with
   | [x,y],[t,t']=>if Globs.own o.dst o.type=true then (if t=t' then (apO P t x y st.S st.n).map fun (v,S,n)=>(v,{ st with S:=S,n:=n }) else none) else if t=t' then (apB1 P t x y st.tk st.S).map fun (v,tk)=>(v,{ st with tk:=tk }) else (apS P t t' x y st.tk).map fun (v,tk)=>(v,{ st with tk:=tk })
   | _,_=>none
  | .builtin .copy=>match c.args.toList.map (opv st.T),c.argTypes.toList with
   | [d,s],[t,_]=>(cpA P t d s st.S).map fun (n,S)=>(AV.int (n:Int),{ st with S:=S })
   | _,_=>none
  | .builtin _=>(evQ P o (opv st.T)).map fun v=>(v,st)
  | _=>match B3 P st.T c with
   | some (f,args)=>(call f args st.S st.tk st.n).map fun (v,S,tk,n)=>(v,{ st with S:=S,tk:=tk,n:=n })
   | none=>none
 | _=>(evQ P o (opv st.T)).map fun v=>(v,st)
/- what waits for what in a region -/
def Ax (ops:Array Oper) (j:Nat):Option Tmp:=(ops[j]?).bind (·.dst)
def depsOf (ops:Array Oper) (i:Nat):List Nat:=match ops[i]? with|some o=>(o.after.toList.filter (Region.binds .any)).map (·.on)|none=>[]
def reachAt (ops:Array Oper) (i:Nat):List Nat:=((List.range i).reverse).foldl (fun s j=>if s.contains j then depsOf ops j++s else s) (depsOf ops i)
def P2 (S S':List Ent):Prop:=S'.length=S.length/\∀ i,nth S' i=nth S i\/∃ ep b b',nth S i=some ⟨ep,[.prim (.bool b)]⟩/\nth S' i=some ⟨ep,[.prim (.bool b')]⟩
def Zv (all:List Oper) (k i:Nat):Operand->Bool
 | .tmp q=>(List.range k).all fun j=>decide (j<i) || Ax all.toArray j != some q
 | _=>true
def loadsB (all:List Oper) (d:Option Tmp):List (TypeId × Operand × Option Tmp × Bool) :=
 match (List.range all.length).find? fun k=>Ax all.toArray k == d with
 | none=>[]
 | some k=>(List.range k).filterMap fun i=>match all[i]? with
  | some o=>(match o.op with
   | .load t a=>if (reachAt all.toArray k).contains i then none else some (t,a,o.dst,Zv all k i a)
   | _=>none)
  | none=>none
def Aak (P:Program) (T:List AV) (S':List Ent) (q:TypeId × Operand × Option Tmp × Bool):Prop :=
 q.2.2.2=true/\∃ d,q.2.2.1=some d/\d<T.length/\ldA P q.1 (opv T q.2.1) S'=some (getT T d)
def chkX [Globs] (P:Program) (all:List Oper) (o:Oper) (st st':St):Prop :=
 (lkOp o=true->P2 st.S st'.S)/\(anOp o=true->st.S.length<=st'.S.length/\(o.dst.isSome=true->∀ q ∈ loadsB all o.dst,Aak P st.T st'.S q))
def isB:AV->Bool
 | .prim (.bool _)=>true
 | .agg [_]=>true
 | _=>false
def isLd (o:Oper):Bool:=match o.op with|.load _ _=>true|_=>false
open Classical in
noncomputable def chkO [Globs] (P:Program) (all:List Oper) (o:Oper) (st:St) (v:AV) (st':St):Bool :=
 bif Globs.dr then (bif xOp o then decide (chkX P all o st st') else !(isLd o && isB v)) else true
noncomputable def evOs [Globs] (P:Program) (call:Ak) (all:List Oper):List Oper->St->Option St
 | [],st=>some st
 | o :: r,st=>match Ea all st.T o with
  | none=>none
  | some false=>evOs P call all r { st with T:=putT st.T o.dst (.prim undef) }
  | some true=>match evO P call o st with
   | some (v,st')=>if chkO P all o st v st'=true then evOs P call all r { st' with T:=putT st'.T o.dst v } else none
   | none=>none
inductive Ex where
 | normal|exit (id:Nat)|ret
def cutS (kp:Bool) (m:Nat) (S:List Ent):List Ent:=bif kp then S else S.take m
def He (kp:Bool) (f:St->Option (Ex × St)):Nat->St->Option (Ex × St)
 | 0,_=>none
 | k+1,st=>match f st with
  | some (.normal,st')=>He kp f k { st' with S:=cutS kp st.S.length st'.S }
  | r=>r
def opsOf:Code->List Oper
 | .region _ ops _=>ops.toList
 | .seq a b=>opsOf a++opsOf b
 | .cond _ a b=>opsOf a++opsOf b
 | .block _ c=>opsOf c
 | .loop c=>opsOf c
 | .scope c=>opsOf c
 | _=>[]
def keepO [Globs] (o:Oper):Bool:=match o.op with|.call c=>(match c.callee with|.builtin .append=>Globs.own o.dst o.type|.value (.func f)=>Globs.xAny && Globs.an f|_=>false)|_=>false
def Kp [Globs] (c:Code):Bool:=(opsOf c).any keepO
def Gm (o:Oper):Bool:=match o.op with|.alloc _=>true|.box _ _=>true|_=>false
def Hg (l:List Oper) (q:Nat):Bool:=l.all fun o=>o.dst != some q || Gm o
def L6 (all:List Oper) (n:Nat) (o:Oper):Bool :=
 match o.op with
 | .store _ (.tmp q) _=>decide (n<=q) && Hg all q
 | .store _ _ _=>false
 | .makeSlice _ l _=>!L2 o l
 | .call c=>(match c.callee with|.builtin .append=>false|.builtin .copy=>false|.builtin _=>true|_=>false)
 | _=>true
def K1 (P:Program) (f:FuncId) (n:Nat):Bool:=match P.funcs[f]? with|some fn=>(match fn.body with|some c=>(opsOf c).all (L6 (opsOf c) n)|none=>false)|none=>false
def Bq [Globs] (P:Program) [Ext P] (call:Ak):Ak:=fun f args S tk n=>if (((args.map w2).all pure2 && !Ext.mv P f) || (shF f && K1 P f args.length && !Ext.mv P f && !Ext.on P f) || (xF f && Globs.dr))=true then call f args S tk n else none
def Aaw (a:List Oper) (o:Oper):Bool :=
 (match o.op with|.call c=>(match c.callee with|.value (.tmp _)=>true|_=>false)|_=>false) && o.guard.isNone &&
 (List.range a.length).all (fun j=>(reachAt (a++[o]).toArray a.length).contains j) && (depsOf (a++[o]).toArray a.length).all (fun e=>decide (e<a.length)) &&
 (List.range a.length).all fun i=>(depsOf a.toArray i).all (fun e=>decide (e<i)) && (match a.toArray[i]? with|some o'=>(match o'.guard with|some (g,_)=>decide (g<a.length)|none=>true)|none=>true)
def Db (L:List Oper):Option (List Oper × Oper) :=
 match L.getLast? with
 | some o=>if Aaw L.dropLast o=true then some (L.dropLast,o) else none
 | none=>none
def Afb (a:List Oper) (o:Oper):Bool :=
 o.guard.isNone &&
 (List.range a.length).all (fun j=>(reachAt (a++[o]).toArray a.length).contains j) && (depsOf (a++[o]).toArray a.length).all (fun e=>decide (e<a.length)) &&
 (List.range a.length).all fun i=>(depsOf a.toArray i).all (fun e=>decide (e<i)) && (match a.toArray[i]? with|some o'=>(match o'.guard with|some (g,_)=>decide (g<a.length)|none=>true)|none=>true)
def Nb (o:Oper):Oper:=if isMk o=true then { o with op:=.move (.global 0) } else o
def openL:List Oper->List Oper
 | []=>[]
 | [_]=>[]
 | o :: b :: l=>Nb o :: openL (b :: l)
def isSt (o:Oper):Bool:=match o.op with|.store _ _ _=>true|_=>false
def Ach (o:Oper):Bool:=(match o.op with|.alloc _=>true|_=>false) && o.guard.isNone && o.dst.isSome
def H7:List Oper->Option (Nat × Oper)
 | []=>none
 | o :: l=>if isMk o=true then (if (Ach o && !l.any isMk)=true then some (0,o) else none) else (H7 l).map fun (p,al)=>(p+1,al)
def Gl [Globs] (L:List Oper):Option (Nat × Oper × Oper) :=
 match L.getLast? with
 | some o=>if (isSt o && Afb L.dropLast o && L.dropLast.any xOp)=true then (H7 L.dropLast).map fun (p,al)=>(p,al,o) else none
 | none=>none
noncomputable def evC [Globs] (P:Program) [Ext P] (call:Ak) (ok:St->List Oper->Bool) (n:Nat):Code->St->Option (Ex × St)
 | .skip,st=>some (.normal,st)
 | .region _ ops draw,st=>if draw=true then (match Db ops.toList with
   | some (a,o)=>if ok st a=true then (match @evOs (gM (mdOf a)) P (@Bq (gM (mdOf a)) P _ call) a a st with|some st1=>(evOs P call [o] [o] st1).map fun st=>(.normal,st)|none=>none) else none
   | none=>match Gl ops.toList with
    | some (_,al,o)=>if ok st (openL ops.toList)=true then (match @evOs (gM (mdOf (openL ops.toList))) P (@Bq (gM (mdOf (openL ops.toList))) P _ call) (openL ops.toList) (openL ops.toList) st with|some st1=>(evOs P call [al,o] [al,o] st1).map fun st=>(.normal,st)|none=>none) else none
    | none=>if ok st ops.toList=true then (@evOs (gM (mdOf ops.toList)) P (@Bq (gM (mdOf ops.toList)) P _ call) ops.toList ops.toList st).map fun st=>(.normal,st) else none) else (evOs P call ops.toList ops.toList st).map fun st=>(.normal,st)
 | .seq a b,st=>match evC P call ok n a st with
  | some (.normal,st')=>evC P call ok n b st'
  | r=>r
 | .cond c a b,st=>match opv st.T c with
  | .prim (.bool t)=>if t=true then evC P call ok n a st else evC P call ok n b st
  | _=>none
 | .block id c,st=>match evC P call ok n c st with
  | some (.exit id',st')=>if id'=id then some (.normal,st') else some (.exit id',st')
  | r=>r
 | .loop c,st=>He (Kp c) (evC P call ok n c) n st
 | .exit id,st=>some (.exit id,st)
 | .ret,st=>some (.ret,st)
 | .scope c,st=>evC P call ok n c st
 | .label _,st=>some (.normal,st)
 | _,_=>none
def w3:AV->AV
 | .tup vs=>.tup (vs.map w2)
 | v=>w2 v
def pure3:AV->Bool
 | .tup vs=>vs.all pure2
 | v=>pure2 v
def fzB (o:Option (List AV)) (off len sz:Nat):AV :=
 match o with
 | some cs=>K3 (E8 sz len (cs.drop off))
 | none=>.bot
def fz1 (m:Nat) (S:List Ent):AV->AV
 | .sref id ep off len sz=>if m<=id then fzB (entAt S id ep) off len sz else .sref id ep off len sz
 | v=>v
def fz2 (m:Nat) (S:List Ent):AV->AV
 | .agg cs=>.agg (cs.map (fz1 m S))
 | v=>fz1 m S v
def fz3 (m:Nat) (S:List Ent):AV->AV
 | .tup vs=>.tup (vs.map (fz2 m S))
 | v=>fz2 m S v
def resA1 (P:Program) (st:St):ResultVar->Option AV
 | .tmp t=>some (getT st.T t)
 | .cell a t=>ldA P t (getT st.T a) st.S
def oneOf:List AV->AV
 | [v]=>v
 | vs=>.tup vs
def resA (P:Program) (rs:List ResultVar) (st:St):Option AV:=(mapO (resA1 P st) rs).map oneOf
def outA (P:Program) (fn:Func):Option (Ex × St)->Option (AV × St)
 | some (.normal,st)=>(resA P fn.results.toList st).map fun r=>(r,st)
 | some (.ret,st)=>(resA P fn.results.toList st).map fun r=>(r,st)
 | _=>none
noncomputable def runP [Globs] (P:Program) [Ext P] (ok:St->List Oper->Bool) (call:Ak) (k:Nat) (fn:Func) (c:Code) (args:List AV):Option AV :=
 match outA P fn (evC P call ok k c ⟨args++List.replicate (fn.ntmps - args.length) .bot,[],[],0⟩) with
 | some (r,st)=>if pure3 (w3 (fz3 0 st.S r))=true then some (w3 (fz3 0 st.S r)) else none
 | none=>none
def runN (run:List AV->Option AV):List AV->Option AV
 | .frz [] .unk :: l=>match run (.frz [] .nl :: l),run (.frz [] .nn :: l) with
  | some (.frz [] .unk),some (.frz [] .unk)=>some (.frz [] .unk)
  | _,_=>none
 | l=>run l
def D7:Code->Bool
 | .region _ ops _=>ops.toList.any fun o=>match o.op with|.binOp _ _ _ (.const (.slice none 0 0)) _=>true|_=>false
 | .seq a b=>D7 a || D7 b
 | .cond _ a b=>D7 a || D7 b
 | .block _ c=>D7 c
 | .loop c=>D7 c
 | .scope c=>D7 c
 | _=>false
noncomputable def evF [Globs] (P:Program) [Ext P] (ok:St->List Oper->Bool):Nat->Ak
 | 0=>fun _ _ _ _ _=>none
 | k+1=>fun f args S tk n=>if Ext.on P f=true then Ext.call P f args S tk n else match P.funcs[f]? with
  | some fn=>match fn.body with
   | some c => if fn.name = "runtime.NumGoroutine" then none else
    if Ext.mv P f=true then
     match outA P fn (evC P (evF P ok k) ok k c ⟨args++List.replicate (fn.ntmps - args.length) .bot,S,tk,n⟩) with
     | some (r,st)=>some (r,st.S,st.tk,st.n)
     | none=>none
    else if (args.map w2).all pure2=true then
     match (if D7 c=true then runN (runP P ok (evF P ok k) k fn c) (args.map w2) else runP P ok (evF P ok k) k fn c (args.map w2)) with
     | some r=>some (r,S,tk,n)
     | none=>none
    else
     match outA P fn (evC P (evF P ok k) ok k c ⟨args++List.replicate (fn.ntmps - args.length) .bot,S,tk,n⟩) with
     | some (r,st)=>some (fz3 S.length st.S r,st.S.take S.length,st.tk,st.n)
     | none=>none
   | none=>none
  | none=>none
end
section
structure Cx where
 w:World
 av:Nat->Nat->Prop
 φ:Nat->Nat
 ψ:Nat->Nat × Nat × Nat
 S:List Ent
 tk:List Nat
 n:Nat
def Cx.Mut (C:Cx) (b o:Nat):Prop:=(∃ id,id<C.S.length/\C.φ id=b)\/(∃ id,id<C.tk.length/\(C.ψ id).1=b/\(C.ψ id).2.1<=o/\o<(C.ψ id).2.2)
def Cx.Avoid (C:Cx) (b o:Nat):Prop:=C.av b o\/C.Mut b o
section
variable (w:World) (A:Nat->Nat->Prop)
def Lie (b:Nat):Nat->List Value->Prop
 | _,[]=>True
 | o,v :: vs=>w.cell? ⟨b,o,none⟩=some v/\¬ A b o/\Lie b (o+1) vs
mutual
def PR:AV->Value->Prop
 | .prim v,x=>x=v/\v.oneCell'=true
 | .frz es .unk,x=>∃ a len cap,x=.slice a len cap/\es.length=len/\len<=cap/\(es=[]\/∃ b o sz,a=some ⟨b,o,none⟩/\Ap b sz o es)
 | .fptr cs,x=>∃ b o vs,x=.pointer (some ⟨b,o,none⟩)/\Lie w A b o vs/\PRs cs vs
 | .fn f [],x=>x=.func (.func f) #[] #[]
 | _,_=>False
def PRs:List AV->List Value->Prop
 | [],[]=>True
 | c :: cs,v :: vs=>PR c v/\PRs cs vs
 | _,_=>False
def Ap (b sz:Nat):Nat->List (List AV)->Prop
 | _,[]=>True
 | o,e :: es=>e.length=sz/\(∃ vs,Lie w A b o vs/\PRs e vs)/\Ap b sz (o+sz) es
end
end
theorem Kg {w A} : ∀ {cs vs},PRs w A cs vs->cs.length=vs.length
 | [],[],_=>rfl
 | _ :: cs,_ :: vs,h=>by simp only [PRs] at h; simp [Kg h.2]
 | [],_ :: _,h=>by simp only [PRs] at h
 | _ :: _,[],h=>by simp only [PRs] at h
def Stays (w w':World) (A A':Nat->Nat->Prop):Prop:=∀ b o v,w.cell? ⟨b,o,none⟩=some v->¬ A b o->w'.cell? ⟨b,o,none⟩=some v/\¬ A' b o
theorem Lie.stays {w w' A A'} (h:Stays w w' A A') {b} : ∀ {vs o},Lie w A b o vs->Lie w' A' b o vs
 | [],_,_=>trivial
 | _ :: _,_,⟨h1,h2,h3⟩=>⟨(h _ _ _ h1 h2).1,(h _ _ _ h1 h2).2,Lie.stays h h3⟩
section
variable {w w':World} {A A':Nat->Nat->Prop}
mutual
theorem PR.stays (h:Stays w w' A A'):∀ (c:AV) (x:Value),PR w A c x->PR w' A' c x
 | .prim v,x,hx=>by simpa only [PR] using hx
 | .frz es .unk,x,hx=>by
  simp only [PR] at hx ⊢
  obtain ⟨a,len,cap,e,h1,h2,h3⟩:=hx
  refine ⟨a,len,cap,e,h1,h2,h3.imp id ?_⟩
  rintro ⟨b,o,sz,ea,hr⟩
  exact ⟨b,o,sz,ea,Ap.stays h b sz o es hr⟩
 | .frz _ .tight,x,hx=>by simp only [PR] at hx
 | .frz _ .nilc,x,hx=>by simp only [PR] at hx
 | .frz _ .nl,x,hx=>by simp only [PR] at hx
 | .frz _ .nn,x,hx=>by simp only [PR] at hx
 | .frz _ (.tok _ _ _),x,hx=>by simp only [PR] at hx
 | .fptr cs,x,hx=>by
  simp only [PR] at hx ⊢
  obtain ⟨b,o,vs,e,hl,hr⟩:=hx
  exact ⟨b,o,vs,e,hl.stays h,PRs.stays h cs vs hr⟩
 | .fn f [],x,hx=>by simpa only [PR] using hx
 | .fn f (_ :: _),x,hx=>by simp only [PR] at hx
 | .bfn _ _,x,hx=>by simp only [PR] at hx
 | .ifc _ _,x,hx=>by simp only [PR] at hx
 | .mfn _ _ _,x,hx=>by simp only [PR] at hx
 | .lit _ _,x,hx=>by simp only [PR] at hx
 | .bot,x,hx=>by simp only [PR] at hx
 | .agg _,x,hx=>by simp only [PR] at hx
 | .tup _,x,hx=>by simp only [PR] at hx
 | .ref _ _ _,x,hx=>by simp only [PR] at hx
 | .sref _ _ _ _ _,x,hx=>by simp only [PR] at hx
theorem PRs.stays (h:Stays w w' A A'):∀ (cs:List AV) (vs:List Value),PRs w A cs vs->PRs w' A' cs vs
 | [],[],_=>by simp only [PRs]
 | c :: cs,v :: vs,hx=>by simp only [PRs] at hx ⊢; exact ⟨PR.stays h c v hx.1,PRs.stays h cs vs hx.2⟩
 | [],_ :: _,hx=>by simp only [PRs] at hx
 | _ :: _,[],hx=>by simp only [PRs] at hx
theorem Ap.stays (h:Stays w w' A A') (b sz:Nat):∀ (o:Nat) (es:List (List AV)),Ap w A b sz o es->Ap w' A' b sz o es
 | _,[],_=>by simp only [Ap]
 | o,e :: es,hx=>by
  simp only [Ap] at hx ⊢
  obtain ⟨h1,⟨vs,hl,hr⟩,h3⟩:=hx
  exact ⟨h1,⟨vs,hl.stays h,PRs.stays h e vs hr⟩,Ap.stays h b sz (o+sz) es h3⟩
end
end
def CapR (C:Cx) (c:Cap) (a:Option Addr) (len cap:Nat):Prop :=
 match c with
 | .unk=>True
 | .tight=>cap=len
 | .nilc=>a=none/\cap=len
 | .nl=>a=none
 | .nn=>a.isSome=true
 | .tok id ep sz=>∃ k,nth C.tk id=some k/\ep<=k/\(ep=k->cap=len\/∃ b cs t,a=some ⟨b,0,none⟩/\C.ψ id=(b,len*sz,cap*sz)/\C.w.heap[b]?=some (.cells cs t (0,0))/\cap*sz<=cs.size)
mutual
def VR (C:Cx):AV->Value->Prop
 | .bot,_=>True
 | .prim v,x=>x=v
 | .frz es c,x=>∃ a len cap,x=.slice a len cap/\es.length=len/\len<=cap/\CapR C c a len cap/\(es=[]\/∃ b o sz,a=some ⟨b,o,none⟩/\Ap C.w C.Avoid b sz o es)
 | .fptr cs,x=>∃ b o vs,x=.pointer (some ⟨b,o,none⟩)/\Lie C.w C.Avoid b o vs/\PRs C.w C.Avoid cs vs
 | .agg cs,x=>∃ vs,x=.agg vs/\VRs C cs vs.toList
 | .tup cs,x=>∃ vs,x=.tuple vs/\VRs C cs vs.toList
 | .ref id ep off,x=>∃ b,x=.pointer (some ⟨b,off,none⟩)/\ep<C.n/\∀ e,nth C.S id=some e->e.ep=ep->b=C.φ id
 | .sref id ep off len sz,x=>∃ b a cap,x=.slice a len cap/\len<=cap/\(len=0\/a=some ⟨b,off,none⟩)/\ep<C.n/\∀ e,nth C.S id=some e->e.ep=ep->b=C.φ id/\∃ cs t,C.w.heap[b]?=some (.cells cs t (0,0))/\off+cap*sz<=cs.size
 | .fn f caps,x=>∃ vs,x=.func (.func f) #[] vs/\VRs C caps vs.toList
 | .bfn f first,x=>∃ vs,x=.func (.func f) vs #[]/\VRs C first vs.toList
 | .ifc t v,x=>∃ u,x=.iface t u/\VR C v u
 | .mfn t m v,x=>∃ u,x=.func (.method m) #[.iface t u] #[]/\VR C v u
 | .lit len cs,x=>∃ b vs,x=.slice (some ⟨b,0,none⟩) len len/\Lie C.w C.Avoid b 0 vs/\VRs C cs vs
def VRs (C:Cx):List AV->List Value->Prop
 | [],[]=>True
 | c :: cs,v :: vs=>VR C c v/\VRs C cs vs
 | _,_=>False
end
structure SR [Globs] (C:Cx):Prop where
 ent:∀ id e,nth C.S id=some e->e.ep<C.n/\∃ cs t,C.w.heap[C.φ id]?=some (.cells cs t (0,0))/\∃ vs r,cs.toList=vs++r/\VRs C e.cells vs
 ne:∀ i j,i<C.S.length->j<C.S.length->C.φ i=C.φ j->i=j
 tok:∀ i j o,i<C.tk.length->j<C.tk.length->(C.ψ i).1=(C.ψ j).1->(C.ψ i).2.1<=o->o<(C.ψ i).2.2->(C.ψ j).2.1<=o->o<(C.ψ j).2.2->i=j
 apart:∀ i j o,i<C.S.length->j<C.tk.length->C.φ i=(C.ψ j).1->(C.ψ j).2.1<=o->o<(C.ψ j).2.2->False
 own:∀ b o,C.Mut b o->¬ C.av b o
 avlt:∀ b o,C.av b o->b<C.w.heap.size
 tlt:∀ i o,i<C.tk.length->(C.ψ i).2.1<=o->o<(C.ψ i).2.2->(C.ψ i).1<C.w.heap.size
 glob:∀ g a,(g,a) ∈ Globs.gl->(∃ t fz,C.w.heap[g]?=some (.cells a t fz))/\∀ i,C.av g i
structure Le (C C':Cx):Prop where
 os:C'.w.os=C.w.os
 tape:C'.w.tape=C.w.tape
 output:C'.w.output=C.w.output
 size:C.w.heap.size<=C'.w.heap.size
 av:C'.av=C.av
 n:C.n<=C'.n
 mt:∀ b o,b<C.w.heap.size->C'.Mut b o->C.Mut b o
 cell:∀ b o v,C.w.cell? ⟨b,o,none⟩=some v->¬ C.Mut b o->C'.w.cell? ⟨b,o,none⟩=some v
 keep:∀ b,b<C.w.heap.size->(∀ o,¬ C.Mut b o)->C'.w.heap[b]?=C.w.heap[b]?
 shape:∀ (b:Nat) (cs:Array Value) (t:TypeId) (fz:Nat × Nat),C.w.heap[b]?=some (Obj.cells cs t fz)->∃ cs':Array Value,C'.w.heap[b]?=some (Obj.cells cs' t fz)/\cs'.size=cs.size
 ent:∀ id e',nth C'.S id=some e'->e'.ep<C.n->∃ e,nth C.S id=some e/\e.ep=e'.ep/\C'.φ id=C.φ id
 tok:∀ id k,nth C.tk id=some k->∃ k',nth C'.tk id=some k'/\k<=k'/\(k'=k->C'.ψ id=C.ψ id)
theorem Dg {w:World} {b o:Nat} {v:Value} (h:w.cell? ⟨b,o,none⟩=some v):b<w.heap.size:=by
 unfold World.cell? at h
 split at h
 ·rename_i hh; exact (Array.getElem?_eq_some_iff.1 hh).1
 ·cases h
theorem Le.stays {C C':Cx} (h:Le C C'):Stays C.w C'.w C.Avoid C'.Avoid:=fun b o v hv ha =>
 ⟨h.cell b o v hv fun m=>ha (.inr m),fun ha'=>ha (ha'.imp (fun x=>h.av ▸ x) (h.mt b o (Dg hv)))⟩
theorem Le.refl (C:Cx):Le C C:=⟨rfl,rfl,rfl,Nat.le_refl _,rfl,Nat.le_refl _,fun _ _ _ h=>h,fun _ _ _ h _=>h,fun _ _ _=>rfl,fun _ cs _ _ h=>⟨cs,h,rfl⟩,fun _ e' h _=>⟨e',h,rfl,rfl⟩,fun _ k h=>⟨k,h,Nat.le_refl _,fun _=>rfl⟩⟩
theorem Le.trans {a b c:Cx} (h:Le a b) (k:Le b c):Le a c:=by
 refine ⟨k.os.trans h.os,k.tape.trans h.tape,k.output.trans h.output,Nat.le_trans h.size k.size,k.av.trans h.av,Nat.le_trans h.n k.n,fun x o hx hm=>h.mt x o hx (k.mt x o (Nat.lt_of_lt_of_le hx h.size) hm),fun x o v hv hm=>?_,fun x hx hm=>?_,fun x cs t fz hx=>?_,fun id e' he hn=>?_,fun id q hq=>?_⟩
 ·exact k.cell x o v (h.cell x o v hv hm) fun bm=>hm (h.mt x o (Dg hv) bm)
 ·rw [k.keep x (Nat.lt_of_lt_of_le hx h.size) fun o bm=>hm o (h.mt x o hx bm),h.keep x hx hm]
 ·obtain ⟨c1,h1,h2⟩:=h.shape x cs t fz hx
  obtain ⟨c2,h3,h4⟩:=k.shape x c1 t fz h1
  exact ⟨c2,h3,h4.trans h2⟩
 ·obtain ⟨e1,h1,h2,h3⟩:=k.ent id e' he (Nat.lt_of_lt_of_le hn h.n)
  obtain ⟨e2,h4,h5,h6⟩:=h.ent id e1 h1 (by omega)
  exact ⟨e2,h4,by omega,by rw [h3,h6]⟩
 ·obtain ⟨q1,h1,h2,h3⟩:=h.tok id q hq
  obtain ⟨q2,h4,h5,h6⟩:=k.tok id q1 h1
  exact ⟨q2,h4,by omega,fun e=>by rw [h6 (by omega),h3 (by omega)]⟩
theorem Kl [Globs] {C C':Cx} (hs:SR C) (hle:Le C C'):∀ g a,(g,a) ∈ Globs.gl->(∃ t fz,C'.w.heap[g]?=some (.cells a t fz))/\∀ i,C'.av g i:=fun g a h=>by
 obtain ⟨⟨t,fz,h1⟩,h2⟩:=hs.glob g a h
 exact ⟨⟨t,fz,by rw [hle.keep g (Array.getElem?_eq_some_iff.1 h1).1 (fun i m=>hs.own g i m (h2 i))]; exact h1⟩,fun i=>by rw [hle.av]; exact h2 i⟩
theorem CapR.mono {C C':Cx} (h:Le C C') {c a len cap} (hc:CapR C c a len cap):CapR C' c a len cap:=by
 cases c with
 | unk=>trivial
 | tight=>exact hc
 | nilc=>exact hc
 | nl=>exact hc
 | nn=>exact hc
 | tok id ep sz =>
  obtain ⟨k,h1,h2,h3⟩:=hc
  obtain ⟨k',h4,h5,h6⟩:=h.tok id k h1
  refine ⟨k',h4,by omega,fun e=>?_⟩
  rcases h3 (by omega) with h7|⟨b,cs,t,ea,hp,hb,hl⟩
  ·exact .inl h7
  ·obtain ⟨cs',h8,h9⟩:=h.shape b cs t _ hb
   exact .inr ⟨b,cs',t,ea,by rw [h6 (by omega),hp],h8,by omega⟩
section
variable {C C':Cx}
mutual
theorem VR.mono (h:Le C C'):∀ (c:AV) (x:Value),VR C c x->VR C' c x
 | .bot,_,_=>by simp only [VR]
 | .prim _,_,hx=>by simpa only [VR] using hx
 | .frz es c,x,hx=>by
  simp only [VR] at hx ⊢
  obtain ⟨a,len,cap,e,h1,h2,h3,h4⟩:=hx
  refine ⟨a,len,cap,e,h1,h2,h3.mono h,h4.imp id ?_⟩
  rintro ⟨b,o,sz,ea,hr⟩
  exact ⟨b,o,sz,ea,Ap.stays h.stays b sz o es hr⟩
 | .fptr cs,x,hx=>by
  simp only [VR] at hx ⊢
  obtain ⟨b,o,vs,e,hl,hr⟩:=hx
  exact ⟨b,o,vs,e,hl.stays h.stays,PRs.stays h.stays cs vs hr⟩
 | .agg cs,x,hx=>by
  simp only [VR] at hx ⊢
  obtain ⟨vs,e,hr⟩:=hx
  exact ⟨vs,e,VRs.mono h cs vs.toList hr⟩
 | .tup cs,x,hx=>by
  simp only [VR] at hx ⊢
  obtain ⟨vs,e,hr⟩:=hx
  exact ⟨vs,e,VRs.mono h cs vs.toList hr⟩
 | .ref id ep off,x,hx=>by
  simp only [VR] at hx ⊢
  obtain ⟨b,h0,hn,hx⟩:=hx
  refine ⟨b,h0,Nat.lt_of_lt_of_le hn h.n,fun e' he de=>?_⟩
  obtain ⟨e,h1,h2,h3⟩:=h.ent id e' he (by omega)
  rw [h3]; exact hx e h1 (by omega)
 | .sref id ep off len sz,x,hx=>by
  simp only [VR] at hx ⊢
  obtain ⟨b,a,cap,h0,h0',h0'',hn,hx⟩:=hx
  refine ⟨b,a,cap,h0,h0',h0'',Nat.lt_of_lt_of_le hn h.n,fun e' he de=>?_⟩
  obtain ⟨e,h1,h2,h3⟩:=h.ent id e' he (by omega)
  obtain ⟨g1,cs,t,g2,g3⟩:=hx e h1 (by omega)
  obtain ⟨cs',g4,g5⟩:=h.shape b cs t _ g2
  exact ⟨by rw [h3]; exact g1,cs',t,g4,by omega⟩
 | .fn f caps,x,hx=>by
  simp only [VR] at hx ⊢
  obtain ⟨vs,e,hr⟩:=hx
  exact ⟨vs,e,VRs.mono h caps vs.toList hr⟩
 | .bfn f caps,x,hx=>by
  simp only [VR] at hx ⊢
  obtain ⟨vs,e,hr⟩:=hx
  exact ⟨vs,e,VRs.mono h caps vs.toList hr⟩
 | .ifc t v,x,hx=>by
  simp only [VR] at hx ⊢
  obtain ⟨u,e,hr⟩:=hx
  exact ⟨u,e,VR.mono h v u hr⟩
 | .mfn t m v,x,hx=>by
  simp only [VR] at hx ⊢
  obtain ⟨u,e,hr⟩:=hx
  exact ⟨u,e,VR.mono h v u hr⟩
 | .lit len cs,x,hx=>by
  simp only [VR] at hx ⊢
  obtain ⟨b,vs,e,hl,hr⟩:=hx
  exact ⟨b,vs,e,hl.stays h.stays,VRs.mono h cs vs hr⟩
theorem VRs.mono (h:Le C C'):∀ (cs:List AV) (vs:List Value),VRs C cs vs->VRs C' cs vs
 | [],[],_=>by simp only [VRs]
 | c :: cs,v :: vs,hx=>by simp only [VRs] at hx ⊢; exact ⟨VR.mono h c v hx.1,VRs.mono h cs vs hx.2⟩
 | [],_ :: _,hx=>by simp only [VRs] at hx
 | _ :: _,[],hx=>by simp only [VRs] at hx
end
end
theorem U5 {C:Cx} : ∀ {c x},PR C.w C.Avoid c x->VR C c x
 | .prim _,_,h=>by simp only [PR,VR] at h ⊢; exact h.1
 | .frz es .unk,_,h=>by
  simp only [PR,VR] at h ⊢
  obtain ⟨a,len,cap,e,h1,h2,h3⟩:=h
  exact ⟨a,len,cap,e,h1,h2,trivial,h3⟩
 | .frz _ .tight,_,h=>by simp only [PR] at h
 | .frz _ .nilc,_,h=>by simp only [PR] at h
 | .frz _ .nl,_,h=>by simp only [PR] at h
 | .frz _ .nn,_,h=>by simp only [PR] at h
 | .frz _ (.tok _ _ _),_,h=>by simp only [PR] at h
 | .fptr _,_,h=>by simpa only [PR,VR] using h
 | .fn f [],_,h=>by
  simp only [PR,VR] at h ⊢
  exact ⟨#[],h,by simp only [VRs]⟩
 | .fn _ (_ :: _),_,h=>by simp only [PR] at h
 | .bfn _ _,_,h=>by simp only [PR] at h
 | .ifc _ _,_,h=>by simp only [PR] at h
 | .mfn _ _ _,_,h=>by simp only [PR] at h
 | .lit _ _,_,h=>by simp only [PR] at h
 | .bot,_,h=>by simp only [PR] at h
 | .agg _,_,h=>by simp only [PR] at h
 | .tup _,_,h=>by simp only [PR] at h
 | .ref _ _ _,_,h=>by simp only [PR] at h
 | .sref _ _ _ _ _,_,h=>by simp only [PR] at h
theorem U1 {C:Cx} {c x} (hp:pure1 c=true) (h:VR C c x):PR C.w C.Avoid c x:=by
 cases c with
 | prim v=>simp only [PR,VR] at h ⊢; exact ⟨h,hp⟩
 | frz es c =>
  cases c <;> simp [pure1] at hp
  simp only [PR,VR] at h ⊢
  obtain ⟨a,len,cap,e,h1,h2,-,h3⟩:=h
  exact ⟨a,len,cap,e,h1,h2,h3⟩
 | fptr cs=>simpa only [PR,VR] using h
 | fn f caps =>
  cases caps with
  | nil =>
   simp only [PR,VR] at h ⊢
   obtain ⟨vs,e,hr⟩:=h
   obtain ⟨l⟩:=vs
   cases l with
   | nil=>exact e
   | cons _ _=>simp only [VRs] at hr
  | cons _ _=>simp [pure1] at hp
 | _=>simp [pure1] at hp
theorem Ey {C:Cx} : ∀ {cs vs},PRs C.w C.Avoid cs vs->VRs C cs vs
 | [],[],_=>by simp only [VRs]
 | c :: cs,v :: vs,h=>by simp only [PRs,VRs] at h ⊢; exact ⟨U5 h.1,Ey h.2⟩
 | [],_ :: _,h=>by simp only [PRs] at h
 | _ :: _,[],h=>by simp only [PRs] at h
theorem Ew {C:Cx} : ∀ {cs vs},cs.all pure1=true->VRs C cs vs->PRs C.w C.Avoid cs vs
 | [],[],_,_=>by simp only [PRs]
 | c :: cs,v :: vs,hp,h=>by
  simp only [List.all_cons,Bool.and_eq_true] at hp
  simp only [PRs,VRs] at h ⊢
  exact ⟨U1 hp.1 h.1,Ew hp.2 h.2⟩
 | [],_ :: _,_,h=>by simp only [VRs] at h
 | _ :: _,[],_,h=>by simp only [VRs] at h
theorem Ah {C:Cx} : ∀ {cs vs},VRs C cs vs->cs.length=vs.length
 | [],[],_=>rfl
 | _ :: cs,_ :: vs,h=>by simp only [VRs] at h; simp [Ah h.2]
 | [],_ :: _,h=>by simp only [VRs] at h
 | _ :: _,[],h=>by simp only [VRs] at h
theorem Afy {C:Cx} {c x} (h:VR C c x):VR C (w1 c) x:=by
 cases c with
 | frz es c =>
  simp only [w1,VR] at h ⊢
  obtain ⟨a,len,cap,e,h1,h2,-,h3⟩:=h
  exact ⟨a,len,cap,e,h1,h2,trivial,h3⟩
 | _=>simpa only [w1] using h
theorem Nm {C:Cx} : ∀ {cs vs},VRs C cs vs->VRs C (cs.map w1) vs
 | [],[],_=>by simp only [VRs,List.map_nil]
 | c :: cs,v :: vs,h=>by simp only [VRs,List.map_cons] at h ⊢; exact ⟨Afy h.1,Nm h.2⟩
 | [],_ :: _,h=>by simp only [VRs] at h
 | _ :: _,[],h=>by simp only [VRs] at h
theorem Aeb {C:Cx} {c x} (h:VR C c x):VR C (w2 c) x:=by
 cases c with
 | agg cs =>
  simp only [w2,VR] at h ⊢
  obtain ⟨vs,e,hr⟩:=h
  exact ⟨vs,e,Nm hr⟩
 | _=>exact Afy h
theorem U9 {C:Cx} : ∀ {cs vs},VRs C cs vs->VRs C (cs.map w2) vs
 | [],[],_=>by simp only [VRs,List.map_nil]
 | c :: cs,v :: vs,h=>by simp only [VRs,List.map_cons] at h ⊢; exact ⟨Aeb h.1,U9 h.2⟩
 | [],_ :: _,h=>by simp only [VRs] at h
 | _ :: _,[],h=>by simp only [VRs] at h
theorem Nl {C:Cx} : ∀ {cs vs} {i:Nat} {c:AV},VRs C cs vs->nth cs i=some c->∃ v,vs[i]?=some v/\VR C c v
 | c :: cs,v :: vs,0,_,h,e=>by simp only [VRs] at h; simp only [nth,Option.some.injEq] at e; subst e; exact ⟨v,rfl,h.1⟩
 | c :: cs,v :: vs,i+1,_,h,e=>by simp only [VRs] at h; simp only [nth] at e; obtain ⟨x,h1,h2⟩:=Nl h.2 e; exact ⟨x,by simpa using h1,h2⟩
 | [],_,_,_,_,e=>by simp [nth] at e
 | _ :: _,[],_,_,h,_=>by simp only [VRs] at h
theorem Dw {C:Cx} : ∀ {cs vs ds us},VRs C cs vs->VRs C ds us->VRs C (cs++ds) (vs++us)
 | [],[],_,_,_,h=>h
 | _ :: _,_ :: _,_,_,h,h'=>by simp only [VRs,List.cons_append] at h ⊢; exact ⟨h.1,Dw h.2 h'⟩
 | [],_ :: _,_,_,h,_=>by simp only [VRs] at h
 | _ :: _,[],_,_,h,_=>by simp only [VRs] at h
theorem Hm {C:Cx} : ∀ {cs vs} (n:Nat),VRs C cs vs->VRs C (cs.drop n) (vs.drop n)
 | [],[],n,_=>by simp only [List.drop_nil,VRs]
 | cs,vs,0,h=>h
 | _ :: cs,_ :: vs,n+1,h=>by simp only [VRs] at h; exact Hm n h.2
 | [],_ :: _,_+1,h=>by simp only [VRs] at h
 | _ :: _,[],_+1,h=>by simp only [VRs] at h
theorem Gg {C:Cx} : ∀ {n cs vs ds},VRs C cs vs->takeN n cs=some ds->VRs C ds (vs.take n)/\n<=vs.length
 | 0,_,_,_,_,e=>by simp only [takeN,Option.some.injEq] at e; subst e; simp [VRs]
 | n+1,c :: cs,v :: vs,_,h,e=>by
  simp only [takeN,Option.map_eq_some_iff] at e
  obtain ⟨ds,h1,rfl⟩:=e
  simp only [VRs] at h
  obtain ⟨h2,h3⟩:=Gg h.2 h1
  exact ⟨by simp only [List.take_succ_cons,VRs]; exact ⟨h.1,h2⟩,by simpa using h3⟩
 | n+1,[],_,_,_,e=>by simp [takeN] at e
 | n+1,_ :: _,[],_,h,_=>by simp only [VRs] at h
structure Rel [Globs] (C:Cx) (st:St) (a:Act):Prop where
 S:C.S=st.S
 tk:C.tk=st.tk
 n:C.n=st.n
 tmps:VRs C st.T a.tmps.toList
 defers:a.defers=[]
 sr:SR C
theorem Yi {C:Cx} (v:Value):VR C (cst1 v) v:=by
 unfold cst1
 split <;> simp only [VR]
 exact ⟨none,0,0,rfl,rfl,Nat.le_refl _,⟨rfl,rfl⟩,.inl trivial⟩
theorem Ep {C:Cx} : ∀ vs:List Value,VRs C (vs.map cst1) vs
 | []=>by simp only [List.map_nil,VRs]
 | v :: vs=>by simp only [List.map_cons,VRs]; exact ⟨Yi v,Ep vs⟩
theorem Afx {C:Cx} (v:Value):VR C (cst v) v:=by
 unfold cst
 split
 ·rename_i cs; simp only [VR]; exact ⟨cs,rfl,Ep _⟩
 ·exact Yi v
theorem Zi {T:List AV} {t:Nat} (h:t<T.length):nth T t=some (getT T t):=by
 induction T generalizing t with
 | nil=>simp at h
 | cons x T ih=>cases t with
  | zero=>rfl
  | succ t=>exact ih (by simpa using h)
theorem Jr {T:List AV} {t:Nat} (h:T.length<=t):getT T t=.bot:=by
 induction T generalizing t with
 | nil=>rfl
 | cons x T ih=>cases t with
  | zero=>simp at h
  | succ t=>exact ih (by simpa using h)
theorem U6 {C:Cx} {T:List AV} {a:Act} (h:VRs C T a.tmps.toList) (x:Operand):VR C (opv T x) (a.eval x):=by
 cases x with
 | tmp t =>
  simp only [opv,Act.eval]
  by_cases ht:t<T.length
  ·obtain ⟨v,h1,h2⟩:=Nl h (Zi ht)
   have:a.tmps.getD t undef=v:=by
    rw [Array.getD_eq_getD_getElem?,<- Array.getElem?_toList,h1]; rfl
   rw [this]; exact h2
  ·rw [Jr (Nat.le_of_not_lt ht)]; simp only [VR]
 | const v=>exact Afx v
 | global g=>simp only [opv,VR]
 | func f=>simp only [opv,Act.eval,VR]; exact ⟨#[],rfl,by simp only [VRs]⟩
theorem G6 {C:Cx} {T:List AV} {a:Act} (h:VRs C T a.tmps.toList):∀ l:List Operand,VRs C (l.map (opv T)) (l.map a.eval)
 | []=>by simp only [List.map_nil,VRs]
 | x :: l=>by simp only [List.map_cons,VRs]; exact ⟨U6 h x,G6 h l⟩
theorem Tu {C:Cx} : ∀ {T vs} (d:Nat) {c v},VRs C T vs->VR C c v->VRs C (put T d c) (vs.set d v)
 | [],[],_,_,_,_,_=>by simp only [put,List.set_nil,VRs]
 | _ :: _,_ :: _,0,_,_,h,hv=>by simp only [VRs,put,List.set_cons_zero] at h ⊢; exact ⟨hv,h.2⟩
 | _ :: _,_ :: _,d+1,_,_,h,hv=>by simp only [VRs,put,List.set_cons_succ] at h ⊢; exact ⟨h.1,Tu d h.2 hv⟩
 | [],_ :: _,_,_,_,h,_=>by simp only [VRs] at h
 | _ :: _,[],_,_,_,h,_=>by simp only [VRs] at h
theorem Po {C:Cx} {T:List AV} {a:Act} {d:Option Tmp} {c v} (h:VRs C T a.tmps.toList) (hv:VR C c v):VRs C (putT T d c) (a.put d v).tmps.toList:=by
 cases d with
 | none=>exact h
 | some d=>simp only [putT,Act.put,Array.toList_setIfInBounds]; exact Tu d h hv
end
end Go.Proofs.YthelkgdmgihhiaaGreatDoor
