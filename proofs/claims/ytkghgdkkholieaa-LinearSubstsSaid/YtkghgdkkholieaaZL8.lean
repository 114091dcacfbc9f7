/-
  Texts laid together: EvSim, EvMore.
-/
import Derived.Test.YtkghgdkkholieaaZL7
/-
  The evaluator's equations in the form in which simp uses them: one for each kind of operation; simp looks at nothing but what is to be decided next.
-/

namespace Go.Proofs.Ytkghgdkkholieaa

section
variable {P : Program} {fn : Func} {M : Bool} {call : CallA} {all l : List Oper} {d : Option Tmp} {ty : TypeId} {pos : String} {af : Array Edge} {T : List AV} {S : List Ent} {tk : List Nat} {n : Nat} {k : List Kont}
/-- go on with a value -/
def nx {β : Type} (x : Option AV) (f : AV → Option β) : Option β := match x with | some v => f v | none => none
theorem nx_congr {β : Type} {x x' : Option AV} {f : AV → Option β} (h : x = x') : nx x f = nx x' f := by rw [h]
theorem nx_some {β : Type} {v : AV} {f : AV → Option β} : nx (some v) f = f v := rfl
def ns {α β : Type} (x : Option α) (f : α → Option β) : Option β := match x with | some v => f v | none => none
theorem ns_congr {α β : Type} {x x' : Option α} {f : α → Option β} (h : x = x') : ns x f = ns x' f := by rw [h]
theorem ns_some {α β : Type} {v : α} {f : α → Option β} : ns (some v) f = f v := rfl
theorem RK_congr [Globs] [Ext P] {c : Code} {st st' : St} (h : st = st') : RK P fn c st k = RK P fn c st' k := by rw [h]
theorem RO_congr [Globs] [Ext P] {st st' : St} (h : st = st') : RO P fn M call all l st k = RO P fn M call all l st' k := by rw [h]
theorem cont_congr [Globs] [Ext P] {e : Ex} {st st' : St} (h : st = st') : cont P fn e st k = cont P fn e st' k := by rw [h]

def wantG (all : List Oper) (T : List AV) (g : Nat) (w : Bool) : Option Bool :=
  match (nth all g).bind (·.dst) with
  | none => none
  | some d => match getT T d with
    | .prim (.bool b) => some (b == w)
    | .prim (.tuple _) => some false
    | _ => none
def wantD (T : List AV) (d : Option Tmp) (w : Bool) : Option Bool :=
  match d with
  | none => none
  | some d => match getT T d with
    | .prim (.bool b) => some (b == w)
    | .prim (.tuple _) => some false
    | _ => none
def dstAt (all : List Oper) (g : Nat) : Option Tmp := (nth all g).bind (·.dst)
theorem dstAt_congr {g g' : Nat} (h : g = g') : dstAt all g = dstAt all g' := by rw [h]
theorem dstAt_zero {o : Oper} : dstAt (o :: l) 0 = o.dst := rfl
theorem dstAt_succ {o : Oper} {g : Nat} : dstAt (o :: l) (g + 1) = dstAt l g := rfl
def wantV (v : AV) (w : Bool) : Option Bool := match v with | .prim (.bool b) => some (b == w) | .prim (.tuple _) => some false | _ => none
theorem wantV_bool {b w : Bool} : wantV (.prim (.bool b)) w = some (b == w) := rfl
theorem wantV_undef {w : Bool} : wantV (.prim undef) w = some false := rfl
theorem wantD_some {t : Tmp} {w : Bool} : wantD T (some t) w = wantV (getT T t) w := rfl
theorem RO_guard [Globs] [Ext P] {op : Op} {g : Nat} {w : Bool} : RO P fn M call all (⟨d, op, ty, pos, af, some (g, w)⟩ :: l) ⟨T, S, tk, n⟩ k =
    br (wantD T (dstAt all g) w) (RO P fn M call all (⟨d, op, ty, pos, af, none⟩ :: l) ⟨T, S, tk, n⟩ k) (RO P fn M call all l ⟨putT T d (.prim undef), S, tk, n⟩ k) := by
  rw [RO_cons, RO_cons]
  have e : wantA all T ⟨d, op, ty, pos, af, some (g, w)⟩ = wantD T (dstAt all g) w := by
    unfold wantA wantD dstAt
    simp only
    cases (nth all g).bind (·.dst) <;> rfl
  rw [e]
  rfl
theorem RO_plain [Globs] [Ext P] {op : Op} : RO P fn M call all (⟨d, op, ty, pos, af, none⟩ :: l) ⟨T, S, tk, n⟩ k =
    match @evO (gM M) P call ⟨d, op, ty, pos, af, none⟩ ⟨T, S, tk, n⟩ with | some (v, st') => RO P fn M call all l { st' with T := putT st'.T d v } k | none => none := by
  rw [RO_cons]; rfl
theorem RO_quiet [Globs] [Ext P] {op : Op} {x : Option AV} (h : @evO (gM M) P call ⟨d, op, ty, pos, af, none⟩ ⟨T, S, tk, n⟩ = x.map fun v => (v, ⟨T, S, tk, n⟩)) :
    RO P fn M call all (⟨d, op, ty, pos, af, none⟩ :: l) ⟨T, S, tk, n⟩ k = nx x fun v => RO P fn M call all l ⟨putT T d v, S, tk, n⟩ k := by
  rw [RO_plain, h]; cases x <;> rfl
theorem RO_move [Globs] [Ext P] {x : Operand} : RO P fn M call all (⟨d, .move x, ty, pos, af, none⟩ :: l) ⟨T, S, tk, n⟩ k = RO P fn M call all l ⟨putT T d (opv T x), S, tk, n⟩ k := by rw [RO_plain]; rfl
theorem RO_assign [Globs] [Ext P] {x : Operand} : RO P fn M call all (⟨d, .assign x, ty, pos, af, none⟩ :: l) ⟨T, S, tk, n⟩ k = RO P fn M call all l ⟨putT T d (opv T x), S, tk, n⟩ k := by rw [RO_plain]; rfl
/-- one of two values -/
def pickA (c a b : AV) : Option AV := match c with | .prim (.bool t) => some (if t then a else b) | _ => none
theorem pickA_true {a b : AV} : pickA (.prim (.bool true)) a b = some a := rfl
theorem pickA_false {a b : AV} : pickA (.prim (.bool false)) a b = some b := rfl
theorem pickA_bool {t x y : Bool} : pickA (.prim (.bool t)) (.prim (.bool x)) (.prim (.bool y)) = some (.prim (.bool (bif t then x else y))) := by cases t <;> rfl
theorem RO_pick [Globs] [Ext P] {c a b : Operand} : RO P fn M call all (⟨d, .pick c a b, ty, pos, af, none⟩ :: l) ⟨T, S, tk, n⟩ k = nx (pickA (opv T c) (opv T a) (opv T b)) fun v => RO P fn M call all l ⟨putT T d v, S, tk, n⟩ k := RO_quiet rfl
theorem RO_bin [Globs] [Ext P] {b : BinOp} {t u : TypeId} {x y : Operand} : RO P fn M call all (⟨d, .binOp b t x y u, ty, pos, af, none⟩ :: l) ⟨T, S, tk, n⟩ k = nx (aBin P b t (opv T x) (opv T y)) fun v => RO P fn M call all l ⟨putT T d v, S, tk, n⟩ k := RO_quiet rfl
theorem RO_un [Globs] [Ext P] {u : UnOp} {t : TypeId} {x : Operand} : RO P fn M call all (⟨d, .unOp u t x, ty, pos, af, none⟩ :: l) ⟨T, S, tk, n⟩ k = nx (aUn u (opv T x)) fun v => RO P fn M call all l ⟨putT T d v, S, tk, n⟩ k := RO_quiet rfl
theorem RO_conv [Globs] [Ext P] {s t : TypeId} {x : Operand} : RO P fn M call all (⟨d, .convert s t x, ty, pos, af, none⟩ :: l) ⟨T, S, tk, n⟩ k = nx (cvA P s t (opv T x)) fun v => RO P fn M call all l ⟨putT T d v, S, tk, n⟩ k := RO_quiet rfl
def extA (v : AV) (i : Nat) : Option AV := match v with | .tup vs => nth vs i | _ => none
theorem extA_tup {vs : List AV} {i : Nat} : extA (.tup vs) i = nth vs i := rfl
theorem RO_extract [Globs] [Ext P] {x : Operand} {i : Nat} : RO P fn M call all (⟨d, .extract x i, ty, pos, af, none⟩ :: l) ⟨T, S, tk, n⟩ k = nx (extA (opv T x) i) fun v => RO P fn M call all l ⟨putT T d v, S, tk, n⟩ k := RO_quiet rfl
def fldV (f : Option (Nat × Nat × Bool)) (x : AV) : Option AV := match f, x with | some (off, sz, b), .agg cs => partA b sz (cs.drop off) | _, _ => none
theorem fldV_agg {off sz : Nat} {b : Bool} {cs : List AV} : fldV (some (off, sz, b)) (.agg cs) = partA b sz (cs.drop off) := rfl
theorem RO_field [Globs] [Ext P] {t : TypeId} {x : Operand} {i : Nat} : RO P fn M call all (⟨d, .field t x i, ty, pos, af, none⟩ :: l) ⟨T, S, tk, n⟩ k = nx (fldV (fieldOf P t i) (opv T x)) fun v => RO P fn M call all l ⟨putT T d v, S, tk, n⟩ k := RO_quiet (by
  simp only [evO, evQ, fldV]
  rfl)
theorem RO_indexAddr [Globs] [Ext P] {t : TypeId} {x i : Operand} : RO P fn M call all (⟨d, .indexAddr t x i, ty, pos, af, none⟩ :: l) ⟨T, S, tk, n⟩ k = nx (idxA P t (opv T x) (opv T i)) fun v => RO P fn M call all l ⟨putT T d v, S, tk, n⟩ k := RO_quiet rfl
theorem RO_fieldAddr [Globs] [Ext P] {t : TypeId} {x : Operand} {i : Nat} : RO P fn M call all (⟨d, .fieldAddr t x i, ty, pos, af, none⟩ :: l) ⟨T, S, tk, n⟩ k = nx (fldA P t (opv T x) i) fun v => RO P fn M call all l ⟨putT T d v, S, tk, n⟩ k := RO_quiet rfl
def strIdx (ok : Bool) (x : AV) (i : Option Nat) : Option AV := match x, i with | .prim (.string s), some k => if ok then (s[k]?).map fun b => .prim (.int .u8 b.toNat) else none | _, _ => none
theorem RO_index [Globs] [Ext P] {t : TypeId} {x i : Operand} : RO P fn M call all (⟨d, .index t x i, ty, pos, af, none⟩ :: l) ⟨T, S, tk, n⟩ k = nx (strIdx (isStr P t) (opv T x) (intN (opv T i))) fun v => RO P fn M call all l ⟨putT T d v, S, tk, n⟩ k := RO_quiet (by
  simp only [evO, evQ, strIdx]
  rfl)
def bldA (z : Option (List AV)) (pl : Option (List (Nat × Nat))) (ps : List (Nat × AV)) : Option AV := match z, pl with | some z, some pl => (fillA pl z ps).map .agg | _, _ => none
theorem bldA_some {z : List AV} {pl : List (Nat × Nat)} {ps : List (Nat × AV)} : bldA (some z) (some pl) ps = (fillA pl z ps).map .agg := rfl
theorem RO_build [Globs] [Ext P] {t : TypeId} {ps : Array (Nat × Operand)} : RO P fn M call all (⟨d, .build t ps, ty, pos, af, none⟩ :: l) ⟨T, S, tk, n⟩ k = nx (bldA (zeroOf P t) (fieldsOf P t) (ps.toList.map fun (i, x) => (i, opv T x))) fun v => RO P fn M call all l ⟨putT T d v, S, tk, n⟩ k := RO_quiet (by
  simp only [evO, evQ, bldA]
  rfl)
def litA (sz : Option Nat) (z : Option (List AV)) (len : Nat) (ps : List (Nat × AV)) : Option AV := match sz, z with
  | some (sz + 1), some z => if z.length = sz + 1 ∧ z.all (fun c => pure1 (w1 c)) = true ∧ len * (sz + 1) ≤ 4096 then (elemsA (sz + 1) (List.replicate len (z.map w1)) ps).map fun es => .frz es .tight else none
  | _, _ => none
def reps {α : Type} (x : α) : Nat → List α | 0 => [] | n + 1 => x :: reps x n
theorem reps_eq {α : Type} (x : α) : ∀ n, List.replicate n x = reps x n | 0 => rfl | n + 1 => by rw [List.replicate_succ, reps_eq x n]; rfl
theorem litA_some {sz : Nat} {z : List AV} {len : Nat} {ps : List (Nat × AV)} : litA (some (sz + 1)) (some z) len ps = if z.length = sz + 1 ∧ z.all (fun c => pure1 (w1 c)) = true ∧ len * (sz + 1) ≤ 4096 then (elemsA (sz + 1) (reps (z.map w1) len) ps).map fun es => .frz es .tight else none := by
  rw [← reps_eq]; rfl
theorem RO_buildSlice [Globs] [Ext P] {t : TypeId} {len : Nat} {ps : Array (Nat × Operand)} : RO P fn M call all (⟨d, .buildSlice t len ps, ty, pos, af, none⟩ :: l) ⟨T, S, tk, n⟩ k =
    nx (litA ((elemOf P t).bind (szOf P)) ((elemOf P t).bind (zeroOf P)) len (ps.toList.map fun (i, x) => (i, opv T x))) fun v => RO P fn M call all l ⟨putT T d v, S, tk, n⟩ k := RO_quiet (by
  simp only [evO, evQ]
  congr 1
  cases he : elemOf P t with
  | none => rfl
  | some e =>
    simp only [Option.bind_some]
    unfold litA
    cases szOf P e with
    | none => rfl
    | some s => cases s <;> cases zeroOf P e <;> rfl)
theorem RO_slice [Globs] [Ext P] {t : TypeId} {x : Operand} {lo hi mx : Option Operand} : RO P fn M call all (⟨d, .slice t x lo hi mx, ty, pos, af, none⟩ :: l) ⟨T, S, tk, n⟩ k = nx (sliceA P t (opv T x) (lo.map (opv T)) (hi.map (opv T)) (mx.map (opv T))) fun v => RO P fn M call all l ⟨putT T d v, S, tk, n⟩ k := RO_quiet rfl
theorem RO_makeFunc [Globs] [Ext P] {f : FuncId} {caps : Array Operand} : RO P fn M call all (⟨d, .makeFunc (.func f) #[] caps, ty, pos, af, none⟩ :: l) ⟨T, S, tk, n⟩ k =
    nx (if ((caps.toList.map (opv T)).all capsOk) = true then some (.fn f (caps.toList.map (opv T))) else none) fun v => RO P fn M call all l ⟨putT T d v, S, tk, n⟩ k := RO_quiet (by
  simp only [evO, evQ, List.all_map]
  have : (caps.toList.all fun x => capsOk (opv T x)) = caps.toList.all (capsOk ∘ opv T) := rfl
  rw [this]
  by_cases hc : caps = #[]
  · subst hc; simp
  · have hc' : caps.isEmpty = false := by simpa using hc
    simp [hc'])
/-- a method bound to a value -/
theorem RO_makeBound [Globs] [Ext P] {f : FuncId} {x : Operand} : RO P fn M call all (⟨d, .makeFunc (.func f) #[x] #[], ty, pos, af, none⟩ :: l) ⟨T, S, tk, n⟩ k =
    RO P fn M call all l ⟨putT T d (.bfn f [opv T x]), S, tk, n⟩ k := by
  rw [RO_plain]
  simp [evO, evQ]
theorem RO_load [Globs] [Ext P] {t : TypeId} {a : Operand} : RO P fn M call all (⟨d, .load t a, ty, pos, af, none⟩ :: l) ⟨T, S, tk, n⟩ k = nx (ldA P t (opv T a) S) fun v => RO P fn M call all l ⟨putT T d v, S, tk, n⟩ k := RO_quiet rfl
theorem RO_store [Globs] [Ext P] {t : TypeId} {a x : Operand} : RO P fn M call all (⟨none, .store t a x, ty, pos, af, none⟩ :: l) ⟨T, S, tk, n⟩ k = ns (stA P t (opv T a) (opv T x) S) fun S' => RO P fn M call all l ⟨T, S', tk, n⟩ k := by
  rw [RO_plain]
  simp only [evO]
  cases stA P t (opv T a) (opv T x) S <;> rfl
theorem RO_alloc [Globs] [Ext P] {t : TypeId} : RO P fn M call all (⟨d, .alloc t, ty, pos, af, none⟩ :: l) ⟨T, S, tk, n⟩ k = ns (zeroOf P t) fun cs => RO P fn M call all l ⟨putT T d (.ref S.length n 0), S ++ [⟨n, cs⟩], tk, n + 1⟩ k := by
  rw [RO_plain]
  simp only [evO]
  cases zeroOf P t <;> rfl
theorem RO_box [Globs] [Ext P] {t : TypeId} {x : Operand} : RO P fn M call all (⟨d, .box t x, ty, pos, af, none⟩ :: l) ⟨T, S, tk, n⟩ k = ns (cellsOf (opv T x)) fun cs => RO P fn M call all l ⟨putT T d (.ref S.length n 0), S ++ [⟨n, cs⟩], tk, n + 1⟩ k := by
  rw [RO_plain]
  simp only [evO]
  cases cellsOf (opv T x) <;> rfl
/-- append in a region that makes variables: of no slice of one's own -/
def apM [Globs] (M : Bool) (P : Program) (t : TypeId) (x y : AV) (tk : List Nat) (S : List Ent) : Option (AV × List Nat) := @apB1 (gM M) P t x y tk S
theorem apM_false [Globs] {t : TypeId} {x y : AV} : apM false P t x y tk S = apB1 P t x y tk S := rfl
theorem apM_true [Globs] {t : TypeId} {x y : AV} : apM true P t x y tk S = apA P t x y tk := by simp [apM, apB1]
theorem RO_append [Globs] [Ext P] {x y : Operand} {t : TypeId} : RO P fn M call all (⟨d, .call ⟨.builtin .append, #[x, y], #[t, t]⟩, ty, pos, af, none⟩ :: l) ⟨T, S, tk, n⟩ k = ns (apM M P t (opv T x) (opv T y) tk S) fun (v, tk') => RO P fn M call all l ⟨putT T d v, S, tk', n⟩ k := by
  rw [RO_plain]
  simp only [evO, List.map_cons, List.map_nil, if_true]
  unfold apM
  cases @apB1 (gM M) P t (opv T x) (opv T y) tk S <;> rfl
def lenV (st sl : Bool) (x : AV) : Option AV := match x with
  | .prim (.string s) => if st then some (.int s.size) else none
  | x => if sl then (lenA x).map fun (n : Nat) => AV.int (n : Int) else none
theorem lenV_str {sl : Bool} {s : ByteArray} : lenV true sl (.prim (.string s)) = some (.int s.size) := rfl
theorem lenV_frz {st : Bool} {es : List (List AV)} {c : Cap} : lenV st true (.frz es c) = some (.int es.length) := rfl
theorem lenV_sref {st : Bool} {id ep off len sz : Nat} : lenV st true (.sref id ep off len sz) = some (.int len) := rfl
theorem RO_len [Globs] [Ext P] {x : Operand} {t : TypeId} : RO P fn M call all (⟨d, .call ⟨.builtin .len, #[x], #[t]⟩, ty, pos, af, none⟩ :: l) ⟨T, S, tk, n⟩ k = nx (lenV (isStr P t) (elemOf P t).isSome (opv T x)) fun v => RO P fn M call all l ⟨putT T d v, S, tk, n⟩ k := RO_quiet (by
  simp only [evO, evQ, List.map_cons, List.map_nil]
  congr 1
  unfold lenV
  cases opv T x with
  | prim v => cases v <;> rfl
  | _ => rfl)
theorem RO_call [Globs] [Ext P] {f : FuncId} {args : Array Operand} {ats : Array TypeId} : RO P fn M call all (⟨d, .call ⟨.value (.func f), args, ats⟩, ty, pos, af, none⟩ :: l) ⟨T, S, tk, n⟩ k =
    ns (call f (args.toList.map (opv T)) S tk n) fun (v, S', tk', n') => RO P fn M call all l ⟨putT T d v, S', tk', n'⟩ k := by
  rw [RO_plain]
  simp only [evO, calleeA, opv, List.append_nil]
  cases call f (args.toList.map (opv T)) S tk n <;> rfl
/-- a call of a function value -/
def callV (call : CallA) (f : AV) (args : List AV) (S : List Ent) (tk : List Nat) (n : Nat) : Option (AV × List Ent × List Nat × Nat) := match f with | .fn f caps => call f (args ++ caps) S tk n | .bfn f first => call f (first ++ args) S tk n | _ => none
theorem callV_bfn {f : FuncId} {first args : List AV} : callV call (.bfn f first) args S tk n = call f (first ++ args) S tk n := rfl
theorem callV_fn {f : FuncId} {caps args : List AV} : callV call (.fn f caps) args S tk n = call f (args ++ caps) S tk n := rfl
theorem RO_callV [Globs] [Ext P] {x : Tmp} {args : Array Operand} {ats : Array TypeId} : RO P fn M call all (⟨d, .call ⟨.value (.tmp x), args, ats⟩, ty, pos, af, none⟩ :: l) ⟨T, S, tk, n⟩ k =
    ns (callV call (getT T x) (args.toList.map (opv T)) S tk n) fun (v, S', tk', n') => RO P fn M call all l ⟨putT T d v, S', tk', n'⟩ k := by
  rw [RO_plain]
  simp only [evO, calleeA, opv, callV]
  cases getT T x with
  | fn f caps =>
    simp only
    cases call f (args.toList.map (opv T) ++ caps) S tk n <;> rfl
  | bfn f first =>
    simp only
    cases call f (first ++ args.toList.map (opv T)) S tk n <;> rfl
  | _ => rfl
theorem aBin_int {b : BinOp} {t : TypeId} {q : IntKind} {x y : Int} : aBin P b t (.prim (.int q x)) (.prim (.int q y)) = binInt b q x y := by simp [aBin]
theorem aBin_str {b : BinOp} {t : TypeId} {x y : ByteArray} : aBin P b t (.prim (.string x)) (.prim (.string y)) = binStr b x y := rfl
def isBool (P : Program) (t : TypeId) : Bool := match P.underlying t with | some .bool => true | _ => false
theorem aBin_bool {b : BinOp} {t : TypeId} {x y : Bool} (h : isBool P t = true) : aBin P b t (.prim (.bool x)) (.prim (.bool y)) = binBool b x y := by
  unfold isBool at h
  split at h
  · rename_i h'; simp [aBin, h']
  · simp at h
theorem callP_eq [Globs] [Ext P] {f : FuncId} {args : List AV} : callP P call f args S tk n = if (((args.map w2).all pure2 && !Ext.mv P f) || (shF f && keepFn P f args.length && !Ext.mv P f && !Ext.on P f)) = true then call f args S tk n else none := rfl
theorem callM_true [Globs] [Ext P] {f : FuncId} {args : List AV} : callM true P call f args S tk n = if ((args.map w2).all pure2 && !Ext.mv P f) = true then call f args S tk n else none := by
  simp [callM, callP, shF]
theorem opv_tmp {t : Tmp} : opv T (.tmp t) = getT T t := rfl
theorem opv_const {v : Value} : opv T (.const v) = cst v := rfl
theorem opv_func {f : FuncId} : opv T (.func f) = .fn f [] := rfl
theorem cst_int {q : IntKind} {x : Int} : cst (.int q x) = .prim (.int q x) := rfl
theorem cst_bool {b : Bool} : cst (.bool b) = .prim (.bool b) := rfl
theorem cst_string {s : ByteArray} : cst (.string s) = .prim (.string s) := rfl
theorem cst_nil : cst (.slice none 0 0) = .frz [] .nilc := rfl
theorem cst_ptr : cst (.pointer none) = .prim (.pointer none) := rfl
theorem intN_cast {q : IntKind} {m : Nat} : intN (.prim (.int q (m : Int))) = some m := by simp [intN]
theorem intN_zero {q : IntKind} : intN (.prim (.int q 0)) = some 0 := rfl
theorem idxA_frz {t : TypeId} {es : List (List AV)} {c : Cap} {i : AV} {m sz : Nat} {cs : List AV} (hi : intN i = some m) (hn : nth es m = some cs) (hs : (elemOf P t).bind (szOf P) = some sz) (hl : cs.length = sz) : idxA P t (.frz es c) i = some (.fptr cs) := by
  simp [idxA, hi, hn, hs, hl]

/- the same, with all that is to come put out of simp's sight: what another argument's type names is not looked into -/
inductive Tag {α : Type} (a : α) : Type where | mk
def BR {β : Type} (w : Option Bool) (a b : Option β) (_ : Tag (a, b)) : Option β := br w a b
def NX {β : Type} (x : Option AV) (f : AV → Option β) (_ : Tag f) : Option β := nx x f
def NS {α β : Type} (x : Option α) (f : α → Option β) (_ : Tag f) : Option β := ns x f
noncomputable def RX [Globs] (P : Program) [Ext P] (fn : Func) (M : Bool) (call : CallA) (all l : List Oper) (st : St) (k : List Kont) (_ : Tag (all, l, k)) : Option (AV × St) := RO P fn M call all l st k
noncomputable def KX [Globs] (P : Program) [Ext P] (fn : Func) (c : Code) (st : St) (k : List Kont) (_ : Tag (c, k)) : Option (AV × St) := RK P fn c st k
noncomputable def CX [Globs] (P : Program) [Ext P] (fn : Func) (e : Ex) (st : St) (k : List Kont) (_ : Tag k) : Option (AV × St) := cont P fn e st k
theorem NX_some {β : Type} {v : AV} {f : AV → Option β} {t : Tag f} : NX (some v) f t = f v := rfl
theorem NS_some {α β : Type} {v : α} {f : α → Option β} {t : Tag f} : NS (some v) f t = f v := rfl
theorem BR_true {β : Type} {a b : Option β} {t : Tag (a, b)} : BR (some true) a b t = a := rfl
theorem BR_false {β : Type} {a b : Option β} {t : Tag (a, b)} : BR (some false) a b t = b := rfl
theorem BR_not {β : Type} {x : Bool} {a b : Option β} {t : Tag (a, b)} : BR (some (!x)) a b t = BR (some x) b a .mk := br_not
theorem fin1_BR {x : Bool} {a b : Option (AV × St)} {r : AV} {t : Tag (a, b)} : fin1 (BR (some x) a b t) = some r ↔ (x = true → fin1 a = some r) ∧ (x = false → fin1 b = some r) := fin1_br
theorem finS_BR {m : Nat} {x : Bool} {a b : Option (AV × St)} {r : AV × List Ent × List Nat × Nat} {t : Tag (a, b)} : finS m (BR (some x) a b t) = some r ↔ (x = true → finS m a = some r) ∧ (x = false → finS m b = some r) := finS_br
theorem finM_BR {x : Bool} {a b : Option (AV × St)} {r : AV × List Ent × List Nat × Nat} {t : Tag (a, b)} : finM (BR (some x) a b t) = some r ↔ (x = true → finM a = some r) ∧ (x = false → finM b = some r) := finM_br
variable {st : St}
theorem KX_seq [Globs] [Ext P] {a b : Code} {t : Tag (Code.seq a b, k)} : KX P fn (.seq a b) st k t = KX P fn a st (.seq b :: k) .mk := RK_seq
theorem KX_skip [Globs] [Ext P] {t : Tag (Code.skip, k)} : KX P fn .skip st k t = CX P fn .normal st k .mk := RK_skip
theorem KX_exit [Globs] [Ext P] {id : Nat} {t : Tag (Code.exit id, k)} : KX P fn (.exit id) st k t = CX P fn (.exit id) st k .mk := RK_exit
theorem KX_ret [Globs] [Ext P] {t : Tag (Code.ret, k)} : KX P fn .ret st k t = CX P fn .ret st k .mk := RK_ret
theorem KX_if [Globs] [Ext P] {c : Operand} {a b : Code} {t : Tag (Code.cond c a b, k)} : KX P fn (.cond c a b) st k t = BR (asB (opv st.T c)) (KX P fn a st k .mk) (KX P fn b st k .mk) .mk := RK_if
theorem KX_block [Globs] [Ext P] {id : Nat} {c : Code} {t : Tag (Code.block id c, k)} : KX P fn (.block id c) st k t = KX P fn c st (.block id :: k) .mk := RK_block
theorem KX_scope [Globs] [Ext P] {c : Code} {t : Tag (Code.scope c, k)} : KX P fn (.scope c) st k t = KX P fn c st k .mk := RK_scope
theorem KX_label [Globs] [Ext P] {l : Nat} {t : Tag (Code.label l, k)} : KX P fn (.label l) st k t = CX P fn .normal st k .mk := RK_label
theorem KX_region [Globs] [Ext P] {id : Nat} {ops : List Oper} {t : Tag (Code.region id ops.toArray false, k)} : KX P fn (.region id ops.toArray false) st k t = RX P fn false (cL P) ops ops st k .mk := RK_region
/-- does a region make variables: told apart by the elaborator -/
structure QmF (ops : List Oper) : Prop where
  h : qm ops = false
structure QmT (ops : List Oper) : Prop where
  h : qm ops = true
/-- does its last operation wait for all others -/
structure TlF (ops : List Oper) : Prop where
  h : splitT ops = none
def lastO : List Oper → List Oper
  | [] => []
  | [o] => [o]
  | _ :: b :: l => lastO (b :: l)
theorem lastO_one {o : Oper} : lastO [o] = [o] := rfl
theorem lastO_more {a b : Oper} {l : List Oper} : lastO (a :: b :: l) = lastO (b :: l) := rfl
theorem dropL_one {o : Oper} : List.dropLast [o] = [] := rfl
theorem dropL_more {a b : Oper} {l : List Oper} : List.dropLast (a :: b :: l) = a :: List.dropLast (b :: l) := rfl
structure TlT (ops : List Oper) : Prop where
  h : (splitT ops).isSome = true
  h2 : splitT ops.dropLast = none
theorem KX_draw [Globs] [Ext P] {id : Nat} {ops : List Oper} {t : Tag (Code.region id ops.toArray true, k)} (hq' : QmF ops) (hs : TlF ops) (h : drawOk st ops = true) : KX P fn (.region id ops.toArray true) st k t = RX P fn false (callP P (cL P)) ops ops st k .mk := by
  have hq := hq'.h
  have e : callP P (cL P) = callM false P (cL P) := rfl
  rw [e, ← hq]; exact RK_draw (by simpa using hs.h) (by simpa using h)
theorem KX_drawQ [Globs] [Ext P] {id : Nat} {ops : List Oper} {t : Tag (Code.region id ops.toArray true, k)} (hq' : QmT ops) (hs : TlF ops) (h : drawOk st ops = true) : KX P fn (.region id ops.toArray true) st k t = RX P fn true (callM true P (cL P)) ops ops st k .mk := by
  have hq := hq'.h
  have := RK_draw (P := P) (fn := fn) (st := st) (k := k) (id := id) (ops := ops.toArray) (by simpa using hs.h) (by simpa using h)
  simp only [List.toList_toArray, hq] at this
  exact this
theorem last_of {L : List Oper} {o : Oper} {a : List Oper} (h : L = a ++ [o]) : lastO L = [o] := by
  subst h
  induction a with
  | nil => rfl
  | cons x a ih => cases a with
    | nil => rfl
    | cons y a => exact ih
theorem KX_tail [Globs] [Ext P] {id : Nat} {ops : List Oper} {t : Tag (Code.region id ops.toArray true, k)} (hs : TlT ops) (h : drawOk st ops.dropLast = true) : KX P fn (.region id ops.toArray true) st k t = KX P fn (.region id ops.dropLast.toArray true) st (.seq (.region id (lastO ops).toArray false) :: k) .mk := by
  obtain ⟨h1, h2⟩ := hs
  cases hsp : splitT ops with
  | none => rw [hsp] at h1; cases h1
  | some x =>
    obtain ⟨a, o⟩ := x
    obtain ⟨hL, -⟩ := splitT_some hsp
    have hd : ops.dropLast = a := by rw [hL]; simp
    rw [last_of hL, hd]
    rw [hd] at h2 h
    exact RK_tail (by simpa using hsp) h2 h
theorem CX_seq [Globs] [Ext P] {c : Code} {t : Tag (Kont.seq c :: k)} : CX P fn .normal st (.seq c :: k) t = KX P fn c st k .mk := rfl
theorem CX_block [Globs] [Ext P] {id : Nat} {t : Tag (Kont.block id :: k)} : CX P fn .normal st (.block id :: k) t = CX P fn .normal st k .mk := rfl
theorem CX_loop [Globs] [Ext P] {c : Code} {m : Nat} {t : Tag (Kont.loop c m :: k)} : CX P fn .normal st (.loop c m :: k) t = KX P fn (.loop c) { st with S := st.S.take m } k .mk := rfl
theorem CX_exit_seq [Globs] [Ext P] {c : Code} {id : Nat} {t : Tag (Kont.seq c :: k)} : CX P fn (.exit id) st (.seq c :: k) t = CX P fn (.exit id) st k .mk := rfl
theorem CX_exit_block [Globs] [Ext P] {id id' : Nat} {t : Tag (Kont.block id' :: k)} : CX P fn (.exit id) st (.block id' :: k) t = BR (some (id == id')) (CX P fn .normal st k .mk) (CX P fn (.exit id) st k .mk) .mk := by
  show (if id = id' then cont P fn .normal st k else cont P fn (.exit id) st k) = br _ _ _
  by_cases h : id = id'
  · subst h; simp [br, CX]
  · have e : (id == id') = false := by simpa using h
    rw [if_neg h, e]; rfl
theorem CX_exit_loop [Globs] [Ext P] {c : Code} {id m : Nat} {t : Tag (Kont.loop c m :: k)} : CX P fn (.exit id) st (.loop c m :: k) t = CX P fn (.exit id) st k .mk := rfl
theorem CX_ret [Globs] [Ext P] {x : Kont} {t : Tag (x :: k)} : CX P fn .ret st (x :: k) t = CX P fn .ret st k .mk := cont_ret
theorem CX_ret_nil [Globs] [Ext P] {t : Tag ([] : List Kont)} : CX P fn .ret st [] t = outA P fn (some (.ret, st)) := rfl
theorem CX_normal_nil [Globs] [Ext P] {t : Tag ([] : List Kont)} : CX P fn .normal st [] t = outA P fn (some (.normal, st)) := rfl
theorem RX_nil [Globs] [Ext P] {t : Tag (all, ([] : List Oper), k)} : RX P fn M call all [] st k t = CX P fn .normal st k .mk := rfl
theorem RK_KX [Globs] [Ext P] {c : Code} : RK P fn c st k = KX P fn c st k .mk := rfl
def DX (all : List Oper) (g : Nat) (_ : Tag all) : Option Tmp := dstAt all g
theorem DX_zero {o : Oper} {tg : Tag (o :: l)} : DX (o :: l) 0 tg = o.dst := rfl
theorem DX_succ {o : Oper} {g : Nat} {tg : Tag (o :: l)} : DX (o :: l) (g + 1) tg = DX l g .mk := rfl
theorem RX_guard [Globs] [Ext P] {op : Op} {g : Nat} {w : Bool} {tg : Tag (all, ((⟨d, op, ty, pos, af, some (g, w)⟩ : Oper) :: l), k)} : RX P fn M call all (⟨d, op, ty, pos, af, some (g, w)⟩ :: l) ⟨T, S, tk, n⟩ k tg = BR (wantD T (DX all g .mk) w) (RX P fn M call all (⟨d, op, ty, pos, af, none⟩ :: l) ⟨T, S, tk, n⟩ k .mk) (RX P fn M call all l ⟨putT T d (.prim undef), S, tk, n⟩ k .mk) .mk := RO_guard
theorem RX_move [Globs] [Ext P] {x : Operand} {tg : Tag (all, ((⟨d, .move x, ty, pos, af, none⟩ : Oper) :: l), k)} : RX P fn M call all (⟨d, .move x, ty, pos, af, none⟩ :: l) ⟨T, S, tk, n⟩ k tg = RX P fn M call all l ⟨putT T d (opv T x), S, tk, n⟩ k .mk := RO_move
theorem RX_assign [Globs] [Ext P] {x : Operand} {tg : Tag (all, ((⟨d, .assign x, ty, pos, af, none⟩ : Oper) :: l), k)} : RX P fn M call all (⟨d, .assign x, ty, pos, af, none⟩ :: l) ⟨T, S, tk, n⟩ k tg = RX P fn M call all l ⟨putT T d (opv T x), S, tk, n⟩ k .mk := RO_assign
theorem RX_pick [Globs] [Ext P] {c a b : Operand} {tg : Tag (all, ((⟨d, .pick c a b, ty, pos, af, none⟩ : Oper) :: l), k)} : RX P fn M call all (⟨d, .pick c a b, ty, pos, af, none⟩ :: l) ⟨T, S, tk, n⟩ k tg = NX (pickA (opv T c) (opv T a) (opv T b)) (fun v => RX P fn M call all l ⟨putT T d v, S, tk, n⟩ k .mk) .mk := RO_pick
theorem RX_bin [Globs] [Ext P] {b : BinOp} {t u : TypeId} {x y : Operand} {tg : Tag (all, ((⟨d, .binOp b t x y u, ty, pos, af, none⟩ : Oper) :: l), k)} : RX P fn M call all (⟨d, .binOp b t x y u, ty, pos, af, none⟩ :: l) ⟨T, S, tk, n⟩ k tg = NX (aBin P b t (opv T x) (opv T y)) (fun v => RX P fn M call all l ⟨putT T d v, S, tk, n⟩ k .mk) .mk := RO_bin
theorem RX_un [Globs] [Ext P] {u : UnOp} {t : TypeId} {x : Operand} {tg : Tag (all, ((⟨d, .unOp u t x, ty, pos, af, none⟩ : Oper) :: l), k)} : RX P fn M call all (⟨d, .unOp u t x, ty, pos, af, none⟩ :: l) ⟨T, S, tk, n⟩ k tg = NX (aUn u (opv T x)) (fun v => RX P fn M call all l ⟨putT T d v, S, tk, n⟩ k .mk) .mk := RO_un
theorem RX_conv [Globs] [Ext P] {s t : TypeId} {x : Operand} {tg : Tag (all, ((⟨d, .convert s t x, ty, pos, af, none⟩ : Oper) :: l), k)} : RX P fn M call all (⟨d, .convert s t x, ty, pos, af, none⟩ :: l) ⟨T, S, tk, n⟩ k tg = NX (cvA P s t (opv T x)) (fun v => RX P fn M call all l ⟨putT T d v, S, tk, n⟩ k .mk) .mk := RO_conv
theorem RX_extract [Globs] [Ext P] {x : Operand} {i : Nat} {tg : Tag (all, ((⟨d, .extract x i, ty, pos, af, none⟩ : Oper) :: l), k)} : RX P fn M call all (⟨d, .extract x i, ty, pos, af, none⟩ :: l) ⟨T, S, tk, n⟩ k tg = NX (extA (opv T x) i) (fun v => RX P fn M call all l ⟨putT T d v, S, tk, n⟩ k .mk) .mk := RO_extract
theorem RX_field [Globs] [Ext P] {t : TypeId} {x : Operand} {i : Nat} {tg : Tag (all, ((⟨d, .field t x i, ty, pos, af, none⟩ : Oper) :: l), k)} : RX P fn M call all (⟨d, .field t x i, ty, pos, af, none⟩ :: l) ⟨T, S, tk, n⟩ k tg = NX (fldV (fieldOf P t i) (opv T x)) (fun v => RX P fn M call all l ⟨putT T d v, S, tk, n⟩ k .mk) .mk := RO_field
theorem RX_indexAddr [Globs] [Ext P] {t : TypeId} {x i : Operand} {tg : Tag (all, ((⟨d, .indexAddr t x i, ty, pos, af, none⟩ : Oper) :: l), k)} : RX P fn M call all (⟨d, .indexAddr t x i, ty, pos, af, none⟩ :: l) ⟨T, S, tk, n⟩ k tg = NX (idxA P t (opv T x) (opv T i)) (fun v => RX P fn M call all l ⟨putT T d v, S, tk, n⟩ k .mk) .mk := RO_indexAddr
theorem RX_fieldAddr [Globs] [Ext P] {t : TypeId} {x : Operand} {i : Nat} {tg : Tag (all, ((⟨d, .fieldAddr t x i, ty, pos, af, none⟩ : Oper) :: l), k)} : RX P fn M call all (⟨d, .fieldAddr t x i, ty, pos, af, none⟩ :: l) ⟨T, S, tk, n⟩ k tg = NX (fldA P t (opv T x) i) (fun v => RX P fn M call all l ⟨putT T d v, S, tk, n⟩ k .mk) .mk := RO_fieldAddr
theorem RX_index [Globs] [Ext P] {t : TypeId} {x i : Operand} {tg : Tag (all, ((⟨d, .index t x i, ty, pos, af, none⟩ : Oper) :: l), k)} : RX P fn M call all (⟨d, .index t x i, ty, pos, af, none⟩ :: l) ⟨T, S, tk, n⟩ k tg = NX (strIdx (isStr P t) (opv T x) (intN (opv T i))) (fun v => RX P fn M call all l ⟨putT T d v, S, tk, n⟩ k .mk) .mk := RO_index
theorem RX_build [Globs] [Ext P] {t : TypeId} {ps : Array (Nat × Operand)} {tg : Tag (all, ((⟨d, .build t ps, ty, pos, af, none⟩ : Oper) :: l), k)} : RX P fn M call all (⟨d, .build t ps, ty, pos, af, none⟩ :: l) ⟨T, S, tk, n⟩ k tg = NX (bldA (zeroOf P t) (fieldsOf P t) (ps.toList.map fun (i, x) => (i, opv T x))) (fun v => RX P fn M call all l ⟨putT T d v, S, tk, n⟩ k .mk) .mk := RO_build
theorem RX_buildSlice [Globs] [Ext P] {t : TypeId} {len : Nat} {ps : Array (Nat × Operand)} {tg : Tag (all, ((⟨d, .buildSlice t len ps, ty, pos, af, none⟩ : Oper) :: l), k)} : RX P fn M call all (⟨d, .buildSlice t len ps, ty, pos, af, none⟩ :: l) ⟨T, S, tk, n⟩ k tg = NX (litA ((elemOf P t).bind (szOf P)) ((elemOf P t).bind (zeroOf P)) len (ps.toList.map fun (i, x) => (i, opv T x))) (fun v => RX P fn M call all l ⟨putT T d v, S, tk, n⟩ k .mk) .mk := RO_buildSlice
theorem RX_slice [Globs] [Ext P] {t : TypeId} {x : Operand} {lo hi mx : Option Operand} {tg : Tag (all, ((⟨d, .slice t x lo hi mx, ty, pos, af, none⟩ : Oper) :: l), k)} : RX P fn M call all (⟨d, .slice t x lo hi mx, ty, pos, af, none⟩ :: l) ⟨T, S, tk, n⟩ k tg = NX (sliceA P t (opv T x) (lo.map (opv T)) (hi.map (opv T)) (mx.map (opv T))) (fun v => RX P fn M call all l ⟨putT T d v, S, tk, n⟩ k .mk) .mk := RO_slice
theorem RX_makeFunc [Globs] [Ext P] {f : FuncId} {caps : Array Operand} {tg : Tag (all, ((⟨d, .makeFunc (.func f) #[] caps, ty, pos, af, none⟩ : Oper) :: l), k)} : RX P fn M call all (⟨d, .makeFunc (.func f) #[] caps, ty, pos, af, none⟩ :: l) ⟨T, S, tk, n⟩ k tg = NX (if ((caps.toList.map (opv T)).all capsOk) = true then some (.fn f (caps.toList.map (opv T))) else none) (fun v => RX P fn M call all l ⟨putT T d v, S, tk, n⟩ k .mk) .mk := RO_makeFunc
theorem RX_makeBound [Globs] [Ext P] {f : FuncId} {x : Operand} {tg : Tag (all, ((⟨d, .makeFunc (.func f) #[x] #[], ty, pos, af, none⟩ : Oper) :: l), k)} : RX P fn M call all (⟨d, .makeFunc (.func f) #[x] #[], ty, pos, af, none⟩ :: l) ⟨T, S, tk, n⟩ k tg = RX P fn M call all l ⟨putT T d (.bfn f [opv T x]), S, tk, n⟩ k .mk := RO_makeBound
theorem RX_load [Globs] [Ext P] {t : TypeId} {a : Operand} {tg : Tag (all, ((⟨d, .load t a, ty, pos, af, none⟩ : Oper) :: l), k)} : RX P fn M call all (⟨d, .load t a, ty, pos, af, none⟩ :: l) ⟨T, S, tk, n⟩ k tg = NX (ldA P t (opv T a) S) (fun v => RX P fn M call all l ⟨putT T d v, S, tk, n⟩ k .mk) .mk := RO_load
theorem RX_store [Globs] [Ext P] {t : TypeId} {a x : Operand} {tg : Tag (all, ((⟨none, .store t a x, ty, pos, af, none⟩ : Oper) :: l), k)} : RX P fn M call all (⟨none, .store t a x, ty, pos, af, none⟩ :: l) ⟨T, S, tk, n⟩ k tg = NS (stA P t (opv T a) (opv T x) S) (fun S' => RX P fn M call all l ⟨T, S', tk, n⟩ k .mk) .mk := RO_store
theorem RX_alloc [Globs] [Ext P] {t : TypeId} {tg : Tag (all, ((⟨d, .alloc t, ty, pos, af, none⟩ : Oper) :: l), k)} : RX P fn M call all (⟨d, .alloc t, ty, pos, af, none⟩ :: l) ⟨T, S, tk, n⟩ k tg = NS (zeroOf P t) (fun cs => RX P fn M call all l ⟨putT T d (.ref S.length n 0), S ++ [⟨n, cs⟩], tk, n + 1⟩ k .mk) .mk := RO_alloc
theorem RX_box [Globs] [Ext P] {t : TypeId} {x : Operand} {tg : Tag (all, ((⟨d, .box t x, ty, pos, af, none⟩ : Oper) :: l), k)} : RX P fn M call all (⟨d, .box t x, ty, pos, af, none⟩ :: l) ⟨T, S, tk, n⟩ k tg = NS (cellsOf (opv T x)) (fun cs => RX P fn M call all l ⟨putT T d (.ref S.length n 0), S ++ [⟨n, cs⟩], tk, n + 1⟩ k .mk) .mk := RO_box
theorem RX_append [Globs] [Ext P] {x y : Operand} {t : TypeId} {tg : Tag (all, ((⟨d, .call ⟨.builtin .append, #[x, y], #[t, t]⟩, ty, pos, af, none⟩ : Oper) :: l), k)} : RX P fn M call all (⟨d, .call ⟨.builtin .append, #[x, y], #[t, t]⟩, ty, pos, af, none⟩ :: l) ⟨T, S, tk, n⟩ k tg = NS (apM M P t (opv T x) (opv T y) tk S) (fun (v, tk') => RX P fn M call all l ⟨putT T d v, S, tk', n⟩ k .mk) .mk := RO_append
theorem RX_len [Globs] [Ext P] {x : Operand} {t : TypeId} {tg : Tag (all, ((⟨d, .call ⟨.builtin .len, #[x], #[t]⟩, ty, pos, af, none⟩ : Oper) :: l), k)} : RX P fn M call all (⟨d, .call ⟨.builtin .len, #[x], #[t]⟩, ty, pos, af, none⟩ :: l) ⟨T, S, tk, n⟩ k tg = NX (lenV (isStr P t) (elemOf P t).isSome (opv T x)) (fun v => RX P fn M call all l ⟨putT T d v, S, tk, n⟩ k .mk) .mk := RO_len
theorem RX_call [Globs] [Ext P] {f : FuncId} {args : Array Operand} {ats : Array TypeId} {tg : Tag (all, ((⟨d, .call ⟨.value (.func f), args, ats⟩, ty, pos, af, none⟩ : Oper) :: l), k)} : RX P fn M call all (⟨d, .call ⟨.value (.func f), args, ats⟩, ty, pos, af, none⟩ :: l) ⟨T, S, tk, n⟩ k tg = NS (call f (args.toList.map (opv T)) S tk n) (fun (v, S', tk', n') => RX P fn M call all l ⟨putT T d v, S', tk', n'⟩ k .mk) .mk := RO_call
theorem RX_callV [Globs] [Ext P] {x : Tmp} {args : Array Operand} {ats : Array TypeId} {tg : Tag (all, ((⟨d, .call ⟨.value (.tmp x), args, ats⟩, ty, pos, af, none⟩ : Oper) :: l), k)} : RX P fn M call all (⟨d, .call ⟨.value (.tmp x), args, ats⟩, ty, pos, af, none⟩ :: l) ⟨T, S, tk, n⟩ k tg = NS (callV call (getT T x) (args.toList.map (opv T)) S tk n) (fun (v, S', tk', n') => RX P fn M call all l ⟨putT T d v, S', tk', n'⟩ k .mk) .mk := RO_callV
theorem fin1_NX_not {c : Prop} [Decidable c] {v : AV} {f : AV → Option (AV × St)} {tg : Tag f} {r : AV} : fin1 (NX (if c then none else some v) f tg) = some r ↔ ¬ c ∧ fin1 (f v) = some r := by
  by_cases h : c
  · simp [h]; intro h'; cases h'
  · simp [h]; rfl
theorem fin1_NX_if {c : Prop} [Decidable c] {v : AV} {f : AV → Option (AV × St)} {tg : Tag f} {r : AV} : fin1 (NX (if c then some v else none) f tg) = some r ↔ c ∧ fin1 (f v) = some r := by
  by_cases h : c
  · simp [h]; rfl
  · simp [h]; intro h'; cases h'
theorem fin1_NS_not {α : Type} {c : Prop} [Decidable c] {v : α} {f : α → Option (AV × St)} {tg : Tag f} {r : AV} : fin1 (NS (if c then none else some v) f tg) = some r ↔ ¬ c ∧ fin1 (f v) = some r := by
  by_cases h : c
  · simp [h]; intro h'; cases h'
  · simp [h]; rfl
theorem fin1_NS_if {α : Type} {c : Prop} [Decidable c] {v : α} {f : α → Option (AV × St)} {tg : Tag f} {r : AV} : fin1 (NS (if c then some v else none) f tg) = some r ↔ c ∧ fin1 (f v) = some r := by
  by_cases h : c
  · simp [h]; rfl
  · simp [h]; intro h'; cases h'
theorem finS_NX_not {m : Nat} {c : Prop} [Decidable c] {v : AV} {f : AV → Option (AV × St)} {tg : Tag f} {r : AV × List Ent × List Nat × Nat} : finS m (NX (if c then none else some v) f tg) = some r ↔ ¬ c ∧ finS m (f v) = some r := by
  by_cases h : c
  · simp [h]; intro h'; cases h'
  · simp [h]; rfl
theorem finS_NX_if {m : Nat} {c : Prop} [Decidable c] {v : AV} {f : AV → Option (AV × St)} {tg : Tag f} {r : AV × List Ent × List Nat × Nat} : finS m (NX (if c then some v else none) f tg) = some r ↔ c ∧ finS m (f v) = some r := by
  by_cases h : c
  · simp [h]; rfl
  · simp [h]; intro h'; cases h'
theorem finS_NS_not {m : Nat} {α : Type} {c : Prop} [Decidable c] {v : α} {f : α → Option (AV × St)} {tg : Tag f} {r : AV × List Ent × List Nat × Nat} : finS m (NS (if c then none else some v) f tg) = some r ↔ ¬ c ∧ finS m (f v) = some r := by
  by_cases h : c
  · simp [h]; intro h'; cases h'
  · simp [h]; rfl
theorem finS_NS_if {m : Nat} {α : Type} {c : Prop} [Decidable c] {v : α} {f : α → Option (AV × St)} {tg : Tag f} {r : AV × List Ent × List Nat × Nat} : finS m (NS (if c then some v else none) f tg) = some r ↔ c ∧ finS m (f v) = some r := by
  by_cases h : c
  · simp [h]; rfl
  · simp [h]; intro h'; cases h'
theorem loop1 [Globs] [Ext P] {ι : Type} {c : Code} {tg : Tag (Code.loop c, k)} (I : ι → St → Prop) (μ : ι → Nat) (G : ι → AV) (x : ι)
    (h : ∀ x st, I x st → (∀ y st', μ y < μ x → I y st' → fin1 (KX P fn (.loop c) st' k .mk) = some (G y)) → fin1 (KX P fn c st (.loop c st.S.length :: k) .mk) = some (G x)) {st : St} (h0 : I x st) : fin1 (KX P fn (.loop c) st k tg) = some (G x) :=
  loop_rule I μ G h h0
theorem loopS [Globs] [Ext P] {ι : Type} {c : Code} {m : Nat} {tg : Tag (Code.loop c, k)} (I : ι → St → Prop) (μ : ι → Nat) (G : ι → AV × List Ent × List Nat × Nat) (x : ι)
    (h : ∀ x st, I x st → (∀ y st', μ y < μ x → I y st' → finS m (KX P fn (.loop c) st' k .mk) = some (G y)) → finS m (KX P fn c st (.loop c st.S.length :: k) .mk) = some (G x)) {st : St} (h0 : I x st) : finS m (KX P fn (.loop c) st k tg) = some (G x) :=
  loop_ruleS I μ G h h0
/-- so many slots, by name -/
def tabl : Nat → (Nat → AV) → List AV
  | 0, _ => []
  | n + 1, g => g 0 :: tabl n fun i => g (i + 1)
theorem tab_of : ∀ {n : Nat} {T : List AV}, T.length = n → ∃ g, (∀ t, getT T t = g t) ∧ T = tabl n g
  | 0, [], _ => ⟨fun _ => .bot, fun _ => rfl, rfl⟩
  | n + 1, x :: T, h => by
    obtain ⟨g, h1, h2⟩ := tab_of (n := n) (T := T) (by simpa using h)
    exact ⟨fun | 0 => x | i + 1 => g i, fun | 0 => rfl | i + 1 => h1 i, by rw [h2]; rfl⟩
  | 0, _ :: _, h => by simp at h
  | _ + 1, [], h => by simp at h
theorem tabl_len : ∀ (n : Nat) (g : Nat → AV), (tabl n g).length = n
  | 0, _ => rfl
  | n + 1, g => by simp [tabl, tabl_len n]
theorem entAt_new {S : List Ent} {n : Nat} {cs : List AV} : entAt (S ++ [⟨n, cs⟩]) S.length n = some cs := by
  unfold entAt
  rw [nth_get, List.getElem?_append_right (Nat.le_refl _)]
  simp
theorem entAt_old {S : List Ent} {e : Ent} {id ep : Nat} {cs : List AV} (h : entAt S id ep = some cs) : entAt (S ++ [e]) id ep = some cs := by
  obtain ⟨x, h1, h2, h3⟩ := entAt_some h
  unfold entAt
  have hl := nth_lt h1
  rw [nth_get] at h1 ⊢
  rw [List.getElem?_append_left hl, h1]
  simp [h2, h3]
/-- a function without arguments, evaluated once and for all -/
theorem cL_closed [Globs] [Ext P] [ExtOk P] {m : Nat} {f : FuncId} {r : AV} (h : evF P drawOk m f [] [] [] 0 = some (r, [], [], 0)) (hmv : Ext.mv P f = false) (hsh : shF f = false) (S : List Ent) (tk : List Nat) (n : Nat) : cL P f [] S tk n = some (r, S, tk, n) := by
  have e : (((List.map w2 ([] : List AV)).all pure2 && !Ext.mv P f) || (shF f && keepFn P f ([] : List AV).length && !Ext.mv P f && !Ext.on P f)) = true := by rw [hmv]; rfl
  have h' : callP P (evF P drawOk m) f [] [] [] 0 = some (r, [], [], 0) := by rw [callP_eq, if_pos e]; exact h
  have h2 := ((evF_indep m false _ _ _ _ _ _ _ _ _ h').2.2.resolve_left (by rw [hsh]; simp)).2 S tk n
  rw [callP_eq, if_pos e] at h2
  exact cL_iff.2 ⟨m, h2⟩
/- making, copying, appending strings -/
theorem RO_makeSlice [Globs] [Ext P] {t : TypeId} {x y : Operand} (hz : growL ⟨d, .makeSlice t x y, ty, pos, af, none⟩ x = false) : RO P fn M call all (⟨d, .makeSlice t x y, ty, pos, af, none⟩ :: l) ⟨T, S, tk, n⟩ k =
    ns (mkA P t (opv T x) (opv T y)) fun (m, sz, cs) => RO P fn M call all l ⟨putT T d (.sref S.length n 0 m sz), S ++ [⟨n, cs⟩], tk, n + 1⟩ k := by
  rw [RO_plain]
  simp only [evO, hz]
  cases mkA P t (opv T x) (opv T y) <;> rfl
theorem RO_makeSlice0 [Globs] [Ext P] {t : TypeId} {x y : Operand} (hz : len0 x = true) : RO P fn M call all (⟨d, .makeSlice t x y, ty, pos, af, none⟩ :: l) ⟨T, S, tk, n⟩ k =
    ns (mkA P t (opv T x) (opv T y)) fun (m, sz, cs) => RO P fn M call all l ⟨putT T d (.frz [] (.tok tk.length 0 sz)), S, tk ++ [0], n⟩ k := by
  rw [RO_plain]
  simp only [evO, growL, hz, Bool.true_or]
  cases mkA P t (opv T x) (opv T y) <;> rfl
theorem RO_makeSliceF [Globs] [Ext P] {t : TypeId} {y : Operand} (hz : fzL ⟨d, .makeSlice t (.tmp 10) y, ty, pos, af, none⟩ (.tmp 10) = true) : RO P fn M call all (⟨d, .makeSlice t (.tmp 10) y, ty, pos, af, none⟩ :: l) ⟨T, S, tk, n⟩ k =
    ns (mkA P t (opv T (.tmp 10)) (opv T y)) fun (m, sz, cs) => RO P fn M call all l ⟨putT T d (tokA tk.length sz (rowsFz (rowsAt sz m cs))), S, tk ++ [0], n⟩ k := by
  rw [RO_plain]
  simp only [evO, growL, len0, hz, Bool.false_or]
  cases mkA P t (opv T (.tmp 10)) (opv T y) <;> rfl
theorem RO_copy [Globs] [Ext P] {x y : Operand} {t t' : TypeId} : RO P fn M call all (⟨d, .call ⟨.builtin .copy, #[x, y], #[t, t']⟩, ty, pos, af, none⟩ :: l) ⟨T, S, tk, n⟩ k =
    ns (cpA P t (opv T x) (opv T y) S) fun (m, S') => RO P fn M call all l ⟨putT T d (.int (m : Int)), S', tk, n⟩ k := by
  rw [RO_plain]
  simp only [evO, List.map_cons, List.map_nil]
  cases cpA P t (opv T x) (opv T y) S <;> rfl
theorem RO_appendS [Globs] [Ext P] {x y : Operand} {t t' : TypeId} (ht : (t == t') = false) : RO P fn M call all (⟨d, .call ⟨.builtin .append, #[x, y], #[t, t']⟩, ty, pos, af, none⟩ :: l) ⟨T, S, tk, n⟩ k =
    ns (apS P t t' (opv T x) (opv T y) tk) fun (v, tk') => RO P fn M call all l ⟨putT T d v, S, tk', n⟩ k := by
  have ht' : ¬ t = t' := by simpa using ht
  rw [RO_plain]
  simp only [evO, List.map_cons, List.map_nil, if_neg ht']
  cases apS P t t' (opv T x) (opv T y) tk <;> rfl
theorem RO_nilCheck [Globs] [Ext P] {x : Operand} : RO P fn M call all (⟨d, .nilCheck x, ty, pos, af, none⟩ :: l) ⟨T, S, tk, n⟩ k = nx (chkA (opv T x)) fun v => RO P fn M call all l ⟨putT T d v, S, tk, n⟩ k := RO_quiet rfl
theorem RO_min [Globs] [Ext P] {x y : Operand} {ats : Array TypeId} : RO P fn M call all (⟨d, .call ⟨.builtin .min, #[x, y], ats⟩, ty, pos, af, none⟩ :: l) ⟨T, S, tk, n⟩ k = nx (minA (opv T x) (opv T y)) fun v => RO P fn M call all l ⟨putT T d v, S, tk, n⟩ k := RO_quiet rfl
theorem RO_max [Globs] [Ext P] {x y : Operand} {ats : Array TypeId} : RO P fn M call all (⟨d, .call ⟨.builtin .max, #[x, y], ats⟩, ty, pos, af, none⟩ :: l) ⟨T, S, tk, n⟩ k = nx (maxA (opv T x) (opv T y)) fun v => RO P fn M call all l ⟨putT T d v, S, tk, n⟩ k := RO_quiet rfl
theorem RX_makeSlice [Globs] [Ext P] {t : TypeId} {x y : Operand} {tg : Tag (all, ((⟨d, .makeSlice t x y, ty, pos, af, none⟩ : Oper) :: l), k)} (hz : growL ⟨d, .makeSlice t x y, ty, pos, af, none⟩ x = false) : RX P fn M call all (⟨d, .makeSlice t x y, ty, pos, af, none⟩ :: l) ⟨T, S, tk, n⟩ k tg = NS (mkA P t (opv T x) (opv T y)) (fun (m, sz, cs) => RX P fn M call all l ⟨putT T d (.sref S.length n 0 m sz), S ++ [⟨n, cs⟩], tk, n + 1⟩ k .mk) .mk := RO_makeSlice hz
theorem RX_makeSlice0 [Globs] [Ext P] {t : TypeId} {x y : Operand} {tg : Tag (all, ((⟨d, .makeSlice t x y, ty, pos, af, none⟩ : Oper) :: l), k)} (hz : len0 x = true) : RX P fn M call all (⟨d, .makeSlice t x y, ty, pos, af, none⟩ :: l) ⟨T, S, tk, n⟩ k tg = NS (mkA P t (opv T x) (opv T y)) (fun (m, sz, cs) => RX P fn M call all l ⟨putT T d (.frz [] (.tok tk.length 0 sz)), S, tk ++ [0], n⟩ k .mk) .mk := RO_makeSlice0 hz
theorem RX_makeSliceF [Globs] [Ext P] {t : TypeId} {y : Operand} {tg : Tag (all, ((⟨d, .makeSlice t (.tmp 10) y, ty, pos, af, none⟩ : Oper) :: l), k)} (hz : fzL ⟨d, .makeSlice t (.tmp 10) y, ty, pos, af, none⟩ (.tmp 10) = true) : RX P fn M call all (⟨d, .makeSlice t (.tmp 10) y, ty, pos, af, none⟩ :: l) ⟨T, S, tk, n⟩ k tg = NS (mkA P t (opv T (.tmp 10)) (opv T y)) (fun (m, sz, cs) => RX P fn M call all l ⟨putT T d (tokA tk.length sz (rowsFz (rowsAt sz m cs))), S, tk ++ [0], n⟩ k .mk) .mk := RO_makeSliceF hz
theorem RX_copy [Globs] [Ext P] {x y : Operand} {t t' : TypeId} {tg : Tag (all, ((⟨d, .call ⟨.builtin .copy, #[x, y], #[t, t']⟩, ty, pos, af, none⟩ : Oper) :: l), k)} : RX P fn M call all (⟨d, .call ⟨.builtin .copy, #[x, y], #[t, t']⟩, ty, pos, af, none⟩ :: l) ⟨T, S, tk, n⟩ k tg = NS (cpA P t (opv T x) (opv T y) S) (fun (m, S') => RX P fn M call all l ⟨putT T d (.int (m : Int)), S', tk, n⟩ k .mk) .mk := RO_copy
theorem RX_appendS [Globs] [Ext P] {x y : Operand} {t t' : TypeId} {tg : Tag (all, ((⟨d, .call ⟨.builtin .append, #[x, y], #[t, t']⟩, ty, pos, af, none⟩ : Oper) :: l), k)} (ht : (t == t') = false) : RX P fn M call all (⟨d, .call ⟨.builtin .append, #[x, y], #[t, t']⟩, ty, pos, af, none⟩ :: l) ⟨T, S, tk, n⟩ k tg = NS (apS P t t' (opv T x) (opv T y) tk) (fun (v, tk') => RX P fn M call all l ⟨putT T d v, S, tk', n⟩ k .mk) .mk := RO_appendS ht
theorem RX_nilCheck [Globs] [Ext P] {x : Operand} {tg : Tag (all, ((⟨d, .nilCheck x, ty, pos, af, none⟩ : Oper) :: l), k)} : RX P fn M call all (⟨d, .nilCheck x, ty, pos, af, none⟩ :: l) ⟨T, S, tk, n⟩ k tg = NX (chkA (opv T x)) (fun v => RX P fn M call all l ⟨putT T d v, S, tk, n⟩ k .mk) .mk := RO_nilCheck
theorem RX_min [Globs] [Ext P] {x y : Operand} {ats : Array TypeId} {tg : Tag (all, ((⟨d, .call ⟨.builtin .min, #[x, y], ats⟩, ty, pos, af, none⟩ : Oper) :: l), k)} : RX P fn M call all (⟨d, .call ⟨.builtin .min, #[x, y], ats⟩, ty, pos, af, none⟩ :: l) ⟨T, S, tk, n⟩ k tg = NX (minA (opv T x) (opv T y)) (fun v => RX P fn M call all l ⟨putT T d v, S, tk, n⟩ k .mk) .mk := RO_min
theorem RX_max [Globs] [Ext P] {x y : Operand} {ats : Array TypeId} {tg : Tag (all, ((⟨d, .call ⟨.builtin .max, #[x, y], ats⟩, ty, pos, af, none⟩ : Oper) :: l), k)} : RX P fn M call all (⟨d, .call ⟨.builtin .max, #[x, y], ats⟩, ty, pos, af, none⟩ :: l) ⟨T, S, tk, n⟩ k tg = NX (maxA (opv T x) (opv T y)) (fun v => RX P fn M call all l ⟨putT T d v, S, tk, n⟩ k .mk) .mk := RO_max
theorem cvA_int {s t : TypeId} {q : IntKind} {x : Int} : cvA P s t (.prim (.int q x)) = aConv P s t (.prim (.int q x)) := rfl
theorem cvA_str {s t : TypeId} {b : ByteArray} : cvA P s t (.prim (.string b)) = if (isStr P s && isBytes P t && decide (b.size ≤ 1048576)) = true then some (.frz (bytesL b) .unk) else aConv P s t (.prim (.string b)) := rfl
theorem minA_int {q : IntKind} {x y : Int} : minA (.prim (.int q x)) (.prim (.int q y)) = some (.prim (.int q (if y < x then y else x))) := by simp [minA]
theorem maxA_int {q : IntKind} {x y : Int} : maxA (.prim (.int q x)) (.prim (.int q y)) = some (.prim (.int q (if y > x then y else x))) := by simp [maxA]
theorem aBin_refNil {b : BinOp} {t : TypeId} {i e o : Nat} : aBin P b t (.ref i e o) (.prim (.pointer none)) = ptrNil b (isPtr P t) false := rfl
theorem aBin_fptrNil {b : BinOp} {t : TypeId} {cs : List AV} : aBin P b t (.fptr cs) (.prim (.pointer none)) = ptrNil b (isPtr P t) false := rfl
theorem aBin_nilNil {b : BinOp} {t : TypeId} : aBin P b t (.prim (.pointer none)) (.prim (.pointer none)) = ptrNil b (isPtr P t) true := rfl
theorem ptrNil_eql {r : Bool} : ptrNil .eql true r = some (.bool r) := rfl
theorem ptrNil_neq {r : Bool} : ptrNil .neq true r = some (.bool !r) := rfl
/- what returns -/
theorem fz3_tup {m : Nat} {vs : List AV} : fz3 m S (.tup vs) = .tup (vs.map (fz2 m S)) := rfl
theorem fz3_agg {m : Nat} {cs : List AV} : fz3 m S (.agg cs) = .agg (cs.map (fz1 m S)) := rfl
theorem fz3_prim {m : Nat} {v : Value} : fz3 m S (.prim v) = .prim v := rfl
theorem fz3_frz {m : Nat} {es : List (List AV)} {c : Cap} : fz3 m S (.frz es c) = .frz es c := rfl
theorem fz3_ref {m i e o : Nat} : fz3 m S (.ref i e o) = .ref i e o := rfl
theorem fz3_fn {m : Nat} {f : FuncId} {cs : List AV} : fz3 m S (.fn f cs) = .fn f cs := rfl
theorem fz3_sref {m i e o len sz : Nat} : fz3 m S (.sref i e o len sz) = fz1 m S (.sref i e o len sz) := rfl
theorem fz2_agg {m : Nat} {cs : List AV} : fz2 m S (.agg cs) = .agg (cs.map (fz1 m S)) := rfl
theorem fz2_prim {m : Nat} {v : Value} : fz2 m S (.prim v) = .prim v := rfl
theorem fz2_frz {m : Nat} {es : List (List AV)} {c : Cap} : fz2 m S (.frz es c) = .frz es c := rfl
theorem fz2_ref {m i e o : Nat} : fz2 m S (.ref i e o) = .ref i e o := rfl
theorem fz2_fn {m : Nat} {f : FuncId} {cs : List AV} : fz2 m S (.fn f cs) = .fn f cs := rfl
theorem fz2_sref {m i e o len sz : Nat} : fz2 m S (.sref i e o len sz) = fz1 m S (.sref i e o len sz) := rfl
theorem fz1_prim {m : Nat} {v : Value} : fz1 m S (.prim v) = .prim v := rfl
theorem fz1_frz {m : Nat} {es : List (List AV)} {c : Cap} : fz1 m S (.frz es c) = .frz es c := rfl
theorem fz1_ref {m i e o : Nat} : fz1 m S (.ref i e o) = .ref i e o := rfl
theorem fz1_fn {m : Nat} {f : FuncId} {cs : List AV} : fz1 m S (.fn f cs) = .fn f cs := rfl
theorem fz1_sref {m i e o len sz : Nat} (h : m ≤ i) : fz1 m S (.sref i e o len sz) = fzB (entAt S i e) o len sz := by simp [fz1, h]
theorem fz1_old {m i e o len sz : Nat} (h : i < m) : fz1 m S (.sref i e o len sz) = .sref i e o len sz := by simp [fz1]; omega
theorem fzB_some {cs : List AV} {o len sz : Nat} : fzB (some cs) o len sz = rowsFz (rowsAt sz len (cs.drop o)) := rfl
end
end Go.Proofs.Ytkghgdkkholieaa
/-
  More equations for simp: appending, comparing, variables of the caller's.
-/

namespace Go.Proofs.Ytkghgdkkholieaa
open Go

section
variable {P : Program}
def aggB (b : BinOp) (k : Option (List Nat)) (xs ys : List AV) : Option AV :=
  match k with
  | some ks => match b with
    | .eql => (cellsEq ks xs ys).map .bool
    | .neq => (cellsEq ks xs ys).map fun c => .bool !c
    | _ => none
  | none => none
theorem aBin_agg {b : BinOp} {t : TypeId} {xs ys : List AV} : aBin P b t (.agg xs) (.agg ys) = aggB b (flatK P t) xs ys := rfl
theorem aggB_eql {ks : List Nat} {xs ys : List AV} : aggB .eql (some ks) xs ys = (cellsEq ks xs ys).map .bool := rfl
theorem aggB_neq {ks : List Nat} {xs ys : List AV} : aggB .neq (some ks) xs ys = (cellsEq ks xs ys).map fun c => .bool !c := rfl
def nilB (b : BinOp) (r : Option Bool) : Option AV :=
  match r with
  | some r => match b with
    | .eql => some (.bool r)
    | .neq => some (.bool !r)
    | _ => none
  | none => none
theorem aBin_nil {b : BinOp} {t : TypeId} {es : List (List AV)} {c : Cap} (h : (elemOf P t).isSome = true) : aBin P b t (.frz es c) (.frz [] .nilc) = nilB b (nilA es c) := by
  cases he : elemOf P t with
  | none => rw [he] at h; simp at h
  | some e => cases hn : nilA es c <;> simp only [aBin, nilB, he, hn] <;> cases b <;> rfl
theorem nilB_eql {r : Bool} : nilB .eql (some r) = some (.bool r) := rfl
theorem nilB_neq {r : Bool} : nilB .neq (some r) = some (.bool !r) := rfl
theorem cellEq_int {q : IntKind} {a b : Int} : cellEq 1 (.prim (.int q a)) (.prim (.int q b)) = some (a == b) := by simp [cellEq]
theorem cellEq_str {a b : ByteArray} : cellEq 2 (.prim (.string a)) (.prim (.string b)) = some (sEq a b) := rfl
theorem cellEq_bool {a b : Bool} : cellEq 0 (.prim (.bool a)) (.prim (.bool b)) = some (a == b) := rfl

def convI (d s : Option IntKind) (n : Int) : Option AV := match d, s with | some k, some _ => some (.prim (.int k (k.wrap n))) | _, _ => none
theorem aConv_int {s d : TypeId} {q : IntKind} {n : Int} : aConv P s d (.prim (.int q n)) = convI (intOfT P d) (intOfT P s) n := rfl
theorem convI_some {k q : IntKind} {n : Int} : convI (some k) (some q) n = some (.prim (.int k (k.wrap n))) := rfl
theorem aConv_str {s d : TypeId} {b : ByteArray} : aConv P s d (.prim (.string b)) = if (isStr P s && isStr P d) = true then some (.str b) else none := rfl
/- append -/
def apB (sz : Option Nat) (es : List (List AV)) (c : Cap) (ys : List (List AV)) (tk : List Nat) : Option (AV × List Nat) :=
  match sz with
  | some sz => if okCap tk c sz = true ∧ rowsOk sz es = true ∧ rowsOk sz ys = true ∧ roomy (es.length + ys.length) = true then some (.frz (es ++ ys) (capNew tk c sz), capPut tk c) else none
  | none => none
theorem apA_eq {t : TypeId} {es ys : List (List AV)} {c c' : Cap} {tk : List Nat} : apA P t (.frz es c) (.frz ys c') tk = apB (apT P t) es c ys tk := by
  unfold apA apB; cases apT P t <;> rfl
theorem apB1_frz [Globs] {t : TypeId} {es ys : List (List AV)} {c c' : Cap} {tk : List Nat} {S : List Ent} : apB1 P t (.frz es c) (.frz ys c') tk S = apB (apT P t) es c ys tk := apA_eq
theorem apB_all {sz : Nat} {es ys : List (List AV)} {c : Cap} {tk : List Nat} (h1 : okCap tk c sz = true) (h2 : rowsOk sz es = true) (h3 : rowsOk sz ys = true) (h4 : es.length + ys.length ≤ 1048576) : apB (some sz) es c ys tk = some (.frz (es ++ ys) (capNew tk c sz), capPut tk c) := by
  unfold apB; simp only; rw [if_pos ⟨h1, h2, h3, by simpa [roomy] using h4⟩]
theorem apB_one {sz : Nat} {es : List (List AV)} {y : List AV} {c : Cap} {tk : List Nat} (h1 : okCap tk c sz = true) (h2 : rowsOk sz es = true) (h3 : (y.length == sz) = true) (h4 : es.length + 1 ≤ 1048576) : apB (some sz) es c [y] tk = some (.frz (es ++ [y]) (capNew tk c sz), capPut tk c) :=
  apB_all h1 h2 (by simp [rowsOk]; simpa using h3) (by simpa using h4)
theorem okCap_new {sz : Nat} {c : Cap} {tk : List Nat} (h : okCap tk c sz = true) : okCap (capPut tk c) (capNew tk c sz) sz = true := by
  have hn : ∀ (l : List Nat) (i v : Nat), i < l.length → nth (put l i v) i = some v := by
    intro l
    induction l with
    | nil => intro i v h; simp at h
    | cons a l ih =>
      intro i v h
      cases i with
      | zero => rfl
      | succ i => exact ih i v (by simpa using h)
  cases c with
  | unk => simp [okCap] at h
  | nl => simp [okCap] at h
  | nn => simp [okCap] at h
  | tight => simp only [capNew, capPut, okCap, nth_get]; simp
  | nilc => simp only [capNew, capPut, okCap, nth_get]; simp
  | tok id ep s =>
    simp only [okCap, Bool.and_eq_true, beq_iff_eq] at h
    simp only [capNew, capPut, okCap, hn _ _ _ (nth_lt h.2)]
    simp
theorem rowsOk_map {α : Type} {f : α → List AV} {sz : Nat} (h : ∀ a, (f a).length = sz) (l : List α) : rowsOk sz (l.map f) = true := by
  unfold rowsOk; simp [h]
/-- so many appends of one element, one after the other -/
def capIter (sz : Nat) : Nat → Cap × List Nat → Cap × List Nat
  | 0, x => x
  | m + 1, x => capIter sz m (capNew x.2 x.1 sz, capPut x.2 x.1)

theorem litA_nil {sz : Nat} {z : List AV} (h : (z.length == sz + 1 && z.all (fun c => pure1 (w1 c))) = true) : litA (some (sz + 1)) (some z) 0 [] = some (.frz [] .tight) := by
  simp only [Bool.and_eq_true, beq_iff_eq] at h
  rw [litA_some, if_pos ⟨h.1, h.2, by simp⟩]; rfl
/- variables behind the caller's -/
theorem entAt_mid {S : List Ent} {n : Nat} {cs : List AV} {e : Ent} : entAt (S ++ [⟨n, cs⟩] ++ [e]) S.length n = some cs := entAt_old entAt_new
theorem entAt_old2 {S : List Ent} {e e' : Ent} {id ep : Nat} {cs : List AV} (h : entAt S id ep = some cs) : entAt (S ++ [e] ++ [e']) id ep = some cs := entAt_old (entAt_old h)
theorem put_new {S : List Ent} {e e' : Ent} : put (S ++ [e]) S.length e' = S ++ [e'] := by
  induction S with
  | nil => rfl
  | cons a S ih => simp only [List.cons_append, List.length_cons, put, ih]
theorem put_mid {S : List Ent} {e e' e'' : Ent} : put (S ++ [e] ++ [e'']) S.length e' = S ++ [e'] ++ [e''] := by
  induction S with
  | nil => rfl
  | cons a S ih => simp only [List.cons_append, List.length_cons, put] at ih ⊢; rw [ih]
theorem take_two {S : List Ent} {e e' : Ent} : (S ++ [e] ++ [e']).take S.length = S := by
  rw [List.append_assoc, List.take_left']; rfl
/-- who may append to an argument does not matter to a call that hangs on no variable -/
theorem cL_w2 [Globs] [Ext P] {f : FuncId} {args args' : List AV} {S : List Ent} {tk : List Nat} {n : Nat} (h : args.map w2 = args'.map w2) (hp : (args.map w2).all pure2 = true) (hx : (Ext.on P f || Ext.mv P f) = false) : cL P f args S tk n = cL P f args' S tk n := by
  simp only [Bool.or_eq_false_iff] at hx
  have : ∀ k, evF P drawOk k f args S tk n = evF P drawOk k f args' S tk n := by
    intro k
    cases k with
    | zero => rfl
    | succ k =>
      simp only [evF, hx.1, hx.2, Bool.false_eq_true, if_false]
      rw [h] at hp ⊢
      simp only [hp, if_true]
  unfold cL
  congr 1; funext k; exact this k
/- cells that are numbers -/
theorem nth_int {l : List Int} {i : Nat} {x : Int} (h : nth l i = some x) : nth (l.map AV.int) i = some (.int x) := by
  induction l generalizing i with
  | nil => simp [nth] at h
  | cons y l ih => cases i with
    | zero => simp only [nth, Option.some.injEq] at h; subst h; rfl
    | succ i => exact ih h
theorem over_one {cs : List AV} {v w : AV} : ∀ {i : Nat}, nth cs i = some w → over cs i [v] = some (put cs i v) := by
  induction cs with
  | nil => intro i h; simp [nth] at h
  | cons c cs ih => intro i h; cases i with
    | zero => cases cs <;> rfl
    | succ i => simp only [over, ih (i := i) h, put, Option.map_some]
theorem put_map {α β : Type} {f : α → β} : ∀ {l : List α} {i : Nat} {v : α}, put (l.map f) i (f v) = (put l i v).map f
  | [], _, _ => rfl
  | _ :: _, 0, _ => rfl
  | _ :: l, i + 1, _ => by simp only [List.map_cons, put, put_map (l := l)]
theorem put_set {α : Type} : ∀ {l : List α} {i : Nat} {v : α}, put l i v = l.set i v
  | [], _, _ => rfl
  | _ :: _, 0, _ => rfl
  | _ :: l, i + 1, _ => by simp only [put, List.set_cons_succ, put_set (l := l)]
theorem drop_nth {α : Type} {l : List α} {o : Nat} {x : α} (h : nth l o = some x) : nth (l.drop o) 0 = some x := by
  rw [nth_get] at h ⊢
  rw [List.getElem?_drop]; exact h
theorem flat_one {v : AV} {c : Nat} : (List.replicate c [v]).flatten = List.replicate c v := by
  induction c with
  | zero => rfl
  | succ c ih => simp [List.replicate_succ, ih]
theorem rowsAt_one {α : Type} {f : α → AV} : ∀ {n : Nat} {l : List α}, n ≤ l.length → rowsAt 1 n (l.map f) = some ((l.take n).map fun x => [f x])
  | 0, _, _ => by simp [rowsAt]
  | n + 1, [], h => by simp at h
  | n + 1, x :: l, h => by
    simp only [List.map_cons, rowsAt, takeN, Option.map_some, List.drop_succ_cons, List.drop_zero, rowsAt_one (n := n) (l := l) (by simpa using h), List.take_succ_cons]
theorem rowsFz_int {l : List Int} : rowsFz (some (l.map fun x => [AV.int x])) = .frz (l.map fun x => [AV.int x]) .unk := by
  unfold rowsFz
  simp only
  rw [if_pos (by simp [pure1, w1, Value.oneCell'])]
  congr 1
  simp [w1]
end
/- the equations of the evaluator, as one (simp takes it apart) -/
set_option linter.defProp false in
def evs := And.intro @KX_seq <|
  And.intro @KX_skip <|
  And.intro @KX_exit <|
  And.intro @KX_ret <|
  And.intro @KX_if <|
  And.intro @KX_block <|
  And.intro @KX_region <|
  And.intro @KX_scope <|
  And.intro @KX_label <|
  And.intro @CX_seq <|
  And.intro @CX_block <|
  And.intro @CX_loop <|
  And.intro @CX_exit_seq <|
  And.intro @CX_exit_block <|
  And.intro @CX_exit_loop <|
  And.intro @CX_ret <|
  And.intro @CX_ret_nil <|
  And.intro @CX_normal_nil <|
  And.intro @NX_some <|
  And.intro @NS_some <|
  And.intro @BR_true <|
  And.intro @BR_false <|
  And.intro @BR_not <|
  And.intro @fin1_BR <|
  And.intro @finS_BR <|
  And.intro @RX_nil <|
  And.intro @RX_guard <|
  And.intro @RX_move <|
  And.intro @RX_assign <|
  And.intro @RX_pick <|
  And.intro @RX_bin <|
  And.intro @RX_un <|
  And.intro @RX_conv <|
  And.intro @RX_extract <|
  And.intro @RX_field <|
  And.intro @RX_indexAddr <|
  And.intro @RX_fieldAddr <|
  And.intro @RX_index <|
  And.intro @RX_build <|
  And.intro @RX_buildSlice <|
  And.intro @RX_slice <|
  And.intro @RX_makeFunc <|
  And.intro @RX_makeBound <|
  And.intro @RX_load <|
  And.intro @RX_store <|
  And.intro @RX_alloc <|
  And.intro @RX_box <|
  And.intro @RX_append <|
  And.intro @RX_len <|
  And.intro @RX_call <|
  And.intro @RX_callV <|
  And.intro @wantD_some <|
  And.intro @wantV_bool <|
  And.intro @wantV_undef <|
  And.intro @DX_zero <|
  And.intro @DX_succ <|
  And.intro @asB_bool <|
  And.intro @opv_tmp <|
  And.intro @opv_const <|
  And.intro @opv_func <|
  And.intro @cst_int <|
  And.intro @cst_bool <|
  And.intro @cst_string <|
  And.intro @cst_nil <|
  And.intro @cst_ptr <|
  And.intro @pickA_true <|
  And.intro @pickA_false <|
  And.intro @pickA_bool <|
  And.intro @extA_tup <|
  And.intro @fldV_agg <|
  And.intro @bldA_some <|
  And.intro @litA_some <|
  And.intro @callV_fn <|
  And.intro @callV_bfn <|
  And.intro @aBin_int <|
  And.intro @aBin_str <|
  And.intro @aBin_bool <|
  And.intro @fin1_some <|
  And.intro @finS_some <|
  And.intro @lenV_str <|
  And.intro @lenV_frz <|
  And.intro @lenV_sref <|
  And.intro @List.map_cons.{0,0} <|
  And.intro @List.map_nil.{0,0} <|
  And.intro @List.cons_append.{0} <|
  And.intro @List.nil_append.{0} <|
  And.intro @List.length_cons.{0} <|
  And.intro @List.length_nil.{0} <|
  And.intro @List.toList_toArray.{0} <|
  And.intro @Option.map_some.{0,0} <|
  And.intro @Option.map_none.{0,0} <|
  And.intro @Option.bind_some.{0,0} <|
  And.intro @Option.bind_none.{0,0} <|
  And.intro @Option.isSome_some.{0} <|
  And.intro @beq_true <|
  And.intro @beq_false <|
  And.intro @Bool.true_and <|
  And.intro @Bool.false_and <|
  And.intro @Bool.and_true <|
  And.intro @Bool.and_false <|
  And.intro @Bool.true_or <|
  And.intro @Bool.or_true <|
  And.intro @Bool.false_or <|
  And.intro @Bool.or_false <|
  And.intro @Bool.not_true <|
  And.intro @Bool.not_false <|
  And.intro @Bool.false_eq_true <|
  And.intro @true_implies <|
  And.intro @false_implies <|
  And.intro @and_true <|
  And.intro @true_and <|
  And.intro @Nat.zero_add <|
  And.intro @fin1_NX_not <|
  And.intro @fin1_NX_if <|
  And.intro @fin1_NS_not <|
  And.intro @fin1_NS_if <|
  And.intro @finS_NX_not <|
  And.intro @finS_NX_if <|
  And.intro @finS_NS_not <|
  And.intro @finS_NS_if <|
  And.intro @Option.some.injEq.{0} <|
  And.intro @AV.tup.injEq <|
  And.intro @AV.prim.injEq <|
  And.intro @AV.agg.injEq <|
  And.intro @AV.frz.injEq <|
  And.intro @Value.int.injEq <|
  And.intro @Value.bool.injEq <|
  And.intro @Value.string.injEq <|
  And.intro @List.cons.injEq.{0} <|
  And.intro @decide_true <|
  And.intro @decide_false <|
  And.intro @List.take_zero.{0} <|
  And.intro @List.take_nil.{0} <|
  And.intro @List.take_succ_cons.{0} <|
  And.intro @List.all_cons.{0} <|
  And.intro @List.all_nil.{0} <|
  And.intro @List.drop_zero.{0} <|
  And.intro @List.drop_succ_cons.{0} <|
  And.intro @List.drop_nil.{0} <|
  And.intro @List.length_map.{0,0} <|
  And.intro @intN_cast <|
  And.intro @intN_zero <|
  And.intro @aBin_agg <|
  And.intro @aggB_eql <|
  And.intro @aggB_neq <|
  And.intro @aBin_nil <|
  And.intro @nilB_eql <|
  And.intro @nilB_neq <|
  And.intro @cellEq_int <|
  And.intro @cellEq_str <|
  And.intro @cellEq_bool <|
  And.intro @apA_eq <|
  And.intro @apB_one <|
  And.intro @apB_all <|
  And.intro @entAt_mid <|
  And.intro @put_new <|
  And.intro @put_mid <|
  And.intro @take_two <|
  And.intro @List.replicate_succ.{0} <|
  And.intro @List.replicate_zero.{0} <|
  And.intro @aConv_int <|
  And.intro @convI_some <|
  And.intro @aConv_str <|
  And.intro @RX_makeSlice <|
  And.intro @RX_makeSlice0 <|
  And.intro @RX_copy <|
  And.intro @RX_appendS <|
  And.intro @RX_nilCheck <|
  And.intro @RX_min <|
  And.intro @RX_max <|
  And.intro @cvA_int <|
  And.intro @cvA_str <|
  And.intro @minA_int <|
  And.intro @maxA_int <|
  And.intro @aBin_refNil <|
  And.intro @aBin_fptrNil <|
  And.intro @aBin_nilNil <|
  And.intro @ptrNil_eql <|
  And.intro @ptrNil_neq <|
  And.intro @fz3_tup <|
  And.intro @fz3_agg <|
  And.intro @fz3_prim <|
  And.intro @fz3_frz <|
  And.intro @fz3_ref <|
  And.intro @fz3_fn <|
  And.intro @fz3_sref <|
  And.intro @fz2_agg <|
  And.intro @fz2_prim <|
  And.intro @fz2_frz <|
  And.intro @fz2_ref <|
  And.intro @fz2_fn <|
  And.intro @fz2_sref <|
  And.intro @fz1_prim <|
  And.intro @fz1_frz <|
  And.intro @fz1_ref <|
  And.intro @fz1_fn <|
  And.intro @fz1_sref <|
  And.intro @fz1_old <|
  And.intro @fzB_some <|
  And.intro @finM_BR <|
  And.intro @apB1_frz <|
  And.intro @apM_false <|
  @apM_true
end Go.Proofs.Ytkghgdkkholieaa
