/-
  More equations for simp: appending, comparing, variables of the caller's.
-/
import Derived.Test.YtokncdoejnchfaaDoorEvSim
namespace Go.Proofs.YtokncdoejnchfaaDoor
open Go

section
variable {P : Program}
def aggB (b : BinOp) (k : Option (List Nat)) (xs ys : List AV) : Option AV :=
  match k with
  | some ks => match b with
    | .eql => (cellsEq ks xs ys).map .bool
    | .neq => (cellsEq ks xs ys).map fun c => .bool !c
    | _ => none
  | none => none
theorem aBin_agg {b : BinOp} {t : TypeId} {xs ys : List AV} : aBin P b t (.agg xs) (.agg ys) = aggB b (flatK P t) xs ys := rfl
theorem aggB_eql {ks : List Nat} {xs ys : List AV} : aggB .eql (some ks) xs ys = (cellsEq ks xs ys).map .bool := rfl
theorem aggB_neq {ks : List Nat} {xs ys : List AV} : aggB .neq (some ks) xs ys = (cellsEq ks xs ys).map fun c => .bool !c := rfl
def nilB (b : BinOp) (r : Option Bool) : Option AV :=
  match r with
  | some r => match b with
    | .eql => some (.bool r)
    | .neq => some (.bool !r)
    | _ => none
  | none => none
theorem aBin_nil {b : BinOp} {t : TypeId} {es : List (List AV)} {c : Cap} (h : (elemOf P t).isSome = true) : aBin P b t (.frz es c) (.frz [] .nilc) = nilB b (nilA es c) := by
  cases he : elemOf P t with
  | none => rw [he] at h; simp at h
  | some e => cases hn : nilA es c <;> simp only [aBin, nilB, he, hn] <;> cases b <;> rfl
theorem nilB_eql {r : Bool} : nilB .eql (some r) = some (.bool r) := rfl
theorem nilB_neq {r : Bool} : nilB .neq (some r) = some (.bool !r) := rfl
theorem cellEq_int {q : IntKind} {a b : Int} : cellEq 1 (.prim (.int q a)) (.prim (.int q b)) = some (a == b) := by simp [cellEq]
theorem cellEq_str {a b : ByteArray} : cellEq 2 (.prim (.string a)) (.prim (.string b)) = some (sEq a b) := rfl
theorem cellEq_bool {a b : Bool} : cellEq 0 (.prim (.bool a)) (.prim (.bool b)) = some (a == b) := rfl

def convI (d s : Option IntKind) (n : Int) : Option AV := match d, s with | some k, some _ => some (.prim (.int k (k.wrap n))) | _, _ => none
theorem aConv_int {s d : TypeId} {q : IntKind} {n : Int} : aConv P s d (.prim (.int q n)) = convI (intOfT P d) (intOfT P s) n := rfl
theorem convI_some {k q : IntKind} {n : Int} : convI (some k) (some q) n = some (.prim (.int k (k.wrap n))) := rfl
theorem aConv_str {s d : TypeId} {b : ByteArray} : aConv P s d (.prim (.string b)) = if (isStr P s && isStr P d) = true then some (.str b) else none := rfl
/- append -/
def apB (sz : Option Nat) (es : List (List AV)) (c : Cap) (ys : List (List AV)) (tk : List Nat) : Option (AV × List Nat) :=
  match sz with
  | some sz => if okCap tk c sz = true ∧ rowsOk sz es = true ∧ rowsOk sz ys = true ∧ roomy (es.length + ys.length) = true then some (.frz (es ++ ys) (capNew tk c sz), capPut tk c) else none
  | none => none
theorem apA_eq {t : TypeId} {es ys : List (List AV)} {c c' : Cap} {tk : List Nat} : apA P t (.frz es c) (.frz ys c') tk = apB (apT P t) es c ys tk := by
  unfold apA apB; cases apT P t <;> rfl
theorem apB1_frz [Globs] {t : TypeId} {es ys : List (List AV)} {c c' : Cap} {tk : List Nat} {S : List Ent} : apB1 P t (.frz es c) (.frz ys c') tk S = apB (apT P t) es c ys tk := apA_eq
theorem apB_all {sz : Nat} {es ys : List (List AV)} {c : Cap} {tk : List Nat} (h1 : okCap tk c sz = true) (h2 : rowsOk sz es = true) (h3 : rowsOk sz ys = true) (h4 : es.length + ys.length ≤ 1048576) : apB (some sz) es c ys tk = some (.frz (es ++ ys) (capNew tk c sz), capPut tk c) := by
  unfold apB; simp only; rw [if_pos ⟨h1, h2, h3, by simpa [roomy] using h4⟩]
theorem apB_one {sz : Nat} {es : List (List AV)} {y : List AV} {c : Cap} {tk : List Nat} (h1 : okCap tk c sz = true) (h2 : rowsOk sz es = true) (h3 : (y.length == sz) = true) (h4 : es.length + 1 ≤ 1048576) : apB (some sz) es c [y] tk = some (.frz (es ++ [y]) (capNew tk c sz), capPut tk c) :=
  apB_all h1 h2 (by simp [rowsOk]; simpa using h3) (by simpa using h4)
theorem okCap_new {sz : Nat} {c : Cap} {tk : List Nat} (h : okCap tk c sz = true) : okCap (capPut tk c) (capNew tk c sz) sz = true := by
  have hn : ∀ (l : List Nat) (i v : Nat), i < l.length → nth (put l i v) i = some v := by
    intro l
    induction l with
    | nil => intro i v h; simp at h
    | cons a l ih =>
      intro i v h
      cases i with
      | zero => rfl
      | succ i => exact ih i v (by simpa using h)
  cases c with
  | unk => simp [okCap] at h
  | nl => simp [okCap] at h
  | nn => simp [okCap] at h
  | tight => simp only [capNew, capPut, okCap, nth_get]; simp
  | nilc => simp only [capNew, capPut, okCap, nth_get]; simp
  | tok id ep s =>
    simp only [okCap, Bool.and_eq_true, beq_iff_eq] at h
    simp only [capNew, capPut, okCap, hn _ _ _ (nth_lt h.2)]
    simp
theorem rowsOk_map {α : Type} {f : α → List AV} {sz : Nat} (h : ∀ a, (f a).length = sz) (l : List α) : rowsOk sz (l.map f) = true := by
  unfold rowsOk; simp [h]
/-- so many appends of one element, one after the other -/
def capIter (sz : Nat) : Nat → Cap × List Nat → Cap × List Nat
  | 0, x => x
  | m + 1, x => capIter sz m (capNew x.2 x.1 sz, capPut x.2 x.1)

theorem litA_nil {sz : Nat} {z : List AV} (h : (z.length == sz + 1 && z.all (fun c => pure1 (w1 c))) = true) : litA (some (sz + 1)) (some z) 0 [] = some (.frz [] .tight) := by
  simp only [Bool.and_eq_true, beq_iff_eq] at h
  rw [litA_some, if_pos ⟨h.1, h.2, by simp⟩]; rfl
/- variables behind the caller's -/
theorem entAt_mid {S : List Ent} {n : Nat} {cs : List AV} {e : Ent} : entAt (S ++ [⟨n, cs⟩] ++ [e]) S.length n = some cs := entAt_old entAt_new
theorem entAt_old2 {S : List Ent} {e e' : Ent} {id ep : Nat} {cs : List AV} (h : entAt S id ep = some cs) : entAt (S ++ [e] ++ [e']) id ep = some cs := entAt_old (entAt_old h)
theorem put_new {S : List Ent} {e e' : Ent} : put (S ++ [e]) S.length e' = S ++ [e'] := by
  induction S with
  | nil => rfl
  | cons a S ih => simp only [List.cons_append, List.length_cons, put, ih]
theorem put_mid {S : List Ent} {e e' e'' : Ent} : put (S ++ [e] ++ [e'']) S.length e' = S ++ [e'] ++ [e''] := by
  induction S with
  | nil => rfl
  | cons a S ih => simp only [List.cons_append, List.length_cons, put] at ih ⊢; rw [ih]
theorem take_two {S : List Ent} {e e' : Ent} : (S ++ [e] ++ [e']).take S.length = S := by
  rw [List.append_assoc, List.take_left']; rfl
/-- who may append to an argument does not matter to a call that hangs on no variable -/
theorem cL_w2 [Globs] [Ext P] {f : FuncId} {args args' : List AV} {S : List Ent} {tk : List Nat} {n : Nat} (h : args.map w2 = args'.map w2) (hp : (args.map w2).all pure2 = true) (hx : (Ext.on P f || Ext.mv P f) = false) : cL P f args S tk n = cL P f args' S tk n := by
  simp only [Bool.or_eq_false_iff] at hx
  have : ∀ k, evF P drawOk k f args S tk n = evF P drawOk k f args' S tk n := by
    intro k
    cases k with
    | zero => rfl
    | succ k =>
      simp only [evF, hx.1, hx.2, Bool.false_eq_true, if_false]
      rw [h] at hp ⊢
      simp only [hp, if_true]
  unfold cL
  congr 1; funext k; exact this k
/- cells that are numbers -/
theorem nth_int {l : List Int} {i : Nat} {x : Int} (h : nth l i = some x) : nth (l.map AV.int) i = some (.int x) := by
  induction l generalizing i with
  | nil => simp [nth] at h
  | cons y l ih => cases i with
    | zero => simp only [nth, Option.some.injEq] at h; subst h; rfl
    | succ i => exact ih h
theorem over_one {cs : List AV} {v w : AV} : ∀ {i : Nat}, nth cs i = some w → over cs i [v] = some (put cs i v) := by
  induction cs with
  | nil => intro i h; simp [nth] at h
  | cons c cs ih => intro i h; cases i with
    | zero => cases cs <;> rfl
    | succ i => simp only [over, ih (i := i) h, put, Option.map_some]
theorem put_map {α β : Type} {f : α → β} : ∀ {l : List α} {i : Nat} {v : α}, put (l.map f) i (f v) = (put l i v).map f
  | [], _, _ => rfl
  | _ :: _, 0, _ => rfl
  | _ :: l, i + 1, _ => by simp only [List.map_cons, put, put_map (l := l)]
theorem put_set {α : Type} : ∀ {l : List α} {i : Nat} {v : α}, put l i v = l.set i v
  | [], _, _ => rfl
  | _ :: _, 0, _ => rfl
  | _ :: l, i + 1, _ => by simp only [put, List.set_cons_succ, put_set (l := l)]
theorem drop_nth {α : Type} {l : List α} {o : Nat} {x : α} (h : nth l o = some x) : nth (l.drop o) 0 = some x := by
  rw [nth_get] at h ⊢
  rw [List.getElem?_drop]; exact h
theorem flat_one {v : AV} {c : Nat} : (List.replicate c [v]).flatten = List.replicate c v := by
  induction c with
  | zero => rfl
  | succ c ih => simp [List.replicate_succ, ih]
theorem rowsAt_one {α : Type} {f : α → AV} : ∀ {n : Nat} {l : List α}, n ≤ l.length → rowsAt 1 n (l.map f) = some ((l.take n).map fun x => [f x])
  | 0, _, _ => by simp [rowsAt]
  | n + 1, [], h => by simp at h
  | n + 1, x :: l, h => by
    simp only [List.map_cons, rowsAt, takeN, Option.map_some, List.drop_succ_cons, List.drop_zero, rowsAt_one (n := n) (l := l) (by simpa using h), List.take_succ_cons]
theorem rowsFz_int {l : List Int} : rowsFz (some (l.map fun x => [AV.int x])) = .frz (l.map fun x => [AV.int x]) .unk := by
  unfold rowsFz
  simp only
  rw [if_pos (by simp [pure1, w1, Value.oneCell'])]
  congr 1
  simp [w1]
end
end Go.Proofs.YtokncdoejnchfaaDoor
