/-
  More equations for simp: appending, comparing, variables of the caller's.
-/
import Derived.Test.YtkghgdkkholieaaEvSim
namespace Go.Proofs.Ytkghgdkkholieaa
open Go

section
variable {P : Program}
def aggB (b : BinOp) (k : Option (List Nat)) (xs ys : List AV) : Option AV :=
  match k with
  | some ks => match b with
    | .eql => (cellsEq ks xs ys).map .bool
    | .neq => (cellsEq ks xs ys).map fun c => .bool !c
    | _ => none
  | none => none
theorem aBin_agg {b : BinOp} {t : TypeId} {xs ys : List AV} : aBin P b t (.agg xs) (.agg ys) = aggB b (flatK P t) xs ys := rfl
theorem aggB_eql {ks : List Nat} {xs ys : List AV} : aggB .eql (some ks) xs ys = (cellsEq ks xs ys).map .bool := rfl
theorem aggB_neq {ks : List Nat} {xs ys : List AV} : aggB .neq (some ks) xs ys = (cellsEq ks xs ys).map fun c => .bool !c := rfl
def nilB (b : BinOp) (r : Option Bool) : Option AV :=
  match r with
  | some r => match b with
    | .eql => some (.bool r)
    | .neq => some (.bool !r)
    | _ => none
  | none => none
theorem aBin_nil {b : BinOp} {t : TypeId} {es : List (List AV)} {c : Cap} (h : (elemOf P t).isSome = true) : aBin P b t (.frz es c) (.frz [] .nilc) = nilB b (nilA es c) := by
  cases he : elemOf P t with
  | none => rw [he] at h; simp at h
  | some e => cases hn : nilA es c <;> simp only [aBin, nilB, he, hn] <;> cases b <;> rfl
theorem nilB_eql {r : Bool} : nilB .eql (some r) = some (.bool r) := rfl
theorem nilB_neq {r : Bool} : nilB .neq (some r) = some (.bool !r) := rfl
theorem cellEq_int {q : IntKind} {a b : Int} : cellEq 1 (.prim (.int q a)) (.prim (.int q b)) = some (a == b) := by simp [cellEq]
theorem cellEq_str {a b : ByteArray} : cellEq 2 (.prim (.string a)) (.prim (.string b)) = some (sEq a b) := rfl
theorem cellEq_bool {a b : Bool} : cellEq 0 (.prim (.bool a)) (.prim (.bool b)) = some (a == b) := rfl

def convI (d s : Option IntKind) (n : Int) : Option AV := match d, s with | some k, some _ => some (.prim (.int k (k.wrap n))) | _, _ => none
theorem aConv_int {s d : TypeId} {q : IntKind} {n : Int} : aConv P s d (.prim (.int q n)) = convI (intOfT P d) (intOfT P s) n := rfl
theorem convI_some {k q : IntKind} {n : Int} : convI (some k) (some q) n = some (.prim (.int k (k.wrap n))) := rfl
theorem aConv_str {s d : TypeId} {b : ByteArray} : aConv P s d (.prim (.string b)) = if (isStr P s && isStr P d) = true then some (.str b) else none := rfl
/- append -/
def apB (sz : Option Nat) (es : List (List AV)) (c : Cap) (ys : List (List AV)) (tk : List Nat) : Option (AV × List Nat) :=
  match sz with
  | some sz => if okCap tk c sz = true ∧ rowsOk sz es = true ∧ rowsOk sz ys = true ∧ roomy (es.length + ys.length) = true then some (.frz (es ++ ys) (capNew tk c sz), capPut tk c) else none
  | none => none
theorem apA_eq {t : TypeId} {es ys : List (List AV)} {c c' : Cap} {tk : List Nat} : apA P t (.frz es c) (.frz ys c') tk = apB (apT P t) es c ys tk := by
  unfold apA apB; cases apT P t <;> rfl
theorem apB_all {sz : Nat} {es ys : List (List AV)} {c : Cap} {tk : List Nat} (h1 : okCap tk c sz = true) (h2 : rowsOk sz es = true) (h3 : rowsOk sz ys = true) (h4 : es.length + ys.length ≤ 1048576) : apB (some sz) es c ys tk = some (.frz (es ++ ys) (capNew tk c sz), capPut tk c) := by
  unfold apB; simp only; rw [if_pos ⟨h1, h2, h3, by simpa [roomy] using h4⟩]
theorem apB_one {sz : Nat} {es : List (List AV)} {y : List AV} {c : Cap} {tk : List Nat} (h1 : okCap tk c sz = true) (h2 : rowsOk sz es = true) (h3 : (y.length == sz) = true) (h4 : es.length + 1 ≤ 1048576) : apB (some sz) es c [y] tk = some (.frz (es ++ [y]) (capNew tk c sz), capPut tk c) :=
  apB_all h1 h2 (by simp [rowsOk]; simpa using h3) (by simpa using h4)
theorem okCap_new {sz : Nat} {c : Cap} {tk : List Nat} (h : okCap tk c sz = true) : okCap (capPut tk c) (capNew tk c sz) sz = true := by
  have hn : ∀ (l : List Nat) (i v : Nat), i < l.length → nth (put l i v) i = some v := by
    intro l
    induction l with
    | nil => intro i v h; simp at h
    | cons a l ih =>
      intro i v h
      cases i with
      | zero => rfl
      | succ i => exact ih i v (by simpa using h)
  cases c with
  | unk => simp [okCap] at h
  | nl => simp [okCap] at h
  | nn => simp [okCap] at h
  | tight => simp only [capNew, capPut, okCap, nth_get]; simp
  | nilc => simp only [capNew, capPut, okCap, nth_get]; simp
  | tok id ep s =>
    simp only [okCap, Bool.and_eq_true, beq_iff_eq] at h
    simp only [capNew, capPut, okCap, hn _ _ _ (nth_lt h.2)]
    simp
theorem rowsOk_map {α : Type} {f : α → List AV} {sz : Nat} (h : ∀ a, (f a).length = sz) (l : List α) : rowsOk sz (l.map f) = true := by
  unfold rowsOk; simp [h]
/-- so many appends of one element, one after the other -/
def capIter (sz : Nat) : Nat → Cap × List Nat → Cap × List Nat
  | 0, x => x
  | m + 1, x => capIter sz m (capNew x.2 x.1 sz, capPut x.2 x.1)

theorem litA_nil {sz : Nat} {z : List AV} (h : (z.length == sz + 1 && z.all (fun c => pure1 (w1 c))) = true) : litA (some (sz + 1)) (some z) 0 [] = some (.frz [] .tight) := by
  simp only [Bool.and_eq_true, beq_iff_eq] at h
  rw [litA_some, if_pos ⟨h.1, h.2, by simp⟩]; rfl
/- variables behind the caller's -/
theorem entAt_mid {S : List Ent} {n : Nat} {cs : List AV} {e : Ent} : entAt (S ++ [⟨n, cs⟩] ++ [e]) S.length n = some cs := entAt_old entAt_new
theorem entAt_old2 {S : List Ent} {e e' : Ent} {id ep : Nat} {cs : List AV} (h : entAt S id ep = some cs) : entAt (S ++ [e] ++ [e']) id ep = some cs := entAt_old (entAt_old h)
theorem put_new {S : List Ent} {e e' : Ent} : put (S ++ [e]) S.length e' = S ++ [e'] := by
  induction S with
  | nil => rfl
  | cons a S ih => simp only [List.cons_append, List.length_cons, put, ih]
theorem put_mid {S : List Ent} {e e' e'' : Ent} : put (S ++ [e] ++ [e'']) S.length e' = S ++ [e'] ++ [e''] := by
  induction S with
  | nil => rfl
  | cons a S ih => simp only [List.cons_append, List.length_cons, put] at ih ⊢; rw [ih]
theorem take_two {S : List Ent} {e e' : Ent} : (S ++ [e] ++ [e']).take S.length = S := by
  rw [List.append_assoc, List.take_left']; rfl
/-- who may append to an argument does not matter to a call that hangs on no variable -/
theorem cL_w2 {f : FuncId} {args args' : List AV} {S : List Ent} {tk : List Nat} {n : Nat} (h : args.map w2 = args'.map w2) (hp : (args.map w2).all pure2 = true) : cL P f args S tk n = cL P f args' S tk n := by
  have hl : args.length = args'.length := by simpa using congrArg List.length h
  have : ∀ k, evF P drawOk k f args S tk n = evF P drawOk k f args' S tk n := by
    intro k
    cases k with
    | zero => rfl
    | succ k =>
      simp only [evF]
      split
      · split
        · split
          · rfl
          · rw [h] at hp ⊢; rw [if_pos hp]
        · rfl
      · rfl
  unfold cL
  congr 1; funext k; exact this k
end
end Go.Proofs.Ytkghgdkkholieaa
