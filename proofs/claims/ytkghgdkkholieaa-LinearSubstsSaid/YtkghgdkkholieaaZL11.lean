/-
  Texts laid together: LC0, InvA, InvB, InvD.
-/
import Derived.Test.YtkghgdkkholieaaZL10
import Derived.WalkKit
import Derived.Orders
import Derived.Tactics
import Derived.Below
/-
  From the evaluator to the model, where nothing is anybody's own: lists of coefficients as they lie in memory.
-/


namespace Go.Proofs.Ytkghgdkkholieaa
open Go Go.RowKit
abbrev Pt := List (ByteArray × Int)
variable {A : Nat → Nat → Prop}
/-- a world in which nothing is anybody's own; some cells are left alone -/
def Cq (A : Nat → Nat → Prop) (W : World) : Cx := { w := W, av := A, φ := fun _ => 0, ψ := fun _ => (0, 0, 0), S := [], tk := [], n := 0 }
/-- the cells that are left alone are there -/
def UnderA (A : Nat → Nat → Prop) (w : World) : Prop := ∀ b o, A b o → b < w.heap.size
theorem UnderA.le {w w' : World} (h : UnderA A w) (hs : w.heap.size ≤ w'.heap.size) : UnderA A w' := fun b o hb => Nat.lt_of_lt_of_le (h b o hb) hs
theorem Cq_mut {W : World} {b o : Nat} : ¬ (Cq A W).Mut b o := by
  rintro (⟨i, hi, _⟩ | ⟨i, hi, _⟩)
  · simp [Cq] at hi
  · simp [Cq] at hi
theorem Cq_avoid {W : World} {b o : Nat} (h : ¬ A b o) : ¬ (Cq A W).Avoid b o := by
  rintro (h' | h')
  · exact h h'
  · exact Cq_mut h'
theorem Cq_of {W : World} {b o : Nat} (h : ¬ (Cq A W).Avoid b o) : ¬ A b o := fun h' => h (.inl h')
theorem Cq_SR {W : World} (hA : UnderA A W) : SR (Cq A W) :=
  ⟨fun i e h => by simp [Cq, nth] at h, fun i j hi => by simp [Cq] at hi, fun i j o hi => by simp [Cq] at hi, fun i j o hi => by simp [Cq] at hi, fun b o h => absurd h Cq_mut, fun b o h => hA b o h, fun i o hi => by simp [Cq] at hi, fun g a h => by simp [Globs.gl] at h⟩
theorem call0 {f : FuncId} {args : List AV} {r : AV} {vs : Array Value} {w : World} (hA : UnderA A w) (hcl : ∀ S tk k, cL Try.prog f args S tk k = some (r, S, tk, k)) (hv : VRs (Cq A w) args vs.toList) :
    Calls Try.prog f vs w fun e w' => ∃ v, e = .returned v ∧ Below w.heap.size w w' ∧ VR (Cq A w') r v := by
  refine (calls_of mixed (hcl [] [] 0) (C := Cq A w) rfl rfl rfl (Cq_SR hA) hv).mono ?_
  rintro e w' ⟨v, C', rfl, rfl, hle, -, h1, h2, h3, hr⟩
  refine ⟨v, rfl, ⟨hle.os, hle.tape, hle.output, hle.size, fun b hb => hle.keep b hb fun o hm => Cq_mut hm⟩, ?_⟩
  exact VR.mono0 (C := C') (C' := Cq A C'.w) ⟨by rw [h3]; exact Nat.le_refl _, fun b o v' hv' ha => ⟨hv', Cq_avoid fun h => ha (.inl (by rw [hle.av]; exact h))⟩, fun _ cs _ _ h => ⟨cs, h, rfl⟩, fun id e' he => (by have he : nth ([] : List Ent) id = some e' := he; cases id <;> cases he), fun id k hk => (by rw [h2] at hk; cases id <;> cases hk)⟩ _ _ hr
theorem VR.below0 {w w' : World} {a : AV} {v : Value} (h : VR (Cq A w) a v) (hb : Below w.heap.size w w') : VR (Cq A w') a v := VR.mono (Le.of_below (C := Cq A w) hb) _ _ h
/-- an element of a list that lies there -/
theorem elem_at {w : World} {A : Nat → Nat → Prop} {b sz : Nat} : ∀ {es : List (List AV)} {o j : Nat} {e : List AV}, PRows w A b sz o es → nth es j = some e → e.length = sz ∧ ∃ vs, Lie w A b (o + j * sz) vs ∧ PRs w A e vs
  | e0 :: es, o, 0, e, h, hj => by
    simp only [nth, Option.some.injEq] at hj; subst hj
    simp only [PRows] at h
    obtain ⟨h0, ⟨vs, h1, h2⟩, -⟩ := h
    exact ⟨h0, vs, by simpa using h1, h2⟩
  | e0 :: es, o, j + 1, e, h, hj => by
    simp only [nth] at hj
    simp only [PRows] at h
    obtain ⟨h0, vs, h1, h2⟩ := elem_at h.2.2 hj
    exact ⟨h0, vs, by rw [show o + (j + 1) * sz = o + sz + j * sz by rw [Nat.add_mul]; omega]; exact h1, h2⟩
  | [], _, _, _, _, hj => by simp [nth] at hj
/-- a list as it lies -/
theorem frz_at {w : World} {es : List (List AV)} {c : Cap} {v : Value} (h : VR (Cq A w) (.frz es c) v) : ∃ a cap, v = .slice a es.length cap ∧ es.length ≤ cap ∧
    ∀ j e, nth es j = some e → ∃ b o vs, a = some ⟨b, o, none⟩ ∧ Lie w (Cq A w).Avoid b (o + j * e.length) vs ∧ PRs w (Cq A w).Avoid e vs := by
  simp only [VR] at h
  obtain ⟨a, len, cap, rfl, h1, h2, -, h4⟩ := h
  subst h1
  refine ⟨a, cap, rfl, h2, fun j e hj => ?_⟩
  rcases h4 with h4 | ⟨b, o, sz, rfl, h4⟩
  · subst h4; simp [nth] at hj
  · obtain ⟨h0, vs, h5, h6⟩ := elem_at h4 hj
    exact ⟨b, o, vs, rfl, by rw [h0]; exact h5, h6⟩
theorem lie_lt {w : World} {A : Nat → Nat → Prop} {b o : Nat} {x : Value} {vs : List Value} (h : Lie w A b o (x :: vs)) : b < w.heap.size := cell_lt h.1
/-- a point as it lies: its cells, one after the other -/
def flatP : Pt → List Value
  | [] => []
  | c :: r => .string c.1 :: .int .i64 c.2 :: flatP r
theorem flatP_len : ∀ pt : Pt, (flatP pt).length = 2 * pt.length
  | [] => rfl
  | c :: r => by simp only [flatP, List.length_cons, flatP_len r]; omega
theorem flatP_app : ∀ a b : Pt, flatP (a ++ b) = flatP a ++ flatP b
  | [], b => rfl
  | c :: r, b => by simp only [List.cons_append, flatP, flatP_app r b]
theorem flatP_one : ∀ (pt : Pt) (u : Value), u ∈ flatP pt → u.oneCell' = true
  | [], u, h => by simp [flatP] at h
  | c :: r, u, h => by
    simp only [flatP, List.mem_cons] at h
    rcases h with rfl | rfl | h
    · rfl
    · rfl
    · exact flatP_one r u h
theorem point_cells {w : World} {b : Nat} : ∀ {pt : Pt} {o : Nat}, PRows w (Cq A w).Avoid b 2 o (pt.map coefC) → ∀ j u, (flatP pt)[j]? = some u → w.cell? ⟨b, o + j, none⟩ = some u ∧ ¬ A b (o + j)
  | [], o, _, j, u, hj => by simp [flatP] at hj
  | c :: r, o, h, j, u, hj => by
    simp only [List.map_cons, PRows, coefC] at h
    obtain ⟨-, ⟨vs, h1, h2⟩, h3⟩ := h
    match vs, h1, h2 with
    | [x, y], h1, h2 =>
    simp only [PRs, PR, and_true] at h2
    obtain ⟨⟨rfl, -⟩, ⟨rfl, -⟩⟩ := h2
    simp only [Lie] at h1
    match j, hj with
    | 0, hj => simp only [flatP, List.getElem?_cons_zero, Option.some.injEq] at hj; subst hj; exact ⟨h1.1, Cq_of h1.2.1⟩
    | 1, hj => simp only [flatP, List.getElem?_cons_succ, List.getElem?_cons_zero, Option.some.injEq] at hj; subst hj; exact ⟨h1.2.2.1, Cq_of h1.2.2.2.1⟩
    | j + 2, hj =>
      simp only [flatP, List.getElem?_cons_succ] at hj
      have := point_cells h3 j u hj
      rw [show o + (j + 2) = o + 2 + j by omega]; exact this
theorem point_at {w : World} {pt : Pt} {v : Value} (h : VR (Cq A w) (coefsA pt) v) : ∃ a cap, v = .slice a pt.length cap ∧ pt.length ≤ cap ∧ (pt = [] ∨ ∃ b o, a = some ⟨b, o, none⟩ ∧ ∀ j u, (flatP pt)[j]? = some u → w.cell? ⟨b, o + j, none⟩ = some u ∧ ¬ A b (o + j)) := by
  simp only [coefsA, VR] at h
  obtain ⟨a, len, cap, rfl, h1, h2, -, h4⟩ := h
  rw [List.length_map] at h1
  subst h1
  refine ⟨a, cap, rfl, h2, ?_⟩
  rcases h4 with h4 | ⟨b, o, sz, rfl, h4⟩
  · exact .inl (by simpa using h4)
  · cases pt with
    | nil => exact .inl rfl
    | cons c r =>
      have hsz : sz = 2 := by simp only [List.map_cons, PRows, coefC, List.length_cons, List.length_nil] at h4; exact h4.1.symm
      subst hsz
      exact .inr ⟨b, o, rfl, point_cells h4⟩
theorem prows_point {w : World} {b : Nat} : ∀ (pt : Pt) (o : Nat), (∀ j u, (flatP pt)[j]? = some u → w.cell? ⟨b, o + j, none⟩ = some u ∧ ¬ A b (o + j)) → PRows w (Cq A w).Avoid b 2 o (pt.map coefC)
  | [], o, _ => by simp only [List.map_nil, PRows]
  | c :: r, o, h => by
    simp only [List.map_cons, PRows]
    have h0 := h 0 _ rfl
    have h1 := h 1 _ rfl
    refine ⟨rfl, ⟨[.string c.1, .int .i64 c.2], ⟨h0.1, Cq_avoid h0.2, h1.1, Cq_avoid h1.2, trivial⟩, ?_⟩, prows_point r (o + 2) fun j u hj => ?_⟩
    · simp [PRs, PR, coefC, Value.oneCell']
    · have := h (j + 2) u (by simpa only [flatP, List.getElem?_cons_succ] using hj)
      rwa [show o + (j + 2) = o + 2 + j by omega] at this
theorem point_of {w : World} {pt : Pt} {b o cap : Nat} (hc : pt.length ≤ cap) (h : ∀ j u, (flatP pt)[j]? = some u → w.cell? ⟨b, o + j, none⟩ = some u ∧ ¬ A b (o + j)) : VR (Cq A w) (coefsA pt) (.slice (some ⟨b, o, none⟩) pt.length cap) := by
  simp only [coefsA, VR]
  exact ⟨_, _, _, rfl, by simp, hc, trivial, .inr ⟨b, o, 2, rfl, prows_point pt o h⟩⟩
end Go.Proofs.Ytkghgdkkholieaa
/-
  A rule for a region that draws its order and whose operations and callees may make memory: each operation is looked at once, in whatever world extends the first one,
  with the values of the operations that it depends on known by predicates that last as the world grows. The operations from number m on come behind all the others, in the text's order.
-/



namespace Go.Proofs.Ytkghgdkkholieaa.Iv

section
variable {P : Program}

def dstOf (ops : Array Oper) (j : Nat) : Option Tmp := (ops[j]?).bind (·.dst)
def depsOf (ops : Array Oper) (i : Nat) : List Nat := match ops[i]? with | some o => (o.after.toList.filter (Region.binds .any)).map (·.on) | none => []
/-- the frame with the values of some operations -/
def putList (ops : Array Oper) (a0 : Act) (f : Nat → Value) : List Nat → Act
  | [] => a0
  | j :: l => (putList ops a0 f l).put (dstOf ops j) (f j)
def tmpOf : Operand → Option Tmp | .tmp t => some t | _ => none

/-- what is asked of one operation of the text -/
def opFits (ops : Array Oper) (size i : Nat) (o : Oper) : Bool :=
  (match o.op with | .select .. => false | _ => true) && (depsOf ops i).all (· < i) &&
  (match o.guard with | none => true | some (g, _) => (depsOf ops i).contains g) &&
  (o.dst.all fun d => decide (d < size) && (List.range i).all fun j => dstOf ops j != some d) &&
  (o.op.operands.all fun x => match x with
    | .tmp t => (List.range ops.size).all fun j => dstOf ops j != some t || j == i || (depsOf ops i).contains j || (depsOf ops j).contains i
    | _ => true)
/-- what has come before an operation for sure -/
def reachAt (ops : Array Oper) (i : Nat) : List Nat := ((List.range i).reverse).foldl (fun s j => if s.contains j then depsOf ops j ++ s else s) (depsOf ops i)
def regionFits (ops : Array Oper) (size m : Nat) : Bool :=
  ((List.range ops.size).all fun i => ((ops[i]?).map (opFits ops size i)).getD false) &&
  (List.range ops.size).all fun i => decide (i < m) || (List.range i).all fun j => (reachAt ops i).contains j

/-- what one operation gives, in this frame and world -/
def Oper.gives (P : Program) (o : Oper) (a : Act) (w : World) (Ψ : Value → World → Prop) : Prop :=
  match (execOp a.eval o).run P w with
  | .ok (.value v) w' => Ψ v w'
  | .ok .skip w' => Ψ undef w'
  | .ok (.enter f args) w' => Calls P f args w' fun | .returned v, w'' => Ψ v w'' | _, _ => False
  | .ok (.row row args) w' => Rows P row args w' fun v w'' => Ψ v w''
  | _ => False

/-- the post of one operation's walk -/
def OnePost (d : Tmp) (n : Nat) (Ψ : Value → World → Prop) : Exit → Act → World → Prop := fun e a w => e = .normal ∧ a.defers.length = n ∧ Ψ (a.tmps.getD d undef) w

theorem put_getD {a : Act} {d : Tmp} {v : Value} (h : d < a.tmps.size) : (a.put (some d) v).tmps.getD d undef = v := by
  simp [Act.put, Array.getD, h]

theorem gives_of_wpList {ops : Array Oper} {o : Oper} {a : Act} {w : World} {d : Tmp} {Ψ : Value → World → Prop} (hd : o.dst = some d) (hs : d < a.tmps.size) (hw : Region.wanted o (yielded ops a.tmps) = true)
    (h : wpList P ops (OnePost d a.defers.length Ψ) [o] a w) : Oper.gives P o a w Ψ := by
  unfold wpList at h
  rw [if_pos hw] at h
  rcases h with h | ⟨_, a', w', h, _⟩
  · unfold Oper.wp at h
    unfold Oper.gives
    generalize (execOp a.eval o).run P w = r at *
    cases r with
    | ok n w' =>
      cases n <;> simp only [Oper.upon, wpList, hd] at h ⊢
      case value v => have := h.2.2; rwa [put_getD hs] at this
      case skip => have := h.2.2; rwa [put_getD hs] at this
      case defer d' => have := h.2.1; simp [Act.put] at this
      case enter f args =>
        refine Calls.mono h fun e w'' he => ?_
        cases e with
        | returned v => have := he.2.2; rwa [put_getD hs] at this
        | panicked c => exact absurd he.1 (by simp)
        | outgrown => obtain ⟨_, _, h, _⟩ := he; exact absurd h (by simp)
      case row row args => exact Rows.mono h fun v w'' he => by have := he.2.2; rwa [put_getD hs] at this
    | halt x w' =>
      cases x <;> simp only [Oper.upon] at h
      exact absurd h.1 (by simp)
  · exact absurd h (by simp)

/-- the same of an operation that yields nothing -/
def NonePost (n : Nat) (Ψ : World → Prop) : Exit → Act → World → Prop := fun e a w => e = .normal ∧ a.defers.length = n ∧ Ψ w
theorem gives_of_wpList0 {ops : Array Oper} {o : Oper} {a : Act} {w : World} {Ψ : World → Prop} (hw : Region.wanted o (yielded ops a.tmps) = true) (hd : o.dst = none)
    (h : wpList P ops (NonePost a.defers.length Ψ) [o] a w) : Oper.gives P o a w (fun _ w' => Ψ w') := by
  unfold wpList at h
  rw [if_pos hw] at h
  rcases h with h | ⟨_, a', w', h, _⟩
  · unfold Oper.wp at h
    unfold Oper.gives
    generalize (execOp a.eval o).run P w = r at *
    cases r with
    | ok n w' =>
      cases n <;> simp only [Oper.upon, wpList, hd] at h ⊢
      case value v => exact h.2.2
      case skip => exact h.2.2
      case defer d' => have := h.2.1; simp [Act.put] at this
      case enter f args =>
        refine Calls.mono h fun e w'' he => ?_
        cases e with
        | returned v => exact he.2.2
        | panicked c => exact absurd he.1 (by simp)
        | outgrown => obtain ⟨_, _, h, _⟩ := he; exact absurd h (by simp)
      case row row args => exact Rows.mono h fun v w'' he => he.2.2
    | halt x w' =>
      cases x <;> simp only [Oper.upon] at h
      exact absurd h.1 (by simp)
  · exact absurd h (by simp)

theorem gives_mono {o : Oper} {a : Act} {w : World} {Ψ Ψ' : Value → World → Prop} (h : Oper.gives P o a w Ψ) (hi : ∀ v w', Ψ v w' → Ψ' v w') : Oper.gives P o a w Ψ' := by
  unfold Oper.gives at *
  generalize (execOp a.eval o).run P w = r at *
  cases r with
  | ok n w' =>
    cases n <;> simp only at h ⊢
    case value v => exact hi _ _ h
    case skip => exact hi _ _ h
    case enter f args => exact Calls.mono h fun e w'' he => by cases e <;> first | exact hi _ _ he | exact he
    case row row args => exact Rows.mono h fun v w'' he => hi _ _ he
  | halt x w' => exact h

theorem wp_of_gives {o : Oper} {a a' : Act} {w : World} {K : Act → World → Prop} {Q : Exit → Act → World → Prop} (he : execOp a'.eval o = execOp a.eval o)
    (h : Oper.gives P o a w fun v w' => K (a'.put o.dst v) w') : o.wp P a' w K Q := by
  unfold Oper.gives at h
  unfold Oper.wp
  rw [he]
  generalize (execOp a.eval o).run P w = r at *
  cases r with
  | ok n w' =>
    cases n <;> simp only [Oper.upon] at h ⊢
    case value v => exact h
    case skip => exact h
    case enter f args => exact Calls.mono h fun e w'' he => by cases e <;> first | exact he | exact False.elim he
    case row row args => exact h
  | halt x w' => exact False.elim h

theorem putList_size (ops : Array Oper) (a0 : Act) (f : Nat → Value) (l : List Nat) : (putList ops a0 f l).tmps.size = a0.tmps.size := by
  induction l with
  | nil => rfl
  | cons j l ih => unfold putList Act.put; split <;> simp [ih]
theorem putList_defers (ops : Array Oper) (a0 : Act) (f : Nat → Value) (l : List Nat) : (putList ops a0 f l).defers = a0.defers := by
  induction l with
  | nil => rfl
  | cons j l ih => unfold putList Act.put; split <;> simp [ih]
theorem putList_other {ops : Array Oper} {a0 : Act} {f : Nat → Value} {t : Tmp} {l : List Nat} (h : ∀ j, j ∈ l → dstOf ops j ≠ some t) : (putList ops a0 f l).tmps.getD t undef = a0.tmps.getD t undef := by
  induction l with
  | nil => rfl
  | cons j l ih =>
    have ih := ih fun k hk => h k (by simp [hk])
    unfold putList Act.put
    cases hd : dstOf ops j with
    | none => exact ih
    | some d =>
      have hne : d ≠ t := fun e => h j (by simp) (by rw [hd, e])
      simp only
      rw [← ih]
      simp [Array.getD_eq_getD_getElem?, Array.getElem?_setIfInBounds_ne hne]
theorem putList_at {ops : Array Oper} {a0 : Act} {f : Nat → Value} {t : Tmp} {l : List Nat} {i : Nat} (hi : i ∈ l) (hd : dstOf ops i = some t) (hs : t < a0.tmps.size)
    (hu : ∀ j, j ∈ l → dstOf ops j = some t → j = i) : (putList ops a0 f l).tmps.getD t undef = f i := by
  induction l with
  | nil => simp at hi
  | cons j l ih =>
    by_cases hj : dstOf ops j = some t
    · obtain rfl := hu j (by simp) hj
      unfold putList
      rw [hj]
      exact put_getD (by rw [putList_size]; exact hs)
    · have hil : i ∈ l := by
        rcases List.mem_cons.1 hi with h | h
        · exact absurd (h ▸ hd) hj
        · exact h
      have ih := ih hil fun k hk => hu k (by simp [hk])
      unfold putList Act.put
      cases hd' : dstOf ops j with
      | none => exact ih
      | some d =>
        have hne : d ≠ t := fun e => hj (by rw [hd', e])
        simp only
        rw [← ih]
        simp [Array.getD_eq_getD_getElem?, Array.getElem?_setIfInBounds_ne hne]

/-- what has been done, at a place of the schedule; operation s is the one that may write -/
structure Sofar (ops : Array Oper) (a0 : Act) (R1 R2 : World → Prop) (s : Nat) (Φ : Nat → World → Value → Prop) (listed : Array Bool) (f : Nat → Value) (a : Act) (w : World) : Prop where
  len : listed.size = ops.size
  size : a.tmps.size = a0.tmps.size
  defers : a.defers = a0.defers
  val : ∀ j d, listed.getD j false = true → dstOf ops j = some d → a.tmps.getD d undef = f j
  old : ∀ t, (∀ j, listed.getD j false = true → dstOf ops j ≠ some t) → a.tmps.getD t undef = a0.tmps.getD t undef
  holds : ∀ j, listed.getD j false = true → Φ j w (f j)
  one : listed.getD s false = false → R1 w
  two : R2 w
  closed : ∀ j, listed.getD j false = true → ∀ e ∈ depsOf ops j, listed.getD e false = true

variable {ops : Array Oper} {a0 : Act} {R1 R2 : World → Prop} {S : World → World → Prop} {Φ : Nat → World → Value → Prop} {m s : Nat}

theorem fits_at (hfit : regionFits ops a0.tmps.size m = true) {i : Nat} {o : Oper} (hi : ops[i]? = some o) : opFits ops a0.tmps.size i o = true := by
  unfold regionFits at hfit
  rw [Bool.and_eq_true, List.all_eq_true] at hfit
  have h := hfit.1 i (by simp; exact (Array.getElem?_eq_some_iff.1 hi).1)
  rw [hi] at h
  exact h
theorem dst_lt (hfit : regionFits ops a0.tmps.size m = true) {i : Nat} {d : Tmp} (hd : dstOf ops i = some d) : d < a0.tmps.size ∧ i < ops.size ∧ ∀ j, j < i → dstOf ops j ≠ some d := by
  unfold dstOf at hd
  cases ho : ops[i]? with
  | none => rw [ho] at hd; simp at hd
  | some o =>
    rw [ho] at hd
    have hd : o.dst = some d := by simpa using hd
    have h := fits_at hfit ho
    unfold opFits at h
    simp only [Bool.and_eq_true, hd, Option.all_some, decide_eq_true_eq, List.all_eq_true, List.mem_range, bne_iff_ne] at h
    exact ⟨h.1.2.1, (Array.getElem?_eq_some_iff.1 ho).1, h.1.2.2⟩
theorem dst_inj (hfit : regionFits ops a0.tmps.size m = true) {i j : Nat} {d : Tmp} (hi : dstOf ops i = some d) (hj : dstOf ops j = some d) : i = j := by
  rcases Nat.lt_trichotomy i j with h | h | h
  · exact absurd hi ((dst_lt hfit hj).2.2 i h)
  · exact h
  · exact absurd hj ((dst_lt hfit hi).2.2 j h)

theorem ready_of {listed : Array Bool} {i : Nat} (h : i ∈ Region.ready .any ops listed) : listed.getD i true = false ∧ ∃ o, ops[i]? = some o ∧ ∀ e ∈ depsOf ops i, listed.getD e false = true := by
  obtain ⟨h0, o, ho, hd⟩ := mem_ready.1 h
  refine ⟨h0, o, ho, fun e he => ?_⟩
  unfold depsOf at he
  rw [ho] at he
  simp only [List.mem_map, List.mem_filter] at he
  obtain ⟨x, ⟨hx, hb⟩, rfl⟩ := he
  exact hd x (by simpa using hx) hb

theorem unlisted_false {listed : Array Bool} {i : Nat} (h : listed.getD i true = false) : listed.getD i false = false := by
  by_cases hi : i < listed.size
  · simpa [Array.getD, hi] using h
  · simp [Array.getD, hi] at h

/-- the frame of an operation whose turn it is: as if only those that it depends on had been carried out -/
theorem Sofar.eval {listed : Array Bool} {f : Nat → Value} {a : Act} {w : World} (h : Sofar ops a0 R1 R2 s Φ listed f a w) (hfit : regionFits ops a0.tmps.size m = true) {i : Nat} {o : Oper} (ho : ops[i]? = some o)
    (hun : listed.getD i false = false) (hdeps : ∀ e ∈ depsOf ops i, listed.getD e false = true) :
    execOp a.eval o = execOp (putList ops a0 f (depsOf ops i)).eval o ∧ Region.wanted o (yielded ops a.tmps) = Region.wanted o (yielded ops (putList ops a0 f (depsOf ops i)).tmps) := by
  have hf := fits_at hfit ho
  unfold opFits at hf
  simp only [Bool.and_eq_true] at hf
  obtain ⟨⟨⟨⟨hsel, hlt⟩, hg⟩, hdst⟩, hop⟩ := hf
  have key : ∀ t, (∀ j, dstOf ops j = some t → j = i ∨ j ∈ depsOf ops i ∨ i ∈ depsOf ops j) → a.tmps.getD t undef = (putList ops a0 f (depsOf ops i)).tmps.getD t undef := by
    intro t ht
    by_cases hx : ∃ j, listed.getD j false = true ∧ dstOf ops j = some t
    · obtain ⟨j, hj, hjd⟩ := hx
      rw [h.val j t hj hjd]
      rcases ht j hjd with e | e | e
      · subst e; rw [hun] at hj; simp at hj
      · exact (putList_at e hjd (dst_lt hfit hjd).1 fun k _ hk => dst_inj hfit hk hjd).symm
      · have := h.closed j hj i e; rw [hun] at this; simp at this
    · rw [h.old t fun j hj hjd => hx ⟨j, hj, hjd⟩, putList_other fun j hj hjd => hx ⟨j, hdeps j hj, hjd⟩]
  refine ⟨execOp_congr o (fun cs b e => by rw [e] at hsel; simp at hsel) fun x hx => ?_, ?_⟩
  · cases x with
    | tmp t =>
      have h1 := Array.all_eq_true_iff_forall_mem.1 hop (.tmp t) hx
      simp only [List.all_eq_true, List.mem_range, Bool.or_eq_true, bne_iff_ne, beq_iff_eq, List.contains_iff_mem] at h1
      refine key t fun j hj => ?_
      rcases h1 j (dst_lt hfit hj).2.1 with ((h2 | h2) | h2) | h2
      · exact absurd hj h2
      · exact .inl h2
      · exact .inr (.inl h2)
      · exact .inr (.inr h2)
    | _ => rfl
  · unfold Region.wanted
    cases hgd : o.guard with
    | none => rfl
    | some gw =>
      obtain ⟨g, want⟩ := gw
      rw [hgd] at hg
      have hgm : g ∈ depsOf ops i := by simpa using hg
      have : yielded ops a.tmps g = yielded ops (putList ops a0 f (depsOf ops i)).tmps g := by
        unfold yielded
        cases hgd' : (ops[g]?).bind (·.dst) with
        | none => rfl
        | some d =>
          have hgd'' : dstOf ops g = some d := hgd'
          have hs := (dst_lt hfit hgd'').1
          have e := key d fun j hj => by rw [dst_inj hfit hj hgd'']; exact .inr (.inl hgm)
          have s1 : d < a.tmps.size := by rw [h.size]; exact hs
          have s2 : d < (putList ops a0 f (depsOf ops i)).tmps.size := by rw [putList_size]; exact hs
          simp only [Array.getD, s1, s2, dif_pos] at e
          simp only [Option.bind_some, Array.getElem?_eq_getElem s1, Array.getElem?_eq_getElem s2]
          have e' : a.tmps[d] = (putList ops a0 f (depsOf ops i)).tmps[d] := e
          rw [e']
      simp only [this]

theorem Sofar.next {listed : Array Bool} {f : Nat → Value} {a : Act} {w w' : World} {v : Value} (h : Sofar ops a0 R1 R2 s Φ listed f a w) (hfit : regionFits ops a0.tmps.size m = true)
    {i : Nat} {o : Oper} (ho : ops[i]? = some o) (hdeps : ∀ e ∈ depsOf ops i, listed.getD e false = true) (h1 : i ≠ s → listed.getD s false = false → R1 w') (h2 : R2 w')
    (hpres : ∀ j u, j ≠ i → Φ j w u → Φ j w' u) (hv : Φ i w' v) :
    Sofar ops a0 R1 R2 s Φ (listed.setIfInBounds i true) (fun j => if j = i then v else f j) (a.put o.dst v) w' := by
  have hil : i < listed.size := by rw [h.len]; exact (Array.getElem?_eq_some_iff.1 ho).1
  have hset : ∀ j, (listed.setIfInBounds i true).getD j false = true ↔ j = i ∨ listed.getD j false = true := by
    intro j
    by_cases e : j = i
    · subst e; simp [Array.getD, hil]
    · simp only [e, false_or]
      rw [getD_set_ne false (fun x => e x.symm)]
  have hdo : dstOf ops i = o.dst := by simp [dstOf, ho]
  refine ⟨by simp [h.len], ?_, ?_, ?_, ?_, ?_, ?_, h2, ?_⟩
  · unfold Act.put; split <;> simp [h.size]
  · unfold Act.put; split <;> simp [h.defers]
  · intro j d hj hd
    by_cases e : j = i
    · subst e
      rw [hdo] at hd
      rw [hd, if_pos rfl]
      exact put_getD (by rw [h.size]; exact (dst_lt hfit (by rw [hdo]; exact hd)).1)
    · rw [if_neg e]
      have hj' := ((hset j).1 hj).resolve_left e
      rw [← h.val j d hj' hd]
      unfold Act.put
      cases hdd : o.dst with
      | none => rfl
      | some d' =>
        have hne : d' ≠ d := fun x => e (dst_inj hfit hd (by rw [hdo, hdd, x]))
        simp [Array.getD_eq_getD_getElem?, Array.getElem?_setIfInBounds_ne hne]
  · intro t ht
    rw [← h.old t fun j hj => ht j ((hset j).2 (.inr hj))]
    have hi := ht i ((hset i).2 (.inl rfl))
    rw [hdo] at hi
    unfold Act.put
    cases hdd : o.dst with
    | none => rfl
    | some d' =>
      have hne : d' ≠ t := fun x => hi (by rw [hdd, x])
      simp [Array.getD_eq_getD_getElem?, Array.getElem?_setIfInBounds_ne hne]
  · intro j hj
    by_cases e : j = i
    · subst e; simpa using hv
    · simp only [if_neg e]
      exact hpres _ _ e (h.holds j (((hset j).1 hj).resolve_left e))
  · intro hs
    have hne : i ≠ s := fun e => by rw [(hset s).2 (.inl e.symm)] at hs; simp at hs
    refine h1 hne ?_
    cases hl : listed.getD s false with
    | false => rfl
    | true => rw [(hset s).2 (.inr hl)] at hs; simp at hs
  · intro j hj e he
    rcases (hset j).1 hj with x | x
    · subst x; exact (hset e).2 (.inr (hdeps e he))
    · exact (hset e).2 (.inr (h.closed j x e he))

theorem Sofar.full {listed : Array Bool} {f : Nat → Value} {a : Act} {w : World} (h : Sofar ops a0 R1 R2 s Φ listed f a w) (hfit : regionFits ops a0.tmps.size m = true) {k : Nat} (hk : ∀ j, listed.getD j false = true ↔ j < k) :
    a = putList ops a0 f (List.range k) := by
  obtain ⟨tm, df⟩ := a
  have e1 : df = (putList ops a0 f (List.range k)).defers := by rw [putList_defers]; exact h.defers
  have e2 : tm = (putList ops a0 f (List.range k)).tmps := by
    apply Array.ext
    · rw [putList_size]; exact h.size
    · intro t h1 h2
      have key : tm.getD t undef = (putList ops a0 f (List.range k)).tmps.getD t undef := by
        by_cases hx : ∃ j, j < k ∧ dstOf ops j = some t
        · obtain ⟨j, hj, hjd⟩ := hx
          rw [h.val j t ((hk j).2 hj) hjd]
          exact (putList_at (by simpa using hj) hjd (dst_lt hfit hjd).1 fun i _ hi => dst_inj hfit hi hjd).symm
        · rw [h.old t fun j hj hjd => hx ⟨j, (hk j).1 hj, hjd⟩, putList_other fun j hj hjd => hx ⟨j, by simpa using hj, hjd⟩]
      simpa [Array.getD, h1, h2] using key
  rw [e1, e2]

theorem reach_listed {listed : Array Bool} (hc : ∀ j, listed.getD j false = true → ∀ e ∈ depsOf ops j, listed.getD e false = true) {i : Nat} (hd : ∀ e ∈ depsOf ops i, listed.getD e false = true) :
    ∀ e ∈ reachAt ops i, listed.getD e false = true := by
  unfold reachAt
  generalize (List.range i).reverse = l
  have key : ∀ (l : List Nat) (s : List Nat), (∀ e ∈ s, listed.getD e false = true) → ∀ e ∈ l.foldl (fun s j => if s.contains j then depsOf ops j ++ s else s) s, listed.getD e false = true := by
    intro l
    induction l with
    | nil => intro s hs; exact hs
    | cons j l ih =>
      intro s hs
      simp only [List.foldl_cons]
      apply ih
      split
      · rename_i hj
        intro e he
        rcases List.mem_append.1 he with h | h
        · exact hc j (hs j (by simpa using hj)) e h
        · exact hs e h
      · exact hs
  exact key l _ hd

theorem ready_tail (hfit : regionFits ops a0.tmps.size m = true) {listed : Array Bool} (hc : ∀ j, listed.getD j false = true → ∀ e ∈ depsOf ops j, listed.getD e false = true) {i : Nat} (hi : i ∈ Region.ready .any ops listed) (hm : m ≤ i) :
    ∀ j, j < i → listed.getD j false = true := by
  obtain ⟨_, o, ho, hd⟩ := ready_of hi
  unfold regionFits at hfit
  rw [Bool.and_eq_true, List.all_eq_true, List.all_eq_true] at hfit
  have h := hfit.2 i (by simp; exact (Array.getElem?_eq_some_iff.1 ho).1)
  simp only [Bool.or_eq_true, decide_eq_true_eq, List.all_eq_true, List.mem_range, List.contains_iff_mem] at h
  intro j hj
  exact reach_listed hc hd j ((h.resolve_left (by omega)) j hj)

/-- from the tail on there is one order -/
theorem any_tail (hfit : regionFits ops a0.tmps.size m = true) {Q : Exit → Act → World → Prop} : ∀ (fuel k : Nat) (listed : Array Bool) (a : Act) (w : World), ops.size - k ≤ fuel → m ≤ k → listed.size = ops.size →
    (∀ j, listed.getD j false = true ↔ j < k) → k ≤ ops.size → wpOps P ops Q (List.range' k (ops.size - k)) a w → wpAny P .any ops Q fuel listed a w := by
  intro fuel
  have closed : ∀ (k : Nat) (listed : Array Bool), (∀ j, listed.getD j false = true ↔ j < k) → k ≤ ops.size → ∀ j, listed.getD j false = true → ∀ e ∈ depsOf ops j, listed.getD e false = true := by
    intro k listed hk hks j hj e he
    have hjk := (hk j).1 hj
    have ho : ops[j]? = some (ops[j]'(by omega)) := Array.getElem?_eq_getElem (by omega)
    have hf := fits_at hfit ho
    unfold opFits at hf
    simp only [Bool.and_eq_true] at hf
    have := List.all_eq_true.1 hf.1.1.1.2 e he
    simp only [decide_eq_true_eq] at this
    exact (hk e).2 (by omega)
  have rdy : ∀ (k : Nat) (listed : Array Bool), (∀ j, listed.getD j false = true ↔ j < k) → k ≤ ops.size → m ≤ k → listed.size = ops.size → ∀ i ∈ Region.ready .any ops listed, i = k := by
    intro k listed hk hks hm hl i hi
    obtain ⟨h0, o, ho, hd⟩ := ready_of hi
    have h1 := unlisted_false h0
    have hik : k ≤ i := by
      rcases Nat.lt_or_ge i k with h | h
      · rw [(hk i).2 h] at h1; simp at h1
      · exact h
    have := ready_tail hfit (closed k listed hk hks) hi (by omega)
    rcases Nat.lt_or_ge k i with h | h
    · exact absurd ((hk k).1 (this k h)) (by omega)
    · omega
  induction fuel with
  | zero =>
    intro k listed a w hf hm hl hk hks h
    have e : ops.size - k = 0 := by omega
    rw [e] at h
    refine ⟨?_, h⟩
    apply List.eq_nil_iff_forall_not_mem.2
    intro i hi
    have hik := rdy k listed hk hks hm hl i hi
    obtain ⟨_, o, ho, _⟩ := ready_of hi
    have := (Array.getElem?_eq_some_iff.1 ho).1
    omega
  | succ fuel ih =>
    intro k listed a w hf hm hl hk hks h
    refine ⟨fun h0 => ?_, fun i hi => ?_⟩
    · -- nothing is ready: the end
      have e : k = ops.size := by
        rcases Nat.lt_or_ge k ops.size with hlt | hge
        · have : k ∈ Region.ready .any ops listed := by
            apply mem_ready.2
            have ho : ops[k]? = some (ops[k]'hlt) := Array.getElem?_eq_getElem hlt
            refine ⟨?_, _, ho, fun e he hb => ?_⟩
            · have h1 : ¬ listed.getD k false = true := fun x => absurd ((hk k).1 x) (by omega)
              have hkl : k < listed.size := by omega
              simpa [Array.getD, hkl] using h1
            · have hf := fits_at hfit ho
              unfold opFits at hf
              simp only [Bool.and_eq_true] at hf
              have hm' : e.on ∈ depsOf ops k := by
                unfold depsOf; rw [ho]
                exact List.mem_map.2 ⟨e, List.mem_filter.2 ⟨by simpa using he, hb⟩, rfl⟩
              have := List.all_eq_true.1 hf.1.1.1.2 _ hm'
              simp only [decide_eq_true_eq] at this
              exact (hk _).2 this
          rw [h0] at this; simp at this
        · omega
      rw [e, Nat.sub_self] at h
      exact h
    · have hik := rdy k listed hk hks hm hl i hi
      subst hik
      obtain ⟨_, o, ho, _⟩ := ready_of hi
      have hlt := (Array.getElem?_eq_some_iff.1 ho).1
      have e : ops.size - i = (ops.size - (i + 1)) + 1 := by omega
      rw [e, List.range'_succ, wpOps_cons] at h
      refine wpOp_mono (fun a w h => ih (i + 1) _ a w (by omega) (by omega) (by simpa using hl) (fun j => ?_) (by omega) h) h
      by_cases x : j = i
      · subst x; simp [Array.getD, hl, hlt]
      · rw [getD_set_ne false (fun y => x y.symm), hk j]
        omega

theorem wpOps_tail {Q : Exit → Act → World → Prop} {a : Act} {w : World} {k : Nat} (h : wpList P ops Q (ops.toList.drop k) a w) : wpOps P ops Q (List.range' k (ops.size - k)) a w := by
  have e := wpOps_eq_wpList (P := P) (ops := ops) (Q := Q) (ops.toList.drop k) k (fun j => by rw [List.getElem?_drop]; simp)
  rw [List.length_drop, Array.length_toList] at e
  rw [e]; exact h

def unlistedCount (listed : Array Bool) (n : Nat) : Nat := (List.range n).countP fun j => listed.getD j false = false

theorem unlisted_set {listed : Array Bool} {n i : Nat} (hi : i < n) (hl : listed.size = n) (hu : listed.getD i false = false) : unlistedCount (listed.setIfInBounds i true) n + 1 ≤ unlistedCount listed n := by
  have key : ∀ (l : List Nat), l.Nodup → (l.countP fun j => (listed.setIfInBounds i true).getD j false = false) + (if i ∈ l then 1 else 0) = l.countP fun j => listed.getD j false = false := by
    intro l
    induction l with
    | nil => intro _; simp
    | cons x l ih =>
      intro hn
      rw [List.nodup_cons] at hn
      have ih := ih hn.2
      by_cases e : x = i
      · subst e
        have h1 : (listed.setIfInBounds x true).getD x false = true := by simp [Array.getD, hl, hi]
        rw [List.countP_cons, List.countP_cons, h1, hu, if_neg hn.1] at *
        simp at ih ⊢
        omega
      · have h1 : (listed.setIfInBounds i true).getD x false = listed.getD x false := getD_set_ne false (fun y => e y.symm)
        rw [List.countP_cons, List.countP_cons, h1]
        have : (i ∈ x :: l) ↔ i ∈ l := by rw [List.mem_cons]; exact ⟨fun h => h.resolve_left fun y => e y.symm, .inr⟩
        simp only [this]
        omega
  have := key (List.range n) List.nodup_range
  rw [if_pos (by simpa using hi)] at this
  unfold unlistedCount
  omega

/-- THE RULE: what each operation gives in whatever world extends the first, told by predicates that last; one operation (s) may write; then the tail, in the text's order. -/
theorem wp_region_inv {id : Nat} {Q : Exit → Act → World → Prop} {w : World} (s : Nat) (n : Nat) (hm : P.follows .mixedOrders = true) (hsz : ops.size = n) (hmn : m ≤ n) (hfit : regionFits ops a0.tmps.size m = true)
    (h0 : R1 w.drew) (h12 : ∀ w, R1 w → R2 w) (hS1 : ∀ w w', R1 w → S w w' → R1 w') (hS2 : ∀ w w', R2 w → S w w' → R2 w') (hmono : ∀ j w w' v, S w w' → Φ j w v → Φ j w' v)
    (hop : ∀ i, i < m → i ≠ s → ∀ o, ops[i]? = some o → ∀ (f : Nat → Value) (w' : World), R2 w' → (∀ j ∈ depsOf ops i, Φ j w' (f j)) →
      (if Region.wanted o (yielded ops (putList ops a0 f (depsOf ops i)).tmps) then Oper.gives P o (putList ops a0 f (depsOf ops i)) w' (fun v w'' => S w' w'' ∧ Φ i w'' v) else Φ i w' undef))
    (hsp : s < m → ∀ o, ops[s]? = some o → ∀ (f : Nat → Value) (w' : World), R1 w' → (∀ j ∈ depsOf ops s, Φ j w' (f j)) →
      (if Region.wanted o (yielded ops (putList ops a0 f (depsOf ops s)).tmps) then Oper.gives P o (putList ops a0 f (depsOf ops s)) w' (fun v w'' => R2 w'' ∧ Φ s w'' v ∧ ∀ j u, j ≠ s → Φ j w' u → Φ j w'' u) else Φ s w' undef))
    (hend : ∀ (f : Nat → Value) (w' : World), R2 w' → (∀ j, j < m → Φ j w' (f j)) → wpList P ops Q (ops.toList.drop m) (putList ops a0 f (List.range m)) w') :
    (Code.region id ops true).wp P Q a0 w := by
  apply wp_region_any hm
  have main : ∀ (fuel : Nat) (listed : Array Bool) (f : Nat → Value) (a : Act) (w' : World), unlistedCount listed ops.size ≤ fuel → (∀ j, m ≤ j → listed.getD j false = false) → Sofar ops a0 R1 R2 s Φ listed f a w' →
      wpAny P .any ops Q fuel listed a w' := by
    intro fuel
    induction fuel with
    | zero =>
      intro listed f a w' hc ht h
      have hall : ∀ j, j < ops.size → listed.getD j false = true := by
        intro j hj
        have h0 : unlistedCount listed ops.size = 0 := by omega
        unfold unlistedCount at h0
        rw [List.countP_eq_zero] at h0
        have := h0 j (by simpa using hj)
        simpa using this
      have hms : m = ops.size := by
        rcases Nat.lt_or_ge m ops.size with hlt | hge
        · have h1 := hall m hlt; rw [ht m (Nat.le_refl _)] at h1; simp at h1
        · omega
      have hk : ∀ j, listed.getD j false = true ↔ j < m := by
        intro j
        constructor
        · intro hj
          rcases Nat.lt_or_ge j m with hlt | hge
          · exact hlt
          · rw [ht j hge] at hj; simp at hj
        · intro hj; exact hall j (by omega)
      have e := h.full hfit hk
      refine any_tail hfit 0 m listed a w' (by omega) (Nat.le_refl _) h.len hk (by omega) (wpOps_tail ?_)
      rw [e]
      exact hend f w' h.two fun j hj => h.holds j ((hk j).2 hj)
    | succ fuel ih =>
      intro listed f a w' hc ht h
      have stepTail : (∀ j, j < m → listed.getD j false = true) → wpAny P .any ops Q (fuel + 1) listed a w' := by
        intro hall
        have hk : ∀ j, listed.getD j false = true ↔ j < m := by
          intro j
          constructor
          · intro hj
            rcases Nat.lt_or_ge j m with hlt | hge
            · exact hlt
            · rw [ht j hge] at hj; simp at hj
          · intro hj; exact hall j hj
        have e := h.full hfit hk
        have hcount : ops.size - m ≤ unlistedCount listed ops.size := by
          unfold unlistedCount
          have : List.range ops.size = List.range m ++ List.range' m (ops.size - m) := by
            have h1 := @List.range'_append_1 0 m (ops.size - m)
            rw [Nat.zero_add, show m + (ops.size - m) = ops.size from by omega] at h1
            rw [List.range_eq_range', List.range_eq_range', h1]
          rw [this, List.countP_append]
          have : (List.range' m (ops.size - m)).countP (fun j => decide (listed.getD j false = false)) = (List.range' m (ops.size - m)).length := by
            rw [List.countP_eq_length]
            intro j hj
            rw [List.mem_range'_1] at hj
            simp only [decide_eq_true_eq]
            exact ht j hj.1
          rw [this, List.length_range']
          omega
        refine any_tail hfit (fuel + 1) m listed a w' (by omega) (Nat.le_refl _) h.len hk (by omega) (wpOps_tail ?_)
        rw [e]
        exact hend f w' h.two fun j hj => h.holds j ((hk j).2 hj)
      by_cases hall : ∀ j, j < m → listed.getD j false = true
      · exact stepTail hall
      · have hfree : ∀ i ∈ Region.ready .any ops listed, i < m := by
          intro i hi
          rcases Nat.lt_or_ge i m with hlt | hge
          · exact hlt
          · exact absurd (fun j hj => ready_tail hfit h.closed hi hge j (by omega)) hall
        refine ⟨fun h0 => ?_, fun i hi => ?_⟩
        · -- the least one that is not listed is ready
          exfalso
          apply hall
          intro j
          induction j using Nat.strongRecOn with
          | _ j ihj =>
            intro hj
            cases hl : listed.getD j false with
            | true => rfl
            | false =>
              exfalso
              have hjs : j < ops.size := by omega
              have ho : ops[j]? = some (ops[j]'hjs) := Array.getElem?_eq_getElem hjs
              have : j ∈ Region.ready .any ops listed := by
                apply mem_ready.2
                refine ⟨?_, _, ho, fun e he hb => ?_⟩
                · have hjl : j < listed.size := by rw [h.len]; exact hjs
                  simpa [Array.getD, hjl] using hl
                · have hf := fits_at hfit ho
                  unfold opFits at hf
                  simp only [Bool.and_eq_true] at hf
                  have hm' : e.on ∈ depsOf ops j := by
                    unfold depsOf; rw [ho]
                    exact List.mem_map.2 ⟨e, List.mem_filter.2 ⟨by simpa using he, hb⟩, rfl⟩
                  have := List.all_eq_true.1 hf.1.1.1.2 _ hm'
                  simp only [decide_eq_true_eq] at this
                  exact ihj _ this (by omega)
              rw [h0] at this; simp at this
        · obtain ⟨h0, o, ho, hd⟩ := ready_of hi
          have hun := unlisted_false h0
          have him := hfree i hi
          have hlt := (Array.getElem?_eq_some_iff.1 ho).1
          obtain ⟨he, hw⟩ := h.eval hfit ho hun hd
          have hcnt := unlisted_set hlt h.len hun
          by_cases his : i = s
          · subst his
            have hg := hsp him o ho f w' (h.one hun) fun j hj => h.holds j (hd j hj)
            unfold wpOp
            simp only [ho]
            rw [hw]
            by_cases hwt : Region.wanted o (yielded ops (putList ops a0 f (depsOf ops i)).tmps) = true
            · rw [if_pos hwt] at hg ⊢
              exact .inl (wp_of_gives he (gives_mono hg fun v w'' ⟨hr, hv, hp⟩ => ih _ _ _ _ (by omega) (fun j hj => by rw [getD_set_ne false (by omega)]; exact ht j hj) (h.next hfit ho hd (fun x => absurd rfl x) hr hp hv)))
            · rw [if_neg hwt] at hg ⊢
              exact ih _ _ _ _ (by omega) (fun j hj => by rw [getD_set_ne false (by omega)]; exact ht j hj) (h.next hfit ho hd (fun x => absurd rfl x) h.two (fun _ _ _ x => x) hg)
          · have hg := hop i him his o ho f w' h.two fun j hj => h.holds j (hd j hj)
            unfold wpOp
            simp only [ho]
            rw [hw]
            by_cases hwt : Region.wanted o (yielded ops (putList ops a0 f (depsOf ops i)).tmps) = true
            · rw [if_pos hwt] at hg ⊢
              exact .inl (wp_of_gives he (gives_mono hg fun v w'' ⟨hr, hv⟩ => ih _ _ _ _ (by omega) (fun j hj => by rw [getD_set_ne false (by omega)]; exact ht j hj)
                (h.next hfit ho hd (fun _ hl => hS1 _ _ (h.one hl) hr) (hS2 _ _ h.two hr) (fun j u _ x => hmono j _ _ u hr x) hv)))
            · rw [if_neg hwt] at hg ⊢
              exact ih _ _ _ _ (by omega) (fun j hj => by rw [getD_set_ne false (by omega)]; exact ht j hj) (h.next hfit ho hd (fun _ hl => h.one hl) h.two (fun _ _ _ x => x) hg)
  refine main ops.size _ (fun _ => undef) a0 w.drew ?_ ?_ ⟨by simp, rfl, rfl, ?_, fun _ _ => rfl, ?_, fun _ => h0, h12 _ h0, ?_⟩
  · unfold unlistedCount
    exact Nat.le_trans List.countP_le_length (by simp)
  · intro j _; simp [Array.getD]
  · intro j d hj; simp [Array.getD] at hj
  · intro j hj; simp [Array.getD] at hj
  · intro j hj; simp [Array.getD] at hj
end
end Go.Proofs.Ytkghgdkkholieaa.Iv
/-
  The rule for drawn regions in the form in which it is used: what is known of each operation's value stands in one list.
-/


namespace Go.Proofs.Ytkghgdkkholieaa.Iv
open Go.RowKit

/-- the world has grown, nothing that was there has turned -/
abbrev Ext (w w' : World) : Prop := Below w.heap.size w w'
theorem Ext.refl (w : World) : Ext w w := Below.refl _ _
theorem Ext.trans {a b c : World} (h : Ext a b) (k : Ext b c) : Ext a c := Below.trans h (k.mono h.size)
theorem Ext.drew {a b : World} (h : Ext a.drew b) : Ext a b := ⟨h.os, h.tape, h.output, h.size, h.block⟩

theorem Ext.alloc (w : World) (o : Obj) : Ext w (w.alloc o) := (Below.refl _ _).alloc (Nat.le_refl _) _
theorem Ext.cell' {w w' : World} (h : Ext w w') {p : Addr} (hp : p.block < w.heap.size) : w'.cell? p = w.cell? p := Below.cell h hp
theorem Ext.frozen {w w' : World} (h : Ext w w') {p : Addr} {v : Value} (hc : w.cell? p = some v) (hf : w.frozen? p = false) : w'.frozen? p = false := by
  rw [Below.frozen h (World.block_lt_of_cell? w _ hc)]; exact hf
theorem Ext.set {w w' : World} (h : Ext w w') {p : Addr} (hp : w.heap.size ≤ p.block) (u : Value) : Ext w (w'.setCell p u) := Below.setCell h hp u
theorem Ext.cell {w w' : World} (h : Ext w w') {p : Addr} {v : Value} (hc : w.cell? p = some v) : w'.cell? p = some v := by
  rw [Below.cell h (World.block_lt_of_cell? w _ hc)]; exact hc

theorem set_same {w : World} {p : Addr} {u v : Value} (h : w.cell? p = some u) : (w.setCell p v).cell? p = some v := World.cell?_setCell_same _ _ _ h
theorem set_other {w : World} {p q : Addr} {v x : Value} (h : w.cell? q = some x) (hne : p ≠ q) : (w.setCell p v).cell? q = some x := by rw [World.cell?_setCell_other _ _ _ _ hne]; exact h

/-- what is known of a value; it lasts as the world grows -/
structure Know where
  p : World → Value → Prop
  mono : ∀ w w' v, Ext w w' → p w v → p w' v

def Is (x : Value) : Know := ⟨fun _ v => v = x, fun _ _ _ _ h => h⟩
def Any : Know := ⟨fun _ _ => True, fun _ _ _ _ h => h⟩
def phi (Ks : List Know) (j : Nat) (w : World) (v : Value) : Prop := (Ks.getD j Any).p w v
theorem phi_mono (Ks : List Know) (j : Nat) (w w' : World) (v : Value) (h : Ext w w') (hv : phi Ks j w v) : phi Ks j w' v := (Ks.getD j Any).mono w w' v h hv

/-- the world has grown, nothing that was there has turned but for the blocks of L -/
structure ExtL (L : List Nat) (w w' : World) : Prop where
  os : w'.os = w.os
  tape : w'.tape = w.tape
  output : w'.output = w.output
  size : w.heap.size ≤ w'.heap.size
  block : ∀ k, k < w.heap.size → k ∉ L → w'.heap[k]? = w.heap[k]?
theorem Ext.extL {L : List Nat} {w w' : World} (h : Ext w w') : ExtL L w w' := ⟨h.os, h.tape, h.output, h.size, fun k hk _ => h.block k hk⟩
theorem ExtL.of_grown {L : List Nat} {w w' : World} {row : Option Nat} (h : w.grownBy w' row) (hr : ∀ k, row = some k → k ∈ L) : ExtL L w w' :=
  ⟨h.os, h.tape, h.output, h.size, fun k hk hn => h.block k hk fun e => hn (hr k e.symm)⟩
theorem ExtL.refl (L : List Nat) (w : World) : ExtL L w w := ⟨rfl, rfl, rfl, Nat.le_refl _, fun _ _ _ => rfl⟩
theorem ExtL.trans {L : List Nat} {a b c : World} (h : ExtL L a b) (k : ExtL L b c) : ExtL L a c :=
  ⟨k.os.trans h.os, k.tape.trans h.tape, k.output.trans h.output, Nat.le_trans h.size k.size, fun i hi hn => (k.block i (Nat.lt_of_lt_of_le hi h.size) hn).trans (h.block i hi hn)⟩
theorem ExtL.set {L : List Nat} {w w' : World} (h : ExtL L w w') {p : Addr} (hp : p.block ∈ L) (u : Value) : ExtL L w (w'.setCell p u) :=
  h.trans ⟨rfl, rfl, rfl, by simp [World.setCell], fun k _ hn => Below.heap_setCell _ _ _ _ fun e => hn (e ▸ hp)⟩
theorem ExtL.cell {L : List Nat} {w w' : World} (h : ExtL L w w') {p : Addr} (hp : p.block ∉ L) {v : Value} (hc : w.cell? p = some v) : w'.cell? p = some v := by
  rw [World.cell?_of_block (w := w) (h.block p.block (World.block_lt_of_cell? w _ hc) hp)]; exact hc
/-- this knowledge does not hang on the blocks of L -/
def Far (L : List Nat) (K : Know) : Prop := ∀ w w' v, ExtL L w w' → K.p w v → K.p w' v
theorem far_is {L : List Nat} {x : Value} : Far L (Is x) := fun _ _ _ _ h => h
def FarAll (L : List Nat) (s : Nat) : Nat → List Know → Prop
  | _, [] => True
  | i, K :: l => (i ≠ s → Far L K) ∧ FarAll L s (i + 1) l
theorem far_nil {L : List Nat} {s i : Nat} : FarAll L s i [] := trivial
theorem far_cons {L : List Nat} {s i : Nat} {K : Know} {l : List Know} (h : Far L K) (hl : FarAll L s (i + 1) l) : FarAll L s i (K :: l) := ⟨fun _ => h, hl⟩
theorem far_self {L : List Nat} {s : Nat} {K : Know} {l : List Know} (hl : FarAll L s (s + 1) l) : FarAll L s s (K :: l) := ⟨fun h => absurd rfl h, hl⟩
theorem far_at {L : List Nat} {s : Nat} : ∀ {l : List Know} {i k : Nat}, FarAll L s i l → i + k ≠ s → ∀ w w' v, ExtL L w w' → phi l k w v → phi l k w' v
  | [], _, _, _, _, _, _, _, _, _ => trivial
  | K :: l, i, 0, h, hne, w, w', v, he, hv => h.1 hne w w' v he hv
  | K :: l, i, k + 1, h, hne, w, w', v, he, hv => far_at (l := l) (i := i + 1) (k := k) h.2 (by omega) w w' v he hv

def depsL : List Edge → List Nat
  | [] => []
  | e :: l => if Region.binds .any e then e.on :: depsL l else depsL l
def depsO (o : Oper) : List Nat := depsL o.after.toList
def putD (ds : List (Option Tmp)) (a0 : Act) (f : Nat → Value) : List Nat → Act
  | [] => a0
  | j :: l => (putD ds a0 f l).put (ds.getD j none) (f j)
def wantD (ds : List (Option Tmp)) (o : Oper) (tmps : Array Value) : Bool :=
  match o.guard with
  | none => true
  | some (g, want) => match (ds.getD g none).bind (tmps[·]?) with | some (.bool b) => b == want | _ => false

def KnowAll (Ks : List Know) (f : Nat → Value) (w : World) : List Nat → Prop
  | [] => True
  | j :: l => phi Ks j w (f j) ∧ KnowAll Ks f w l

def OpGoal (P : Program) (ds : List (Option Tmp)) (a0 : Act) (R2 : World → Prop) (Ks : List Know) (s i : Nat) (o : Oper) : Prop :=
  i ≠ s → ∀ (f : Nat → Value) (w' : World), R2 w' → KnowAll Ks f w' (depsO o) →
    (wantD ds o (putD ds a0 f (depsO o)).tmps = true ∧ Oper.gives P o (putD ds a0 f (depsO o)) w' (fun v w'' => Ext w' w'' ∧ phi Ks i w'' v)) ∨ (wantD ds o (putD ds a0 f (depsO o)).tmps = false ∧ phi Ks i w' undef)

def AllOps (Γ : Nat → Oper → Prop) : Nat → List Oper → Prop
  | _, [] => True
  | i, o :: l => Γ i o ∧ AllOps Γ (i + 1) l
theorem allOps_cons {Γ : Nat → Oper → Prop} {i : Nat} {o : Oper} {l : List Oper} (h : Γ i o) (hl : AllOps Γ (i + 1) l) : AllOps Γ i (o :: l) := ⟨h, hl⟩
theorem allOps_nil {Γ : Nat → Oper → Prop} {i : Nat} : AllOps Γ i [] := trivial
theorem allOps_at {Γ : Nat → Oper → Prop} : ∀ {l : List Oper} {i k : Nat} {o : Oper}, AllOps Γ i l → l[k]? = some o → Γ (i + k) o
  | [], _, _, _, _, h => by simp at h
  | x :: l, i, 0, o, h, e => by simp at e; subst e; exact h.1
  | x :: l, i, k + 1, o, h, e => by
    have := allOps_at (k := k) h.2 (by simpa using e)
    rw [show i + (k + 1) = i + 1 + k from by omega]; exact this

theorem depsOf_eq {ops : Array Oper} {i : Nat} {o : Oper} (h : ops[i]? = some o) : depsOf ops i = depsO o := by
  unfold depsOf depsO; rw [h]
  show (o.after.toList.filter (Region.binds .any)).map (·.on) = depsL o.after.toList
  generalize o.after.toList = l
  induction l with
  | nil => rfl
  | cons e l ih =>
    simp only [List.filter_cons, depsL]
    split <;> simp_all
theorem dstOf_eq {ops : Array Oper} {ds : List (Option Tmp)} (h : ops.toList.map (·.dst) = ds) (j : Nat) : dstOf ops j = ds.getD j none := by
  subst h
  unfold dstOf
  cases hj : ops[j]? with
  | none => simp [List.getD, hj]
  | some o => simp [List.getD, hj]
theorem putD_eq {ops : Array Oper} {ds : List (Option Tmp)} (h : ops.toList.map (·.dst) = ds) (a0 : Act) (f : Nat → Value) (l : List Nat) : putList ops a0 f l = putD ds a0 f l := by
  induction l with
  | nil => rfl
  | cons j l ih => unfold putList putD; rw [ih, dstOf_eq h]
theorem wantD_eq {ops : Array Oper} {ds : List (Option Tmp)} (h : ops.toList.map (·.dst) = ds) (o : Oper) (tmps : Array Value) : Region.wanted o (yielded ops tmps) = wantD ds o tmps := by
  unfold Region.wanted wantD
  cases o.guard with
  | none => rfl
  | some g =>
    obtain ⟨g, want⟩ := g
    simp only [yielded]
    rw [← dstOf_eq h g]
    show ((match (dstOf ops g).bind (tmps[·]?) with | some (.bool b) => some b | _ => none) == some want) = _
    cases (dstOf ops g).bind (tmps[·]?) with
    | none => rfl
    | some v => cases v <;> rfl
theorem knowAll_iff {Ks : List Know} {f : Nat → Value} {w : World} : ∀ {l : List Nat}, (∀ j ∈ l, phi Ks j w (f j)) ↔ KnowAll Ks f w l
  | [] => by simp [KnowAll]
  | j :: l => by
    unfold KnowAll
    rw [← knowAll_iff (l := l)]
    simp

section
variable {P : Program} {ops : Array Oper} {a0 : Act}

/-- A region whose operations read, call and make memory, and then a tail. -/
theorem wp_region_ext {id : Nat} {Q : Exit → Act → World → Prop} {w : World} (ds : List (Option Tmp)) (n m : Nat) (Ks : List Know) (hm : P.follows .mixedOrders = true) (hds : ops.toList.map (·.dst) = ds) (hsz : ops.size = n) (hmn : m ≤ n)
    (hfit : regionFits ops a0.tmps.size m = true)
    (hop : AllOps (OpGoal P ds a0 (Ext w) Ks n) 0 (ops.toList.take m))
    (hend : ∀ (f : Nat → Value) (w' : World), Ext w w' → KnowAll Ks f w' (List.range m) → wpList P ops Q (ops.toList.drop m) (putD ds a0 f (List.range m)) w') :
    (Code.region id ops true).wp P Q a0 w := by
  refine wp_region_inv (R1 := Ext w) (R2 := Ext w) (S := Ext) (Φ := phi Ks) (m := m) n n hm hsz hmn hfit (bl_refl_drew w) (fun _ h => h) (fun _ _ h k => h.trans k) (fun _ _ h k => h.trans k) (phi_mono Ks) ?_ ?_ ?_
  · intro i hi hne o ho f w' hr hd
    have hg := allOps_at (k := i) hop (by rw [List.getElem?_take, if_pos hi]; simpa using ho)
    rw [Nat.zero_add] at hg
    rw [depsOf_eq ho] at hd ⊢
    rw [putD_eq hds, wantD_eq hds]
    rcases hg hne f w' hr (knowAll_iff.1 hd) with ⟨h1, h2⟩ | ⟨h1, h2⟩
    · rw [if_pos h1]; exact h2
    · rw [if_neg (by rw [h1]; decide)]; exact h2
  · intro h; omega
  · intro f w' hr hd
    rw [putD_eq hds]
    exact hend f w' hr (knowAll_iff.1 fun j hj => hd j (by simpa using hj))
where
  bl_refl_drew (w : World) : Ext w w.drew := (Below.refl _ _).drew

/-- a store into block V -/
theorem grown_set {w w' : World} {V : Nat} (h : w.grownBy w' (some V)) (i : Nat) (u : Value) : w.grownBy (w'.setCell ⟨V, i, none⟩ u) (some V) :=
  ⟨h.os, h.tape, h.output, by simpa [World.setCell] using h.size, fun k hk hne => (Below.heap_setCell _ _ _ _ (fun e => hne (by rw [e]))).trans (h.block k hk hne)⟩
theorem grown_refl (w : World) (r : Option Nat) : w.grownBy w r := ⟨rfl, rfl, rfl, Nat.le_refl _, fun _ _ _ => rfl⟩

/-- The same with one operation (number s) that writes one row of the call's own. -/
theorem wp_region_row {id : Nat} {Q : Exit → Act → World → Prop} {w : World} (s : Nat) (row : Option Nat) (L : List Nat) (ds : List (Option Tmp)) (n m : Nat) (Ks : List Know) (hm : P.follows .mixedOrders = true) (hds : ops.toList.map (·.dst) = ds) (hsz : ops.size = n) (hmn : m ≤ n)
    (hfit : regionFits ops a0.tmps.size m = true) (hrow : ∀ k, row = some k → k ∈ L)
    (hop : AllOps (OpGoal P ds a0 (ExtL L w) Ks s) 0 (ops.toList.take m))
    (hfar : FarAll L s 0 Ks)
    (hsp : ∀ (f : Nat → Value) (w' : World), Ext w w' → ∀ o, ops[s]? = some o → KnowAll Ks f w' (depsO o) →
      wantD ds o (putD ds a0 f (depsO o)).tmps = true ∧ Oper.gives P o (putD ds a0 f (depsO o)) w' (fun v w'' => w'.grownBy w'' row ∧ phi Ks s w'' v))
    (hend : ∀ (f : Nat → Value) (w' : World), ExtL L w w' → KnowAll Ks f w' (List.range m) → wpList P ops Q (ops.toList.drop m) (putD ds a0 f (List.range m)) w') :
    (Code.region id ops true).wp P Q a0 w := by
  refine wp_region_inv (R1 := Ext w) (R2 := ExtL L w) (S := Ext) (Φ := phi Ks) (m := m) s n hm hsz hmn hfit (Below.refl _ _).drew (fun _ h => h.extL)
    (fun _ _ h k => h.trans k) (fun a b h k => h.trans k.extL) (phi_mono Ks) ?_ ?_ ?_
  · intro i hi hne o ho f w' hr hd
    have hg := allOps_at (k := i) hop (by rw [List.getElem?_take, if_pos hi]; simpa using ho)
    rw [Nat.zero_add] at hg
    rw [depsOf_eq ho] at hd ⊢
    rw [putD_eq hds, wantD_eq hds]
    rcases hg hne f w' hr (knowAll_iff.1 hd) with ⟨h1, h2⟩ | ⟨h1, h2⟩
    · rw [if_pos h1]; exact h2
    · rw [if_neg (by rw [h1]; decide)]; exact h2
  · intro hs o ho f w' hr hd
    rw [depsOf_eq ho] at hd ⊢
    rw [putD_eq hds, wantD_eq hds]
    obtain ⟨h1, h2⟩ := hsp f w' hr o ho (knowAll_iff.1 hd)
    rw [if_pos h1]
    refine gives_mono h2 fun v w'' ⟨hg, hv⟩ => ⟨ExtL.trans hr.extL (ExtL.of_grown hg hrow), hv, fun j u hj hu => ?_⟩
    exact far_at (k := j) hfar (by omega) w' w'' u (ExtL.of_grown hg hrow) hu
  · intro f w' hr hd
    rw [putD_eq hds]
    exact hend f w' hr (knowAll_iff.1 fun j hj => hd j (by simpa using hj))
/-- the operation that writes, by its walk -/
theorem sp_plain {ds : List (Option Tmp)} {Ks : List Know} {s : Nat} {row : Option Nat} {f : Nat → Value} {w' : World} {o : Oper} {d : Tmp} {g : Option (Nat × Bool)} (hg : o.guard = none) (hd : o.dst = some d) (hs : d < a0.tmps.size) (_g : g = none)
    (h : KnowAll Ks f w' (depsO o) → wpList P #[] (OnePost d a0.defers.length (fun v w'' => w'.grownBy w'' row ∧ phi Ks s w'' v)) [o] (putD ds a0 f (depsO o)) w') (o' : Oper) (ho : some o = some o') (hk : KnowAll Ks f w' (depsO o')) :
    wantD ds o' (putD ds a0 f (depsO o')).tmps = true ∧ Oper.gives P o' (putD ds a0 f (depsO o')) w' (fun v w'' => w'.grownBy w'' row ∧ phi Ks s w'' v) := by
  obtain rfl : o = o' := by simpa using ho
  have h2 := h hk
  have hds : (putD ds a0 f (depsO o)).defers = a0.defers := by
    generalize depsO o = l
    induction l with
    | nil => rfl
    | cons j l ih => unfold putD Act.put; split <;> simp [ih]
  have hsz : (putD ds a0 f (depsO o)).tmps.size = a0.tmps.size := by
    generalize depsO o = l
    induction l with
    | nil => rfl
    | cons j l ih => unfold putD Act.put; split <;> simp [ih]
  rw [← hds] at h2
  have hw1 : wantD ds o (putD ds a0 f (depsO o)).tmps = true := by unfold wantD; rw [hg]
  have hw2 : Region.wanted o (yielded #[] (putD ds a0 f (depsO o)).tmps) = true := by unfold Region.wanted; rw [hg]
  exact ⟨hw1, gives_of_wpList hd (by rw [hsz]; exact hs) hw2 h2⟩

/-- the store, by its walk -/
theorem sp_store {ds : List (Option Tmp)} {Ks : List Know} {s : Nat} {row : Option Nat} {f : Nat → Value} {w' : World} {o : Oper} (hg : o.guard = none) (hd : o.dst = none) (hv : ∀ w v v', phi Ks s w v → phi Ks s w v')
    (h : KnowAll Ks f w' (depsO o) → wpList P #[] (NonePost a0.defers.length (fun w'' => w'.grownBy w'' row ∧ phi Ks s w'' undef)) [o] (putD ds a0 f (depsO o)) w') (o' : Oper) (ho : some o = some o') (hk : KnowAll Ks f w' (depsO o')) :
    wantD ds o' (putD ds a0 f (depsO o')).tmps = true ∧ Oper.gives P o' (putD ds a0 f (depsO o')) w' (fun v w'' => w'.grownBy w'' row ∧ phi Ks s w'' v) := by
  obtain rfl : o = o' := by simpa using ho
  have h2 := h hk
  have hds : (putD ds a0 f (depsO o)).defers = a0.defers := by
    generalize depsO o = l
    induction l with
    | nil => rfl
    | cons j l ih => unfold putD Act.put; split <;> simp [ih]
  rw [← hds] at h2
  have hw1 : wantD ds o (putD ds a0 f (depsO o)).tmps = true := by unfold wantD; rw [hg]
  have hw2 : Region.wanted o (yielded #[] (putD ds a0 f (depsO o)).tmps) = true := by unfold Region.wanted; rw [hg]
  exact ⟨hw1, gives_mono (gives_of_wpList0 hw2 hd h2) fun v w'' ⟨h1, h3⟩ => ⟨h1, hv _ _ _ h3⟩⟩

theorem wanted_of_D {ops : Array Oper} {ds : List (Option Tmp)} {o : Oper} (tmps : Array Value) (hg : o.guard = none) : Region.wanted o (yielded ops tmps) = true ∧ wantD ds o tmps = true := by
  unfold Region.wanted wantD; rw [hg]; exact ⟨rfl, rfl⟩
theorem putD_size (ds : List (Option Tmp)) (a0 : Act) (f : Nat → Value) (l : List Nat) : (putD ds a0 f l).tmps.size = a0.tmps.size := by
  induction l with
  | nil => rfl
  | cons j l ih => unfold putD Act.put; split <;> simp [ih]
theorem putD_defers (ds : List (Option Tmp)) (a0 : Act) (f : Nat → Value) (l : List Nat) : (putD ds a0 f l).defers = a0.defers := by
  induction l with
  | nil => rfl
  | cons j l ih => unfold putD Act.put; split <;> simp [ih]
/-- an operation without a guard, by its walk -/
theorem opGoal_plain {ds : List (Option Tmp)} {R2 : World → Prop} {Ks : List Know} {s i : Nat} {o : Oper} {d : Tmp} (hg : o.guard = none) (hd : o.dst = some d) (hs : d < a0.tmps.size)
    (h : ∀ (f : Nat → Value) (w' : World), R2 w' → KnowAll Ks f w' (depsO o) →
      wpList P #[] (OnePost d a0.defers.length (fun v w'' => Ext w' w'' ∧ phi Ks i w'' v)) [o] (putD ds a0 f (depsO o)) w') : OpGoal P ds a0 R2 Ks s i o := by
  intro _ f w' hr hk
  have h2 := h f w' hr hk
  rw [← putD_defers ds a0 f (depsO o)] at h2
  exact .inl ⟨(wanted_of_D (ops := #[]) _ hg).2, gives_of_wpList hd (by rw [putD_size]; exact hs) (wanted_of_D (ds := ds) _ hg).1 h2⟩
theorem gives_guard {o : Oper} {a : Act} {w : World} {Ψ : Value → World → Prop} (g : Option (Nat × Bool)) (h : Oper.gives P { o with guard := g } a w Ψ) : Oper.gives P o a w Ψ := by
  obtain ⟨dst, op, ty, pos, after, guard⟩ := o
  exact h
/-- an operation whose guard is met, by its walk -/
theorem opGoal_guard {ds : List (Option Tmp)} {R2 : World → Prop} {Ks : List Know} {s i : Nat} {dst : Option Tmp} {op : Op} {ty : TypeId} {pos : String} {after : Array Edge} {guard : Option (Nat × Bool)} {g : Nat × Bool} {d : Tmp}
    (_hg : guard = some g) (hd : dst = some d) (hs : d < a0.tmps.size)
    (h : ∀ (f : Nat → Value) (w' : World), R2 w' → KnowAll Ks f w' (depsO ⟨dst, op, ty, pos, after, guard⟩) →
      wantD ds ⟨dst, op, ty, pos, after, guard⟩ (putD ds a0 f (depsO ⟨dst, op, ty, pos, after, guard⟩)).tmps = true ∧
      wpList P #[] (OnePost d a0.defers.length (fun v w'' => Ext w' w'' ∧ phi Ks i w'' v)) [⟨dst, op, ty, pos, after, none⟩] (putD ds a0 f (depsO ⟨dst, op, ty, pos, after, guard⟩)) w') :
    OpGoal P ds a0 R2 Ks s i ⟨dst, op, ty, pos, after, guard⟩ := by
  intro _ f w' hr hk
  obtain ⟨h1, h2⟩ := h f w' hr hk
  rw [← putD_defers ds a0 f (depsO ⟨dst, op, ty, pos, after, guard⟩)] at h2
  exact .inl ⟨h1, gives_guard none (gives_of_wpList (o := ⟨dst, op, ty, pos, after, none⟩) hd (by rw [putD_size]; exact hs) rfl h2)⟩
theorem onePost_is {d : Tmp} {n : Nat} {Ψ : Value → World → Prop} {t : Array Value} {df : List Deferred} {w : World} (v : Value) (h : t[d]? = some v) (hn : df.length = n) (hv : Ψ v w) : OnePost d n Ψ .normal ⟨t, df⟩ w := by
  refine ⟨rfl, hn, ?_⟩
  rw [Array.getD_eq_getD_getElem?, h]; exact hv
theorem put_some (t : Array Value) (df : List Deferred) (d : Tmp) (v : Value) : (Act.mk t df).put (some d) v = ⟨t.setIfInBounds d v, df⟩ := rfl
theorem put_none (a : Act) (v : Value) : a.put none v = a := rfl
end
end Go.Proofs.Ytkghgdkkholieaa.Iv
/-
  The rule for drawn regions once more: one operation (s) may write what the operations of D have made, which nobody but it looks at.
-/

namespace Go.Proofs.Ytkghgdkkholieaa.Iv
open Go.RowKit

section
variable {P : Program} {ops : Array Oper} {a0 : Act} {R1 R2 : World → Prop} {Φ Φd : Nat → World → Value → Prop} {D : Nat → Bool} {m s : Nat}
/-- what is known of the operations that have been done -/
def Held (s : Nat) (D : Nat → Bool) (Φ Φd : Nat → World → Value → Prop) (listed : Array Bool) (f : Nat → Value) (w : World) : Prop := ∀ j, listed.getD j false = true → ((D j = false ∨ listed.getD s false = false) → Φ j w (f j)) ∧ (D j = true → listed.getD s false = true → Φd j w (f j))
theorem getD_true {listed : Array Bool} {i j : Nat} (h : (listed.setIfInBounds i true).getD j false = true) : j = i ∨ listed.getD j false = true := by
  by_cases e : j = i
  · exact .inl e
  · right; rwa [getD_set_ne false (fun x => e x.symm)] at h
theorem getD_false {listed : Array Bool} {i j : Nat} (h : (listed.setIfInBounds i true).getD j false = false) : listed.getD j false = false := by
  by_cases e : j = i
  · subst e
    by_cases hi : j < listed.size
    · simp [Array.getD, hi] at h
    · simp [Array.getD, hi]
  · rwa [getD_set_ne false (fun x => e x.symm)] at h
theorem Held.next {listed : Array Bool} {f : Nat → Value} {w w' : World} {i : Nat} {v : Value} (h : Held s D Φ Φd listed f w) (hne : i ≠ s) (hun : listed.getD i false = false) (hc : ∀ j, listed.getD j false = true → ∀ e ∈ depsOf ops j, listed.getD e false = true) (hDs : ∀ j, D j = true → j ∈ depsOf ops s)
    (hp : ∀ j u, j ≠ i → Φ j w u → Φ j w' u) (hpd : ∀ j u, Φd j w u → Φd j w' u) (hv : Φ i w' v) : Held s D Φ Φd (listed.setIfInBounds i true) (fun j => if j = i then v else f j) w' := by
  intro j hj
  dsimp only
  by_cases e : j = i
  · subst e
    rw [if_pos rfl]
    refine ⟨fun _ => hv, fun hd hs => ?_⟩
    have hs' := (getD_true hs).resolve_left (Ne.symm hne)
    rw [hc s hs' j (hDs j hd)] at hun; cases hun
  · rw [if_neg e]
    have h0 := h j ((getD_true hj).resolve_left e)
    exact ⟨fun hd => hp _ _ e (h0.1 (hd.imp id getD_false)), fun hd hs => hpd _ _ (h0.2 hd ((getD_true hs).resolve_left (Ne.symm hne)))⟩
theorem Held.once {listed : Array Bool} {f : Nat → Value} {w w' : World} {v : Value} (h : Held s D Φ Φd listed f w) (hs : s < listed.size) (hun : listed.getD s false = false) (hc : ∀ j, listed.getD j false = true → ∀ e ∈ depsOf ops j, listed.getD e false = true)
    (hp : ∀ j u, j ≠ s → D j = false → s ∉ reachAt ops j → Φ j w u → Φ j w' u) (hDn : D s = false) (hd : ∀ j, D j = true → Φd j w' (f j)) (hv : Φ s w' v) : Held s D Φ Φd (listed.setIfInBounds s true) (fun j => if j = s then v else f j) w' := by
  intro j hj
  dsimp only
  by_cases e : j = s
  · subst e
    rw [if_pos rfl]
    exact ⟨fun _ => hv, fun hd' => by rw [hDn] at hd'; cases hd'⟩
  · rw [if_neg e]
    have hl := (getD_true hj).resolve_left e
    refine ⟨fun hd' => ?_, fun hd' _ => hd j hd'⟩
    have hdj : D j = false := by
      refine hd'.resolve_right fun h => ?_
      simp [Array.getD, hs] at h
    refine hp _ _ e hdj (fun hm => ?_) ((h j hl).1 (.inl hdj))
    rw [reach_listed hc (hc j hl) s hm] at hun; cases hun
/-- THE RULE: as before; what operation s writes may be what those of D have made: nobody else looks at that. -/
theorem wp_region_once {id : Nat} {Q : Exit → Act → World → Prop} {w : World} (s : Nat) (n : Nat) (hm : P.follows .mixedOrders = true) (hsz : ops.size = n) (hmn : m ≤ n) (hfit : regionFits ops a0.tmps.size m = true)
    (h0 : R1 w.drew) (h12 : ∀ w, R1 w → R2 w) (hDn : D s = false) (hDs : ∀ j, D j = true → j ∈ depsOf ops s) (hsm : s < m)
    (hop : ∀ i, i < m → i ≠ s → ∀ o, ops[i]? = some o → ∀ (f : Nat → Value) (w' : World), R2 w' → (∀ j ∈ depsOf ops i, D j = false → Φ j w' (f j)) →
      (if Region.wanted o (yielded ops (putList ops a0 f (depsOf ops i)).tmps) then Oper.gives P o (putList ops a0 f (depsOf ops i)) w' (fun v w'' => R2 w'' ∧ (R1 w' → R1 w'') ∧ (∀ j u, j ≠ i → Φ j w' u → Φ j w'' u) ∧ (∀ j u, Φd j w' u → Φd j w'' u) ∧ Φ i w'' v) else Φ i w' undef))
    (hsp : s < m → ∀ o, ops[s]? = some o → ∀ (f : Nat → Value) (w' : World), R1 w' → (∀ j ∈ depsOf ops s, Φ j w' (f j)) →
      Region.wanted o (yielded ops (putList ops a0 f (depsOf ops s)).tmps) = true ∧ Oper.gives P o (putList ops a0 f (depsOf ops s)) w' (fun v w'' => R2 w'' ∧ Φ s w'' v ∧ (∀ j u, j ≠ s → D j = false → s ∉ reachAt ops j → Φ j w' u → Φ j w'' u) ∧ ∀ j, D j = true → Φd j w'' (f j)))
    (hend : ∀ (f : Nat → Value) (w' : World), R2 w' → (∀ j, j < m → D j = false → Φ j w' (f j)) → (∀ j, j < m → D j = true → Φd j w' (f j)) → wpList P ops Q (ops.toList.drop m) (putList ops a0 f (List.range m)) w') :
    (Code.region id ops true).wp P Q a0 w := by
  apply wp_region_any hm
  have main : ∀ (fuel : Nat) (listed : Array Bool) (f : Nat → Value) (a : Act) (w' : World), unlistedCount listed ops.size ≤ fuel → (∀ j, m ≤ j → listed.getD j false = false) → Sofar ops a0 R1 R2 s (fun _ _ _ => True) listed f a w' → Held s D Φ Φd listed f w' →
      wpAny P .any ops Q fuel listed a w' := by
    intro fuel
    induction fuel with
    | zero =>
      intro listed f a w' hc ht h hh
      have hall : ∀ j, j < ops.size → listed.getD j false = true := by
        intro j hj
        have h0 : unlistedCount listed ops.size = 0 := by omega
        unfold unlistedCount at h0
        rw [List.countP_eq_zero] at h0
        have := h0 j (by simpa using hj)
        simpa using this
      have hms : m = ops.size := by
        rcases Nat.lt_or_ge m ops.size with hlt | hge
        · have h1 := hall m hlt; rw [ht m (Nat.le_refl _)] at h1; simp at h1
        · omega
      have hk : ∀ j, listed.getD j false = true ↔ j < m := by
        intro j
        constructor
        · intro hj
          rcases Nat.lt_or_ge j m with hlt | hge
          · exact hlt
          · rw [ht j hge] at hj; simp at hj
        · intro hj; exact hall j (by omega)
      have e := h.full hfit hk
      refine any_tail hfit 0 m listed a w' (by omega) (Nat.le_refl _) h.len hk (by omega) (wpOps_tail ?_)
      rw [e]
      exact hend f w' h.two (fun j hj hd => (hh j ((hk j).2 hj)).1 (.inl hd)) (fun j hj hd => (hh j ((hk j).2 hj)).2 hd ((hk s).2 hsm))
    | succ fuel ih =>
      intro listed f a w' hc ht h hh
      have stepTail : (∀ j, j < m → listed.getD j false = true) → wpAny P .any ops Q (fuel + 1) listed a w' := by
        intro hall
        have hk : ∀ j, listed.getD j false = true ↔ j < m := by
          intro j
          constructor
          · intro hj
            rcases Nat.lt_or_ge j m with hlt | hge
            · exact hlt
            · rw [ht j hge] at hj; simp at hj
          · intro hj; exact hall j hj
        have e := h.full hfit hk
        have hcount : ops.size - m ≤ unlistedCount listed ops.size := by
          unfold unlistedCount
          have : List.range ops.size = List.range m ++ List.range' m (ops.size - m) := by
            have h1 := @List.range'_append_1 0 m (ops.size - m)
            rw [Nat.zero_add, show m + (ops.size - m) = ops.size from by omega] at h1
            rw [List.range_eq_range', List.range_eq_range', h1]
          rw [this, List.countP_append]
          have : (List.range' m (ops.size - m)).countP (fun j => decide (listed.getD j false = false)) = (List.range' m (ops.size - m)).length := by
            rw [List.countP_eq_length]
            intro j hj
            rw [List.mem_range'_1] at hj
            simp only [decide_eq_true_eq]
            exact ht j hj.1
          rw [this, List.length_range']
          omega
        refine any_tail hfit (fuel + 1) m listed a w' (by omega) (Nat.le_refl _) h.len hk (by omega) (wpOps_tail ?_)
        rw [e]
        exact hend f w' h.two (fun j hj hd => (hh j ((hk j).2 hj)).1 (.inl hd)) (fun j hj hd => (hh j ((hk j).2 hj)).2 hd ((hk s).2 hsm))
      by_cases hall : ∀ j, j < m → listed.getD j false = true
      · exact stepTail hall
      · have hfree : ∀ i ∈ Region.ready .any ops listed, i < m := by
          intro i hi
          rcases Nat.lt_or_ge i m with hlt | hge
          · exact hlt
          · exact absurd (fun j hj => ready_tail hfit h.closed hi hge j (by omega)) hall
        refine ⟨fun h0 => ?_, fun i hi => ?_⟩
        · -- the least one that is not listed is ready
          exfalso
          apply hall
          intro j
          induction j using Nat.strongRecOn with
          | _ j ihj =>
            intro hj
            cases hl : listed.getD j false with
            | true => rfl
            | false =>
              exfalso
              have hjs : j < ops.size := by omega
              have ho : ops[j]? = some (ops[j]'hjs) := Array.getElem?_eq_getElem hjs
              have : j ∈ Region.ready .any ops listed := by
                apply mem_ready.2
                refine ⟨?_, _, ho, fun e he hb => ?_⟩
                · have hjl : j < listed.size := by rw [h.len]; exact hjs
                  simpa [Array.getD, hjl] using hl
                · have hf := fits_at hfit ho
                  unfold opFits at hf
                  simp only [Bool.and_eq_true] at hf
                  have hm' : e.on ∈ depsOf ops j := by
                    unfold depsOf; rw [ho]
                    exact List.mem_map.2 ⟨e, List.mem_filter.2 ⟨by simpa using he, hb⟩, rfl⟩
                  have := List.all_eq_true.1 hf.1.1.1.2 _ hm'
                  simp only [decide_eq_true_eq] at this
                  exact ihj _ this (by omega)
              rw [h0] at this; simp at this
        · obtain ⟨h0, o, ho, hd⟩ := ready_of hi
          have hun := unlisted_false h0
          have him := hfree i hi
          have hlt := (Array.getElem?_eq_some_iff.1 ho).1
          obtain ⟨he, hw⟩ := h.eval hfit ho hun hd
          have hcnt := unlisted_set hlt h.len hun
          by_cases his : i = s
          · subst his
            obtain ⟨hwt, hg⟩ := hsp him o ho f w' (h.one hun) fun j hj => (hh j (hd j hj)).1 (.inr hun)
            unfold wpOp
            simp only [ho]
            rw [hw, if_pos hwt]
            exact .inl (wp_of_gives he (gives_mono hg fun v w'' ⟨hr, hv, hp, hq⟩ => ih _ _ _ _ (by omega) (fun j hj => by rw [getD_set_ne false (by omega)]; exact ht j hj) (h.next hfit ho hd (fun x => absurd rfl x) hr (fun _ _ _ _ => trivial) trivial)
              (hh.once (by rw [h.len]; exact hlt) hun h.closed hp hDn hq hv)))
          · have hg := hop i him his o ho f w' h.two fun j hj hdj => (hh j (hd j hj)).1 (.inl hdj)
            unfold wpOp
            simp only [ho]
            rw [hw]
            by_cases hwt : Region.wanted o (yielded ops (putList ops a0 f (depsOf ops i)).tmps) = true
            · rw [if_pos hwt] at hg ⊢
              exact .inl (wp_of_gives he (gives_mono hg fun v w'' ⟨hr, hr1, hp, hpd, hv⟩ => ih _ _ _ _ (by omega) (fun j hj => by rw [getD_set_ne false (by omega)]; exact ht j hj)
                (h.next hfit ho hd (fun _ hl => hr1 (h.one hl)) hr (fun _ _ _ _ => trivial) trivial) (hh.next his hun h.closed hDs hp hpd hv)))
            · rw [if_neg hwt] at hg ⊢
              exact ih _ _ _ _ (by omega) (fun j hj => by rw [getD_set_ne false (by omega)]; exact ht j hj) (h.next hfit ho hd (fun _ hl => h.one hl) h.two (fun _ _ _ _ => trivial) trivial) (hh.next his hun h.closed hDs (fun _ _ _ x => x) (fun _ _ x => x) hg)
  refine main ops.size _ (fun _ => undef) a0 w.drew ?_ ?_ ⟨by simp, rfl, rfl, ?_, fun _ _ => rfl, ?_, fun _ => h0, h12 _ h0, ?_⟩ (fun j hj => by simp [Array.getD] at hj)
  · unfold unlistedCount
    exact Nat.le_trans List.countP_le_length (by simp)
  · intro j _; simp [Array.getD]
  · intro j d hj; simp [Array.getD] at hj
  · intro j hj; simp [Array.getD] at hj
  · intro j hj; simp [Array.getD] at hj
/-- this knowledge lasts when that is written -/
def Low (T : World → World → Prop) (K : Know) : Prop := ∀ w w' v, T w w' → K.p w v → K.p w' v
theorem low_is {n : World → World → Prop} {x : Value} : Low n (Is x) := fun _ _ _ _ h => h
/-- what may be said of each operation where one of them writes what others have made -/
def LowAll (n : World → World → Prop) (s : Nat) (D : Nat → Bool) (ops : Array Oper) : Nat → List Know → Prop
  | _, [] => True
  | i, K :: l => ((i == s || D i || (reachAt ops i).contains s) = false → Low n K) ∧ LowAll n s D ops (i + 1) l
theorem low_not {X : Bool} {p : Prop} (hx : X = true) (h : X = false) : p := by rw [hx] at h; cases h
theorem lowAll_at {n : World → World → Prop} {s : Nat} {D : Nat → Bool} : ∀ {l : List Know} {i k : Nat}, LowAll n s D ops i l → (i + k == s || D (i + k) || (reachAt ops (i + k)).contains s) = false → ∀ w w' v, n w w' → phi l k w v → phi l k w' v
  | [], _, _, _, _, _, _, _, _, _ => trivial
  | K :: l, i, 0, h, hne, w, w', v, he, hv => h.1 hne w w' v he hv
  | K :: l, i, k + 1, h, hne, w, w', v, he, hv => lowAll_at (l := l) (i := i + 1) (k := k) h.2 (by rw [show i + 1 + k = i + (k + 1) by omega]; exact hne) w w' v he hv
/-- the same; the blocks of L keep their shape -/
structure ExtS (L : List Nat) (w w' : World) : Prop where
  ext : ExtL L w w'
  shape : ∀ (k : Nat), k ∈ L → ∀ (cs : Array Value) (t : TypeId) (fz : Nat × Nat), w.heap[k]? = some (.cells cs t fz) → ∃ cs' : Array Value, w'.heap[k]? = some (.cells cs' t fz) ∧ cs'.size = cs.size
theorem ExtS.of {L : List Nat} {w w' : World} (h : Ext w w') : ExtS L w w' := ⟨h.extL, fun k _ cs t fz hk => ⟨cs, by rw [h.block k (Array.getElem?_eq_some_iff.1 hk).1]; exact hk, rfl⟩⟩
theorem ExtS.trans {L : List Nat} {a b c : World} (h : ExtS L a b) (k : ExtS L b c) : ExtS L a c := ⟨h.ext.trans k.ext, fun i hi cs t fz hk => by
  obtain ⟨c1, h1, h2⟩ := h.shape i hi cs t fz hk
  obtain ⟨c2, h3, h4⟩ := k.shape i hi c1 t fz h1
  exact ⟨c2, h3, h4.trans h2⟩⟩
theorem ExtS.below {L : List Nat} {w a b : World} (h : ExtS L w a) (h2 : Below w.heap.size a b) : ExtS L w b :=
  ⟨⟨h2.os.trans h.ext.os, h2.tape.trans h.ext.tape, h2.output.trans h.ext.output, Nat.le_trans h.ext.size h2.size, fun k hk hn => (h2.block k hk).trans (h.ext.block k hk hn)⟩, fun k hk cs t fz hh => by
    obtain ⟨c1, h3, h4⟩ := h.shape k hk cs t fz hh
    exact ⟨c1, by rw [h2.block k (Array.getElem?_eq_some_iff.1 hh).1]; exact h3, h4⟩⟩
/-- a cell of L is still there -/
theorem ExtS.there {L : List Nat} {w w' : World} (h : ExtS L w w') {p : Addr} (hp : p.block ∈ L) {v : Value} (hc : w.cell? p = some v) : (∃ v', w'.cell? p = some v') ∧ w'.frozen? p = w.frozen? p := by
  unfold World.cell? at hc ⊢
  unfold World.frozen?
  split at hc
  · rename_i cs t fz hh
    obtain ⟨cs', h1, h2⟩ := h.shape _ hp cs t fz hh
    rw [h1, hh]
    refine ⟨?_, rfl⟩
    dsimp only
    split at hc
    · cases hc
    · rename_i hs
      rw [if_neg hs]
      have hlt := (Array.getElem?_eq_some_iff.1 hc).1
      exact ⟨_, Array.getElem?_eq_getElem (by omega)⟩
  · cases hc
theorem ExtS.set {L : List Nat} (w : World) {p : Addr} (hp : p.block ∈ L) (u : Value) : ExtS L w (w.setCell p u) := by
  refine ⟨(ExtL.refl L w).set hp u, fun k hk cs t fz hh => ?_⟩
  by_cases hb : k = p.block
  · subst hb
    have hl := (Array.getElem?_eq_some_iff.1 hh).1
    unfold World.setCell
    simp only [Array.getElem?_modify, hh, if_pos]
    split <;> exact ⟨_, rfl, by simp⟩
  · exact ⟨cs, by rw [Below.heap_setCell _ _ _ _ hb]; exact hh, rfl⟩
theorem far_any {L : List Nat} : Far L Any := fun _ _ _ _ _ => trivial
/-- one operation, in whose walk nothing is known of those of D -/
def OpGoalD (D : Nat → Bool) (P : Program) (ds : List (Option Tmp)) (a0 : Act) (R2 : World → Prop) (Ks : List Know) (s i : Nat) (o : Oper) : Prop :=
  i ≠ s → ∀ (f : Nat → Value) (w' : World), R2 w' → KnowAll Ks f w' ((depsO o).filter fun j => !D j) →
    (wantD ds o (putD ds a0 f (depsO o)).tmps = true ∧ Oper.gives P o (putD ds a0 f (depsO o)) w' (fun v w'' => Ext w' w'' ∧ phi Ks i w'' v)) ∨ (wantD ds o (putD ds a0 f (depsO o)).tmps = false ∧ phi Ks i w' undef)
theorem opGoalD_plain {D : Nat → Bool} {ds : List (Option Tmp)} {R2 : World → Prop} {Ks : List Know} {s i : Nat} {o : Oper} {d : Tmp} (hg : o.guard = none) (hd : o.dst = some d) (hs : d < a0.tmps.size)
    (h : ∀ (f : Nat → Value) (w' : World), R2 w' → KnowAll Ks f w' ((depsO o).filter fun j => !D j) →
      wpList P #[] (OnePost d a0.defers.length (fun v w'' => Ext w' w'' ∧ phi Ks i w'' v)) [o] (putD ds a0 f (depsO o)) w') : OpGoalD D P ds a0 R2 Ks s i o := by
  intro _ f w' hr hk
  have h2 := h f w' hr hk
  rw [← putD_defers ds a0 f (depsO o)] at h2
  exact .inl ⟨(wanted_of_D (ops := #[]) _ hg).2, gives_of_wpList hd (by rw [putD_size]; exact hs) (wanted_of_D (ds := ds) _ hg).1 h2⟩
/-- A region in which one operation writes what another one has made in it. -/
theorem wp_region_own {id : Nat} {Q : Exit → Act → World → Prop} {w : World} (T : World → World → Prop) (hT : ∀ a b, T a b → Below w.heap.size a b) (s : Nat) (D : Nat → Bool) (ds : List (Option Tmp)) (n m : Nat) (Ks Kp : List Know) (hm : P.follows .mixedOrders = true) (hds : ops.toList.map (·.dst) = ds) (hsz : ops.size = n) (hmn : m ≤ n) (hsm : s < m)
    (hDd : (!D s && (List.range n).all fun j => !D j || (depsOf ops s).contains j) = true) (hDo : ∀ j, n ≤ j → D j = false)
    (hfit : regionFits ops a0.tmps.size m = true)
    (hlow : LowAll T s D ops 0 Ks)
    (hop : AllOps (OpGoalD D P ds a0 (Ext w) Ks s) 0 (ops.toList.take m))
    (hsp : ∀ (f : Nat → Value) (w' : World), Ext w w' → ∀ o, ops[s]? = some o → KnowAll Ks f w' (depsO o) →
      wantD ds o (putD ds a0 f (depsO o)).tmps = true ∧ Oper.gives P o (putD ds a0 f (depsO o)) w' (fun v w'' => T w' w'' ∧ phi Ks s w'' v ∧ ∀ j, D j = true → phi Kp j w'' (f j)))
    (hend : ∀ (f : Nat → Value) (w' : World), Ext w w' → (∀ j, j < m → D j = false → phi Ks j w' (f j)) → (∀ j, j < m → D j = true → phi Kp j w' (f j)) → wpList P ops Q (ops.toList.drop m) (putD ds a0 f (List.range m)) w') :
    (Code.region id ops true).wp P Q a0 w := by
  rw [Bool.and_eq_true] at hDd
  refine wp_region_once (R1 := Ext w) (R2 := Ext w) (Φ := phi Ks) (Φd := phi Kp) (D := D) (m := m) s n hm hsz hmn hfit ((Below.refl _ _).drew) (fun _ h => h) (by simpa using hDd.1) (fun j hj => ?hq) hsm ?_ ?_ ?_
  case hq =>
    rcases Nat.lt_or_ge j n with hl | hl
    · have h1 := List.all_eq_true.1 hDd.2 j (by simpa using hl)
      rw [hj] at h1
      simpa using h1
    · rw [hDo j hl] at hj; cases hj
  · intro i hi hne o ho f w' hr hd
    have hg := allOps_at (k := i) hop (by rw [List.getElem?_take, if_pos hi]; simpa using ho)
    rw [Nat.zero_add] at hg
    rw [depsOf_eq ho] at hd ⊢
    rw [putD_eq hds, wantD_eq hds]
    rcases hg hne f w' hr (knowAll_iff.1 fun j hj => by rw [List.mem_filter] at hj; exact hd j hj.1 (by simpa using hj.2)) with ⟨h1, h2⟩ | ⟨h1, h2⟩
    · rw [if_pos h1]; exact gives_mono h2 fun v w'' ⟨he, hv⟩ => ⟨Ext.trans hr he, fun _ => Ext.trans hr he, fun j u _ x => phi_mono Ks j _ _ u he x, fun j u x => phi_mono Kp j _ _ u he x, hv⟩
    · rw [if_neg (by rw [h1]; decide)]; exact h2
  · intro hs o ho f w' hr hd
    rw [depsOf_eq ho] at hd ⊢
    rw [putD_eq hds, wantD_eq hds]
    obtain ⟨h1, h2⟩ := hsp f w' hr o ho (knowAll_iff.1 hd)
    refine ⟨h1, gives_mono h2 fun v w'' ⟨hg, hv, hq⟩ => ⟨Below.trans hr (hT _ _ hg), hv, fun j u hj hdj hnd hu => ?_, hq⟩⟩
    exact lowAll_at (k := j) hlow (by rw [Nat.zero_add, hdj, Bool.or_false, Bool.or_eq_false_iff]; exact ⟨by simpa using hj, by simpa using hnd⟩) w' w'' u hg hu
  · intro f w' hr hd hq
    rw [putD_eq hds]
    exact hend f w' hr hd hq
/-- The same, where one more operation (z) writes blocks of L. -/
theorem wp_region_own2 {id : Nat} {Q : Exit → Act → World → Prop} {w : World} (z : Nat) (L : List Nat) (T : World → World → Prop) (hT : ∀ a b, T a b → ExtS L w a → ExtS L w b) (s : Nat) (D : Nat → Bool) (ds : List (Option Tmp)) (n m : Nat) (Ks Kp : List Know) (hm : P.follows .mixedOrders = true) (hds : ops.toList.map (·.dst) = ds) (hsz : ops.size = n) (hmn : m ≤ n) (hsm : s < m)
    (hDd : (!D s && (List.range n).all fun j => !D j || (depsOf ops s).contains j) = true) (hDo : ∀ j, n ≤ j → D j = false)
    (hfit : regionFits ops a0.tmps.size m = true)
    (hzs : z ≠ s) (hfar : FarAll L z 0 Ks) (hfarp : FarAll L n 0 Kp) (hpl : Kp.length ≤ n)
    (hlow : LowAll T s D ops 0 Ks)
    (hop : AllOps (fun i o => i ≠ z → OpGoalD D P ds a0 (ExtS L w) Ks s i o) 0 (ops.toList.take m))
    (hzp : ∀ (f : Nat → Value) (w' : World), ExtS L w w' → ∀ o, ops[z]? = some o → KnowAll Ks f w' ((depsO o).filter fun j => !D j) →
      wantD ds o (putD ds a0 f (depsO o)).tmps = true ∧ Oper.gives P o (putD ds a0 f (depsO o)) w' (fun v w'' => ExtS L w' w'' ∧ phi Ks z w'' v))
    (hsp : ∀ (f : Nat → Value) (w' : World), ExtS L w w' → ∀ o, ops[s]? = some o → KnowAll Ks f w' (depsO o) →
      wantD ds o (putD ds a0 f (depsO o)).tmps = true ∧ Oper.gives P o (putD ds a0 f (depsO o)) w' (fun v w'' => T w' w'' ∧ phi Ks s w'' v ∧ ∀ j, D j = true → phi Kp j w'' (f j)))
    (hend : ∀ (f : Nat → Value) (w' : World), ExtS L w w' → (∀ j, j < m → D j = false → phi Ks j w' (f j)) → (∀ j, j < m → D j = true → phi Kp j w' (f j)) → wpList P ops Q (ops.toList.drop m) (putD ds a0 f (List.range m)) w') :
    (Code.region id ops true).wp P Q a0 w := by
  rw [Bool.and_eq_true] at hDd
  refine wp_region_once (R1 := ExtS L w) (R2 := ExtS L w) (Φ := phi Ks) (Φd := phi Kp) (D := D) (m := m) s n hm hsz hmn hfit (ExtS.of (Below.refl _ _).drew) (fun _ h => h) (by simpa using hDd.1) (fun j hj => ?hq) hsm ?_ ?_ ?_
  case hq =>
    rcases Nat.lt_or_ge j n with hl | hl
    · have h1 := List.all_eq_true.1 hDd.2 j (by simpa using hl)
      rw [hj] at h1
      simpa using h1
    · rw [hDo j hl] at hj; cases hj
  · intro i hi hne o ho f w' hr hd
    rw [depsOf_eq ho] at hd ⊢
    rw [putD_eq hds, wantD_eq hds]
    by_cases hz : i = z
    · subst hz
      obtain ⟨h1, h2⟩ := hzp f w' hr o ho (knowAll_iff.1 fun j hj => by rw [List.mem_filter] at hj; exact hd j hj.1 (by simpa using hj.2))
      rw [if_pos h1]
      exact gives_mono h2 fun v w'' ⟨he, hv⟩ => ⟨hr.trans he, fun _ => hr.trans he, fun j u hj x => far_at (k := j) hfar (by omega) _ _ u he.ext x, fun j u x => by
        rcases Nat.lt_or_ge j n with hl | hl
        · exact far_at (k := j) hfarp (by omega) _ _ u he.ext x
        · have e : Kp.getD j Any = Any := by simp [List.getD, List.getElem?_eq_none (show Kp.length ≤ j by omega)]
          unfold phi; rw [e]; trivial, hv⟩
    · have hg := allOps_at (k := i) hop (by rw [List.getElem?_take, if_pos hi]; simpa using ho)
      rw [Nat.zero_add] at hg
      rcases hg hz hne f w' hr (knowAll_iff.1 fun j hj => by rw [List.mem_filter] at hj; exact hd j hj.1 (by simpa using hj.2)) with ⟨h1, h2⟩ | ⟨h1, h2⟩
      · rw [if_pos h1]; exact gives_mono h2 fun v w'' ⟨he, hv⟩ => ⟨hr.trans (ExtS.of he), fun _ => hr.trans (ExtS.of he), fun j u _ x => phi_mono Ks j _ _ u he x, fun j u x => phi_mono Kp j _ _ u he x, hv⟩
      · rw [if_neg (by rw [h1]; decide)]; exact h2
  · intro hs o ho f w' hr hd
    rw [depsOf_eq ho] at hd ⊢
    rw [putD_eq hds, wantD_eq hds]
    obtain ⟨h1, h2⟩ := hsp f w' hr o ho (knowAll_iff.1 hd)
    refine ⟨h1, gives_mono h2 fun v w'' ⟨hg, hv, hq⟩ => ⟨hT _ _ hg hr, hv, fun j u hj hdj hnd hu => ?_, hq⟩⟩
    exact lowAll_at (k := j) hlow (by rw [Nat.zero_add, hdj, Bool.or_false, Bool.or_eq_false_iff]; exact ⟨by simpa using hj, by simpa using hnd⟩) w' w'' u hg hu
  · intro f w' hr hd hq
    rw [putD_eq hds]
    exact hend f w' hr hd hq
/-- the operation that writes, by its walk -/
theorem own_plain {ds : List (Option Tmp)} {Ks Kp : List Know} {D : Nat → Bool} {s : Nat} {T : World → World → Prop} {f : Nat → Value} {w' : World} {o : Oper} {d : Tmp} (hg : o.guard = none) (hd : o.dst = some d) (hs : d < a0.tmps.size)
    (h : KnowAll Ks f w' (depsO o) → wpList P #[] (OnePost d a0.defers.length (fun v w'' => T w' w'' ∧ phi Ks s w'' v ∧ ∀ j, D j = true → phi Kp j w'' (f j))) [o] (putD ds a0 f (depsO o)) w') (o' : Oper) (ho : some o = some o') (hk : KnowAll Ks f w' (depsO o')) :
    wantD ds o' (putD ds a0 f (depsO o')).tmps = true ∧ Oper.gives P o' (putD ds a0 f (depsO o')) w' (fun v w'' => T w' w'' ∧ phi Ks s w'' v ∧ ∀ j, D j = true → phi Kp j w'' (f j)) := by
  obtain rfl : o = o' := by simpa using ho
  have h2 := h hk
  rw [← putD_defers ds a0 f (depsO o)] at h2
  exact ⟨(wanted_of_D (ops := #[]) _ hg).2, gives_of_wpList hd (by rw [putD_size]; exact hs) (wanted_of_D (ds := ds) _ hg).1 h2⟩
/-- the store, by its walk -/
theorem own_store {ds : List (Option Tmp)} {Ks Kp : List Know} {D : Nat → Bool} {s : Nat} {T : World → World → Prop} {f : Nat → Value} {w' : World} {o : Oper} (hg : o.guard = none) (hd : o.dst = none) (hv : ∀ w v v', phi Ks s w v → phi Ks s w v')
    (h : KnowAll Ks f w' (depsO o) → wpList P #[] (NonePost a0.defers.length (fun w'' => T w' w'' ∧ phi Ks s w'' undef ∧ ∀ j, D j = true → phi Kp j w'' (f j))) [o] (putD ds a0 f (depsO o)) w') (o' : Oper) (ho : some o = some o') (hk : KnowAll Ks f w' (depsO o')) :
    wantD ds o' (putD ds a0 f (depsO o')).tmps = true ∧ Oper.gives P o' (putD ds a0 f (depsO o')) w' (fun v w'' => T w' w'' ∧ phi Ks s w'' v ∧ ∀ j, D j = true → phi Kp j w'' (f j)) := by
  obtain rfl : o = o' := by simpa using ho
  have h2 := h hk
  rw [← putD_defers ds a0 f (depsO o)] at h2
  exact ⟨(wanted_of_D (ops := #[]) _ hg).2, gives_mono (gives_of_wpList0 (wanted_of_D (ds := ds) _ hg).1 hd h2) fun v w'' ⟨h1, h3, h4⟩ => ⟨h1, hv _ _ _ h3, h4⟩⟩
theorem z_store {D : Nat → Bool} {ds : List (Option Tmp)} {Ks : List Know} {z : Nat} {L : List Nat} {f : Nat → Value} {w' : World} {o : Oper} (hg : o.guard = none) (hd : o.dst = none) (hv : ∀ w v v', phi Ks z w v → phi Ks z w v')
    (h : KnowAll Ks f w' ((depsO o).filter fun j => !D j) → wpList P #[] (NonePost a0.defers.length (fun w'' => ExtS L w' w'' ∧ phi Ks z w'' undef)) [o] (putD ds a0 f (depsO o)) w') (o' : Oper) (ho : some o = some o') (hk : KnowAll Ks f w' ((depsO o').filter fun j => !D j)) :
    wantD ds o' (putD ds a0 f (depsO o')).tmps = true ∧ Oper.gives P o' (putD ds a0 f (depsO o')) w' (fun v w'' => ExtS L w' w'' ∧ phi Ks z w'' v) := by
  obtain rfl : o = o' := by simpa using ho
  have h2 := h hk
  rw [← putD_defers ds a0 f (depsO o)] at h2
  exact ⟨(wanted_of_D (ops := #[]) _ hg).2, gives_mono (gives_of_wpList0 (wanted_of_D (ds := ds) _ hg).1 hd h2) fun v w'' ⟨h1, h3⟩ => ⟨h1, hv _ _ _ h3⟩⟩
end
end Go.Proofs.Ytkghgdkkholieaa.Iv
