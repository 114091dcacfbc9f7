/-
  A rule for a region that draws its order and whose operations and callees may make memory: each operation is looked at once, in whatever world extends the first one,
  with the values of the operations that it depends on known by predicates that last as the world grows. The operations from number m on come behind all the others, in the text's order.
-/
import Derived.Orders
import Derived.Tactics
import Derived.Below
namespace Go.Proofs.Ytkghgdkkholieaa

section
variable {P : Program}

def dstOf (ops : Array Oper) (j : Nat) : Option Tmp := (ops[j]?).bind (·.dst)
def depsOf (ops : Array Oper) (i : Nat) : List Nat := match ops[i]? with | some o => (o.after.toList.filter (Region.binds .any)).map (·.on) | none => []
/-- the frame with the values of some operations -/
def putList (ops : Array Oper) (a0 : Act) (f : Nat → Value) : List Nat → Act
  | [] => a0
  | j :: l => (putList ops a0 f l).put (dstOf ops j) (f j)
def tmpOf : Operand → Option Tmp | .tmp t => some t | _ => none

/-- what is asked of one operation of the text -/
def opFits (ops : Array Oper) (size i : Nat) (o : Oper) : Bool :=
  (match o.op with | .select .. => false | _ => true) && (depsOf ops i).all (· < i) &&
  (match o.guard with | none => true | some (g, _) => (depsOf ops i).contains g) &&
  (o.dst.all fun d => decide (d < size) && (List.range i).all fun j => dstOf ops j != some d) &&
  (o.op.operands.all fun x => match x with
    | .tmp t => (List.range ops.size).all fun j => dstOf ops j != some t || j == i || (depsOf ops i).contains j || (depsOf ops j).contains i
    | _ => true)
/-- what has come before an operation for sure -/
def reachAt (ops : Array Oper) (i : Nat) : List Nat := ((List.range i).reverse).foldl (fun s j => if s.contains j then depsOf ops j ++ s else s) (depsOf ops i)
def regionFits (ops : Array Oper) (size m : Nat) : Bool :=
  ((List.range ops.size).all fun i => ((ops[i]?).map (opFits ops size i)).getD false) &&
  (List.range ops.size).all fun i => decide (i < m) || (List.range i).all fun j => (reachAt ops i).contains j

/-- what one operation gives, in this frame and world -/
def Oper.gives (P : Program) (o : Oper) (a : Act) (w : World) (Ψ : Value → World → Prop) : Prop :=
  match (execOp a.eval o).run P w with
  | .ok (.value v) w' => Ψ v w'
  | .ok .skip w' => Ψ undef w'
  | .ok (.enter f args) w' => Calls P f args w' fun | .returned v, w'' => Ψ v w'' | _, _ => False
  | .ok (.row row args) w' => Rows P row args w' fun v w'' => Ψ v w''
  | _ => False

/-- the post of one operation's walk -/
def OnePost (d : Tmp) (n : Nat) (Ψ : Value → World → Prop) : Exit → Act → World → Prop := fun e a w => e = .normal ∧ a.defers.length = n ∧ Ψ (a.tmps.getD d undef) w

theorem put_getD {a : Act} {d : Tmp} {v : Value} (h : d < a.tmps.size) : (a.put (some d) v).tmps.getD d undef = v := by
  simp [Act.put, Array.getD, h]

theorem gives_of_wpList {ops : Array Oper} {o : Oper} {a : Act} {w : World} {d : Tmp} {Ψ : Value → World → Prop} (hd : o.dst = some d) (hs : d < a.tmps.size) (hw : Region.wanted o (yielded ops a.tmps) = true)
    (h : wpList P ops (OnePost d a.defers.length Ψ) [o] a w) : Oper.gives P o a w Ψ := by
  unfold wpList at h
  rw [if_pos hw] at h
  rcases h with h | ⟨_, a', w', h, _⟩
  · unfold Oper.wp at h
    unfold Oper.gives
    generalize (execOp a.eval o).run P w = r at *
    cases r with
    | ok n w' =>
      cases n <;> simp only [Oper.upon, wpList, hd] at h ⊢
      case value v => have := h.2.2; rwa [put_getD hs] at this
      case skip => have := h.2.2; rwa [put_getD hs] at this
      case defer d' => have := h.2.1; simp [Act.put] at this
      case enter f args =>
        refine Calls.mono h fun e w'' he => ?_
        cases e with
        | returned v => have := he.2.2; rwa [put_getD hs] at this
        | panicked c => exact absurd he.1 (by simp)
        | outgrown => obtain ⟨_, _, h, _⟩ := he; exact absurd h (by simp)
      case row row args => exact Rows.mono h fun v w'' he => by have := he.2.2; rwa [put_getD hs] at this
    | halt x w' =>
      cases x <;> simp only [Oper.upon] at h
      exact absurd h.1 (by simp)
  · exact absurd h (by simp)

/-- the same of an operation that yields nothing -/
def NonePost (n : Nat) (Ψ : World → Prop) : Exit → Act → World → Prop := fun e a w => e = .normal ∧ a.defers.length = n ∧ Ψ w
theorem gives_of_wpList0 {ops : Array Oper} {o : Oper} {a : Act} {w : World} {Ψ : World → Prop} (hw : Region.wanted o (yielded ops a.tmps) = true) (hd : o.dst = none)
    (h : wpList P ops (NonePost a.defers.length Ψ) [o] a w) : Oper.gives P o a w (fun _ w' => Ψ w') := by
  unfold wpList at h
  rw [if_pos hw] at h
  rcases h with h | ⟨_, a', w', h, _⟩
  · unfold Oper.wp at h
    unfold Oper.gives
    generalize (execOp a.eval o).run P w = r at *
    cases r with
    | ok n w' =>
      cases n <;> simp only [Oper.upon, wpList, hd] at h ⊢
      case value v => exact h.2.2
      case skip => exact h.2.2
      case defer d' => have := h.2.1; simp [Act.put] at this
      case enter f args =>
        refine Calls.mono h fun e w'' he => ?_
        cases e with
        | returned v => exact he.2.2
        | panicked c => exact absurd he.1 (by simp)
        | outgrown => obtain ⟨_, _, h, _⟩ := he; exact absurd h (by simp)
      case row row args => exact Rows.mono h fun v w'' he => he.2.2
    | halt x w' =>
      cases x <;> simp only [Oper.upon] at h
      exact absurd h.1 (by simp)
  · exact absurd h (by simp)

theorem gives_mono {o : Oper} {a : Act} {w : World} {Ψ Ψ' : Value → World → Prop} (h : Oper.gives P o a w Ψ) (hi : ∀ v w', Ψ v w' → Ψ' v w') : Oper.gives P o a w Ψ' := by
  unfold Oper.gives at *
  generalize (execOp a.eval o).run P w = r at *
  cases r with
  | ok n w' =>
    cases n <;> simp only at h ⊢
    case value v => exact hi _ _ h
    case skip => exact hi _ _ h
    case enter f args => exact Calls.mono h fun e w'' he => by cases e <;> first | exact hi _ _ he | exact he
    case row row args => exact Rows.mono h fun v w'' he => hi _ _ he
  | halt x w' => exact h

theorem wp_of_gives {o : Oper} {a a' : Act} {w : World} {K : Act → World → Prop} {Q : Exit → Act → World → Prop} (he : execOp a'.eval o = execOp a.eval o)
    (h : Oper.gives P o a w fun v w' => K (a'.put o.dst v) w') : o.wp P a' w K Q := by
  unfold Oper.gives at h
  unfold Oper.wp
  rw [he]
  generalize (execOp a.eval o).run P w = r at *
  cases r with
  | ok n w' =>
    cases n <;> simp only [Oper.upon] at h ⊢
    case value v => exact h
    case skip => exact h
    case enter f args => exact Calls.mono h fun e w'' he => by cases e <;> first | exact he | exact False.elim he
    case row row args => exact h
  | halt x w' => exact False.elim h

theorem putList_size (ops : Array Oper) (a0 : Act) (f : Nat → Value) (l : List Nat) : (putList ops a0 f l).tmps.size = a0.tmps.size := by
  induction l with
  | nil => rfl
  | cons j l ih => unfold putList Act.put; split <;> simp [ih]
theorem putList_defers (ops : Array Oper) (a0 : Act) (f : Nat → Value) (l : List Nat) : (putList ops a0 f l).defers = a0.defers := by
  induction l with
  | nil => rfl
  | cons j l ih => unfold putList Act.put; split <;> simp [ih]
theorem putList_other {ops : Array Oper} {a0 : Act} {f : Nat → Value} {t : Tmp} {l : List Nat} (h : ∀ j, j ∈ l → dstOf ops j ≠ some t) : (putList ops a0 f l).tmps.getD t undef = a0.tmps.getD t undef := by
  induction l with
  | nil => rfl
  | cons j l ih =>
    have ih := ih fun k hk => h k (by simp [hk])
    unfold putList Act.put
    cases hd : dstOf ops j with
    | none => exact ih
    | some d =>
      have hne : d ≠ t := fun e => h j (by simp) (by rw [hd, e])
      simp only
      rw [← ih]
      simp [Array.getD_eq_getD_getElem?, Array.getElem?_setIfInBounds_ne hne]
theorem putList_at {ops : Array Oper} {a0 : Act} {f : Nat → Value} {t : Tmp} {l : List Nat} {i : Nat} (hi : i ∈ l) (hd : dstOf ops i = some t) (hs : t < a0.tmps.size)
    (hu : ∀ j, j ∈ l → dstOf ops j = some t → j = i) : (putList ops a0 f l).tmps.getD t undef = f i := by
  induction l with
  | nil => simp at hi
  | cons j l ih =>
    by_cases hj : dstOf ops j = some t
    · obtain rfl := hu j (by simp) hj
      unfold putList
      rw [hj]
      exact put_getD (by rw [putList_size]; exact hs)
    · have hil : i ∈ l := by
        rcases List.mem_cons.1 hi with h | h
        · exact absurd (h ▸ hd) hj
        · exact h
      have ih := ih hil fun k hk => hu k (by simp [hk])
      unfold putList Act.put
      cases hd' : dstOf ops j with
      | none => exact ih
      | some d =>
        have hne : d ≠ t := fun e => hj (by rw [hd', e])
        simp only
        rw [← ih]
        simp [Array.getD_eq_getD_getElem?, Array.getElem?_setIfInBounds_ne hne]

/-- what has been done, at a place of the schedule; operation s is the one that may write -/
structure Sofar (ops : Array Oper) (a0 : Act) (R1 R2 : World → Prop) (s : Nat) (Φ : Nat → World → Value → Prop) (listed : Array Bool) (f : Nat → Value) (a : Act) (w : World) : Prop where
  len : listed.size = ops.size
  size : a.tmps.size = a0.tmps.size
  defers : a.defers = a0.defers
  val : ∀ j d, listed.getD j false = true → dstOf ops j = some d → a.tmps.getD d undef = f j
  old : ∀ t, (∀ j, listed.getD j false = true → dstOf ops j ≠ some t) → a.tmps.getD t undef = a0.tmps.getD t undef
  holds : ∀ j, listed.getD j false = true → Φ j w (f j)
  one : listed.getD s false = false → R1 w
  two : R2 w
  closed : ∀ j, listed.getD j false = true → ∀ e ∈ depsOf ops j, listed.getD e false = true

variable {ops : Array Oper} {a0 : Act} {R1 R2 : World → Prop} {S : World → World → Prop} {Φ : Nat → World → Value → Prop} {m s : Nat}

theorem fits_at (hfit : regionFits ops a0.tmps.size m = true) {i : Nat} {o : Oper} (hi : ops[i]? = some o) : opFits ops a0.tmps.size i o = true := by
  unfold regionFits at hfit
  rw [Bool.and_eq_true, List.all_eq_true] at hfit
  have h := hfit.1 i (by simp; exact (Array.getElem?_eq_some_iff.1 hi).1)
  rw [hi] at h
  exact h
theorem dst_lt (hfit : regionFits ops a0.tmps.size m = true) {i : Nat} {d : Tmp} (hd : dstOf ops i = some d) : d < a0.tmps.size ∧ i < ops.size ∧ ∀ j, j < i → dstOf ops j ≠ some d := by
  unfold dstOf at hd
  cases ho : ops[i]? with
  | none => rw [ho] at hd; simp at hd
  | some o =>
    rw [ho] at hd
    have hd : o.dst = some d := by simpa using hd
    have h := fits_at hfit ho
    unfold opFits at h
    simp only [Bool.and_eq_true, hd, Option.all_some, decide_eq_true_eq, List.all_eq_true, List.mem_range, bne_iff_ne] at h
    exact ⟨h.1.2.1, (Array.getElem?_eq_some_iff.1 ho).1, h.1.2.2⟩
theorem dst_inj (hfit : regionFits ops a0.tmps.size m = true) {i j : Nat} {d : Tmp} (hi : dstOf ops i = some d) (hj : dstOf ops j = some d) : i = j := by
  rcases Nat.lt_trichotomy i j with h | h | h
  · exact absurd hi ((dst_lt hfit hj).2.2 i h)
  · exact h
  · exact absurd hj ((dst_lt hfit hi).2.2 j h)

theorem ready_of {listed : Array Bool} {i : Nat} (h : i ∈ Region.ready .any ops listed) : listed.getD i true = false ∧ ∃ o, ops[i]? = some o ∧ ∀ e ∈ depsOf ops i, listed.getD e false = true := by
  obtain ⟨h0, o, ho, hd⟩ := mem_ready.1 h
  refine ⟨h0, o, ho, fun e he => ?_⟩
  unfold depsOf at he
  rw [ho] at he
  simp only [List.mem_map, List.mem_filter] at he
  obtain ⟨x, ⟨hx, hb⟩, rfl⟩ := he
  exact hd x (by simpa using hx) hb

theorem unlisted_false {listed : Array Bool} {i : Nat} (h : listed.getD i true = false) : listed.getD i false = false := by
  by_cases hi : i < listed.size
  · simpa [Array.getD, hi] using h
  · simp [Array.getD, hi] at h

/-- the frame of an operation whose turn it is: as if only those that it depends on had been carried out -/
theorem Sofar.eval {listed : Array Bool} {f : Nat → Value} {a : Act} {w : World} (h : Sofar ops a0 R1 R2 s Φ listed f a w) (hfit : regionFits ops a0.tmps.size m = true) {i : Nat} {o : Oper} (ho : ops[i]? = some o)
    (hun : listed.getD i false = false) (hdeps : ∀ e ∈ depsOf ops i, listed.getD e false = true) :
    execOp a.eval o = execOp (putList ops a0 f (depsOf ops i)).eval o ∧ Region.wanted o (yielded ops a.tmps) = Region.wanted o (yielded ops (putList ops a0 f (depsOf ops i)).tmps) := by
  have hf := fits_at hfit ho
  unfold opFits at hf
  simp only [Bool.and_eq_true] at hf
  obtain ⟨⟨⟨⟨hsel, hlt⟩, hg⟩, hdst⟩, hop⟩ := hf
  have key : ∀ t, (∀ j, dstOf ops j = some t → j = i ∨ j ∈ depsOf ops i ∨ i ∈ depsOf ops j) → a.tmps.getD t undef = (putList ops a0 f (depsOf ops i)).tmps.getD t undef := by
    intro t ht
    by_cases hx : ∃ j, listed.getD j false = true ∧ dstOf ops j = some t
    · obtain ⟨j, hj, hjd⟩ := hx
      rw [h.val j t hj hjd]
      rcases ht j hjd with e | e | e
      · subst e; rw [hun] at hj; simp at hj
      · exact (putList_at e hjd (dst_lt hfit hjd).1 fun k _ hk => dst_inj hfit hk hjd).symm
      · have := h.closed j hj i e; rw [hun] at this; simp at this
    · rw [h.old t fun j hj hjd => hx ⟨j, hj, hjd⟩, putList_other fun j hj hjd => hx ⟨j, hdeps j hj, hjd⟩]
  refine ⟨execOp_congr o (fun cs b e => by rw [e] at hsel; simp at hsel) fun x hx => ?_, ?_⟩
  · cases x with
    | tmp t =>
      have h1 := Array.all_eq_true_iff_forall_mem.1 hop (.tmp t) hx
      simp only [List.all_eq_true, List.mem_range, Bool.or_eq_true, bne_iff_ne, beq_iff_eq, List.contains_iff_mem] at h1
      refine key t fun j hj => ?_
      rcases h1 j (dst_lt hfit hj).2.1 with ((h2 | h2) | h2) | h2
      · exact absurd hj h2
      · exact .inl h2
      · exact .inr (.inl h2)
      · exact .inr (.inr h2)
    | _ => rfl
  · unfold Region.wanted
    cases hgd : o.guard with
    | none => rfl
    | some gw =>
      obtain ⟨g, want⟩ := gw
      rw [hgd] at hg
      have hgm : g ∈ depsOf ops i := by simpa using hg
      have : yielded ops a.tmps g = yielded ops (putList ops a0 f (depsOf ops i)).tmps g := by
        unfold yielded
        cases hgd' : (ops[g]?).bind (·.dst) with
        | none => rfl
        | some d =>
          have hgd'' : dstOf ops g = some d := hgd'
          have hs := (dst_lt hfit hgd'').1
          have e := key d fun j hj => by rw [dst_inj hfit hj hgd'']; exact .inr (.inl hgm)
          have s1 : d < a.tmps.size := by rw [h.size]; exact hs
          have s2 : d < (putList ops a0 f (depsOf ops i)).tmps.size := by rw [putList_size]; exact hs
          simp only [Array.getD, s1, s2, dif_pos] at e
          simp only [Option.bind_some, Array.getElem?_eq_getElem s1, Array.getElem?_eq_getElem s2]
          have e' : a.tmps[d] = (putList ops a0 f (depsOf ops i)).tmps[d] := e
          rw [e']
      simp only [this]

theorem Sofar.next {listed : Array Bool} {f : Nat → Value} {a : Act} {w w' : World} {v : Value} (h : Sofar ops a0 R1 R2 s Φ listed f a w) (hfit : regionFits ops a0.tmps.size m = true)
    {i : Nat} {o : Oper} (ho : ops[i]? = some o) (hdeps : ∀ e ∈ depsOf ops i, listed.getD e false = true) (h1 : i ≠ s → listed.getD s false = false → R1 w') (h2 : R2 w')
    (hpres : ∀ j u, j ≠ i → Φ j w u → Φ j w' u) (hv : Φ i w' v) :
    Sofar ops a0 R1 R2 s Φ (listed.setIfInBounds i true) (fun j => if j = i then v else f j) (a.put o.dst v) w' := by
  have hil : i < listed.size := by rw [h.len]; exact (Array.getElem?_eq_some_iff.1 ho).1
  have hset : ∀ j, (listed.setIfInBounds i true).getD j false = true ↔ j = i ∨ listed.getD j false = true := by
    intro j
    by_cases e : j = i
    · subst e; simp [Array.getD, hil]
    · simp only [e, false_or]
      rw [getD_set_ne false (fun x => e x.symm)]
  have hdo : dstOf ops i = o.dst := by simp [dstOf, ho]
  refine ⟨by simp [h.len], ?_, ?_, ?_, ?_, ?_, ?_, h2, ?_⟩
  · unfold Act.put; split <;> simp [h.size]
  · unfold Act.put; split <;> simp [h.defers]
  · intro j d hj hd
    by_cases e : j = i
    · subst e
      rw [hdo] at hd
      rw [hd, if_pos rfl]
      exact put_getD (by rw [h.size]; exact (dst_lt hfit (by rw [hdo]; exact hd)).1)
    · rw [if_neg e]
      have hj' := ((hset j).1 hj).resolve_left e
      rw [← h.val j d hj' hd]
      unfold Act.put
      cases hdd : o.dst with
      | none => rfl
      | some d' =>
        have hne : d' ≠ d := fun x => e (dst_inj hfit hd (by rw [hdo, hdd, x]))
        simp [Array.getD_eq_getD_getElem?, Array.getElem?_setIfInBounds_ne hne]
  · intro t ht
    rw [← h.old t fun j hj => ht j ((hset j).2 (.inr hj))]
    have hi := ht i ((hset i).2 (.inl rfl))
    rw [hdo] at hi
    unfold Act.put
    cases hdd : o.dst with
    | none => rfl
    | some d' =>
      have hne : d' ≠ t := fun x => hi (by rw [hdd, x])
      simp [Array.getD_eq_getD_getElem?, Array.getElem?_setIfInBounds_ne hne]
  · intro j hj
    by_cases e : j = i
    · subst e; simpa using hv
    · simp only [if_neg e]
      exact hpres _ _ e (h.holds j (((hset j).1 hj).resolve_left e))
  · intro hs
    have hne : i ≠ s := fun e => by rw [(hset s).2 (.inl e.symm)] at hs; simp at hs
    refine h1 hne ?_
    cases hl : listed.getD s false with
    | false => rfl
    | true => rw [(hset s).2 (.inr hl)] at hs; simp at hs
  · intro j hj e he
    rcases (hset j).1 hj with x | x
    · subst x; exact (hset e).2 (.inr (hdeps e he))
    · exact (hset e).2 (.inr (h.closed j x e he))

theorem Sofar.full {listed : Array Bool} {f : Nat → Value} {a : Act} {w : World} (h : Sofar ops a0 R1 R2 s Φ listed f a w) (hfit : regionFits ops a0.tmps.size m = true) {k : Nat} (hk : ∀ j, listed.getD j false = true ↔ j < k) :
    a = putList ops a0 f (List.range k) := by
  obtain ⟨tm, df⟩ := a
  have e1 : df = (putList ops a0 f (List.range k)).defers := by rw [putList_defers]; exact h.defers
  have e2 : tm = (putList ops a0 f (List.range k)).tmps := by
    apply Array.ext
    · rw [putList_size]; exact h.size
    · intro t h1 h2
      have key : tm.getD t undef = (putList ops a0 f (List.range k)).tmps.getD t undef := by
        by_cases hx : ∃ j, j < k ∧ dstOf ops j = some t
        · obtain ⟨j, hj, hjd⟩ := hx
          rw [h.val j t ((hk j).2 hj) hjd]
          exact (putList_at (by simpa using hj) hjd (dst_lt hfit hjd).1 fun i _ hi => dst_inj hfit hi hjd).symm
        · rw [h.old t fun j hj hjd => hx ⟨j, (hk j).1 hj, hjd⟩, putList_other fun j hj hjd => hx ⟨j, by simpa using hj, hjd⟩]
      simpa [Array.getD, h1, h2] using key
  rw [e1, e2]

theorem reach_listed {listed : Array Bool} (hc : ∀ j, listed.getD j false = true → ∀ e ∈ depsOf ops j, listed.getD e false = true) {i : Nat} (hd : ∀ e ∈ depsOf ops i, listed.getD e false = true) :
    ∀ e ∈ reachAt ops i, listed.getD e false = true := by
  unfold reachAt
  generalize (List.range i).reverse = l
  have key : ∀ (l : List Nat) (s : List Nat), (∀ e ∈ s, listed.getD e false = true) → ∀ e ∈ l.foldl (fun s j => if s.contains j then depsOf ops j ++ s else s) s, listed.getD e false = true := by
    intro l
    induction l with
    | nil => intro s hs; exact hs
    | cons j l ih =>
      intro s hs
      simp only [List.foldl_cons]
      apply ih
      split
      · rename_i hj
        intro e he
        rcases List.mem_append.1 he with h | h
        · exact hc j (hs j (by simpa using hj)) e h
        · exact hs e h
      · exact hs
  exact key l _ hd

theorem ready_tail (hfit : regionFits ops a0.tmps.size m = true) {listed : Array Bool} (hc : ∀ j, listed.getD j false = true → ∀ e ∈ depsOf ops j, listed.getD e false = true) {i : Nat} (hi : i ∈ Region.ready .any ops listed) (hm : m ≤ i) :
    ∀ j, j < i → listed.getD j false = true := by
  obtain ⟨_, o, ho, hd⟩ := ready_of hi
  unfold regionFits at hfit
  rw [Bool.and_eq_true, List.all_eq_true, List.all_eq_true] at hfit
  have h := hfit.2 i (by simp; exact (Array.getElem?_eq_some_iff.1 ho).1)
  simp only [Bool.or_eq_true, decide_eq_true_eq, List.all_eq_true, List.mem_range, List.contains_iff_mem] at h
  intro j hj
  exact reach_listed hc hd j ((h.resolve_left (by omega)) j hj)

/-- from the tail on there is one order -/
theorem any_tail (hfit : regionFits ops a0.tmps.size m = true) {Q : Exit → Act → World → Prop} : ∀ (fuel k : Nat) (listed : Array Bool) (a : Act) (w : World), ops.size - k ≤ fuel → m ≤ k → listed.size = ops.size →
    (∀ j, listed.getD j false = true ↔ j < k) → k ≤ ops.size → wpOps P ops Q (List.range' k (ops.size - k)) a w → wpAny P .any ops Q fuel listed a w := by
  intro fuel
  have closed : ∀ (k : Nat) (listed : Array Bool), (∀ j, listed.getD j false = true ↔ j < k) → k ≤ ops.size → ∀ j, listed.getD j false = true → ∀ e ∈ depsOf ops j, listed.getD e false = true := by
    intro k listed hk hks j hj e he
    have hjk := (hk j).1 hj
    have ho : ops[j]? = some (ops[j]'(by omega)) := Array.getElem?_eq_getElem (by omega)
    have hf := fits_at hfit ho
    unfold opFits at hf
    simp only [Bool.and_eq_true] at hf
    have := List.all_eq_true.1 hf.1.1.1.2 e he
    simp only [decide_eq_true_eq] at this
    exact (hk e).2 (by omega)
  have rdy : ∀ (k : Nat) (listed : Array Bool), (∀ j, listed.getD j false = true ↔ j < k) → k ≤ ops.size → m ≤ k → listed.size = ops.size → ∀ i ∈ Region.ready .any ops listed, i = k := by
    intro k listed hk hks hm hl i hi
    obtain ⟨h0, o, ho, hd⟩ := ready_of hi
    have h1 := unlisted_false h0
    have hik : k ≤ i := by
      rcases Nat.lt_or_ge i k with h | h
      · rw [(hk i).2 h] at h1; simp at h1
      · exact h
    have := ready_tail hfit (closed k listed hk hks) hi (by omega)
    rcases Nat.lt_or_ge k i with h | h
    · exact absurd ((hk k).1 (this k h)) (by omega)
    · omega
  induction fuel with
  | zero =>
    intro k listed a w hf hm hl hk hks h
    have e : ops.size - k = 0 := by omega
    rw [e] at h
    refine ⟨?_, h⟩
    apply List.eq_nil_iff_forall_not_mem.2
    intro i hi
    have hik := rdy k listed hk hks hm hl i hi
    obtain ⟨_, o, ho, _⟩ := ready_of hi
    have := (Array.getElem?_eq_some_iff.1 ho).1
    omega
  | succ fuel ih =>
    intro k listed a w hf hm hl hk hks h
    refine ⟨fun h0 => ?_, fun i hi => ?_⟩
    · -- nothing is ready: the end
      have e : k = ops.size := by
        rcases Nat.lt_or_ge k ops.size with hlt | hge
        · have : k ∈ Region.ready .any ops listed := by
            apply mem_ready.2
            have ho : ops[k]? = some (ops[k]'hlt) := Array.getElem?_eq_getElem hlt
            refine ⟨?_, _, ho, fun e he hb => ?_⟩
            · have h1 : ¬ listed.getD k false = true := fun x => absurd ((hk k).1 x) (by omega)
              have hkl : k < listed.size := by omega
              simpa [Array.getD, hkl] using h1
            · have hf := fits_at hfit ho
              unfold opFits at hf
              simp only [Bool.and_eq_true] at hf
              have hm' : e.on ∈ depsOf ops k := by
                unfold depsOf; rw [ho]
                exact List.mem_map.2 ⟨e, List.mem_filter.2 ⟨by simpa using he, hb⟩, rfl⟩
              have := List.all_eq_true.1 hf.1.1.1.2 _ hm'
              simp only [decide_eq_true_eq] at this
              exact (hk _).2 this
          rw [h0] at this; simp at this
        · omega
      rw [e, Nat.sub_self] at h
      exact h
    · have hik := rdy k listed hk hks hm hl i hi
      subst hik
      obtain ⟨_, o, ho, _⟩ := ready_of hi
      have hlt := (Array.getElem?_eq_some_iff.1 ho).1
      have e : ops.size - i = (ops.size - (i + 1)) + 1 := by omega
      rw [e, List.range'_succ, wpOps_cons] at h
      refine wpOp_mono (fun a w h => ih (i + 1) _ a w (by omega) (by omega) (by simpa using hl) (fun j => ?_) (by omega) h) h
      by_cases x : j = i
      · subst x; simp [Array.getD, hl, hlt]
      · rw [getD_set_ne false (fun y => x y.symm), hk j]
        omega

theorem wpOps_tail {Q : Exit → Act → World → Prop} {a : Act} {w : World} {k : Nat} (h : wpList P ops Q (ops.toList.drop k) a w) : wpOps P ops Q (List.range' k (ops.size - k)) a w := by
  have e := wpOps_eq_wpList (P := P) (ops := ops) (Q := Q) (ops.toList.drop k) k (fun j => by rw [List.getElem?_drop]; simp)
  rw [List.length_drop, Array.length_toList] at e
  rw [e]; exact h

def unlistedCount (listed : Array Bool) (n : Nat) : Nat := (List.range n).countP fun j => listed.getD j false = false

theorem unlisted_set {listed : Array Bool} {n i : Nat} (hi : i < n) (hl : listed.size = n) (hu : listed.getD i false = false) : unlistedCount (listed.setIfInBounds i true) n + 1 ≤ unlistedCount listed n := by
  have key : ∀ (l : List Nat), l.Nodup → (l.countP fun j => (listed.setIfInBounds i true).getD j false = false) + (if i ∈ l then 1 else 0) = l.countP fun j => listed.getD j false = false := by
    intro l
    induction l with
    | nil => intro _; simp
    | cons x l ih =>
      intro hn
      rw [List.nodup_cons] at hn
      have ih := ih hn.2
      by_cases e : x = i
      · subst e
        have h1 : (listed.setIfInBounds x true).getD x false = true := by simp [Array.getD, hl, hi]
        rw [List.countP_cons, List.countP_cons, h1, hu, if_neg hn.1] at *
        simp at ih ⊢
        omega
      · have h1 : (listed.setIfInBounds i true).getD x false = listed.getD x false := getD_set_ne false (fun y => e y.symm)
        rw [List.countP_cons, List.countP_cons, h1]
        have : (i ∈ x :: l) ↔ i ∈ l := by rw [List.mem_cons]; exact ⟨fun h => h.resolve_left fun y => e y.symm, .inr⟩
        simp only [this]
        omega
  have := key (List.range n) List.nodup_range
  rw [if_pos (by simpa using hi)] at this
  unfold unlistedCount
  omega

/-- THE RULE: what each operation gives in whatever world extends the first, told by predicates that last; one operation (s) may write; then the tail, in the text's order. -/
theorem wp_region_inv {id : Nat} {Q : Exit → Act → World → Prop} {w : World} (s : Nat) (n : Nat) (hm : P.follows .mixedOrders = true) (hsz : ops.size = n) (hmn : m ≤ n) (hfit : regionFits ops a0.tmps.size m = true)
    (h0 : R1 w.drew) (h12 : ∀ w, R1 w → R2 w) (hS1 : ∀ w w', R1 w → S w w' → R1 w') (hS2 : ∀ w w', R2 w → S w w' → R2 w') (hmono : ∀ j w w' v, S w w' → Φ j w v → Φ j w' v)
    (hop : ∀ i, i < m → i ≠ s → ∀ o, ops[i]? = some o → ∀ (f : Nat → Value) (w' : World), R2 w' → (∀ j ∈ depsOf ops i, Φ j w' (f j)) →
      (if Region.wanted o (yielded ops (putList ops a0 f (depsOf ops i)).tmps) then Oper.gives P o (putList ops a0 f (depsOf ops i)) w' (fun v w'' => S w' w'' ∧ Φ i w'' v) else Φ i w' undef))
    (hsp : s < m → ∀ o, ops[s]? = some o → ∀ (f : Nat → Value) (w' : World), R1 w' → (∀ j ∈ depsOf ops s, Φ j w' (f j)) →
      (if Region.wanted o (yielded ops (putList ops a0 f (depsOf ops s)).tmps) then Oper.gives P o (putList ops a0 f (depsOf ops s)) w' (fun v w'' => R2 w'' ∧ Φ s w'' v ∧ ∀ j u, j ≠ s → Φ j w' u → Φ j w'' u) else Φ s w' undef))
    (hend : ∀ (f : Nat → Value) (w' : World), R2 w' → (∀ j, j < m → Φ j w' (f j)) → wpList P ops Q (ops.toList.drop m) (putList ops a0 f (List.range m)) w') :
    (Code.region id ops true).wp P Q a0 w := by
  apply wp_region_any hm
  have main : ∀ (fuel : Nat) (listed : Array Bool) (f : Nat → Value) (a : Act) (w' : World), unlistedCount listed ops.size ≤ fuel → (∀ j, m ≤ j → listed.getD j false = false) → Sofar ops a0 R1 R2 s Φ listed f a w' →
      wpAny P .any ops Q fuel listed a w' := by
    intro fuel
    induction fuel with
    | zero =>
      intro listed f a w' hc ht h
      have hall : ∀ j, j < ops.size → listed.getD j false = true := by
        intro j hj
        have h0 : unlistedCount listed ops.size = 0 := by omega
        unfold unlistedCount at h0
        rw [List.countP_eq_zero] at h0
        have := h0 j (by simpa using hj)
        simpa using this
      have hms : m = ops.size := by
        rcases Nat.lt_or_ge m ops.size with hlt | hge
        · have h1 := hall m hlt; rw [ht m (Nat.le_refl _)] at h1; simp at h1
        · omega
      have hk : ∀ j, listed.getD j false = true ↔ j < m := by
        intro j
        constructor
        · intro hj
          rcases Nat.lt_or_ge j m with hlt | hge
          · exact hlt
          · rw [ht j hge] at hj; simp at hj
        · intro hj; exact hall j (by omega)
      have e := h.full hfit hk
      refine any_tail hfit 0 m listed a w' (by omega) (Nat.le_refl _) h.len hk (by omega) (wpOps_tail ?_)
      rw [e]
      exact hend f w' h.two fun j hj => h.holds j ((hk j).2 hj)
    | succ fuel ih =>
      intro listed f a w' hc ht h
      have stepTail : (∀ j, j < m → listed.getD j false = true) → wpAny P .any ops Q (fuel + 1) listed a w' := by
        intro hall
        have hk : ∀ j, listed.getD j false = true ↔ j < m := by
          intro j
          constructor
          · intro hj
            rcases Nat.lt_or_ge j m with hlt | hge
            · exact hlt
            · rw [ht j hge] at hj; simp at hj
          · intro hj; exact hall j hj
        have e := h.full hfit hk
        have hcount : ops.size - m ≤ unlistedCount listed ops.size := by
          unfold unlistedCount
          have : List.range ops.size = List.range m ++ List.range' m (ops.size - m) := by
            have h1 := @List.range'_append_1 0 m (ops.size - m)
            rw [Nat.zero_add, show m + (ops.size - m) = ops.size from by omega] at h1
            rw [List.range_eq_range', List.range_eq_range', h1]
          rw [this, List.countP_append]
          have : (List.range' m (ops.size - m)).countP (fun j => decide (listed.getD j false = false)) = (List.range' m (ops.size - m)).length := by
            rw [List.countP_eq_length]
            intro j hj
            rw [List.mem_range'_1] at hj
            simp only [decide_eq_true_eq]
            exact ht j hj.1
          rw [this, List.length_range']
          omega
        refine any_tail hfit (fuel + 1) m listed a w' (by omega) (Nat.le_refl _) h.len hk (by omega) (wpOps_tail ?_)
        rw [e]
        exact hend f w' h.two fun j hj => h.holds j ((hk j).2 hj)
      by_cases hall : ∀ j, j < m → listed.getD j false = true
      · exact stepTail hall
      · have hfree : ∀ i ∈ Region.ready .any ops listed, i < m := by
          intro i hi
          rcases Nat.lt_or_ge i m with hlt | hge
          · exact hlt
          · exact absurd (fun j hj => ready_tail hfit h.closed hi hge j (by omega)) hall
        refine ⟨fun h0 => ?_, fun i hi => ?_⟩
        · -- the least one that is not listed is ready
          exfalso
          apply hall
          intro j
          induction j using Nat.strongRecOn with
          | _ j ihj =>
            intro hj
            cases hl : listed.getD j false with
            | true => rfl
            | false =>
              exfalso
              have hjs : j < ops.size := by omega
              have ho : ops[j]? = some (ops[j]'hjs) := Array.getElem?_eq_getElem hjs
              have : j ∈ Region.ready .any ops listed := by
                apply mem_ready.2
                refine ⟨?_, _, ho, fun e he hb => ?_⟩
                · have hjl : j < listed.size := by rw [h.len]; exact hjs
                  simpa [Array.getD, hjl] using hl
                · have hf := fits_at hfit ho
                  unfold opFits at hf
                  simp only [Bool.and_eq_true] at hf
                  have hm' : e.on ∈ depsOf ops j := by
                    unfold depsOf; rw [ho]
                    exact List.mem_map.2 ⟨e, List.mem_filter.2 ⟨by simpa using he, hb⟩, rfl⟩
                  have := List.all_eq_true.1 hf.1.1.1.2 _ hm'
                  simp only [decide_eq_true_eq] at this
                  exact ihj _ this (by omega)
              rw [h0] at this; simp at this
        · obtain ⟨h0, o, ho, hd⟩ := ready_of hi
          have hun := unlisted_false h0
          have him := hfree i hi
          have hlt := (Array.getElem?_eq_some_iff.1 ho).1
          obtain ⟨he, hw⟩ := h.eval hfit ho hun hd
          have hcnt := unlisted_set hlt h.len hun
          by_cases his : i = s
          · subst his
            have hg := hsp him o ho f w' (h.one hun) fun j hj => h.holds j (hd j hj)
            unfold wpOp
            simp only [ho]
            rw [hw]
            by_cases hwt : Region.wanted o (yielded ops (putList ops a0 f (depsOf ops i)).tmps) = true
            · rw [if_pos hwt] at hg ⊢
              exact .inl (wp_of_gives he (gives_mono hg fun v w'' ⟨hr, hv, hp⟩ => ih _ _ _ _ (by omega) (fun j hj => by rw [getD_set_ne false (by omega)]; exact ht j hj) (h.next hfit ho hd (fun x => absurd rfl x) hr hp hv)))
            · rw [if_neg hwt] at hg ⊢
              exact ih _ _ _ _ (by omega) (fun j hj => by rw [getD_set_ne false (by omega)]; exact ht j hj) (h.next hfit ho hd (fun x => absurd rfl x) h.two (fun _ _ _ x => x) hg)
          · have hg := hop i him his o ho f w' h.two fun j hj => h.holds j (hd j hj)
            unfold wpOp
            simp only [ho]
            rw [hw]
            by_cases hwt : Region.wanted o (yielded ops (putList ops a0 f (depsOf ops i)).tmps) = true
            · rw [if_pos hwt] at hg ⊢
              exact .inl (wp_of_gives he (gives_mono hg fun v w'' ⟨hr, hv⟩ => ih _ _ _ _ (by omega) (fun j hj => by rw [getD_set_ne false (by omega)]; exact ht j hj)
                (h.next hfit ho hd (fun _ hl => hS1 _ _ (h.one hl) hr) (hS2 _ _ h.two hr) (fun j u _ x => hmono j _ _ u hr x) hv)))
            · rw [if_neg hwt] at hg ⊢
              exact ih _ _ _ _ (by omega) (fun j hj => by rw [getD_set_ne false (by omega)]; exact ht j hj) (h.next hfit ho hd (fun _ hl => h.one hl) h.two (fun _ _ _ x => x) hg)
  refine main ops.size _ (fun _ => undef) a0 w.drew ?_ ?_ ⟨by simp, rfl, rfl, ?_, fun _ _ => rfl, ?_, fun _ => h0, h12 _ h0, ?_⟩
  · unfold unlistedCount
    exact Nat.le_trans List.countP_le_length (by simp)
  · intro j _; simp [Array.getD]
  · intro j d hj; simp [Array.getD] at hj
  · intro j hj; simp [Array.getD] at hj
  · intro j hj; simp [Array.getD] at hj
end
end Go.Proofs.Ytkghgdkkholieaa
