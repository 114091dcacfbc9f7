/-
  The rule for drawn regions in the form in which it is used: what is known of each operation's value stands in one list.
-/
import Derived.Test.YtkghgdkkholieaaInv
import Derived.WalkKit
namespace Go.Proofs.Ytkghgdkkholieaa
open Go.RowKit

/-- the world has grown, nothing that was there has turned -/
abbrev Ext (w w' : World) : Prop := Below w.heap.size w w'
theorem Ext.refl (w : World) : Ext w w := Below.refl _ _
theorem Ext.trans {a b c : World} (h : Ext a b) (k : Ext b c) : Ext a c := Below.trans h (k.mono h.size)
theorem Ext.drew {a b : World} (h : Ext a.drew b) : Ext a b := ⟨h.os, h.tape, h.output, h.size, h.block⟩

theorem Ext.alloc (w : World) (o : Obj) : Ext w (w.alloc o) := (Below.refl _ _).alloc (Nat.le_refl _) _
theorem Ext.cell' {w w' : World} (h : Ext w w') {p : Addr} (hp : p.block < w.heap.size) : w'.cell? p = w.cell? p := Below.cell h hp
theorem Ext.frozen {w w' : World} (h : Ext w w') {p : Addr} {v : Value} (hc : w.cell? p = some v) (hf : w.frozen? p = false) : w'.frozen? p = false := by
  rw [Below.frozen h (World.block_lt_of_cell? w _ hc)]; exact hf
theorem Ext.set {w w' : World} (h : Ext w w') {p : Addr} (hp : w.heap.size ≤ p.block) (u : Value) : Ext w (w'.setCell p u) := Below.setCell h hp u
theorem Ext.cell {w w' : World} (h : Ext w w') {p : Addr} {v : Value} (hc : w.cell? p = some v) : w'.cell? p = some v := by
  rw [Below.cell h (World.block_lt_of_cell? w _ hc)]; exact hc

theorem set_same {w : World} {p : Addr} {u v : Value} (h : w.cell? p = some u) : (w.setCell p v).cell? p = some v := World.cell?_setCell_same _ _ _ h
theorem set_other {w : World} {p q : Addr} {v x : Value} (h : w.cell? q = some x) (hne : p ≠ q) : (w.setCell p v).cell? q = some x := by rw [World.cell?_setCell_other _ _ _ _ hne]; exact h

/-- what is known of a value; it lasts as the world grows -/
structure Know where
  p : World → Value → Prop
  mono : ∀ w w' v, Ext w w' → p w v → p w' v

def Is (x : Value) : Know := ⟨fun _ v => v = x, fun _ _ _ _ h => h⟩
def Any : Know := ⟨fun _ _ => True, fun _ _ _ _ h => h⟩
def phi (Ks : List Know) (j : Nat) (w : World) (v : Value) : Prop := (Ks.getD j Any).p w v
theorem phi_mono (Ks : List Know) (j : Nat) (w w' : World) (v : Value) (h : Ext w w') (hv : phi Ks j w v) : phi Ks j w' v := (Ks.getD j Any).mono w w' v h hv

/-- the world has grown, nothing that was there has turned but for the blocks of L -/
structure ExtL (L : List Nat) (w w' : World) : Prop where
  os : w'.os = w.os
  tape : w'.tape = w.tape
  output : w'.output = w.output
  size : w.heap.size ≤ w'.heap.size
  block : ∀ k, k < w.heap.size → k ∉ L → w'.heap[k]? = w.heap[k]?
theorem Ext.extL {L : List Nat} {w w' : World} (h : Ext w w') : ExtL L w w' := ⟨h.os, h.tape, h.output, h.size, fun k hk _ => h.block k hk⟩
theorem ExtL.of_grown {L : List Nat} {w w' : World} {row : Option Nat} (h : w.grownBy w' row) (hr : ∀ k, row = some k → k ∈ L) : ExtL L w w' :=
  ⟨h.os, h.tape, h.output, h.size, fun k hk hn => h.block k hk fun e => hn (hr k e.symm)⟩
theorem ExtL.refl (L : List Nat) (w : World) : ExtL L w w := ⟨rfl, rfl, rfl, Nat.le_refl _, fun _ _ _ => rfl⟩
theorem ExtL.trans {L : List Nat} {a b c : World} (h : ExtL L a b) (k : ExtL L b c) : ExtL L a c :=
  ⟨k.os.trans h.os, k.tape.trans h.tape, k.output.trans h.output, Nat.le_trans h.size k.size, fun i hi hn => (k.block i (Nat.lt_of_lt_of_le hi h.size) hn).trans (h.block i hi hn)⟩
theorem ExtL.set {L : List Nat} {w w' : World} (h : ExtL L w w') {p : Addr} (hp : p.block ∈ L) (u : Value) : ExtL L w (w'.setCell p u) :=
  h.trans ⟨rfl, rfl, rfl, by simp [World.setCell], fun k _ hn => Below.heap_setCell _ _ _ _ fun e => hn (e ▸ hp)⟩
theorem ExtL.cell {L : List Nat} {w w' : World} (h : ExtL L w w') {p : Addr} (hp : p.block ∉ L) {v : Value} (hc : w.cell? p = some v) : w'.cell? p = some v := by
  rw [World.cell?_of_block (w := w) (h.block p.block (World.block_lt_of_cell? w _ hc) hp)]; exact hc
/-- this knowledge does not hang on the blocks of L -/
def Far (L : List Nat) (K : Know) : Prop := ∀ w w' v, ExtL L w w' → K.p w v → K.p w' v
theorem far_is {L : List Nat} {x : Value} : Far L (Is x) := fun _ _ _ _ h => h
def FarAll (L : List Nat) (s : Nat) : Nat → List Know → Prop
  | _, [] => True
  | i, K :: l => (i ≠ s → Far L K) ∧ FarAll L s (i + 1) l
theorem far_nil {L : List Nat} {s i : Nat} : FarAll L s i [] := trivial
theorem far_cons {L : List Nat} {s i : Nat} {K : Know} {l : List Know} (h : Far L K) (hl : FarAll L s (i + 1) l) : FarAll L s i (K :: l) := ⟨fun _ => h, hl⟩
theorem far_self {L : List Nat} {s : Nat} {K : Know} {l : List Know} (hl : FarAll L s (s + 1) l) : FarAll L s s (K :: l) := ⟨fun h => absurd rfl h, hl⟩
theorem far_at {L : List Nat} {s : Nat} : ∀ {l : List Know} {i k : Nat}, FarAll L s i l → i + k ≠ s → ∀ w w' v, ExtL L w w' → phi l k w v → phi l k w' v
  | [], _, _, _, _, _, _, _, _, _ => trivial
  | K :: l, i, 0, h, hne, w, w', v, he, hv => h.1 hne w w' v he hv
  | K :: l, i, k + 1, h, hne, w, w', v, he, hv => far_at (l := l) (i := i + 1) (k := k) h.2 (by omega) w w' v he hv

def depsL : List Edge → List Nat
  | [] => []
  | e :: l => if Region.binds .any e then e.on :: depsL l else depsL l
def depsO (o : Oper) : List Nat := depsL o.after.toList
def putD (ds : List (Option Tmp)) (a0 : Act) (f : Nat → Value) : List Nat → Act
  | [] => a0
  | j :: l => (putD ds a0 f l).put (ds.getD j none) (f j)
def wantD (ds : List (Option Tmp)) (o : Oper) (tmps : Array Value) : Bool :=
  match o.guard with
  | none => true
  | some (g, want) => match (ds.getD g none).bind (tmps[·]?) with | some (.bool b) => b == want | _ => false

def KnowAll (Ks : List Know) (f : Nat → Value) (w : World) : List Nat → Prop
  | [] => True
  | j :: l => phi Ks j w (f j) ∧ KnowAll Ks f w l

def OpGoal (P : Program) (ds : List (Option Tmp)) (a0 : Act) (R2 : World → Prop) (Ks : List Know) (s i : Nat) (o : Oper) : Prop :=
  i ≠ s → ∀ (f : Nat → Value) (w' : World), R2 w' → KnowAll Ks f w' (depsO o) →
    (wantD ds o (putD ds a0 f (depsO o)).tmps = true ∧ Oper.gives P o (putD ds a0 f (depsO o)) w' (fun v w'' => Ext w' w'' ∧ phi Ks i w'' v)) ∨ (wantD ds o (putD ds a0 f (depsO o)).tmps = false ∧ phi Ks i w' undef)

def AllOps (Γ : Nat → Oper → Prop) : Nat → List Oper → Prop
  | _, [] => True
  | i, o :: l => Γ i o ∧ AllOps Γ (i + 1) l
theorem allOps_cons {Γ : Nat → Oper → Prop} {i : Nat} {o : Oper} {l : List Oper} (h : Γ i o) (hl : AllOps Γ (i + 1) l) : AllOps Γ i (o :: l) := ⟨h, hl⟩
theorem allOps_nil {Γ : Nat → Oper → Prop} {i : Nat} : AllOps Γ i [] := trivial
theorem allOps_at {Γ : Nat → Oper → Prop} : ∀ {l : List Oper} {i k : Nat} {o : Oper}, AllOps Γ i l → l[k]? = some o → Γ (i + k) o
  | [], _, _, _, _, h => by simp at h
  | x :: l, i, 0, o, h, e => by simp at e; subst e; exact h.1
  | x :: l, i, k + 1, o, h, e => by
    have := allOps_at (k := k) h.2 (by simpa using e)
    rw [show i + (k + 1) = i + 1 + k from by omega]; exact this

theorem depsOf_eq {ops : Array Oper} {i : Nat} {o : Oper} (h : ops[i]? = some o) : depsOf ops i = depsO o := by
  unfold depsOf depsO; rw [h]
  show (o.after.toList.filter (Region.binds .any)).map (·.on) = depsL o.after.toList
  generalize o.after.toList = l
  induction l with
  | nil => rfl
  | cons e l ih =>
    simp only [List.filter_cons, depsL]
    split <;> simp_all
theorem dstOf_eq {ops : Array Oper} {ds : List (Option Tmp)} (h : ops.toList.map (·.dst) = ds) (j : Nat) : dstOf ops j = ds.getD j none := by
  subst h
  unfold dstOf
  cases hj : ops[j]? with
  | none => simp [List.getD, hj]
  | some o => simp [List.getD, hj]
theorem putD_eq {ops : Array Oper} {ds : List (Option Tmp)} (h : ops.toList.map (·.dst) = ds) (a0 : Act) (f : Nat → Value) (l : List Nat) : putList ops a0 f l = putD ds a0 f l := by
  induction l with
  | nil => rfl
  | cons j l ih => unfold putList putD; rw [ih, dstOf_eq h]
theorem wantD_eq {ops : Array Oper} {ds : List (Option Tmp)} (h : ops.toList.map (·.dst) = ds) (o : Oper) (tmps : Array Value) : Region.wanted o (yielded ops tmps) = wantD ds o tmps := by
  unfold Region.wanted wantD
  cases o.guard with
  | none => rfl
  | some g =>
    obtain ⟨g, want⟩ := g
    simp only [yielded]
    rw [← dstOf_eq h g]
    show ((match (dstOf ops g).bind (tmps[·]?) with | some (.bool b) => some b | _ => none) == some want) = _
    cases (dstOf ops g).bind (tmps[·]?) with
    | none => rfl
    | some v => cases v <;> rfl
theorem knowAll_iff {Ks : List Know} {f : Nat → Value} {w : World} : ∀ {l : List Nat}, (∀ j ∈ l, phi Ks j w (f j)) ↔ KnowAll Ks f w l
  | [] => by simp [KnowAll]
  | j :: l => by
    unfold KnowAll
    rw [← knowAll_iff (l := l)]
    simp

section
variable {P : Program} {ops : Array Oper} {a0 : Act}

/-- A region whose operations read, call and make memory, and then a tail. -/
theorem wp_region_ext {id : Nat} {Q : Exit → Act → World → Prop} {w : World} (ds : List (Option Tmp)) (n m : Nat) (Ks : List Know) (hm : P.follows .mixedOrders = true) (hds : ops.toList.map (·.dst) = ds) (hsz : ops.size = n) (hmn : m ≤ n)
    (hfit : regionFits ops a0.tmps.size m = true)
    (hop : AllOps (OpGoal P ds a0 (Ext w) Ks n) 0 (ops.toList.take m))
    (hend : ∀ (f : Nat → Value) (w' : World), Ext w w' → KnowAll Ks f w' (List.range m) → wpList P ops Q (ops.toList.drop m) (putD ds a0 f (List.range m)) w') :
    (Code.region id ops true).wp P Q a0 w := by
  refine wp_region_inv (R1 := Ext w) (R2 := Ext w) (S := Ext) (Φ := phi Ks) (m := m) n n hm hsz hmn hfit (bl_refl_drew w) (fun _ h => h) (fun _ _ h k => h.trans k) (fun _ _ h k => h.trans k) (phi_mono Ks) ?_ ?_ ?_
  · intro i hi hne o ho f w' hr hd
    have hg := allOps_at (k := i) hop (by rw [List.getElem?_take, if_pos hi]; simpa using ho)
    rw [Nat.zero_add] at hg
    rw [depsOf_eq ho] at hd ⊢
    rw [putD_eq hds, wantD_eq hds]
    rcases hg hne f w' hr (knowAll_iff.1 hd) with ⟨h1, h2⟩ | ⟨h1, h2⟩
    · rw [if_pos h1]; exact h2
    · rw [if_neg (by rw [h1]; decide)]; exact h2
  · intro h; omega
  · intro f w' hr hd
    rw [putD_eq hds]
    exact hend f w' hr (knowAll_iff.1 fun j hj => hd j (by simpa using hj))
where
  bl_refl_drew (w : World) : Ext w w.drew := (Below.refl _ _).drew

/-- a store into block V -/
theorem grown_set {w w' : World} {V : Nat} (h : w.grownBy w' (some V)) (i : Nat) (u : Value) : w.grownBy (w'.setCell ⟨V, i, none⟩ u) (some V) :=
  ⟨h.os, h.tape, h.output, by simpa [World.setCell] using h.size, fun k hk hne => (Below.heap_setCell _ _ _ _ (fun e => hne (by rw [e]))).trans (h.block k hk hne)⟩
theorem grown_refl (w : World) (r : Option Nat) : w.grownBy w r := ⟨rfl, rfl, rfl, Nat.le_refl _, fun _ _ _ => rfl⟩

/-- The same with one operation (number s) that writes one row of the call's own. -/
theorem wp_region_row {id : Nat} {Q : Exit → Act → World → Prop} {w : World} (s : Nat) (row : Option Nat) (L : List Nat) (ds : List (Option Tmp)) (n m : Nat) (Ks : List Know) (hm : P.follows .mixedOrders = true) (hds : ops.toList.map (·.dst) = ds) (hsz : ops.size = n) (hmn : m ≤ n)
    (hfit : regionFits ops a0.tmps.size m = true) (hrow : ∀ k, row = some k → k ∈ L)
    (hop : AllOps (OpGoal P ds a0 (ExtL L w) Ks s) 0 (ops.toList.take m))
    (hfar : FarAll L s 0 Ks)
    (hsp : ∀ (f : Nat → Value) (w' : World), Ext w w' → ∀ o, ops[s]? = some o → KnowAll Ks f w' (depsO o) →
      wantD ds o (putD ds a0 f (depsO o)).tmps = true ∧ Oper.gives P o (putD ds a0 f (depsO o)) w' (fun v w'' => w'.grownBy w'' row ∧ phi Ks s w'' v))
    (hend : ∀ (f : Nat → Value) (w' : World), ExtL L w w' → KnowAll Ks f w' (List.range m) → wpList P ops Q (ops.toList.drop m) (putD ds a0 f (List.range m)) w') :
    (Code.region id ops true).wp P Q a0 w := by
  refine wp_region_inv (R1 := Ext w) (R2 := ExtL L w) (S := Ext) (Φ := phi Ks) (m := m) s n hm hsz hmn hfit (Below.refl _ _).drew (fun _ h => h.extL)
    (fun _ _ h k => h.trans k) (fun a b h k => h.trans k.extL) (phi_mono Ks) ?_ ?_ ?_
  · intro i hi hne o ho f w' hr hd
    have hg := allOps_at (k := i) hop (by rw [List.getElem?_take, if_pos hi]; simpa using ho)
    rw [Nat.zero_add] at hg
    rw [depsOf_eq ho] at hd ⊢
    rw [putD_eq hds, wantD_eq hds]
    rcases hg hne f w' hr (knowAll_iff.1 hd) with ⟨h1, h2⟩ | ⟨h1, h2⟩
    · rw [if_pos h1]; exact h2
    · rw [if_neg (by rw [h1]; decide)]; exact h2
  · intro hs o ho f w' hr hd
    rw [depsOf_eq ho] at hd ⊢
    rw [putD_eq hds, wantD_eq hds]
    obtain ⟨h1, h2⟩ := hsp f w' hr o ho (knowAll_iff.1 hd)
    rw [if_pos h1]
    refine gives_mono h2 fun v w'' ⟨hg, hv⟩ => ⟨ExtL.trans hr.extL (ExtL.of_grown hg hrow), hv, fun j u hj hu => ?_⟩
    exact far_at (k := j) hfar (by omega) w' w'' u (ExtL.of_grown hg hrow) hu
  · intro f w' hr hd
    rw [putD_eq hds]
    exact hend f w' hr (knowAll_iff.1 fun j hj => hd j (by simpa using hj))
/-- the operation that writes, by its walk -/
theorem sp_plain {ds : List (Option Tmp)} {Ks : List Know} {s : Nat} {row : Option Nat} {f : Nat → Value} {w' : World} {o : Oper} {d : Tmp} {g : Option (Nat × Bool)} (hg : o.guard = none) (hd : o.dst = some d) (hs : d < a0.tmps.size) (_g : g = none)
    (h : KnowAll Ks f w' (depsO o) → wpList P #[] (OnePost d a0.defers.length (fun v w'' => w'.grownBy w'' row ∧ phi Ks s w'' v)) [o] (putD ds a0 f (depsO o)) w') (o' : Oper) (ho : some o = some o') (hk : KnowAll Ks f w' (depsO o')) :
    wantD ds o' (putD ds a0 f (depsO o')).tmps = true ∧ Oper.gives P o' (putD ds a0 f (depsO o')) w' (fun v w'' => w'.grownBy w'' row ∧ phi Ks s w'' v) := by
  obtain rfl : o = o' := by simpa using ho
  have h2 := h hk
  have hds : (putD ds a0 f (depsO o)).defers = a0.defers := by
    generalize depsO o = l
    induction l with
    | nil => rfl
    | cons j l ih => unfold putD Act.put; split <;> simp [ih]
  have hsz : (putD ds a0 f (depsO o)).tmps.size = a0.tmps.size := by
    generalize depsO o = l
    induction l with
    | nil => rfl
    | cons j l ih => unfold putD Act.put; split <;> simp [ih]
  rw [← hds] at h2
  have hw1 : wantD ds o (putD ds a0 f (depsO o)).tmps = true := by unfold wantD; rw [hg]
  have hw2 : Region.wanted o (yielded #[] (putD ds a0 f (depsO o)).tmps) = true := by unfold Region.wanted; rw [hg]
  exact ⟨hw1, gives_of_wpList hd (by rw [hsz]; exact hs) hw2 h2⟩

/-- the store, by its walk -/
theorem sp_store {ds : List (Option Tmp)} {Ks : List Know} {s : Nat} {row : Option Nat} {f : Nat → Value} {w' : World} {o : Oper} (hg : o.guard = none) (hd : o.dst = none) (hv : ∀ w v v', phi Ks s w v → phi Ks s w v')
    (h : KnowAll Ks f w' (depsO o) → wpList P #[] (NonePost a0.defers.length (fun w'' => w'.grownBy w'' row ∧ phi Ks s w'' undef)) [o] (putD ds a0 f (depsO o)) w') (o' : Oper) (ho : some o = some o') (hk : KnowAll Ks f w' (depsO o')) :
    wantD ds o' (putD ds a0 f (depsO o')).tmps = true ∧ Oper.gives P o' (putD ds a0 f (depsO o')) w' (fun v w'' => w'.grownBy w'' row ∧ phi Ks s w'' v) := by
  obtain rfl : o = o' := by simpa using ho
  have h2 := h hk
  have hds : (putD ds a0 f (depsO o)).defers = a0.defers := by
    generalize depsO o = l
    induction l with
    | nil => rfl
    | cons j l ih => unfold putD Act.put; split <;> simp [ih]
  rw [← hds] at h2
  have hw1 : wantD ds o (putD ds a0 f (depsO o)).tmps = true := by unfold wantD; rw [hg]
  have hw2 : Region.wanted o (yielded #[] (putD ds a0 f (depsO o)).tmps) = true := by unfold Region.wanted; rw [hg]
  exact ⟨hw1, gives_mono (gives_of_wpList0 hw2 hd h2) fun v w'' ⟨h1, h3⟩ => ⟨h1, hv _ _ _ h3⟩⟩

theorem wanted_of_D {ops : Array Oper} {ds : List (Option Tmp)} {o : Oper} (tmps : Array Value) (hg : o.guard = none) : Region.wanted o (yielded ops tmps) = true ∧ wantD ds o tmps = true := by
  unfold Region.wanted wantD; rw [hg]; exact ⟨rfl, rfl⟩
theorem putD_size (ds : List (Option Tmp)) (a0 : Act) (f : Nat → Value) (l : List Nat) : (putD ds a0 f l).tmps.size = a0.tmps.size := by
  induction l with
  | nil => rfl
  | cons j l ih => unfold putD Act.put; split <;> simp [ih]
theorem putD_defers (ds : List (Option Tmp)) (a0 : Act) (f : Nat → Value) (l : List Nat) : (putD ds a0 f l).defers = a0.defers := by
  induction l with
  | nil => rfl
  | cons j l ih => unfold putD Act.put; split <;> simp [ih]
/-- an operation without a guard, by its walk -/
theorem opGoal_plain {ds : List (Option Tmp)} {R2 : World → Prop} {Ks : List Know} {s i : Nat} {o : Oper} {d : Tmp} (hg : o.guard = none) (hd : o.dst = some d) (hs : d < a0.tmps.size)
    (h : ∀ (f : Nat → Value) (w' : World), R2 w' → KnowAll Ks f w' (depsO o) →
      wpList P #[] (OnePost d a0.defers.length (fun v w'' => Ext w' w'' ∧ phi Ks i w'' v)) [o] (putD ds a0 f (depsO o)) w') : OpGoal P ds a0 R2 Ks s i o := by
  intro _ f w' hr hk
  have h2 := h f w' hr hk
  rw [← putD_defers ds a0 f (depsO o)] at h2
  exact .inl ⟨(wanted_of_D (ops := #[]) _ hg).2, gives_of_wpList hd (by rw [putD_size]; exact hs) (wanted_of_D (ds := ds) _ hg).1 h2⟩
theorem gives_guard {o : Oper} {a : Act} {w : World} {Ψ : Value → World → Prop} (g : Option (Nat × Bool)) (h : Oper.gives P { o with guard := g } a w Ψ) : Oper.gives P o a w Ψ := by
  obtain ⟨dst, op, ty, pos, after, guard⟩ := o
  exact h
/-- an operation whose guard is met, by its walk -/
theorem opGoal_guard {ds : List (Option Tmp)} {R2 : World → Prop} {Ks : List Know} {s i : Nat} {dst : Option Tmp} {op : Op} {ty : TypeId} {pos : String} {after : Array Edge} {guard : Option (Nat × Bool)} {g : Nat × Bool} {d : Tmp}
    (_hg : guard = some g) (hd : dst = some d) (hs : d < a0.tmps.size)
    (h : ∀ (f : Nat → Value) (w' : World), R2 w' → KnowAll Ks f w' (depsO ⟨dst, op, ty, pos, after, guard⟩) →
      wantD ds ⟨dst, op, ty, pos, after, guard⟩ (putD ds a0 f (depsO ⟨dst, op, ty, pos, after, guard⟩)).tmps = true ∧
      wpList P #[] (OnePost d a0.defers.length (fun v w'' => Ext w' w'' ∧ phi Ks i w'' v)) [⟨dst, op, ty, pos, after, none⟩] (putD ds a0 f (depsO ⟨dst, op, ty, pos, after, guard⟩)) w') :
    OpGoal P ds a0 R2 Ks s i ⟨dst, op, ty, pos, after, guard⟩ := by
  intro _ f w' hr hk
  obtain ⟨h1, h2⟩ := h f w' hr hk
  rw [← putD_defers ds a0 f (depsO ⟨dst, op, ty, pos, after, guard⟩)] at h2
  exact .inl ⟨h1, gives_guard none (gives_of_wpList (o := ⟨dst, op, ty, pos, after, none⟩) hd (by rw [putD_size]; exact hs) rfl h2)⟩
theorem onePost_is {d : Tmp} {n : Nat} {Ψ : Value → World → Prop} {t : Array Value} {df : List Deferred} {w : World} (v : Value) (h : t[d]? = some v) (hn : df.length = n) (hv : Ψ v w) : OnePost d n Ψ .normal ⟨t, df⟩ w := by
  refine ⟨rfl, hn, ?_⟩
  rw [Array.getD_eq_getD_getElem?, h]; exact hv
theorem put_some (t : Array Value) (df : List Deferred) (d : Tmp) (v : Value) : (Act.mk t df).put (some d) v = ⟨t.setIfInBounds d v, df⟩ := rfl
theorem put_none (a : Act) (v : Value) : a.put none v = a := rfl
end
end Go.Proofs.Ytkghgdkkholieaa
