/-
  Texts laid together: Shape, DB1, DA1, E7, DA2, DA3.
-/
import Derived.Test.YtkghgdkkholieaaDoorZA8
import Derived.OpenShut
import Derived.ChangeArms
import Derived.Test.YtkghgdkkholieaaDoorZA14
import Derived.Test.YtkghgdkkholieaaDoorZA13
import Derived.Test.YtkghgdkkholieaaDoorZA12
import Derived.Test.YtkghgdkkholieaaDoorZA11
import Derived.Test.YtkghgdkkholieaaDoorZA10
/-
  What an argument holds, read whole: of a type made of bools, numbers, strings, slices, arrays and structs (types within themselves too), the evaluator's value and its shape. No program in sight.
-/



namespace Go.Proofs.YtkghgdkkholieaaDoor
open Go

/-- the cells of a value of a type -/
inductive Sh (P : Program) : TypeId → List AV → Prop
  | bool {t b} : P.underlying t = some .bool → Sh P t [.prim (.bool b)]
  | int {t k n} : P.underlying t = some (.int k) → (Lit.int k n).wf = true → Sh P t [.prim (.int k n)]
  | str {t s} : P.underlying t = some .string → s.size ≤ maxLen → Sh P t [.prim (.string s)]
  | slice {t e es} : P.underlying t = some (.slice e) → (∀ x ∈ es, Sh P e x) → es.length ≤ maxLen → Sh P t [.frz es .unk]
  | struct {t fs} {pss : List (List AV)} : P.underlying t = some (.struct fs) → pss.length = fs.size → (∀ i f p, fs[i]? = some f → nth pss i = some p → Sh P f.type p) → Sh P t pss.flatten
  | array {t n e} {pss : List (List AV)} : P.underlying t = some (.array n e) → pss.length = n → (∀ p ∈ pss, Sh P e p) → Sh P t pss.flatten

/-- fields one behind the other -/
def contig (P : Program) : List Field → Nat → Nat → Bool
  | [], o, n => o == n
  | f :: fs, o, n => f.offset == o && contig P fs (o + P.cellsOf f.type) n
def typeIn (P : Program) (F : List TypeId) (t : TypeId) : Bool :=
  match P.underlying t with
  | some .bool => true
  | some (.int k) => k != .u64
  | some .string => true
  | some (.slice e) => F.contains e && decide (0 < P.cellsOf e)
  | some (.struct fs) => contig P fs.toList 0 (P.cellsOf t) && fs.toList.all fun f => F.contains f.type
  | some (.array n e) => F.contains e && P.cellsOf t == n * P.cellsOf e
  | _ => false
/-- types whose parts are types of the list -/
def closedT (P : Program) (F : List TypeId) : Bool := F.all (typeIn P F)
def goodC : AV → Bool
  | .prim (.int k _) => k != .u64
  | .prim _ => true
  | .frz _ _ => true
  | _ => false
theorem Lie_mk {w : World} {A : Nat → Nat → Prop} {b : Nat} : ∀ (vs : List Value) (o : Nat), (∀ j v, nth vs j = some v → w.cell? ⟨b, o + j, none⟩ = some v ∧ ¬ A b (o + j)) → Lie w A b o vs
  | [], _, _ => trivial
  | v :: vs, o, h => by
    have h0 := h 0 v rfl
    refine ⟨h0.1, h0.2, Lie_mk vs (o + 1) fun j u hu => ?_⟩
    have := h (j + 1) u hu
    rwa [show o + (j + 1) = o + 1 + j by omega] at this
theorem PRows_mk {w : World} {A : Nat → Nat → Prop} {b sz : Nat} : ∀ (es : List (List AV)) (o : Nat), (∀ i e, nth es i = some e → e.length = sz ∧ ∃ vs, Lie w A b (o + i * sz) vs ∧ PRs w A e vs) → PRows w A b sz o es
  | [], _, _ => by simp only [PRows]
  | e :: es, o, h => by
    simp only [PRows]
    have h0 := h 0 e rfl
    rw [Nat.zero_mul, Nat.add_zero] at h0
    refine ⟨h0.1, h0.2, PRows_mk es (o + sz) fun i f hf => ?_⟩
    have := h (i + 1) f hf
    rwa [show o + (i + 1) * sz = o + sz + i * sz by rw [Nat.add_mul]; omega] at this
theorem PRs_app {w : World} {A : Nat → Nat → Prop} : ∀ {cs ds : List AV} {us vs : List Value}, PRs w A cs us → PRs w A ds vs → PRs w A (cs ++ ds) (us ++ vs)
  | [], _, [], _, _, h => h
  | _ :: _, _, _ :: _, _, h1, h2 => by simp only [PRs, List.cons_append] at h1 ⊢; exact ⟨h1.1, PRs_app h1.2 h2⟩
  | [], _, _ :: _, _, h1, _ => by simp only [PRs] at h1
  | _ :: _, _, [], _, h1, _ => by simp only [PRs] at h1
theorem good_val {w : World} {A : Nat → Nat → Prop} : ∀ {cs : List AV} {vs : List Value}, PRs w A cs vs → (∀ c ∈ cs, goodC c = true) → ∀ v ∈ vs, ∀ n, v ≠ .int .u64 n
  | [], [], _, _, v, hv => by simp at hv
  | c :: cs, x :: vs, h, hg, v, hv => by
    simp only [PRs] at h
    rcases List.mem_cons.1 hv with rfl | hv
    · intro n e
      subst e
      have hc := hg c (by simp)
      have hp := h.1
      cases c with
      | prim y => simp only [PR] at hp; rw [← hp.1] at hc; simp [goodC] at hc
      | frz es q => cases q <;> simp only [PR] at hp; obtain ⟨a, l, q, e, -⟩ := hp; cases e
      | _ => simp [goodC] at hc
    · exact good_val h.2 (fun d hd => hg d (by simp [hd])) v hv
  | [], _ :: _, h, _, _, _ => by simp only [PRs] at h
  | _ :: _, [], h, _, _, _ => by simp only [PRs] at h
theorem mapM_at {α β : Type} {f : α → Option β} : ∀ {l : List α} {ys : List β}, l.mapM f = some ys → ys.length = l.length ∧ ∀ i x y, nth l i = some x → nth ys i = some y → f x = some y
  | [], ys, h => by simp at h; subst h; exact ⟨rfl, fun i x y hx => by simp [nth] at hx⟩
  | a :: l, ys, h => by
    rw [List.mapM_cons] at h
    simp only [Option.pure_def, Option.bind_eq_bind, Option.bind_eq_some_iff] at h
    obtain ⟨b, hb, bs, hbs, e⟩ := h
    simp only [Option.some.injEq] at e
    subst e
    obtain ⟨h1, h2⟩ := mapM_at hbs
    refine ⟨by simp [h1], fun i x y hx hy => ?_⟩
    cases i with
    | zero => simp only [nth, Option.some.injEq] at hx hy; subst hx hy; exact hb
    | succ i => exact h2 i x y hx hy
theorem nth_range {n i : Nat} (h : i < n) : nth (List.range n) i = some i := by rw [nth_get, List.getElem?_range h]
theorem cells_at {w : World} {b off n : Nat} {vs : List Value} (h : w.cells? 0 ⟨b, off, none⟩ n = some vs) : vs.length = n ∧ ∀ j v, nth vs j = some v → w.cell? ⟨b, off + j, none⟩ = some v := by
  unfold World.cells? at h
  rw [if_pos (Nat.zero_le _)] at h
  obtain ⟨h1, h2⟩ := mapM_at h
  rw [List.length_range] at h1
  refine ⟨h1, fun j v hv => ?_⟩
  have hj : j < n := by have := nth_lt hv; omega
  have := h2 j j v (nth_range hj) hv
  unfold Addr.add at this
  split at this
  · rename_i h0; subst h0; exact this
  · exact this
theorem spot0 {w : World} {a : Addr} {v : Value} (h : w.cell? a = some v) : a.spot = none := by
  unfold World.cell? at h
  split at h
  · split at h
    · cases h
    · rename_i hs; simpa using hs
  · cases h

section
variable {H : Type} {enc : TypeId × Value → H} {P : Program} {w : World} {sp : Nat → Bool} {held : Bool} {A : Nat → Nat → Prop} {F : List TypeId}
def Rd (P : Program) (w : World) (A : Nat → Nat → Prop) (t : TypeId) (cs : List Value) (avs : List AV) : Prop := Sh P t avs ∧ PRs w A avs cs ∧ ∀ c ∈ avs, goodC c = true
theorem fields_Rd {n : Nat} {cs : List Value} (ih : ∀ t ds x, t ∈ F → DataW.trod enc P w 0 sp held n t ds = some x → ∃ avs, Rd P w A t ds avs) :
    ∀ (fs : List Field) (o : Nat) (xs : List (DataW H × List MemPlace)), contig P fs o cs.length = true → (∀ f ∈ fs, f.type ∈ F) → xs.length = fs.length →
      (∀ i f, nth fs i = some f → DataW.trod enc P w 0 sp held n f.type ((cs.drop f.offset).take (P.cellsOf f.type)) = nth xs i) →
      ∃ pss : List (List AV), pss.length = fs.length ∧ (∀ i f p, nth fs i = some f → nth pss i = some p → Sh P f.type p) ∧ PRs w A pss.flatten (cs.drop o) ∧ ∀ c ∈ pss.flatten, goodC c = true
  | [], o, xs, hc, _, _, _ => by
    simp only [contig, beq_iff_eq] at hc
    exact ⟨[], rfl, fun i f p hf => by simp [nth] at hf, by rw [hc, List.drop_length]; simp only [List.flatten_nil, PRs], by simp⟩
  | f :: fs, o, xs, hc, hF, hl, h => by
    simp only [contig, Bool.and_eq_true, beq_iff_eq] at hc
    obtain ⟨ho, hc⟩ := hc
    cases xs with
    | nil => simp at hl
    | cons x xs =>
    have h0 := h 0 f rfl
    obtain ⟨avs, s1, p1, g1⟩ := ih _ _ _ (hF f (by simp)) h0
    obtain ⟨pss, l2, s2, p2, g2⟩ := fields_Rd ih fs (o + P.cellsOf f.type) xs hc (fun g hg => hF g (by simp [hg])) (by simpa using hl) fun i g hg => h (i + 1) g hg
    refine ⟨avs :: pss, by simp [l2], fun i g p hg hp => ?_, ?_, ?_⟩
    · cases i with
      | zero => simp only [nth, Option.some.injEq] at hg hp; subst hg hp; exact s1
      | succ i => exact s2 i g p hg hp
    · rw [ho] at p1
      have e : cs.drop o = (cs.drop o).take (P.cellsOf f.type) ++ cs.drop (o + P.cellsOf f.type) := by
        rw [← List.drop_drop, List.take_append_drop]
      rw [e, List.flatten_cons]
      exact PRs_app p1 p2
    · intro c hc
      rw [List.flatten_cons] at hc
      rcases List.mem_append.1 hc with hc | hc
      · exact g1 c hc
      · exact g2 c hc
theorem elems_Rd {n sz : Nat} {e : TypeId} {cs : List Value} (ih : ∀ t ds x, t ∈ F → DataW.trod enc P w 0 sp held n t ds = some x → ∃ avs, Rd P w A t ds avs) (he : e ∈ F) :
    ∀ (k o : Nat), cs.length = o + k * sz → (∀ i, i < k → ∃ x, DataW.trod enc P w 0 sp held n e ((cs.drop (o + i * sz)).take sz) = some x) →
      ∃ pss : List (List AV), pss.length = k ∧ (∀ p ∈ pss, Sh P e p) ∧ PRs w A pss.flatten (cs.drop o) ∧ ∀ c ∈ pss.flatten, goodC c = true
  | 0, o, hl, _ => ⟨[], rfl, by simp, by rw [List.drop_eq_nil_of_le (by omega)]; simp only [List.flatten_nil, PRs], by simp⟩
  | k + 1, o, hl, h => by
    obtain ⟨x, h0⟩ := h 0 (by omega)
    rw [Nat.zero_mul, Nat.add_zero] at h0
    obtain ⟨avs, s1, p1, g1⟩ := ih _ _ _ he h0
    obtain ⟨pss, l2, s2, p2, g2⟩ := elems_Rd (sz := sz) ih he k (o + sz) (by rw [hl, Nat.add_mul]; omega) fun i hi => by
      have := h (i + 1) (by omega)
      rwa [show o + (i + 1) * sz = o + sz + i * sz by rw [Nat.add_mul]; omega] at this
    refine ⟨avs :: pss, by simp [l2], fun p hp => ?_, ?_, ?_⟩
    · rcases List.mem_cons.1 hp with rfl | hp
      · exact s1
      · exact s2 p hp
    · have e : cs.drop o = (cs.drop o).take sz ++ cs.drop (o + sz) := by rw [← List.drop_drop, List.take_append_drop]
      rw [e, List.flatten_cons]
      exact PRs_app p1 p2
    · intro c hc
      rw [List.flatten_cons] at hc
      rcases List.mem_append.1 hc with hc | hc
      · exact g1 c hc
      · exact g2 c hc
theorem trod_Rd (hF : closedT P F = true) (hA : ∀ b o v, A b o → w.cell? ⟨b, o, none⟩ = some v → ∃ n, v = .int .u64 n) : ∀ (fuel : Nat) (t : TypeId) (cs : List Value) (x : DataW H × List MemPlace), t ∈ F → DataW.trod enc P w 0 sp held fuel t cs = some x → ∃ avs, Rd P w A t cs avs
  | 0, _, _, _, _, h => by simp [DataW.trod] at h
  | n + 1, t, cs, x, ht, h => by
    have hin : typeIn P F t = true := List.all_eq_true.1 hF t ht
    have ih : ∀ t ds x, t ∈ F → DataW.trod enc P w 0 sp held n t ds = some x → ∃ avs, Rd P w A t ds avs := fun t ds x ht h => trod_Rd hF hA n t ds x ht h
    unfold typeIn at hin
    split at hin
    · rename_i hu
      obtain ⟨b, rfl, -⟩ := DataW.trod_bool hu h
      exact ⟨[.prim (.bool b)], .bool hu, by simp [PRs, PR, Value.oneCell'], by simp [goodC]⟩
    · rename_i k hu
      obtain ⟨q, rfl, -, hw⟩ := DataW.trod_int hu h
      exact ⟨[.prim (.int k q)], .int hu hw, by simp [PRs, PR, Value.oneCell'], by simpa [goodC] using hin⟩
    · rename_i hu
      obtain ⟨s, rfl, -, hw⟩ := DataW.trod_string hu h
      exact ⟨[.prim (.string s)], .str hu hw, by simp [PRs, PR, Value.oneCell'], by simp [goodC]⟩
    · rename_i e hu
      simp only [Bool.and_eq_true, decide_eq_true_eq] at hin
      obtain ⟨hin, hpos⟩ := hin
      have he : e ∈ F := by simpa using hin
      rcases DataW.trod_slice hu h with ⟨rfl, -⟩ | ⟨a, len, cap, elems, rest, n', hn, rfl, -, -, hl, hcap, hel, hi, -, -⟩
      · exact ⟨[.frz [] .unk], .slice hu (by simp) (by simp), by simp only [PRs, PR, and_true]; exact ⟨none, 0, 0, rfl, rfl, Nat.le_refl _, .inl trivial⟩, by simp [goodC]⟩
      · simp only [Nat.add_right_cancel_iff] at hn
        subst hn
        have hex : ∀ i, i < len → ∃ vs avs, w.cells? 0 (a.add (i * P.cellsOf e)) (P.cellsOf e) = some vs ∧ Rd P w A e vs avs := fun i hil => by
          have h1 := hi i hil
          rw [List.getElem?_eq_getElem (by omega)] at h1
          obtain ⟨vs, h2, h3⟩ := Option.bind_eq_some_iff.1 h1
          obtain ⟨avs, h4⟩ := ih _ _ _ he h3
          exact ⟨vs, avs, h2, h4⟩
        have hes : ∃ es : List (List AV), es.length = len ∧ ∀ i av, nth es i = some av → ∃ vs, w.cells? 0 (a.add (i * P.cellsOf e)) (P.cellsOf e) = some vs ∧ Rd P w A e vs av := by
          clear hi hel hl hcap h
          induction len with
          | zero => exact ⟨[], rfl, fun i av hav => by simp [nth] at hav⟩
          | succ len ihl =>
            obtain ⟨es, l1, l2⟩ := ihl fun i hil => hex i (by omega)
            obtain ⟨vs, avs, h1, h2⟩ := hex len (by omega)
            refine ⟨es ++ [avs], by simp [l1], fun i av hav => ?_⟩
            rw [nth_get] at hav
            rcases Nat.lt_or_ge i len with hlt | hge
            · rw [List.getElem?_append_left (by omega), ← nth_get] at hav; exact l2 i av hav
            · rw [List.getElem?_append_right (by omega), l1] at hav
              have : i - len = 0 := by
                rcases Nat.eq_zero_or_pos (i - len) with h0 | h0
                · exact h0
                · rw [List.getElem?_eq_none (by simp; omega)] at hav; cases hav
              rw [this] at hav
              have e1 : i = len := by omega
              simp only [List.getElem?_cons_zero, Option.some.injEq] at hav
              subst hav e1
              exact ⟨vs, h1, h2⟩
        obtain ⟨es, l1, l2⟩ := hes
        refine ⟨[.frz es .unk], .slice hu (fun x hx => ?_) (by omega), ?_, by simp [goodC]⟩
        · obtain ⟨i, hx⟩ := List.mem_iff_getElem?.1 hx
          obtain ⟨vs, -, h1, -⟩ := l2 i x (by rw [nth_get]; exact hx)
          exact h1
        · simp only [PRs, PR, and_true]
          refine ⟨some a, len, cap, rfl, l1, hl, ?_⟩
          by_cases hlen : es = []
          · exact .inl hlen
          right
          have hl0 : 0 < len := by
            rcases Nat.eq_zero_or_pos len with h0 | h0
            · rw [h0] at l1; exact absurd (List.length_eq_zero_iff.1 l1) hlen
            · exact h0
          obtain ⟨b, off, spt⟩ := a
          have hsp : spt = none := by
            obtain ⟨vs, avs, h1, -⟩ := hex 0 hl0
            rw [Nat.zero_mul] at h1
            unfold World.cells? at h1
            rw [if_pos (Nat.zero_le _)] at h1
            obtain ⟨h2, h3⟩ := mapM_at h1
            rw [List.length_range] at h2
            obtain ⟨v, hv⟩ := nth_some (l := vs) (i := 0) (by omega)
            have h4 := h3 0 0 v (nth_range hpos) hv
            exact spot0 (a := (⟨b, off, spt⟩ : Addr)) h4
          subst hsp
          have hadd : ∀ i, (⟨b, off, none⟩ : Addr).add i = ⟨b, off + i, none⟩ := fun i => by
            unfold Addr.add
            split
            · rename_i h0; rw [h0]; rfl
            · rfl
          refine ⟨b, off, P.cellsOf e, rfl, PRows_mk es off fun i av hav => ?_⟩
          obtain ⟨vs, h1, hsh, hpr, hgd⟩ := l2 i av hav
          rw [hadd] at h1
          obtain ⟨h2, h3⟩ := cells_at h1
          refine ⟨by rw [PRs_length hpr, h2], vs, Lie_mk vs _ fun j v hv => ⟨h3 j v hv, fun ha => ?_⟩, hpr⟩
          obtain ⟨q, hq⟩ := hA _ _ v ha (h3 j v hv)
          exact good_val hpr hgd v (List.mem_of_getElem? (by rw [nth_get] at hv; exact hv)) q hq
    · rename_i fs hu
      simp only [Bool.and_eq_true] at hin
      obtain ⟨xs, n', hn, -, hlen, hxl, hi⟩ := DataW.trod_struct hu h
      simp only [Nat.add_right_cancel_iff] at hn
      subst hn
      rw [← hlen] at hin
      obtain ⟨pss, l1, l2, l3, l4⟩ := fields_Rd ih fs.toList 0 xs hin.1 (fun f hf => by simpa using List.all_eq_true.1 hin.2 f hf) (by simpa using hxl) fun i f hf => by
        rw [nth_get] at hf ⊢
        exact hi i f (by simpa using hf)
      rw [List.drop_zero] at l3
      exact ⟨pss.flatten, .struct hu (by simpa using l1) (fun i f p hf hp => l2 i f p (by rw [nth_get]; simpa using hf) hp), l3, l4⟩
    · rename_i k e hu
      simp only [Bool.and_eq_true, beq_iff_eq] at hin
      obtain ⟨hin, hsz⟩ := hin
      have he : e ∈ F := by simpa using hin
      obtain ⟨xs, n', hn, -, hlen, hxl, hi⟩ := DataW.trod_array hu h
      simp only [Nat.add_right_cancel_iff] at hn
      subst hn
      obtain ⟨pss, l1, l2, l3, l4⟩ := elems_Rd (sz := P.cellsOf e) ih he k 0 (by rw [hlen, hsz]; omega) fun i hik => by
        have := hi i hik
        rw [List.getElem?_eq_getElem (by omega)] at this
        rw [Nat.zero_add]
        exact ⟨_, this⟩
      rw [List.drop_zero] at l3
      exact ⟨pss.flatten, .array hu l1 l2, l3, l4⟩
    · cases hin
theorem open_Rd (hF : closedT P F = true) (hA : ∀ b o v, A b o → w.cell? ⟨b, o, none⟩ = some v → ∃ n, v = .int .u64 n) {t : TypeId} {v : Value} {d : DataW H} {p : List MemPlace} (ht : t ∈ F) (h : DataW.Trod enc P w 0 sp held t v d p) : ∃ avs, Sh P t avs ∧ PRs w A avs v.cells.toList := by
  obtain ⟨fuel, hf⟩ := h
  obtain ⟨avs, h1, h2, -⟩ := trod_Rd hF hA fuel t _ _ ht hf
  exact ⟨avs, h1, h2⟩
theorem sh_bool {t : TypeId} {avs : List AV} (hu : P.underlying t = some .bool) (h : Sh P t avs) : ∃ b, avs = [.prim (.bool b)] := by
  cases h <;> rename_i h <;> rw [hu] at h <;> cases h
  exact ⟨_, rfl⟩
theorem sh_str {t : TypeId} {avs : List AV} (hu : P.underlying t = some .string) (h : Sh P t avs) : ∃ s : ByteArray, avs = [.prim (.string s)] ∧ s.size ≤ maxLen := by
  cases h with
  | str _ h => exact ⟨_, rfl, h⟩
  | bool h | int h | slice h | struct h | array h => rw [hu] at h; cases h
theorem sh_int {t : TypeId} {k : IntKind} {avs : List AV} (hu : P.underlying t = some (.int k)) (h : Sh P t avs) : ∃ n, avs = [.prim (.int k n)] ∧ (Lit.int k n).wf = true := by
  cases h with
  | int h h' => rw [hu] at h; cases h; exact ⟨_, rfl, h'⟩
  | bool h | str h | slice h | struct h | array h => rw [hu] at h; cases h
theorem sh_slice {t e : TypeId} {avs : List AV} (hu : P.underlying t = some (.slice e)) (h : Sh P t avs) : ∃ es, avs = [.frz es .unk] ∧ (∀ x ∈ es, Sh P e x) ∧ es.length ≤ maxLen := by
  cases h with
  | slice h h' hl => rw [hu] at h; cases h; exact ⟨_, rfl, h', hl⟩
  | bool h | str h | int h | struct h | array h => rw [hu] at h; cases h
theorem sh_struct {t : TypeId} {fs : Array Field} {avs : List AV} (hu : P.underlying t = some (.struct fs)) (h : Sh P t avs) : ∃ pss : List (List AV), avs = pss.flatten ∧ pss.length = fs.size ∧ ∀ i f p, fs[i]? = some f → nth pss i = some p → Sh P f.type p := by
  cases h with
  | struct h h1 h2 => rw [hu] at h; cases h; exact ⟨_, rfl, h1, h2⟩
  | bool h | str h | int h | slice h | array h => rw [hu] at h; cases h
theorem sh_array {t e : TypeId} {n : Nat} {avs : List AV} (hu : P.underlying t = some (.array n e)) (h : Sh P t avs) : ∃ pss : List (List AV), avs = pss.flatten ∧ pss.length = n ∧ ∀ p ∈ pss, Sh P e p := by
  cases h with
  | array h h1 h2 => rw [hu] at h; cases h; exact ⟨_, rfl, h1, h2⟩
  | bool h | str h | int h | slice h | struct h => rw [hu] at h; cases h
theorem sh_struct2 {t : TypeId} {f0 f1 : Field} {avs : List AV} (hu : P.underlying t = some (.struct #[f0, f1])) (h : Sh P t avs) : ∃ p0 p1, avs = p0 ++ p1 ∧ Sh P f0.type p0 ∧ Sh P f1.type p1 := by
  obtain ⟨pss, rfl, hl, hp⟩ := sh_struct hu h
  match pss, hl with
  | [p0, p1], _ => exact ⟨p0, p1, by simp, hp 0 f0 p0 rfl rfl, hp 1 f1 p1 rfl rfl⟩
theorem sh_struct3 {t : TypeId} {f0 f1 f2 : Field} {avs : List AV} (hu : P.underlying t = some (.struct #[f0, f1, f2])) (h : Sh P t avs) : ∃ p0 p1 p2, avs = p0 ++ (p1 ++ p2) ∧ Sh P f0.type p0 ∧ Sh P f1.type p1 ∧ Sh P f2.type p2 := by
  obtain ⟨pss, rfl, hl, hp⟩ := sh_struct hu h
  match pss, hl with
  | [p0, p1, p2], _ => exact ⟨p0, p1, p2, by simp, hp 0 f0 p0 rfl rfl, hp 1 f1 p1 rfl rfl, hp 2 f2 p2 rfl rfl⟩
theorem map_of {α : Type} {f : α → List AV} {Q : α → Prop} : ∀ {es : List (List AV)}, (∀ x ∈ es, ∃ c, x = f c ∧ Q c) → ∃ cs : List α, es = cs.map f ∧ ∀ c ∈ cs, Q c
  | [], _ => ⟨[], rfl, by simp⟩
  | x :: es, h => by
    obtain ⟨c, hc, hq⟩ := h x (by simp)
    obtain ⟨cs, h1, h2⟩ := map_of (es := es) fun y hy => h y (by simp [hy])
    exact ⟨c :: cs, by rw [h1, hc]; rfl, fun d hd => by
      rcases List.mem_cons.1 hd with rfl | hd
      · exact hq
      · exact h2 d hd⟩
theorem agg_of {C : Cx} {avs : List AV} {xs : Array Value} (h : PRs C.w C.Avoid avs (Value.agg xs).cells.toList) : VR C (.agg avs) (.agg xs) := by
  simp only [VR]; exact ⟨xs, rfl, VRs_of_PRs h⟩
theorem one_of {C : Cx} {c : AV} {v : Value} (hv : v.cells.toList = [v]) (h : PRs C.w C.Avoid [c] v.cells.toList) : VR C c v := by
  rw [hv] at h; simp only [PRs, and_true] at h; exact VR_of_PR h
end
end Go.Proofs.YtkghgdkkholieaaDoor
/-
  What a predicate holds, read whole.
-/



namespace Go.Proofs.YtkghgdkkholieaaDoor
open Go Go.RowKit
theorem tab_str {w : World} (ht : Tab0 w) {o : Nat} {v : Value} (h : w.cell? ⟨0, o, none⟩ = some v) : ∃ s, v = .string s := by
  obtain ⟨t, fz, hh⟩ := ht
  have h2 : (kwL.map Value.string).toArray[o]? = some v := by simpa [World.cell?, hh] using h
  rw [List.getElem?_toArray, List.getElem?_map, Option.map_eq_some_iff] at h2
  obtain ⟨z, -, hz⟩ := h2
  exact ⟨z, hz.symm⟩
theorem preds_of {Q : List AV → Prop} (hq : ∀ e, Q e → ∃ p, e = predC p ∧ kidsMax p) : ∀ {es : List (List AV)}, (∀ x ∈ es, Q x) → ∃ ks, es = kidsC ks ∧ kidsMaxL ks
  | [], _ => ⟨[], rfl, trivial⟩
  | x :: es, h => by
    obtain ⟨p, h1, h2⟩ := hq x (h x (by simp))
    obtain ⟨ks, h3, h4⟩ := preds_of hq (es := es) fun y hy => h y (by simp [hy])
    exact ⟨p :: ks, by rw [h1, h3]; rfl, h2, h4⟩
section
variable {H : Type} {enc : TypeId × Value → H} {w : World} {sp : Nat → Bool} {held : Bool}
set_option maxRecDepth 100000 in
theorem pred_Rd (ht : Tab0 w) : ∀ (fuel : Nat) (cs : List Value) (x : DataW H × List MemPlace), DataW.trod enc Tryd.prog w 0 sp held fuel 25 cs = some x → ∃ p, PRs w (C0 w).Avoid (predC p) cs ∧ kidsMax p
  | 0, _, _, h => by simp [DataW.trod] at h
  | n + 1, cs, x, h => by
    obtain ⟨xs, n', hn, -, hlen, hxl, hi⟩ := DataW.trod_struct Tryd.underlying25 h
    simp only [Nat.add_right_cancel_iff] at hn
    subst hn
    have hl4 : cs.length = 4 := hlen.trans (by kernel_rfl)
    have k1 : Tryd.prog.cellsOf 22 = 1 := by kernel_rfl
    have k2 : Tryd.prog.cellsOf 9 = 1 := by kernel_rfl
    have k3 : Tryd.prog.cellsOf 3 = 1 := by kernel_rfl
    have k4 : Tryd.prog.cellsOf 23 = 1 := by kernel_rfl
    have k5 : Tryd.prog.cellsOf 25 = 4 := by kernel_rfl
    match cs, hl4 with
    | [c0, c1, c2, c3], _ =>
    have hx4 : xs.length = 4 := hxl
    have g0 := hi 0 _ rfl
    have g1 := hi 1 _ rfl
    have g2 := hi 2 _ rfl
    have g3 := hi 3 _ rfl
    clear hi
    match xs, hx4 with
    | [z0, z1, z2, z3], _ =>
    replace g0 : DataW.trod enc Tryd.prog w 0 sp held n 22 [c0] = some z0 := by simpa [k1] using g0
    replace g1 : DataW.trod enc Tryd.prog w 0 sp held n 9 [c1] = some z1 := by simpa [k2] using g1
    replace g2 : DataW.trod enc Tryd.prog w 0 sp held n 3 [c2] = some z2 := by simpa [k3] using g2
    replace g3 : DataW.trod enc Tryd.prog w 0 sp held n 23 [c3] = some z3 := by simpa [k4] using g3
    obtain ⟨o, ho, -, -⟩ := DataW.trod_int Tryd.underlying22 g0
    obtain ⟨s, hs, -, hsz⟩ := DataW.trod_string Tryd.underlying9 g1
    obtain ⟨m, hm, -, -⟩ := DataW.trod_int Tryd.underlying3 g2
    have ho : c0 = .int .i64 o := by simpa using ho
    have hs : c1 = .string s := by simpa using hs
    have hm : c2 = .int .i64 m := by simpa using hm
    subst ho hs hm
    rcases DataW.trod_slice Tryd.underlying23 g3 with ⟨hv, -⟩ | ⟨a, len, cap, elems, rest, n', hn, hv, -, -, hl, hcap, hel, hi, -, -⟩
    · have : c3 = .slice none 0 0 := by simpa using hv
      subst this
      refine ⟨.node o s m [], ?_, by simp [kidsMax, kidsMaxL]⟩
      simp only [predC, kidsC, PRs, PR, Value.oneCell', and_true, true_and]
      exact ⟨none, 0, 0, rfl, rfl, Nat.le_refl _, .inl trivial⟩
    have hv : c3 = .slice (some a) len cap := by simpa using hv
    subst hv
    subst hn
    have hex : ∀ i, i < len → ∃ vs p, w.cells? 0 (a.add (i * 4)) 4 = some vs ∧ PRs w (C0 w).Avoid (predC p) vs ∧ kidsMax p := fun i hil => by
      have h1 := hi i hil
      rw [List.getElem?_eq_getElem (by omega), k5] at h1
      obtain ⟨vs, h2, h3⟩ := Option.bind_eq_some_iff.1 h1
      obtain ⟨p, h4, h5⟩ := pred_Rd ht n' _ _ h3
      exact ⟨vs, p, h2, h4, h5⟩
    have hes : ∃ ks : List PT, ks.length = len ∧ kidsMaxL ks ∧ ∀ i p, nth ks i = some p → ∃ vs, w.cells? 0 (a.add (i * 4)) 4 = some vs ∧ PRs w (C0 w).Avoid (predC p) vs := by
      clear hi hel hl hcap h g3
      have key : ∀ (l st : Nat), st + l = len → ∃ ks : List PT, ks.length = l ∧ kidsMaxL ks ∧ ∀ i p, nth ks i = some p → ∃ vs, w.cells? 0 (a.add ((st + i) * 4)) 4 = some vs ∧ PRs w (C0 w).Avoid (predC p) vs := by
        intro l
        induction l with
        | zero => intro st _; exact ⟨[], rfl, trivial, fun i p hp => by simp [nth] at hp⟩
        | succ l ihl =>
          intro st hst
          obtain ⟨vs, p, q1, q2, q3⟩ := hex st (by omega)
          obtain ⟨ks, l1, l2, l3⟩ := ihl (st + 1) (by omega)
          refine ⟨p :: ks, by simp [l1], ⟨q3, l2⟩, fun i r hr => ?_⟩
          cases i with
          | zero => simp only [nth, Option.some.injEq] at hr; subst hr; exact ⟨vs, q1, q2⟩
          | succ i =>
            have := l3 i r hr
            rwa [show st + 1 + i = st + (i + 1) by omega] at this
      obtain ⟨ks, l1, l2, l3⟩ := key len 0 (by omega)
      exact ⟨ks, l1, l2, fun i p hp => by have := l3 i p hp; rwa [Nat.zero_add] at this⟩
    obtain ⟨ks, l1, l2, l3⟩ := hes
    refine ⟨.node o s m ks, ?_, by simp only [kidsMax]; exact ⟨by rw [l1]; unfold maxLen at hcap; omega, l2⟩⟩
    simp only [predC, PRs, PR, Value.oneCell', and_true, true_and]
    refine ⟨some a, len, cap, rfl, by rw [kidsC_length, l1], hl, ?_⟩
    by_cases hlen : ks = []
    · left; rw [hlen]; rfl
    right
    have hl0 : 0 < len := by
      rcases Nat.eq_zero_or_pos len with h0 | h0
      · rw [h0] at l1; exact absurd (List.length_eq_zero_iff.1 l1) hlen
      · exact h0
    obtain ⟨b, off, spt⟩ := a
    have first : ∀ i p vs, w.cells? 0 ((⟨b, off, spt⟩ : Addr).add (i * 4)) 4 = some vs → PRs w (C0 w).Avoid (predC p) vs → ∃ z, w.cell? ((⟨b, off, spt⟩ : Addr).add (i * 4)) = some (.int .i64 z) := by
      intro i p vs hc hp
      unfold World.cells? at hc
      rw [if_pos (Nat.zero_le _)] at hc
      obtain ⟨h2, h3⟩ := mapM_at hc
      rw [List.length_range] at h2
      obtain ⟨v, hv⟩ := nth_some (l := vs) (i := 0) (by omega)
      have h4 := h3 0 0 v (nth_range (by omega)) hv
      rw [show ((⟨b, off, spt⟩ : Addr).add (i * 4)).add 0 = (⟨b, off, spt⟩ : Addr).add (i * 4) by simp [Addr.add]] at h4
      obtain ⟨a2, n2, c2, rfl⟩ := pred_cells hp
      simp only [nth, Option.some.injEq] at hv
      exact ⟨p.op, by rw [h4, ← hv]⟩
    have hsp : spt = none := by
      obtain ⟨vs, p, q1, q2, -⟩ := hex 0 hl0
      obtain ⟨z, hz⟩ := first 0 p vs q1 q2
      rw [Nat.zero_mul] at hz
      exact spot0 (a := (⟨b, off, spt⟩ : Addr)) (by simpa [Addr.add] using hz)
    subst hsp
    have hadd : ∀ i, (⟨b, off, none⟩ : Addr).add i = ⟨b, off + i, none⟩ := fun i => by
      unfold Addr.add
      split
      · rename_i h0; rw [h0]; rfl
      · rfl
    have hb0 : b ≠ 0 := by
      rintro rfl
      obtain ⟨vs, p, q1, q2, -⟩ := hex 0 hl0
      obtain ⟨z, hz⟩ := first 0 p vs q1 q2
      rw [hadd] at hz
      obtain ⟨s', hs'⟩ := tab_str ht hz
      cases hs'
    refine ⟨b, off, 4, rfl, PRows_mk _ off fun i av hav => ?_⟩
    rw [kidsC_map, nth_map, Option.map_eq_some_iff] at hav
    obtain ⟨p, hp, rfl⟩ := hav
    obtain ⟨vs, h1, hpr⟩ := l3 i p hp
    rw [hadd] at h1
    obtain ⟨h2, h3⟩ := cells_at h1
    exact ⟨predC_len p, vs, Lie_mk vs _ fun j v hv => ⟨h3 j v hv, C0_avoid hb0⟩, hpr⟩
end
end Go.Proofs.YtkghgdkkholieaaDoor
/-
  A form is read back from its term, plainly.
-/



namespace Go.Proofs.YtkghgdkkholieaaDoor
open Go
def nm (s : ByteArray) : List UInt8 := s.data.toList
theorem nm_inj {a b : ByteArray} (h : nm a = nm b) : a = b := by
  apply ByteArray.ext; exact Array.ext' h
theorem bytesLess_lt : ∀ (x y : List UInt8), Op.bytesLess x y = decide (x < y)
  | [], [] => by simp [Op.bytesLess]
  | a :: x, [] => by simp [Op.bytesLess]
  | [], b :: y => by simp [Op.bytesLess]
  | a :: x, b :: y => by
    rw [Op.bytesLess, bytesLess_lt x y]
    by_cases h1 : a < b
    · simp [h1, List.cons_lt_cons_iff]
    · by_cases h2 : a = b
      · subst h2; simp [List.cons_lt_cons_iff]
      · simp [h1, h2, List.cons_lt_cons_iff]
theorem sLt_nm (a b : ByteArray) : sLt a b = decide (nm a < nm b) := by
  unfold sLt; rw [toList_data, toList_data, bytesLess_lt]; rfl
theorem nlt_trans {a b c : List UInt8} (h1 : a < b) (h2 : b < c) : a < c := List.lt_trans h1 h2
theorem nlt_irrefl (a : List UInt8) : ¬ a < a := List.lt_irrefl a
theorem nlt_tri (a b : ByteArray) : nm a < nm b ∨ a = b ∨ nm b < nm a := by
  by_cases h1 : nm a < nm b
  · exact .inl h1
  · by_cases h2 : nm b < nm a
    · exact .inr (.inr h2)
    · exact .inr (.inl (nm_inj (List.le_antisymm (List.not_lt.1 h2) (List.not_lt.1 h1))))
def okFrom : Option ByteArray → List (ByteArray × Int) → Bool
  | _, [] => true
  | p, c :: cs => !badName c.1 && !(c.2 == 0) && inB c.2 && !notAbove p c.1 && okFrom (some c.1) cs
theorem chkFrom_iff (n : Int) : ∀ (p : Option ByteArray) (cs : List (ByteArray × Int)), chkFrom n p cs = 0 ↔ okFrom p cs = true ∧ inB n = true
  | p, [] => by
    simp only [chkFrom, okFrom]
    cases inB n <;> simp
  | p, c :: cs => by
    simp only [chkFrom, okFrom]
    cases badName c.1 <;> cases (c.2 == 0) <;> cases inB c.2 <;> cases notAbove p c.1 <;> simp [chkFrom_iff n (some c.1) cs]
theorem checkF_iff (cs : List (ByteArray × Int)) (n : Int) : checkF cs n = 0 ↔ cs.length ≤ 24 ∧ okFrom none cs = true ∧ inB n = true := by
  unfold checkF
  split
  · rename_i h; simp; omega
  · rename_i h; rw [chkFrom_iff]; exact ⟨fun h1 => ⟨by omega, h1⟩, fun h1 => h1.2⟩
theorem ok_left : ∀ {p : Option ByteArray} {a b : List (ByteArray × Int)}, okFrom p (a ++ b) = true → okFrom p a = true
  | _, [], _, _ => rfl
  | p, c :: a, b, h => by
    simp only [List.cons_append, okFrom, Bool.and_eq_true] at h ⊢
    exact ⟨h.1, ok_left h.2⟩
theorem ok_mem : ∀ {p : Option ByteArray} {l : List (ByteArray × Int)}, okFrom p l = true → ∀ c ∈ l, badName c.1 = false ∧ c.2 ≠ 0 ∧ inB c.2 = true
  | p, d :: l, h, c, hc => by
    simp only [okFrom, Bool.and_eq_true, Bool.not_eq_true', beq_eq_false_iff_ne, ne_eq] at h
    rcases List.mem_cons.1 hc with rfl | hc
    · exact ⟨h.1.1.1.1, h.1.1.1.2, h.1.1.2⟩
    · exact ok_mem h.2 c hc
theorem above_lt {s : ByteArray} {t : ByteArray} (h : notAbove (some s) t = false) : nm s < nm t := by
  simp only [notAbove, Bool.or_eq_false_iff, sLt_nm, decide_eq_false_iff_not] at h
  rcases nlt_tri s t with h1 | h1 | h1
  · exact h1
  · subst h1; rw [show sEq s s = true from (sEq_iff s s).2 rfl] at h; exact absurd h.2 (by simp)
  · exact absurd h1 h.1
theorem ok_lt : ∀ {s : ByteArray} {l : List (ByteArray × Int)}, okFrom (some s) l = true → ∀ c ∈ l, nm s < nm c.1
  | s, d :: l, h, c, hc => by
    simp only [okFrom, Bool.and_eq_true, Bool.not_eq_true'] at h
    have h1 := above_lt h.1.2
    rcases List.mem_cons.1 hc with rfl | hc
    · exact h1
    · exact nlt_trans h1 (ok_lt h.2 c hc)
theorem ok_before : ∀ {p : Option ByteArray} {pre : List (ByteArray × Int)} {c : ByteArray × Int}, okFrom p (pre ++ [c]) = true → ∀ x ∈ pre, nm x.1 < nm c.1
  | p, d :: pre, c, h, x, hx => by
    simp only [List.cons_append, okFrom, Bool.and_eq_true] at h
    rcases List.mem_cons.1 hx with rfl | hx
    · exact ok_lt h.2 c (by simp)
    · exact ok_before h.2 x hx
theorem merge_snoc : ∀ {pre : List (ByteArray × Int)} {c : ByteArray × Int}, (∀ x ∈ pre, nm x.1 < nm c.1) → mergeF pre [c] = pre ++ [c]
  | [], c, _ => by rw [mergeF_nil]; rfl
  | x :: pre, c, h => by
    have h1 : sLt x.1 c.1 = true := by rw [sLt_nm]; exact decide_eq_true (h x (by simp))
    rw [mergeF, if_pos h1, merge_snoc fun y hy => h y (by simp [hy])]; rfl
theorem inB0 : inB 0 = true := by decide
theorem inB1 : inB 1 = true := by decide
theorem chk_one {c : ByteArray × Int} (h : badName c.1 = false) (h2 : c.2 ≠ 0) (h3 : inB c.2 = true) : checkF [c] 0 = 0 := by
  rw [checkF_iff]
  refine ⟨by simp, ?_, inB0⟩
  simp [okFrom, h, h2, h3, notAbove]
theorem of_part {c : ByteArray × Int} (h : badName c.1 = false) (h2 : c.2 ≠ 0) (h3 : inB c.2 = true) : ofF (partT c) = (([c], 0), true) := by
  unfold partT
  split
  · rename_i h1
    simp only [ofF, ofK, ofN]
    obtain ⟨s, n⟩ := c
    simp only at h1; subst h1; simp
  · simp only [ofF, ofK, ofN]
    have e0 : ¬ ((8 : Int) = 1) := by decide
    have e1 : ¬ ((8 : Int) = 3) := by decide
    have e2 : ¬ ((8 : Int) = 9) := by decide
    have hk : checkF [(c.1, (1 : Int))] 0 = 0 := chk_one h (by simp) inB1
    have m1 : mulS 1 c.2 = (c.2, true) := by simp [mulS, chk, h3, inB1]
    have m0 : mulS 0 c.2 = (0, true) := by simp [mulS, chk, h3, inB0]
    simp [scaleF, hk, h2, h3, m1, m0, PT.n, mulC]
theorem sumF_append : ∀ (a b : List PT) (x : PT), sumF x (a ++ b) = sumF (sumF x a) b
  | [], _, _ => rfl
  | y :: a, b, x => by simp only [List.cons_append, sumF]; exact sumF_append a b _
theorem of_add (x y : PT) : ofF (.node 6 bE 0 [x, y]) = subR (ofF x) (ofF y) := by simp [ofF, ofK, ofN]
theorem of_sum : ∀ (rest pre : List (ByteArray × Int)) (x : PT), okFrom none (pre ++ rest) = true → (pre ++ rest).length ≤ 24 → ofF x = ((pre, 0), true) → ofF (sumF x (rest.map partT)) = ((pre ++ rest, 0), true)
  | [], pre, x, _, _, h => by simpa [sumF] using h
  | c :: rest, pre, x, hok, hl, h => by
    have e : pre ++ c :: rest = (pre ++ [c]) ++ rest := by simp
    rw [e] at hok hl ⊢
    simp only [List.map_cons, sumF]
    have hpc := ok_left hok
    have hpre := ok_left hpc
    obtain ⟨b1, b2, b3⟩ := ok_mem hpc c (by simp)
    refine of_sum rest (pre ++ [c]) _ hok hl ?_
    rw [of_add, h, of_part b1 b2 b3]
    have hl2 : (pre ++ [c]).length ≤ 24 := by simp only [List.length_append] at hl ⊢; omega
    have k1 : checkF pre 0 = 0 := by rw [checkF_iff]; exact ⟨by simp at hl2; omega, hpre, inB0⟩
    have k2 : checkF [c] 0 = 0 := chk_one b1 b2 b3
    have k3 : checkF (pre ++ [c]) 0 = 0 := by rw [checkF_iff]; exact ⟨hl2, hpc, inB0⟩
    simp [subR, addL, k1, k2, merge_snoc (ok_before hpc), rightF, k3]
theorem of_term {cs : List (ByteArray × Int)} {n : Int} (h : checkF cs n = 0) : ofF (termF cs n) = ((cs, n), true) := by
  have hc := (checkF_iff cs n).1 h
  unfold termF
  rw [if_pos h]
  cases cs with
  | nil => simp [partsF, sumL, sumF, ofF, ofK, ofN]
  | cons c r =>
    obtain ⟨b1, b2, b3⟩ := ok_mem hc.2.1 c (by simp)
    have h0 := of_sum r [c] (partT c) (by simpa using hc.2.1) (by simpa using hc.1) (of_part b1 b2 b3)
    unfold partsF
    by_cases hn : n = 0
    · subst hn
      simp only [ne_eq, not_true_eq_false, reduceCtorEq, or_self, if_false, List.map_cons, sumL]
      exact h0
    · simp only [ne_eq, hn, not_false_eq_true, true_or, if_true, List.map_cons, List.cons_append, sumL, sumF_append, sumF]
      rw [of_add, h0]
      have hl : ofF (.node 1 bE n []) = (([], n), true) := by simp [ofF, ofK, ofN]
      rw [hl]
      have k1 : checkF (c :: r) 0 = 0 := by rw [checkF_iff]; exact ⟨hc.1, hc.2.1, inB0⟩
      have k2 : checkF [] n = 0 := by rw [checkF_iff]; exact ⟨by simp, rfl, hc.2.2⟩
      simp [subR, addL, k1, k2, mergeF_right, rightF, h]
end Go.Proofs.YtkghgdkkholieaaDoor
/-
  The plain law of LinearSolutions: rows and their tight rows, forms and their canonical forms.
-/

namespace Go.Proofs.YtkghgdkkholieaaDoor
open Go

/-- the value of the coefficients at a point -/
def lv (pt : List (ByteArray × Int)) : List (ByteArray × Int) → Int
  | [] => 0
  | c :: r => c.2 * findS c.1 pt + lv pt r
theorem mul_bound {a b : Int} (ha : -1000 ≤ a ∧ a ≤ 1000) (hb : -128 ≤ b ∧ b ≤ 128) : -128000 ≤ a * b ∧ a * b ≤ 128000 := by
  have h1 : (a * b).natAbs ≤ 1000 * 128 := by
    rw [Int.natAbs_mul]
    exact Nat.mul_le_mul (by omega) (by omega)
  omega
theorem lv_bound {pt : List (ByteArray × Int)} (hpt : ∀ s, -128 ≤ findS s pt ∧ findS s pt ≤ 128) : ∀ (cs : List (ByteArray × Int)), (∀ c ∈ cs, -1000 ≤ c.2 ∧ c.2 ≤ 1000) → -(128000 * (cs.length : Int)) ≤ lv pt cs ∧ lv pt cs ≤ 128000 * (cs.length : Int)
  | [], _ => by simp [lv]
  | c :: r, h => by
    have h1 := mul_bound (h c (by simp)) (hpt c.1)
    have h2 := lv_bound hpt r fun d hd => h d (by simp [hd])
    simp only [lv, List.length_cons]
    omega
theorem valFrom_eq {pt : List (ByteArray × Int)} (hpt : ∀ s, -128 ≤ findS s pt ∧ findS s pt ≤ 128) (cs : List (ByteArray × Int)) : ∀ (s : Int), (∀ c ∈ cs, -1000 ≤ c.2 ∧ c.2 ≤ 1000) → -1000000000000 + 128000 * (cs.length : Int) ≤ s ∧ s ≤ 1000000000000 - 128000 * (cs.length : Int) → valFrom pt s cs = (s + lv pt cs, true) := by
  induction cs with
  | nil => intro s _ _; simp [valFrom, lv]
  | cons c r ih =>
    intro s h hs
    have hc := h c (by simp)
    have h1 := mul_bound hc (hpt c.1)
    simp only [List.length_cons] at hs
    have hm : mulS c.2 (findS c.1 pt) = (c.2 * findS c.1 pt, true) := by
      have h2 := hpt c.1
      have i1 : inB c.2 = true := inB_true.2 (by omega)
      have i2 : inB (findS c.1 pt) = true := inB_true.2 (by omega)
      have i3 : inB (c.2 * findS c.1 pt) = true := inB_true.2 (by omega)
      simp only [mulS, chk, i1, i2, i3]; rfl
    have ha : addS s (c.2 * findS c.1 pt) = (s + c.2 * findS c.1 pt, true) := by
      have i1 : inB s = true := inB_true.2 (by omega)
      have i2 : inB (c.2 * findS c.1 pt) = true := inB_true.2 (by omega)
      have i3 : inB (s + c.2 * findS c.1 pt) = true := inB_true.2 (by omega)
      simp only [addS, chk, i1, i2, i3]; rfl
    simp only [valFrom, hm, ha, if_true, lv]
    rw [ih _ (fun d hd => h d (by simp [hd])) (by omega)]
    simp only [Prod.mk.injEq, and_true]; omega
theorem lv_div {pt : List (ByteArray × Int)} {g : Int} : ∀ (cs : List (ByteArray × Int)), (∀ c ∈ cs, g ∣ c.2) → g * lv pt (cs.map (divC g)) = lv pt cs
  | [], _ => by simp [lv]
  | c :: r, h => by
    simp only [List.map_cons, lv, divC]
    rw [Int.mul_add, lv_div r fun d hd => h d (by simp [hd]), ← Int.mul_assoc, Int.mul_tdiv_cancel' (h c (by simp))]
theorem gcdS_dvd {a b : Int} (ha : inB a = true) (hb : inB b = true) : gcdS a b ∣ a ∧ gcdS a b ∣ b := by
  unfold gcdS
  rw [absS_in ha, absS_in hb]
  have h1 := Int.gcd_dvd_left (a := (a.natAbs : Int)) (b := (b.natAbs : Int))
  have h2 := Int.gcd_dvd_right (a := (a.natAbs : Int)) (b := (b.natAbs : Int))
  exact ⟨Int.dvd_natAbs.1 h1, Int.dvd_natAbs.1 h2⟩
theorem gcdL_dvd : ∀ {cs : List (ByteArray × Int)} {g : Int}, (∀ c ∈ cs, inB c.2 = true ∧ c.2 ≠ 0) → inB g = true → gcdL g cs ∣ g ∧ ∀ c ∈ cs, gcdL g cs ∣ c.2
  | [], g, _, _ => ⟨Int.dvd_refl _, by simp⟩
  | c :: r, g, h, hg => by
    have hc := h c (by simp)
    obtain ⟨h1, h2⟩ := gcdL_dvd (cs := r) (g := gcdS g c.2) (fun d hd => h d (by simp [hd])) (gcdS_in hg hc.1 hc.2)
    obtain ⟨h3, h4⟩ := gcdS_dvd hg hc.1
    refine ⟨Int.dvd_trans h1 h3, fun d hd => ?_⟩
    rcases List.mem_cons.1 hd with rfl | hd
    · exact Int.dvd_trans h1 h4
    · exact h2 d hd
/-- exact quotients are no greater -/
theorem tdiv_le {a g : Int} : (a.tdiv g).natAbs ≤ a.natAbs := by rw [Int.natAbs_tdiv]; exact Nat.div_le_self _ _
theorem chk_div {g m n' : Int} (hn' : inB n' = true) : ∀ {p : Option ByteArray} {cs : List (ByteArray × Int)}, chkFrom m p cs = 0 → (∀ c ∈ cs, g ∣ c.2) → chkFrom n' p (cs.map (divC g)) = 0
  | p, [], _, _ => by simp [chkFrom, hn']
  | p, c :: r, h, hd => by
    simp only [chkFrom] at h
    simp only [List.map_cons, chkFrom, divC]
    split at h
    · simp at h
    · rename_i h1
      rw [if_neg h1]
      split at h
      · simp at h
      · rename_i h2
        simp only [Bool.or_eq_true, beq_iff_eq, Bool.not_eq_true', not_or, Bool.not_eq_false] at h2
        have h3 : ¬ ((c.2.tdiv g == 0 || !inB (c.2.tdiv g)) = true) := by
          simp only [Bool.or_eq_true, beq_iff_eq, Bool.not_eq_true', not_or, Bool.not_eq_false]
          have e := Int.mul_tdiv_cancel' (hd c (by simp))
          refine ⟨fun h0 => h2.1 ?_, ?_⟩
          · rw [h0] at e; omega
          · have := tdiv_le (a := c.2) (g := g)
            have h4 := h2.2
            rw [inB_true] at h4 ⊢; omega
        rw [if_neg h3]
        split at h
        · simp at h
        · rename_i h5
          rw [if_neg h5]
          exact chk_div hn' h fun d hd' => hd d (by simp [hd'])
theorem checkF_div {g m n' : Int} {cs : List (ByteArray × Int)} (h : checkF cs m = 0) (hn' : inB n' = true) (hd : ∀ c ∈ cs, g ∣ c.2) : checkF (cs.map (divC g)) n' = 0 := by
  unfold checkF at h ⊢
  split at h
  · simp at h
  · rw [List.length_map, if_neg (by assumption)]; exact chk_div hn' h hd

/-- right, and all numbers near -/
structure Near (cs : List (ByteArray × Int)) (n : Int) : Prop where
  ok : checkF cs n = 0
  cf : ∀ c ∈ cs, -1000 ≤ c.2 ∧ c.2 ≤ 1000
  kn : -1000 ≤ n ∧ n ≤ 1000
variable {pt : List (ByteArray × Int)} {cs : List (ByteArray × Int)} {n : Int}
theorem Near.value (h : Near cs n) (hpt : ∀ s, -128 ≤ findS s pt ∧ findS s pt ≤ 128) : valueF cs n pt = (n + lv pt cs, true) := by
  unfold valueF
  rw [if_pos h.ok]
  have := (check_ok h.ok).2.2
  exact valFrom_eq hpt cs n h.cf (by have := h.kn; omega)
theorem Near.div (h : Near cs n) {g n' : Int} (hd : ∀ c ∈ cs, g ∣ c.2) (hn : -1000 ≤ n' ∧ n' ≤ 1000) : Near (cs.map (divC g)) n' := by
  refine ⟨checkF_div h.ok (inB_true.2 (by omega)) hd, fun c hc => ?_, hn⟩
  obtain ⟨d, hd', rfl⟩ := List.mem_map.1 hc
  have := h.cf d hd'
  have := tdiv_le (a := d.2) (g := g)
  simp only [divC]; omega
theorem near_nil {n : Int} (h : -1000 ≤ n ∧ n ≤ 1000) : Near [] n := ⟨by unfold checkF chkFrom; rw [if_neg (by simp), inB_true.2 (by omega)]; rfl, by simp, h⟩
theorem tight_near (h : Near cs n) (eq : Bool) : Near (tightF cs n eq).1 (tightF cs n eq).2.1 ∧
    (((tightF cs n eq).2.1 + lv pt (tightF cs n eq).1 ≤ 0 ∧ ((tightF cs n eq).2.2 = false ∨ (tightF cs n eq).2.1 + lv pt (tightF cs n eq).1 = 0)) ↔ (n + lv pt cs ≤ 0 ∧ (eq = false ∨ n + lv pt cs = 0))) := by
  obtain ⟨hb, hn, hlen⟩ := check_ok h.ok
  unfold tightF
  rw [if_pos h.ok]
  by_cases hc : cs = []
  · rw [if_pos hc]
    subst hc
    split
    · rename_i h1
      simp only [Bool.or_eq_true, beq_iff_eq, Bool.and_eq_true, Bool.not_eq_true', decide_eq_true_eq] at h1
      refine ⟨near_nil (by simp), ?_⟩
      simp only [lv]
      cases eq <;> simp at h1 ⊢ <;> omega
    · rename_i h1
      simp only [Bool.or_eq_true, beq_iff_eq, Bool.and_eq_true, Bool.not_eq_true', decide_eq_true_eq, not_or, not_and] at h1
      refine ⟨near_nil (by simp), ?_⟩
      simp only [lv]
      cases eq <;> simp at h1 ⊢ <;> omega
  · rw [if_neg hc]
    have hp := gcdL_pos hb (g := 0) rfl (by omega) (.inr hc)
    obtain ⟨-, hd⟩ := gcdL_dvd hb (g := 0) rfl
    have hlv := lv_div (pt := pt) cs hd
    generalize gcdL 0 cs = g at *
    generalize hL : lv pt (cs.map (divC g)) = L at *
    split
    · rename_i h1
      simp only [Bool.and_eq_true, Bool.not_eq_true', beq_eq_false_iff_ne, ne_eq] at h1
      refine ⟨near_nil (by simp), ?_⟩
      simp only [lv, h1.1]
      have : ¬ n + lv pt cs = 0 := by
        intro e
        apply h1.2
        have : g ∣ n := ⟨-L, by rw [Int.mul_neg]; omega⟩
        exact Int.tmod_eq_zero_of_dvd this
      simp; omega
    · rename_i h1
      have hdiv := Int.natAbs_ediv_le_natAbs (-n) g
      have hk := h.kn
      have e1 := Int.mul_ediv_add_emod (-n) g
      have e2 := Int.emod_nonneg (-n) (show g ≠ 0 by omega)
      have e3 := Int.emod_lt_of_pos (-n) hp
      refine ⟨h.div hd (show -1000 ≤ -(-n / g) ∧ -(-n / g) ≤ 1000 by omega), ?_⟩
      simp only [hL, ← hlv]
      generalize -n / g = q at *
      generalize -n % g = r at *
      -- n = -(g q + r), 0 <= r < g
      have key : (-q + L ≤ 0) ↔ (n + g * L ≤ 0) := by
        constructor
        · intro hh
          have : g * (L - q) ≤ 0 := Int.mul_nonpos_of_nonneg_of_nonpos (by omega) (by omega)
          rw [Int.mul_sub] at this; omega
        · intro hh
          rcases Int.lt_or_le 0 (L - q) with h5 | h5
          · have : g * 1 ≤ g * (L - q) := Int.mul_le_mul_of_nonneg_left (by omega) (by omega)
            rw [Int.mul_sub] at this; omega
          · omega
      cases eq with
      | false => simp only [true_or, and_true]; exact key
      | true =>
        simp only [Bool.true_and, Bool.not_eq_true', beq_eq_false_iff_ne, ne_eq, Decidable.not_not] at h1
        have hr : r = 0 := by
          have hdv : g ∣ -n := Int.dvd_neg.2 (Int.dvd_of_tmod_eq_zero h1)
          have e4 : g ∣ r := by
            have : r = -n - g * q := by omega
            rw [this]; exact Int.dvd_sub hdv ⟨q, rfl⟩
          obtain ⟨u, hu⟩ := e4
          rcases Int.lt_or_le 0 u with h5 | h5
          · have : g * 1 ≤ g * u := Int.mul_le_mul_of_nonneg_left (by omega) (by omega)
            omega
          · have : g * u ≤ 0 := Int.mul_nonpos_of_nonneg_of_nonpos (by omega) (by omega)
            omega
        subst hr
        have e5 : n + g * L = g * (-q + L) := by rw [Int.mul_add, Int.mul_neg]; omega
        have e6 : (n + g * L = 0) ↔ (-q + L = 0) := by
          rw [e5]
          constructor
          · intro h5; rcases Int.mul_eq_zero.1 h5 with h5 | h5
            · omega
            · exact h5
          · intro h5; rw [h5]; simp
        simp only [Bool.true_eq_false, false_or]
        rw [key, e6]
theorem dvd_gcdS {d a b : Int} (ia : inB a = true) (ib : inB b = true) (ha : d ∣ a) (hb : d ∣ b) : d ∣ gcdS a b := by
  unfold gcdS
  rw [absS_in ia, absS_in ib]
  exact Int.dvd_coe_gcd (Int.dvd_natAbs.2 ha) (Int.dvd_natAbs.2 hb)
theorem dvd_gcdL {d : Int} : ∀ {cs : List (ByteArray × Int)} {g : Int}, (∀ c ∈ cs, inB c.2 = true ∧ c.2 ≠ 0) → inB g = true → d ∣ g → (∀ c ∈ cs, d ∣ c.2) → d ∣ gcdL g cs
  | [], g, _, _, h, _ => h
  | c :: r, g, hb, hg, h, hd => by
    have hc := hb c (by simp)
    exact dvd_gcdL (cs := r) (g := gcdS g c.2) (fun d hd => hb d (by simp [hd])) (gcdS_in hg hc.1 hc.2) (dvd_gcdS hg hc.1 h (hd c (by simp))) fun c' hc' => hd c' (by simp [hc'])
theorem gcdS_zero {n : Int} (hn : inB n = true) : inB (gcdS n 0) = true ∧ 0 ≤ gcdS n 0 ∧ (∀ d, d ∣ gcdS n 0 ↔ d ∣ n) := by
  unfold gcdS
  rw [absS_in hn, inB_true]
  rw [inB_true] at hn
  refine ⟨by simp [absS]; omega, by omega, fun d => ?_⟩
  simp [absS, Int.dvd_natAbs]
/-- the canonical form of a form with coefficients, by a divisor of either sign -/
theorem form_div {c : ByteArray × Int} {r : List (ByteArray × Int)} (h : Near (c :: r) n) (k : Int) (hk : k = gcdL (gcdS n 0) (c :: r) ∨ k = -gcdL (gcdS n 0) (c :: r)) (hs : 0 < k * c.2) :
    Near ((c :: r).map (divC k)) (n.tdiv k) ∧ n + lv pt (c :: r) = k * (n.tdiv k + lv pt ((c :: r).map (divC k))) ∧ formF ((c :: r).map (divC k)) (n.tdiv k) = (((c :: r).map (divC k), n.tdiv k), 1) := by
  obtain ⟨hb, hn, hlen⟩ := check_ok h.ok
  obtain ⟨z1, z2, z3⟩ := gcdS_zero hn
  have hp := gcdL_pos hb z1 z2 (.inr (by simp))
  obtain ⟨d1, d2⟩ := gcdL_dvd hb z1
  have hgr := fun d => dvd_gcdL (d := d) hb z1
  generalize gcdL (gcdS n 0) (c :: r) = g at *
  have dk : ∀ x, g ∣ x → k ∣ x := fun x hx => by rcases hk with rfl | rfl; exact hx; exact Int.neg_dvd.2 hx
  have k1 : k ∣ n := dk _ ((z3 g).1 d1)
  have k2 : ∀ d ∈ c :: r, k ∣ d.2 := fun d hd => dk _ (d2 d hd)
  have k0 : k ≠ 0 := by rcases hk with rfl | rfl <;> omega
  have e1 := Int.mul_tdiv_cancel' k1
  have b1 := tdiv_le (a := n) (g := k)
  have hN : Near ((c :: r).map (divC k)) (n.tdiv k) := h.div k2 (by have := h.kn; omega)
  refine ⟨hN, ?_, ?_⟩
  · rw [Int.mul_add, e1, lv_div _ k2]
  · obtain ⟨hb', hn', -⟩ := check_ok hN.ok
    obtain ⟨y1, y2, y3⟩ := gcdS_zero hn'
    have hp' := gcdL_pos hb' y1 y2 (.inr (by simp))
    obtain ⟨f1, f2⟩ := gcdL_dvd hb' y1
    have hone : gcdL (gcdS (n.tdiv k) 0) ((c :: r).map (divC k)) = 1 := by
      generalize gcdL (gcdS (n.tdiv k) 0) ((c :: r).map (divC k)) = g' at *
      have g1 : k * g' ∣ n := by rw [← e1]; exact Int.mul_dvd_mul_left k ((y3 g').1 f1)
      have g2 : ∀ d ∈ c :: r, k * g' ∣ d.2 := fun d hd => by
        have := f2 (divC k d) (List.mem_map.2 ⟨d, hd, rfl⟩)
        rw [← Int.mul_tdiv_cancel' (k2 d hd)]
        exact Int.mul_dvd_mul_left k this
      have g3 := hgr (k * g') ((z3 _).2 g1) g2
      have g4 : k * g' ∣ k * 1 := by rw [Int.mul_one]; exact Int.dvd_trans g3 (by rcases hk with rfl | rfl; exact Int.dvd_refl _; exact Int.dvd_neg.2 (Int.dvd_refl _))
      have g5 : g' ∣ 1 := Int.dvd_of_mul_dvd_mul_left k0 g4
      have := Int.le_of_dvd (by omega) g5
      omega
    have hc : ¬ c.2.tdiv k < 0 := by
      intro hlt
      have e2 := Int.mul_tdiv_cancel' (k2 c (by simp))
      have h5 : 0 < k * (k * c.2.tdiv k) := by rw [e2]; exact hs
      rw [← Int.mul_assoc] at h5
      have h6 : 0 ≤ k * k := by rcases Int.le_total 0 k with h | h; exact Int.mul_nonneg h h; exact Int.mul_nonneg_of_nonpos_of_nonpos h h
      have := Int.mul_nonpos_of_nonneg_of_nonpos h6 (show c.2.tdiv k ≤ 0 by omega)
      omega
    unfold formF
    rw [if_pos hN.ok]
    simp only [List.map_cons] at hone ⊢
    rw [hone]
    have hc' : decide ((divC k c).2 < 0) = false := decide_eq_false hc
    simp only [hc', Bool.false_eq_true, if_false]
    simp [divC, Function.comp_def, Int.tdiv_one]
theorem form_near (h : Near cs n) : Near (formF cs n).1.1 (formF cs n).1.2 ∧ ((formF cs n).2 = 1 ∨ (formF cs n).2 = -1) ∧
    (n + lv pt cs > 0 ↔ ((formF cs n).1.2 + lv pt (formF cs n).1.1) * (formF cs n).2 > 0) ∧ (n + lv pt cs < 0 ↔ ((formF cs n).1.2 + lv pt (formF cs n).1.1) * (formF cs n).2 < 0) ∧ formF (formF cs n).1.1 (formF cs n).1.2 = ((formF cs n).1, 1) := by
  have hsm : ∀ k m : Int, 0 < k → ((k * m > 0 ↔ m * 1 > 0) ∧ (k * m < 0 ↔ m * 1 < 0)) := fun k m hk => by
    rw [Int.mul_one]
    refine ⟨⟨fun h => Int.pos_of_mul_pos_right h hk |> fun x => x, fun h => Int.mul_pos hk h⟩, ⟨fun h => ?_, fun h => Int.mul_neg_of_pos_of_neg hk h⟩⟩
    rcases Int.lt_or_le m 0 with h1 | h1
    · exact h1
    · have := Int.mul_nonneg (show 0 ≤ k by omega) h1; omega
  have hsn : ∀ k m : Int, k < 0 → ((k * m > 0 ↔ m * -1 > 0) ∧ (k * m < 0 ↔ m * -1 < 0)) := fun k m hk => by
    have := hsm (-k) (-m) (by omega)
    rw [Int.neg_mul_neg, Int.mul_one] at this
    rw [show m * -1 = -m by omega]; exact this
  cases cs with
  | nil =>
    have h1 : ∀ m : Int, -1000 ≤ m ∧ m ≤ 1000 → formF [] m = if decide (m > 0) = true then (([], 1), 1) else if decide (m < 0) = true then (([], 1), -1) else (([], 0), 1) := fun m hm => by
      unfold formF; rw [if_pos (near_nil hm).ok]
    rw [h1 n h.kn]
    rcases Int.lt_trichotomy n 0 with hn | hn | hn
    · rw [if_neg (by simp; omega), if_pos (by simpa using hn)]
      refine ⟨near_nil (by simp), .inr rfl, by simp [lv]; omega, by simp [lv]; omega, ?_⟩
      rw [h1 1 (by omega)]; rfl
    · subst hn
      rw [if_neg (by simp), if_neg (by simp)]
      refine ⟨near_nil (by simp), .inl rfl, by simp [lv], by simp [lv], ?_⟩
      rw [h1 0 (by omega)]; rfl
    · rw [if_pos (by simpa using hn)]
      refine ⟨near_nil (by simp), .inl rfl, by simp [lv]; omega, by simp [lv]; omega, ?_⟩
      rw [h1 1 (by omega)]; rfl
  | cons c r =>
    obtain ⟨hb, hn, -⟩ := check_ok h.ok
    obtain ⟨z1, z2, -⟩ := gcdS_zero hn
    have hp := gcdL_pos hb z1 z2 (.inr (by simp))
    have hc0 := (hb c (by simp)).2
    have hf : formF (c :: r) n = if decide (c.2 < 0) = true then (((c :: r).map (divC (-gcdL (gcdS n 0) (c :: r))), n.tdiv (-gcdL (gcdS n 0) (c :: r))), -1)
        else (((c :: r).map (divC (gcdL (gcdS n 0) (c :: r))), n.tdiv (gcdL (gcdS n 0) (c :: r))), 1) := by
      unfold formF; rw [if_pos h.ok]
    rw [hf]
    split
    · rename_i hs
      have hs' : c.2 < 0 := by simpa using hs
      obtain ⟨q1, q2, q3⟩ := form_div (pt := pt) h (-gcdL (gcdS n 0) (c :: r)) (.inr rfl) (by rw [Int.neg_mul]; have := Int.mul_neg_of_pos_of_neg hp hs'; omega)
      refine ⟨q1, .inr rfl, ?_, ?_, q3⟩
      · rw [q2]; exact (hsn _ _ (by omega)).1
      · rw [q2]; exact (hsn _ _ (by omega)).2
    · rename_i hs
      have hs' : ¬ c.2 < 0 := by simpa using hs
      obtain ⟨q1, q2, q3⟩ := form_div (pt := pt) h (gcdL (gcdS n 0) (c :: r)) (.inl rfl) (Int.mul_pos hp (by omega))
      refine ⟨q1, .inl rfl, ?_, ?_, q3⟩
      · rw [q2]; exact (hsm _ _ hp).1
      · rw [q2]; exact (hsm _ _ hp).2
end Go.Proofs.YtkghgdkkholieaaDoor
/-
  Values of sums and multiples, plainly.
-/


namespace Go.Proofs.YtkghgdkkholieaaDoor
open Go
theorem mul_bd {a b B : Int} (ha : -B ≤ a ∧ a ≤ B) (hb : -128 ≤ b ∧ b ≤ 128) : -(128 * B) ≤ a * b ∧ a * b ≤ 128 * B := by
  have h1 : (a * b).natAbs ≤ B.natAbs * 128 := by
    rw [Int.natAbs_mul]
    exact Nat.mul_le_mul (by omega) (by omega)
  omega
theorem lv_bd {B : Int} (hB : 0 ≤ B) {pt : List (ByteArray × Int)} (hpt : ∀ s, -128 ≤ findS s pt ∧ findS s pt ≤ 128) : ∀ (cs : List (ByteArray × Int)), (∀ c ∈ cs, -B ≤ c.2 ∧ c.2 ≤ B) → cs.length ≤ 100 → -(12800 * B) ≤ lv pt cs ∧ lv pt cs ≤ 12800 * B := by
  have key : ∀ (cs : List (ByteArray × Int)), (∀ c ∈ cs, -B ≤ c.2 ∧ c.2 ≤ B) → -(128 * B * (cs.length : Int)) ≤ lv pt cs ∧ lv pt cs ≤ 128 * B * (cs.length : Int) := by
    intro cs
    induction cs with
    | nil => intro _; simp [lv]
    | cons c r ih =>
      intro h
      have h1 := mul_bd (h c (by simp)) (hpt c.1)
      have h2 := ih fun d hd => h d (by simp [hd])
      simp only [lv, List.length_cons]
      have e : 128 * B * ((r.length + 1 : Nat) : Int) = 128 * B * (r.length : Int) + 128 * B := by rw [show ((r.length + 1 : Nat) : Int) = (r.length : Int) + 1 by omega, Int.mul_add, Int.mul_one]
      omega
  intro cs h hl
  have h1 := key cs h
  have h2 : 128 * B * (cs.length : Int) ≤ 128 * B * 100 := Int.mul_le_mul_of_nonneg_left (by omega) (by omega)
  omega
theorem valFrom_gen {B : Int} (hB : 0 ≤ B ∧ B ≤ 1000000) {pt : List (ByteArray × Int)} (hpt : ∀ s, -128 ≤ findS s pt ∧ findS s pt ≤ 128) (cs : List (ByteArray × Int)) : ∀ (s : Int), (∀ c ∈ cs, -B ≤ c.2 ∧ c.2 ≤ B) → -1000000000000 + 128 * B * (cs.length : Int) ≤ s ∧ s ≤ 1000000000000 - 128 * B * (cs.length : Int) → valFrom pt s cs = (s + lv pt cs, true) := by
  induction cs with
  | nil => intro s _ _; simp [valFrom, lv]
  | cons c r ih =>
    intro s h hs
    have hc := h c (by simp)
    have h1 := mul_bd hc (hpt c.1)
    have e : 128 * B * ((r.length + 1 : Nat) : Int) = 128 * B * (r.length : Int) + 128 * B := by rw [show ((r.length + 1 : Nat) : Int) = (r.length : Int) + 1 by omega, Int.mul_add, Int.mul_one]
    simp only [List.length_cons] at hs
    rw [e] at hs
    have hnn : 0 ≤ 128 * B * (r.length : Int) := Int.mul_nonneg (by omega) (by omega)
    have hm : mulS c.2 (findS c.1 pt) = (c.2 * findS c.1 pt, true) := by
      have h2 := hpt c.1
      have i1 : inB c.2 = true := inB_true.2 (by omega)
      have i2 : inB (findS c.1 pt) = true := inB_true.2 (by omega)
      have i3 : inB (c.2 * findS c.1 pt) = true := inB_true.2 (by omega)
      simp only [mulS, chk, i1, i2, i3]; rfl
    have ha : addS s (c.2 * findS c.1 pt) = (s + c.2 * findS c.1 pt, true) := by
      have i1 : inB s = true := inB_true.2 (by omega)
      have i2 : inB (c.2 * findS c.1 pt) = true := inB_true.2 (by omega)
      have i3 : inB (s + c.2 * findS c.1 pt) = true := inB_true.2 (by omega)
      simp only [addS, chk, i1, i2, i3]; rfl
    simp only [valFrom, hm, ha, if_true, lv]
    rw [ih _ (fun d hd => h d (by simp [hd])) (by omega)]
    simp only [Prod.mk.injEq, and_true]; omega
theorem lv_merge (pt : List (ByteArray × Int)) : ∀ (a b : List (ByteArray × Int)), lv pt (mergeF a b) = lv pt a + lv pt b := by
  intro a b
  induction a, b using mergeF.induct with
  | case1 b => rw [mergeF_nil]; simp [lv]
  | case2 x a => rw [mergeF_right]; simp [lv]
  | case3 x a y b h ih => rw [mergeF, if_pos h]; simp only [lv] at ih ⊢; omega
  | case4 x a y b h1 h2 ih => rw [mergeF, if_neg h1, if_pos h2]; simp only [lv] at ih ⊢; omega
  | case5 x a y b h1 h2 h3 ih =>
    rw [mergeF, if_neg h1, if_neg h2, if_pos h3, ih]
    have e : x.1 = y.1 := by
      rw [sLt_nm] at h1 h2
      rcases nlt_tri x.1 y.1 with h | h | h
      · exact absurd (decide_eq_true h) h1
      · exact h
      · exact absurd (decide_eq_true h) h2
    simp only [lv, e]
    have : y.2 = -x.2 := by omega
    rw [this, Int.neg_mul]; omega
  | case6 x a y b h1 h2 h3 ih =>
    rw [mergeF, if_neg h1, if_neg h2, if_neg h3]
    have e : x.1 = y.1 := by
      rw [sLt_nm] at h1 h2
      rcases nlt_tri x.1 y.1 with h | h | h
      · exact absurd (decide_eq_true h) h1
      · exact h
      · exact absurd (decide_eq_true h) h2
    simp only [lv, ih, e, Int.add_mul]; omega
theorem merge_bd {B C : Int} (hB : 0 ≤ B) (hC : 0 ≤ C) : ∀ (a b : List (ByteArray × Int)), (∀ c ∈ a, -B ≤ c.2 ∧ c.2 ≤ B) → (∀ c ∈ b, -C ≤ c.2 ∧ c.2 ≤ C) → ∀ c ∈ mergeF a b, -(B + C) ≤ c.2 ∧ c.2 ≤ B + C := by
  intro a b
  induction a, b using mergeF.induct with
  | case1 b => intro h1 h2 c hc; rw [mergeF_nil] at hc; have := h2 c hc; omega
  | case2 x a => intro h1 h2 c hc; rw [mergeF_right] at hc; have := h1 c hc; omega
  | case3 x a y b h ih =>
    intro h1 h2 c hc
    rw [mergeF, if_pos h] at hc
    rcases List.mem_cons.1 hc with rfl | hc
    · have := h1 c (by simp); omega
    · exact ih (fun d hd => h1 d (by simp [hd])) h2 c hc
  | case4 x a y b h h' ih =>
    intro h1 h2 c hc
    rw [mergeF, if_neg h, if_pos h'] at hc
    rcases List.mem_cons.1 hc with rfl | hc
    · have := h2 c (by simp); omega
    · exact ih h1 (fun d hd => h2 d (by simp [hd])) c hc
  | case5 x a y b h h' h3 ih =>
    intro h1 h2 c hc
    rw [mergeF, if_neg h, if_neg h', if_pos h3] at hc
    exact ih (fun d hd => h1 d (by simp [hd])) (fun d hd => h2 d (by simp [hd])) c hc
  | case6 x a y b h h' h3 ih =>
    intro h1 h2 c hc
    rw [mergeF, if_neg h, if_neg h', if_neg h3] at hc
    rcases List.mem_cons.1 hc with rfl | hc
    · have q1 := h1 x (by simp); have q2 := h2 y (by simp); simp only; omega
    · exact ih (fun d hd => h1 d (by simp [hd])) (fun d hd => h2 d (by simp [hd])) c hc
end Go.Proofs.YtkghgdkkholieaaDoor
/-
  What LinearAgrees asks of values, plainly.
-/

namespace Go.Proofs.YtkghgdkkholieaaDoor
open Go
structure NearF (cs : List (ByteArray × Int)) (n : Int) : Prop where
  ok : checkF cs n = 0
  cf : ∀ c ∈ cs, -1000 ≤ c.2 ∧ c.2 ≤ 1000
  lo : -1000 ≤ n
  hi : n ≤ 1000
theorem value_gen {B : Int} (hB : 0 ≤ B ∧ B ≤ 1000000) {pt : List (ByteArray × Int)} (hpt : ∀ s, -128 ≤ findS s pt ∧ findS s pt ≤ 128) {cs : List (ByteArray × Int)} {n : Int} (hok : checkF cs n = 0) (hc : ∀ c ∈ cs, -B ≤ c.2 ∧ c.2 ≤ B) (hn : -1000000 ≤ n ∧ n ≤ 1000000) :
    valueF cs n pt = (n + lv pt cs, true) := by
  have hl := ((checkF_iff cs n).1 hok).1
  unfold valueF
  rw [if_pos hok]
  have h2 : 128 * B * (cs.length : Int) ≤ 128 * B * 24 := Int.mul_le_mul_of_nonneg_left (by omega) (by omega)
  exact valFrom_gen hB hpt cs n hc (by omega)
theorem value_add {a b : List (ByteArray × Int)} {n m : Int} {pt : List (ByteArray × Int)} (hpt : ∀ s, -128 ≤ findS s pt ∧ findS s pt ≤ 128) (ha : NearF a n) (hb : NearF b m) (h : (addL a n b m).2 = true) :
    valueF (addL a n b m).1.1 (addL a n b m).1.2 pt = ((n + lv pt a) + (m + lv pt b), true) := by
  have e : addL a n b m = rightF (mergeF a b) (n + m) := by simp [addL, ha.ok, hb.ok]
  rw [e] at h ⊢
  unfold rightF at h ⊢
  split at h
  · rename_i hk
    rw [if_pos hk]
    simp only
    rw [value_gen (B := 2000) (by omega) hpt hk (fun c hc => by have := merge_bd (B := 1000) (C := 1000) (by omega) (by omega) a b ha.cf hb.cf c hc; omega) (by have := ha.lo; have := ha.hi; have := hb.lo; have := hb.hi; omega), lv_merge]
    simp only [Prod.mk.injEq, and_true]; omega
  · simp at h
theorem lv_mul (pt : List (ByteArray × Int)) (k : Int) : ∀ cs : List (ByteArray × Int), lv pt (cs.map fun c => (c.1, c.2 * k)) = k * lv pt cs
  | [] => by simp [lv]
  | c :: r => by
    simp only [List.map_cons, lv, lv_mul pt k r, Int.mul_add]
    rw [Int.mul_comm c.2 k, Int.mul_assoc]
theorem ok_mul {k : Int} (hk : k ≠ 0) : ∀ {p : Option ByteArray} {cs : List (ByteArray × Int)}, okFrom p cs = true → (∀ c ∈ cs, inB (c.2 * k) = true) → okFrom p (cs.map fun c => (c.1, c.2 * k)) = true
  | _, [], _, _ => rfl
  | p, c :: cs, h, hb => by
    simp only [okFrom, Bool.and_eq_true, Bool.not_eq_true', beq_eq_false_iff_ne, ne_eq, List.map_cons] at h ⊢
    refine ⟨⟨⟨⟨h.1.1.1.1, ?_⟩, hb c (by simp)⟩, h.1.2⟩, ok_mul hk h.2 fun d hd => hb d (by simp [hd])⟩
    intro h0
    rcases Int.mul_eq_zero.1 h0 with h1 | h1
    · exact h.1.1.1.2 h1
    · exact hk h1
theorem mul_near {a k : Int} (ha : -1000 ≤ a ∧ a ≤ 1000) (hk : -128 ≤ k ∧ k ≤ 127) : -128000 ≤ a * k ∧ a * k ≤ 128000 := by
  have := mul_bd (B := 1000) ha (b := k) (by omega)
  omega
theorem mulS_near {a k : Int} (ha : -1000 ≤ a ∧ a ≤ 1000) (hk : -128 ≤ k ∧ k ≤ 127) : mulS a k = (a * k, true) := by
  have h := mul_near ha hk
  have i1 : inB a = true := inB_true.2 (by omega)
  have i2 : inB k = true := inB_true.2 (by omega)
  have i3 : inB (a * k) = true := inB_true.2 (by omega)
  simp only [mulS, chk, i1, i2, i3]; rfl
theorem value_scale {a : List (ByteArray × Int)} {n k : Int} {pt : List (ByteArray × Int)} (hpt : ∀ s, -128 ≤ findS s pt ∧ findS s pt ≤ 128) (ha : NearF a n) (hk : -128 ≤ k ∧ k ≤ 127) :
    (scaleF a n k).2 = true ∧ valueF (scaleF a n k).1.1 (scaleF a n k).1.2 pt = (k * (n + lv pt a), true) := by
  unfold scaleF
  rw [if_pos ha.ok]
  by_cases h0 : k = 0
  · subst h0
    rw [if_pos rfl]
    refine ⟨rfl, ?_⟩
    have : checkF [] 0 = 0 := by decide
    simp [valueF, this, valFrom]
  rw [if_neg h0]
  have ik : inB k = true := inB_true.2 (by omega)
  rw [if_pos ik]
  have hm := fun c hc => mulS_near (ha.cf c hc) hk
  have hn := mulS_near (a := n) ⟨ha.lo, ha.hi⟩ hk
  have hall : (a.all fun c => (mulS c.2 k).2) = true := List.all_eq_true.2 fun c hc => by rw [hm c hc]
  rw [if_pos ⟨by rw [hn], hall⟩]
  refine ⟨rfl, ?_⟩
  have hmap : a.map (mulC k) = a.map fun c => (c.1, c.2 * k) := List.map_congr_left fun c hc => by simp [mulC, hm c hc]
  simp only [hmap, hn]
  have hck := (checkF_iff a n).1 ha.ok
  have hnk := mul_near (a := n) ⟨ha.lo, ha.hi⟩ hk
  have hck2 : checkF (a.map fun c => (c.1, c.2 * k)) (n * k) = 0 := by
    rw [checkF_iff]
    refine ⟨by simpa using hck.1, ok_mul h0 hck.2.1 fun c hc => ?_, inB_true.2 (by omega)⟩
    have := mul_near (ha.cf c hc) hk
    exact inB_true.2 (by omega)
  rw [value_gen (B := 128000) (by omega) hpt hck2 (fun c hc => by
    obtain ⟨d, hd, rfl⟩ := List.mem_map.1 hc
    exact mul_near (ha.cf d hd) hk) (by omega), lv_mul]
  simp only [Prod.mk.injEq, and_true, Int.mul_add]
  rw [Int.mul_comm n k]
end Go.Proofs.YtkghgdkkholieaaDoor
