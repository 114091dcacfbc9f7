/-
  Texts laid together: ShapeB.
-/
import Derived.Test.YtmkoiandfojgmaaGreatZM10
import Derived.OpenShut
import Derived.ChangeArms
import Derived.Test.YtmkoiandfojgmaaGreatZM26
namespace Go.Proofs.YtmkoiandfojgmaaGreat
open Go
inductive Sh (P : Program) : TypeId → List AV → Prop
  | bool {t b} : P.underlying t = some .bool → Sh P t [.prim (.bool b)]
  | int {t k n} : P.underlying t = some (.int k) → (Lit.int k n).wf = true → Sh P t [.prim (.int k n)]
  | str {t s} : P.underlying t = some .string → s.size ≤ maxLen → Sh P t [.prim (.string s)]
  | slice {t e es} : P.underlying t = some (.slice e) → (∀ x ∈ es, Sh P e x) → es.length ≤ maxLen → Sh P t [.frz es .unk]
  | struct {t fs} {pss : List (List AV)} : P.underlying t = some (.struct fs) → pss.length = fs.size → (∀ i f p, fs[i]? = some f → nth pss i = some p → Sh P f.type p) → Sh P t pss.flatten
mutual
def bkV : AV → Nat
  | .prim (.string s) => s.size + 1
  | .prim _ => 1
  | .frz es _ => bkR es + 1
  | _ => 0
def bkC : List AV → Nat
  | [] => 0
  | c :: cs => bkV c + bkC cs
def bkR : List (List AV) → Nat
  | [] => 0
  | e :: es => bkC e + bkR es
end
mutual
def blk {H : Type} : DataW H → Nat
  | .lit (.string b) => b.length + 1
  | .lit _ => 1
  | .nil => 1
  | .slice e _ => blkA e + 1
  | .agg ps => blkA ps + 1
  | _ => 0
def blkA {H : Type} : List (DataW H) → Nat
  | [] => 0
  | d :: r => blk d + blkA r
end
theorem bkC_app : ∀ a b : List AV, bkC (a ++ b) = bkC a + bkC b
  | [], b => by simp [bkC]
  | c :: a, b => by simp only [List.cons_append, bkC, bkC_app a b]; omega
theorem bkR_le {H : Type} : ∀ {es : List (List AV)} {xs : List (DataW H × List MemPlace)}, es.length = xs.length → (∀ i e x, nth es i = some e → nth xs i = some x → bkC e ≤ blk x.1) → bkR es ≤ blkA (xs.map (·.1))
  | [], [], _, _ => by simp [bkR]
  | e :: es, x :: xs, hl, h => by
    have h0 := h 0 e x rfl rfl
    have h1 := bkR_le (es := es) (xs := xs) (by simpa using hl) fun i a b ha hb => h (i + 1) a b ha hb
    simp only [bkR, List.map_cons, blkA]; omega
  | [], _ :: _, hl, _ => by simp at hl
  | _ :: _, [], hl, _ => by simp at hl
def contig (P : Program) : List Field → Nat → Nat → Bool
  | [], o, n => o == n
  | f :: fs, o, n => f.offset == o && contig P fs (o + P.cellsOf f.type) n
def typeIn (P : Program) (F : List TypeId) (t : TypeId) : Bool :=
  match P.underlying t with
  | some .bool => true
  | some (.int k) => k != .u64
  | some .string => true
  | some (.slice e) => F.contains e && decide (0 < P.cellsOf e)
  | some (.struct fs) => contig P fs.toList 0 (P.cellsOf t) && fs.toList.all fun f => F.contains f.type
  | _ => false
def closedT (P : Program) (F : List TypeId) : Bool := F.all (typeIn P F)
def goodC : AV → Bool
  | .prim (.int k _) => k != .u64
  | .prim _ => true
  | .frz _ _ => true
  | _ => false
theorem Lie_mk {w : World} {A : Nat → Nat → Prop} {b : Nat} : ∀ (vs : List Value) (o : Nat), (∀ j v, nth vs j = some v → w.cell? ⟨b, o + j, none⟩ = some v ∧ ¬ A b (o + j)) → Lie w A b o vs
  | [], _, _ => trivial
  | v :: vs, o, h => by
    have h0 := h 0 v rfl
    refine ⟨h0.1, h0.2, Lie_mk vs (o + 1) fun j u hu => ?_⟩
    have := h (j + 1) u hu
    rwa [show o + (j + 1) = o + 1 + j by omega] at this
theorem PRows_mk {w : World} {A : Nat → Nat → Prop} {b sz : Nat} : ∀ (es : List (List AV)) (o : Nat), (∀ i e, nth es i = some e → e.length = sz ∧ ∃ vs, Lie w A b (o + i * sz) vs ∧ PRs w A e vs) → PRows w A b sz o es
  | [], _, _ => by simp only [PRows]
  | e :: es, o, h => by
    simp only [PRows]
    have h0 := h 0 e rfl
    rw [Nat.zero_mul, Nat.add_zero] at h0
    refine ⟨h0.1, h0.2, PRows_mk es (o + sz) fun i f hf => ?_⟩
    have := h (i + 1) f hf
    rwa [show o + (i + 1) * sz = o + sz + i * sz by rw [Nat.add_mul]; omega] at this
theorem PRs_app {w : World} {A : Nat → Nat → Prop} : ∀ {cs ds : List AV} {us vs : List Value}, PRs w A cs us → PRs w A ds vs → PRs w A (cs ++ ds) (us ++ vs)
  | [], _, [], _, _, h => h
  | _ :: _, _, _ :: _, _, h1, h2 => by simp only [PRs, List.cons_append] at h1 ⊢; exact ⟨h1.1, PRs_app h1.2 h2⟩
  | [], _, _ :: _, _, h1, _ => by simp only [PRs] at h1
  | _ :: _, _, [], _, h1, _ => by simp only [PRs] at h1
theorem good_val {w : World} {A : Nat → Nat → Prop} : ∀ {cs : List AV} {vs : List Value}, PRs w A cs vs → (∀ c ∈ cs, goodC c = true) → ∀ v ∈ vs, ∀ n, v ≠ .int .u64 n
  | [], [], _, _, v, hv => by simp at hv
  | c :: cs, x :: vs, h, hg, v, hv => by
    simp only [PRs] at h
    rcases List.mem_cons.1 hv with rfl | hv
    · intro n e
      subst e
      have hc := hg c (by simp)
      have hp := h.1
      cases c with
      | prim y => simp only [PR] at hp; rw [← hp.1] at hc; simp [goodC] at hc
      | frz es q => cases q <;> simp only [PR] at hp; obtain ⟨a, l, q, e, -⟩ := hp; cases e
      | _ => simp [goodC] at hc
    · exact good_val h.2 (fun d hd => hg d (by simp [hd])) v hv
  | [], _ :: _, h, _, _, _ => by simp only [PRs] at h
  | _ :: _, [], h, _, _, _ => by simp only [PRs] at h
theorem mapM_at {α β : Type} {f : α → Option β} : ∀ {l : List α} {ys : List β}, l.mapM f = some ys → ys.length = l.length ∧ ∀ i x y, nth l i = some x → nth ys i = some y → f x = some y
  | [], ys, h => by simp at h; subst h; exact ⟨rfl, fun i x y hx => by simp [nth] at hx⟩
  | a :: l, ys, h => by
    rw [List.mapM_cons] at h
    simp only [Option.pure_def, Option.bind_eq_bind, Option.bind_eq_some_iff] at h
    obtain ⟨b, hb, bs, hbs, e⟩ := h
    simp only [Option.some.injEq] at e
    subst e
    obtain ⟨h1, h2⟩ := mapM_at hbs
    refine ⟨by simp [h1], fun i x y hx hy => ?_⟩
    cases i with
    | zero => simp only [nth, Option.some.injEq] at hx hy; subst hx hy; exact hb
    | succ i => exact h2 i x y hx hy
theorem nth_range {n i : Nat} (h : i < n) : nth (List.range n) i = some i := by rw [nth_get, List.getElem?_range h]
theorem cells_at {w : World} {b off n : Nat} {vs : List Value} (h : w.cells? 0 ⟨b, off, none⟩ n = some vs) : vs.length = n ∧ ∀ j v, nth vs j = some v → w.cell? ⟨b, off + j, none⟩ = some v := by
  unfold World.cells? at h
  rw [if_pos (Nat.zero_le _)] at h
  obtain ⟨h1, h2⟩ := mapM_at h
  rw [List.length_range] at h1
  refine ⟨h1, fun j v hv => ?_⟩
  have hj : j < n := by have := nth_lt hv; omega
  have := h2 j j v (nth_range hj) hv
  unfold Addr.add at this
  split at this
  · rename_i h0; subst h0; exact this
  · exact this
theorem spot0 {w : World} {a : Addr} {v : Value} (h : w.cell? a = some v) : a.spot = none := by
  unfold World.cell? at h
  split at h
  · split at h
    · cases h
    · rename_i hs; simpa using hs
  · cases h
section
variable {H : Type} {enc : TypeId × Value → H} {P : Program} {w : World} {sp : Nat → Bool} {held : Bool} {A : Nat → Nat → Prop} {F : List TypeId}
def Rd {H : Type} (P : Program) (w : World) (A : Nat → Nat → Prop) (t : TypeId) (cs : List Value) (avs : List AV) (d : DataW H) : Prop := Sh P t avs ∧ PRs w A avs cs ∧ (∀ c ∈ avs, goodC c = true) ∧ bkC avs ≤ blk d
theorem fields_Rd {n : Nat} {cs : List Value} (ih : ∀ t ds x, t ∈ F → DataW.trod enc P w 0 sp held n t ds = some x → ∃ avs, Rd P w A t ds avs x.1) :
    ∀ (fs : List Field) (o : Nat) (xs : List (DataW H × List MemPlace)), contig P fs o cs.length = true → (∀ f ∈ fs, f.type ∈ F) → xs.length = fs.length →
      (∀ i f, nth fs i = some f → DataW.trod enc P w 0 sp held n f.type ((cs.drop f.offset).take (P.cellsOf f.type)) = nth xs i) →
      ∃ pss : List (List AV), pss.length = fs.length ∧ (∀ i f p, nth fs i = some f → nth pss i = some p → Sh P f.type p) ∧ PRs w A pss.flatten (cs.drop o) ∧ (∀ c ∈ pss.flatten, goodC c = true) ∧ bkC pss.flatten ≤ blkA (xs.map (·.1))
  | [], o, xs, hc, _, _, _ => by
    simp only [contig, beq_iff_eq] at hc
    exact ⟨[], rfl, fun i f p hf => by simp [nth] at hf, by rw [hc, List.drop_length]; simp only [List.flatten_nil, PRs], by simp, by simp [bkC]⟩
  | f :: fs, o, xs, hc, hF, hl, h => by
    simp only [contig, Bool.and_eq_true, beq_iff_eq] at hc
    obtain ⟨ho, hc⟩ := hc
    cases xs with
    | nil => simp at hl
    | cons x xs =>
    have h0 := h 0 f rfl
    obtain ⟨avs, s1, p1, g1, k1⟩ := ih _ _ _ (hF f (by simp)) h0
    obtain ⟨pss, l2, s2, p2, g2, k2⟩ := fields_Rd ih fs (o + P.cellsOf f.type) xs hc (fun g hg => hF g (by simp [hg])) (by simpa using hl) fun i g hg => h (i + 1) g hg
    refine ⟨avs :: pss, by simp [l2], fun i g p hg hp => ?_, ?_, ?_, by rw [List.flatten_cons, bkC_app, List.map_cons, blkA]; omega⟩
    · cases i with
      | zero => simp only [nth, Option.some.injEq] at hg hp; subst hg hp; exact s1
      | succ i => exact s2 i g p hg hp
    · rw [ho] at p1
      have e : cs.drop o = (cs.drop o).take (P.cellsOf f.type) ++ cs.drop (o + P.cellsOf f.type) := by
        rw [← List.drop_drop, List.take_append_drop]
      rw [e, List.flatten_cons]
      exact PRs_app p1 p2
    · intro c hc
      rw [List.flatten_cons] at hc
      rcases List.mem_append.1 hc with hc | hc
      · exact g1 c hc
      · exact g2 c hc
theorem trod_Rd (hF : closedT P F = true) (hA : ∀ b o v, A b o → w.cell? ⟨b, o, none⟩ = some v → ∃ n, v = .int .u64 n) : ∀ (fuel : Nat) (t : TypeId) (cs : List Value) (x : DataW H × List MemPlace), t ∈ F → DataW.trod enc P w 0 sp held fuel t cs = some x → ∃ avs, Rd P w A t cs avs x.1
  | 0, _, _, _, _, h => by simp [DataW.trod] at h
  | n + 1, t, cs, x, ht, h => by
    have hin : typeIn P F t = true := List.all_eq_true.1 hF t ht
    have ih : ∀ t ds x, t ∈ F → DataW.trod enc P w 0 sp held n t ds = some x → ∃ avs, Rd P w A t ds avs x.1 := fun t ds x ht h => trod_Rd hF hA n t ds x ht h
    unfold typeIn at hin
    split at hin
    · rename_i hu
      obtain ⟨b, rfl, rfl⟩ := DataW.trod_bool hu h
      exact ⟨[.prim (.bool b)], .bool hu, by simp [PRs, PR, Value.oneCell'], by simp [goodC], by simp [bkC, bkV, blk]⟩
    · rename_i k hu
      obtain ⟨q, rfl, rfl, hw⟩ := DataW.trod_int hu h
      exact ⟨[.prim (.int k q)], .int hu hw, by simp [PRs, PR, Value.oneCell'], by simpa [goodC] using hin, by simp [bkC, bkV, blk]⟩
    · rename_i hu
      obtain ⟨s, rfl, rfl, hw⟩ := DataW.trod_string hu h
      exact ⟨[.prim (.string s)], .str hu hw, by simp [PRs, PR, Value.oneCell'], by simp [goodC], by
        simp only [bkC, bkV, blk, Array.length_toList]
        exact Nat.le_refl _⟩
    · rename_i e hu
      simp only [Bool.and_eq_true, decide_eq_true_eq] at hin
      obtain ⟨hin, hpos⟩ := hin
      have he : e ∈ F := by simpa using hin
      rcases DataW.trod_slice hu h with ⟨rfl, rfl⟩ | ⟨a, len, cap, elems, rest, n', hn, rfl, rfl, -, hl, hcap, hel, hi, -, -⟩
      · exact ⟨[.frz [] .unk], .slice hu (by simp) (by simp), by simp only [PRs, PR, and_true]; exact ⟨none, 0, 0, rfl, rfl, Nat.le_refl _, .inl trivial⟩, by simp [goodC], by simp [bkC, bkV, bkR, blk]⟩
      · simp only [Nat.add_right_cancel_iff] at hn
        subst hn
        have hex : ∀ i, i < len → ∃ vs avs x, nth elems i = some x ∧ w.cells? 0 (a.add (i * P.cellsOf e)) (P.cellsOf e) = some vs ∧ Rd P w A e vs avs x.1 := fun i hil => by
          have h1 := hi i hil
          rw [List.getElem?_eq_getElem (by omega)] at h1
          obtain ⟨vs, h2, h3⟩ := Option.bind_eq_some_iff.1 h1
          obtain ⟨avs, h4⟩ := ih _ _ _ he h3
          exact ⟨vs, avs, _, by rw [nth_get, List.getElem?_eq_getElem (by omega)], h2, h4⟩
        have hes : ∃ es : List (List AV), es.length = len ∧ ∀ i av, nth es i = some av → ∃ vs x, nth elems i = some x ∧ w.cells? 0 (a.add (i * P.cellsOf e)) (P.cellsOf e) = some vs ∧ Rd P w A e vs av x.1 := by
          clear hi hel hl hcap h
          induction len with
          | zero => exact ⟨[], rfl, fun i av hav => by simp [nth] at hav⟩
          | succ len ihl =>
            obtain ⟨es, l1, l2⟩ := ihl fun i hil => hex i (by omega)
            obtain ⟨vs, avs, x, h0, h1, h2⟩ := hex len (by omega)
            refine ⟨es ++ [avs], by simp [l1], fun i av hav => ?_⟩
            rw [nth_get] at hav
            rcases Nat.lt_or_ge i len with hlt | hge
            · rw [List.getElem?_append_left (by omega), ← nth_get] at hav; exact l2 i av hav
            · rw [List.getElem?_append_right (by omega), l1] at hav
              have : i - len = 0 := by
                rcases Nat.eq_zero_or_pos (i - len) with h0 | h0
                · exact h0
                · rw [List.getElem?_eq_none (by simp; omega)] at hav; cases hav
              rw [this] at hav
              have e1 : i = len := by omega
              simp only [List.getElem?_cons_zero, Option.some.injEq] at hav
              subst hav e1
              exact ⟨vs, x, h0, h1, h2⟩
        obtain ⟨es, l1, l2⟩ := hes
        refine ⟨[.frz es .unk], .slice hu (fun x hx => ?_) (by omega), ?_, by simp [goodC], ?_⟩
        · obtain ⟨i, hx⟩ := List.mem_iff_getElem?.1 hx
          obtain ⟨vs, y, -, -, h1, -⟩ := l2 i x (by rw [nth_get]; exact hx)
          exact h1
        · simp only [PRs, PR, and_true]
          refine ⟨some a, len, cap, rfl, l1, hl, ?_⟩
          by_cases hlen : es = []
          · exact .inl hlen
          right
          have hl0 : 0 < len := by
            rcases Nat.eq_zero_or_pos len with h0 | h0
            · rw [h0] at l1; exact absurd (List.length_eq_zero_iff.1 l1) hlen
            · exact h0
          obtain ⟨b, off, spt⟩ := a
          have hsp : spt = none := by
            obtain ⟨vs, avs, y, -, h1, -⟩ := hex 0 hl0
            rw [Nat.zero_mul] at h1
            unfold World.cells? at h1
            rw [if_pos (Nat.zero_le _)] at h1
            obtain ⟨h2, h3⟩ := mapM_at h1
            rw [List.length_range] at h2
            obtain ⟨v, hv⟩ := nth_some (l := vs) (i := 0) (by omega)
            have h4 := h3 0 0 v (nth_range hpos) hv
            exact spot0 (a := (⟨b, off, spt⟩ : Addr)) h4
          subst hsp
          have hadd : ∀ i, (⟨b, off, none⟩ : Addr).add i = ⟨b, off + i, none⟩ := fun i => by
            unfold Addr.add
            split
            · rename_i h0; rw [h0]; rfl
            · rfl
          refine ⟨b, off, P.cellsOf e, rfl, PRows_mk es off fun i av hav => ?_⟩
          obtain ⟨vs, y, -, h1, hsh, hpr, hgd, -⟩ := l2 i av hav
          rw [hadd] at h1
          obtain ⟨h2, h3⟩ := cells_at h1
          refine ⟨by rw [PRs_length hpr, h2], vs, Lie_mk vs _ fun j v hv => ⟨h3 j v hv, fun ha => ?_⟩, hpr⟩
          obtain ⟨q, hq⟩ := hA _ _ v ha (h3 j v hv)
          exact good_val hpr hgd v (List.mem_of_getElem? (by rw [nth_get] at hv; exact hv)) q hq
        · have := bkR_le (es := es) (xs := elems) (by omega) fun i x y hx hy => by
            obtain ⟨vs, z, h0, -, -, -, -, h1⟩ := l2 i x hx
            rw [hy] at h0
            cases h0
            exact h1
          simp only [bkC, bkV, blk]
          omega
    · rename_i fs hu
      simp only [Bool.and_eq_true] at hin
      obtain ⟨xs, n', hn, rfl, hlen, hxl, hi⟩ := DataW.trod_struct hu h
      simp only [Nat.add_right_cancel_iff] at hn
      subst hn
      rw [← hlen] at hin
      obtain ⟨pss, l1, l2, l3, l4, l5⟩ := fields_Rd ih fs.toList 0 xs hin.1 (fun f hf => by simpa using List.all_eq_true.1 hin.2 f hf) (by simpa using hxl) fun i f hf => by
        rw [nth_get] at hf ⊢
        exact hi i f (by simpa using hf)
      rw [List.drop_zero] at l3
      exact ⟨pss.flatten, .struct hu (by simpa using l1) (fun i f p hf hp => l2 i f p (by rw [nth_get]; simpa using hf) hp), l3, l4, by simp only [blk]; omega⟩
    · cases hin
theorem open_Rd (hF : closedT P F = true) (hA : ∀ b o v, A b o → w.cell? ⟨b, o, none⟩ = some v → ∃ n, v = .int .u64 n) {t : TypeId} {v : Value} {d : DataW H} {p : List MemPlace} (ht : t ∈ F) (h : DataW.Trod enc P w 0 sp held t v d p) : ∃ avs, Sh P t avs ∧ PRs w A avs v.cells.toList ∧ bkC avs ≤ blk d := by
  obtain ⟨fuel, hf⟩ := h
  obtain ⟨avs, h1, h2, -, h3⟩ := trod_Rd hF hA fuel t _ _ ht hf
  exact ⟨avs, h1, h2, h3⟩
theorem sh_bool {t : TypeId} {avs : List AV} (hu : P.underlying t = some .bool) (h : Sh P t avs) : ∃ b, avs = [.prim (.bool b)] := by
  cases h <;> rename_i h <;> rw [hu] at h <;> cases h
  exact ⟨_, rfl⟩
theorem sh_str {t : TypeId} {avs : List AV} (hu : P.underlying t = some .string) (h : Sh P t avs) : ∃ s : ByteArray, avs = [.prim (.string s)] ∧ s.size ≤ maxLen := by
  cases h with
  | str _ h => exact ⟨_, rfl, h⟩
  | bool h | int h | slice h | struct h => rw [hu] at h; cases h
theorem sh_int {t : TypeId} {k : IntKind} {avs : List AV} (hu : P.underlying t = some (.int k)) (h : Sh P t avs) : ∃ n, avs = [.prim (.int k n)] ∧ (Lit.int k n).wf = true := by
  cases h with
  | int h h' => rw [hu] at h; cases h; exact ⟨_, rfl, h'⟩
  | bool h | str h | slice h | struct h => rw [hu] at h; cases h
theorem sh_slice {t e : TypeId} {avs : List AV} (hu : P.underlying t = some (.slice e)) (h : Sh P t avs) : ∃ es, avs = [.frz es .unk] ∧ (∀ x ∈ es, Sh P e x) ∧ es.length ≤ maxLen := by
  cases h with
  | slice h h' hl => rw [hu] at h; cases h; exact ⟨_, rfl, h', hl⟩
  | bool h | str h | int h | struct h => rw [hu] at h; cases h
theorem sh_struct {t : TypeId} {fs : Array Field} {avs : List AV} (hu : P.underlying t = some (.struct fs)) (h : Sh P t avs) : ∃ pss : List (List AV), avs = pss.flatten ∧ pss.length = fs.size ∧ ∀ i f p, fs[i]? = some f → nth pss i = some p → Sh P f.type p := by
  cases h with
  | struct h h1 h2 => rw [hu] at h; cases h; exact ⟨_, rfl, h1, h2⟩
  | bool h | str h | int h | slice h => rw [hu] at h; cases h
theorem sh_struct2 {t : TypeId} {f0 f1 : Field} {avs : List AV} (hu : P.underlying t = some (.struct #[f0, f1])) (h : Sh P t avs) : ∃ p0 p1, avs = p0 ++ p1 ∧ Sh P f0.type p0 ∧ Sh P f1.type p1 := by
  obtain ⟨pss, rfl, hl, hp⟩ := sh_struct hu h
  match pss, hl with
  | [p0, p1], _ => exact ⟨p0, p1, by simp, hp 0 f0 p0 rfl rfl, hp 1 f1 p1 rfl rfl⟩
theorem sh_struct3 {t : TypeId} {f0 f1 f2 : Field} {avs : List AV} (hu : P.underlying t = some (.struct #[f0, f1, f2])) (h : Sh P t avs) : ∃ p0 p1 p2, avs = p0 ++ (p1 ++ p2) ∧ Sh P f0.type p0 ∧ Sh P f1.type p1 ∧ Sh P f2.type p2 := by
  obtain ⟨pss, rfl, hl, hp⟩ := sh_struct hu h
  match pss, hl with
  | [p0, p1, p2], _ => exact ⟨p0, p1, p2, by simp, hp 0 f0 p0 rfl rfl, hp 1 f1 p1 rfl rfl, hp 2 f2 p2 rfl rfl⟩
theorem map_of {α : Type} {f : α → List AV} {Q : α → Prop} : ∀ {es : List (List AV)}, (∀ x ∈ es, ∃ c, x = f c ∧ Q c) → ∃ cs : List α, es = cs.map f ∧ ∀ c ∈ cs, Q c
  | [], _ => ⟨[], rfl, by simp⟩
  | x :: es, h => by
    obtain ⟨c, hc, hq⟩ := h x (by simp)
    obtain ⟨cs, h1, h2⟩ := map_of (es := es) fun y hy => h y (by simp [hy])
    exact ⟨c :: cs, by rw [h1, hc]; rfl, fun d hd => by
      rcases List.mem_cons.1 hd with rfl | hd
      · exact hq
      · exact h2 d hd⟩
theorem agg_of {C : Cx} {avs : List AV} {xs : Array Value} (h : PRs C.w C.Avoid avs (Value.agg xs).cells.toList) : VR C (.agg avs) (.agg xs) := by
  simp only [VR]; exact ⟨xs, rfl, VRs_of_PRs h⟩
theorem one_of {C : Cx} {c : AV} {v : Value} (hv : v.cells.toList = [v]) (h : PRs C.w C.Avoid [c] v.cells.toList) : VR C c v := by
  rw [hv] at h; simp only [PRs, and_true] at h; exact VR_of_PR h
end
end Go.Proofs.YtmkoiandfojgmaaGreat
