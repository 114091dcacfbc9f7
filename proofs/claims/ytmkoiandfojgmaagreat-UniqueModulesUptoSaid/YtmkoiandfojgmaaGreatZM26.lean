/-
  Texts laid together: FUnion, UOk4, UIns.
-/
import Derived.Test.YtmkoiandfojgmaaGreatZM24
import Derived.Test.YtmkoiandfojgmaaGreatZM19
import Derived.Test.YtmkoiandfojgmaaGreatZM25
import Derived.Sort.OwnSorted
import Derived.Sort.Grow
import Derived.Lib.OwnBridge
import Derived.Laws.AppendOwn
import Derived.Laws.AppendOwnNone
import Derived.Lib.Hide
import Derived.Test.YtmkoiandfojgmaaGreatZM13
namespace Go.Proofs.YtmkoiandfojgmaaGreat
open Go Go.RowKit Go.Sort
theorem infStr : (Tryz.prog.info? 9).map (fun i => (i.zero, i.size, i.bytes)) = some (some (.string ⟨#[]⟩), 1, 16) := by kernel_rfl
theorem run_append_zero {P : Program} {w : World} (t ty e : TypeId) (i : TypeInfo) (ht : P.underlying t = some (.slice e)) (hi : P.info? e = some i) (g : Addr) (a : Option Addr) (cap : Nat) :
    (Builtin.append_ #[t, t] ty #[.slice (some g) 0 0, .slice a 0 cap]).run P w = .ok (.slice (some g) 0 0) w := by
  cases a <;> simp [Builtin.append_, run_underlying ht, sizeOf, typeInfo, hi, Builtin.lenOf, Builtin.firstCells, storeCells, loadCells, loadCellsFrom]
theorem wpList_append_zero {P : Program} {w : World} {ops : Array Oper} {rest : List Oper} {o : Oper} {a : Act} {Q : Exit → Act → World → Prop} (hgd : o.guard = none) (s x : Operand) (t : TypeId)
    (ho : o.op = .call { callee := .builtin .append, args := #[s, x], argTypes := #[t, t] })
    (e : TypeId) (i : TypeInfo) (ht : P.underlying t = some (.slice e)) (hi : P.info? e = some i)
    (g : Addr) (b : Option Addr) (cap : Nat) (hs : a.eval s = .slice (some g) 0 0) (hx : a.eval x = .slice b 0 cap)
    (h : wpList P ops Q rest (a.put o.dst (.slice (some g) 0 0)) w) : wpList P ops Q (o :: rest) a w := by
  refine wpList_plain hgd fun K hK => ?_
  have hrun := run_append_zero (P := P) (w := w) t o.type e i ht hi g b cap
  unfold Oper.wp
  simp [execOp, ho, resolve, invoke, builtin, hs, hx, hrun, Result.andThen]
  exact hK _ _ h
set_option maxHeartbeats 2000000 in
set_option maxRecDepth 100000 in
theorem union_zero (w : World) (a : Option Addr) (cap : Nat) : Calls Tryz.prog 35 #[.slice a 0 cap, .slice none 0 0] w fun e w' => ∃ a, e = .returned (.slice a 0 0) ∧ Below w.heap.size w w' := by
  obtain ⟨i0, hi, hz0, hz1, hz2⟩ := info_parts infStr
  go_enter Tryz.func35, Tryz.ntmps35
  go_wp2_with (at_builtin; refine wpList_append_zero rfl _ _ 44 rfl 9 i0 Tryz.underlying44 hi _ _ _ rfl rfl ?_)
  go_wp2_with (go_at_call 51; refine (Tryz.slices_Sort_string_none _ _ _).mono ?_; rintro e w' ⟨rfl, rfl⟩)
  go_wp2_with (go_at_call 52; refine (Tryz.slices_Compact_string_empty _ _ _).mono ?_; rintro e w' ⟨rfl, rfl⟩)
  go_ret
  exact ⟨_, rfl, (Below.refl _ _).alloc (Nat.le_refl _) _⟩
theorem union_end {w w1 : World} {g cap n nn q : Nat} {os : Array Obj} {ss : List (List UInt8)} (hown : w1.ownsRow w.heap.size 9 1 (.slice (some ⟨g, 0, none⟩) n cap) n (ss.map encStr)) (hbel : Below w.heap.size w w1) (hbg : w.heap.size ≤ g) (hlen : ss.length = n) :
    ∃ g' cap', (Ending.returned (.slice (some ⟨g, 0, none⟩) (Lib.compact (ss.mergeSort fun x y => decide (x ≤ y))).length cap)) = .returned (.slice (some ⟨g', 0, none⟩) (Lib.compact (ss.mergeSort fun x y => decide (x ≤ y))).length cap') ∧
      (putRow encStr (Sort.ahead (grow (putRow encStr (Sort.ahead w1 nn) g 0 (ss.mergeSort fun x y => decide (x ≤ y)).toArray) os) q) g 0 (Lib.compact (ss.mergeSort fun x y => decide (x ≤ y)) ++ List.replicate (n - (Lib.compact (ss.mergeSort fun x y => decide (x ≤ y))).length) []).toArray).ownsRow w.heap.size 9 1 (.slice (some ⟨g', 0, none⟩) (Lib.compact (ss.mergeSort fun x y => decide (x ≤ y))).length cap') (Lib.compact (ss.mergeSort fun x y => decide (x ≤ y))).length ((Lib.compact (ss.mergeSort fun x y => decide (x ≤ y))).map encStr) ∧
      Below w.heap.size w (putRow encStr (Sort.ahead (grow (putRow encStr (Sort.ahead w1 nn) g 0 (ss.mergeSort fun x y => decide (x ≤ y)).toArray) os) q) g 0 (Lib.compact (ss.mergeSort fun x y => decide (x ≤ y)) ++ List.replicate (n - (Lib.compact (ss.mergeSort fun x y => decide (x ≤ y))).length) []).toArray) := by
  have hl2 : (ss.mergeSort fun x y => decide (x ≤ y)).length = ss.length := List.length_mergeSort ss
  have hle := Lib.compact_length_le (ss.mergeSort fun x y => decide (x ≤ y))
  subst hlen
  rcases hown.2 with ⟨h0, _⟩ | ⟨g', cap', cur, hv, hbase, hb, h1, h2, h3, h4⟩
  · cases h0
  cases hv
  have hs := ownsRow_sorted (n := nn) (os := os) (ts := ss.mergeSort fun x y => decide (x ≤ y)) hl2 hbase hb h1 h2 h3
  have hc := Lib.ownsRow_putRow (q := q) (k := (Lib.compact (ss.mergeSort fun x y => decide (x ≤ y))).length) (ys := Lib.compact (ss.mergeSort fun x y => decide (x ≤ y)) ++ List.replicate (ss.length - (Lib.compact (ss.mergeSort fun x y => decide (x ≤ y))).length) []) hs (by simp; omega) (by omega)
  rw [List.take_left] at hc
  exact ⟨g, cap, rfl, hc, Lib.below_putRow (hbel.grown (grownBy_sorted _) hbel.size (fun j hj => by cases hj; exact hbase)) hbg⟩
theorem union_app {w : World} {b o len cap : Nat} {ss : List (List UInt8)} (hl : ss.length = len) (hc : ∀ j u, (ss.map encStr)[j]? = some u → w.cell? ⟨b, o + j, none⟩ = some u) (hbig : len ≤ 1000000) {ops : Array Oper} {rest : List Oper} {op : Oper} {a : Act} {Q : Exit → Act → World → Prop}
    (hgd : op.guard = none) (ho : op.op = .call { callee := .builtin .append, args := #[.tmp 6, .tmp 7], argTypes := #[44, 44] }) (h6 : a.eval (.tmp 6) = .slice (some ⟨w.heap.size, 0, none⟩) 0 0) (h7 : a.eval (.tmp 7) = .slice (some ⟨b, o, none⟩) len cap)
    (h : ∀ v' w', w'.ownsRow w.heap.size 9 1 v' len (ss.map encStr) → Below w.heap.size w w' → v' ≠ .slice none 0 0 → wpList Tryz.prog ops Q rest (a.put op.dst v') w') : wpList Tryz.prog ops Q (op :: rest) a (w.alloc (.cells #[] 9)) := by
  obtain ⟨i0, hi, hz0, hz1, hz2⟩ := info_parts infStr
  have hbel0 : Below w.heap.size w (w.alloc (.cells #[] 9)) := (Below.refl _ _).alloc (Nat.le_refl _) _
  refine wpList_append_own _ hgd _ _ 44 ho w.heap.size 9 i0 (.string ⟨#[]⟩) 1 16 Tryz.underlying44 hi hz0 hz1 hz2 rfl (by decide) (.slice (some ⟨w.heap.size, 0, none⟩) 0 0) 0 [] h6 (World.ownsRow_made w #[] 0 (Nat.le_refl _) (by decide) rfl) ⟨b, o, none⟩ len cap (ss.map encStr) h7 (by rw [List.length_map, hl, Nat.mul_one]) (fun j u hj => ?_) (fun u hu => ?_) (by unfold maxLen; omega) (by omega) hbel0.size (fun v' w' hown hg hn => ?_)
  · have := hc j u hj
    rw [add_none, hbel0.cell (cell_lt this)]; exact this
  · obtain ⟨x, -, rfl⟩ := List.mem_map.1 hu
    rfl
  · rw [Nat.zero_add, List.nil_append] at hown
    refine h v' w' hown (hbel0.grown hg hbel0.size fun j hj => ?_) fun e => ?_
    · simp only [Value.ownBlock, Option.some.injEq] at hj; omega
    · have := (hn.1 e).1
      simp at this
set_option maxHeartbeats 2000000 in
set_option maxRecDepth 100000 in
theorem union_some (w : World) (b o len cap : Nat) (ss : List (List UInt8)) (hl : ss.length = len) (hpos : 0 < len) (hc : ∀ j u, (ss.map encStr)[j]? = some u → w.cell? ⟨b, o + j, none⟩ = some u) (hbig : len ≤ 1000000) : Calls Tryz.prog 35 #[.slice (some ⟨b, o, none⟩) len cap, .slice none 0 0] w fun e w' =>
    ∃ g cap, e = .returned (.slice (some ⟨g, 0, none⟩) (Lib.compact (ss.mergeSort fun x y => decide (x ≤ y))).length cap) ∧
    w'.ownsRow w.heap.size 9 1 (.slice (some ⟨g, 0, none⟩) (Lib.compact (ss.mergeSort fun x y => decide (x ≤ y))).length cap) (Lib.compact (ss.mergeSort fun x y => decide (x ≤ y))).length ((Lib.compact (ss.mergeSort fun x y => decide (x ≤ y))).map encStr) ∧ Below w.heap.size w w' := by
  have HC := Lib.hid hc
  have HL := Lib.hid hl
  clear hc hl
  go_enter Tryz.func35, Tryz.ntmps35
  go_wp2_with (at_builtin; refine union_app HL.out HC.out hbig rfl rfl rfl rfl ?_; intro v1 w1 hown hbel hnn; obtain ⟨g, cap1, rfl, hbg, hgl, hncap, hcm, -, hH⟩ := Lib.holds_of_ownsRow hown hnn; have HO := Lib.hid hown; have HB := Lib.hid hbel; have HG := Lib.hid hbg; have HS := Lib.hid (show Calls Tryz.prog 51 #[.slice (some ⟨g, 0, none⟩) len cap1] w1 fun e w' => e = .returned (.tuple #[]) ∧ ∃ n os, w' = grow (putRow encStr (Sort.ahead w1 n) g 0 (ss.mergeSort fun x y => decide (x ≤ y)).toArray) os from by have := Tryz.slices_Sort_string g 0 cap1 ss w1 hH hgl (by rw [HL.out]; omega); rw [HL.out] at this; exact this); have HH := Lib.hid hH; have HGL := Lib.hid hgl; clear hown hbel hnn hbg hgl hH)
  have HC2 := Lib.hid (show ∀ nn os, Calls Tryz.prog 52 #[.slice (some ⟨g, 0, none⟩) len cap1] (grow (putRow encStr (Sort.ahead w1 nn) g 0 (ss.mergeSort fun x y => decide (x ≤ y)).toArray) os) fun e w' => e = .returned (.slice (some ⟨g, 0, none⟩) (Lib.compact (ss.mergeSort fun x y => decide (x ≤ y))).length cap1) ∧ ∃ q, w' = putRow encStr (Sort.ahead (grow (putRow encStr (Sort.ahead w1 nn) g 0 (ss.mergeSort fun x y => decide (x ≤ y)).toArray) os) q) g 0 (Lib.compact (ss.mergeSort fun x y => decide (x ≤ y)) ++ List.replicate (len - (Lib.compact (ss.mergeSort fun x y => decide (x ≤ y))).length) []).toArray from by
    intro nn os
    have hl2 : (ss.mergeSort fun x y => decide (x ≤ y)).length = len := by rw [List.length_mergeSort]; exact HL.out
    have hH2 : Holds encStr (grow (putRow encStr (Sort.ahead w1 nn) g 0 (ss.mergeSort fun x y => decide (x ≤ y)).toArray) os) g 0 (ss.mergeSort fun x y => decide (x ≤ y)).toArray :=
      holds_grow encStr _ os g 0 _ (by simpa [putRow, mapBlock, Sort.ahead] using HGL.out) (holds_putRow encStr _ g 0 _ _ (holds_ahead encStr w1 nn g 0 _ HH.out) (by simp))
    have := Tryz.slices_Compact_string g 0 cap1 (ss.mergeSort fun x y => decide (x ≤ y)) _ hH2 (by omega) (by omega)
    rw [hl2] at this
    exact this)
  go_wp2_with (go_at_call 51; refine HS.out.mono ?_; rintro e w2 ⟨rfl, nn, os, rfl⟩)
  go_wp2_with (go_at_call 52; refine (HC2.out nn os).mono ?_; rintro e w3 ⟨rfl, q, rfl⟩)
  go_ret
  exact union_end HO.out HB.out HG.out HL.out
theorem compact_facts {z : List (List UInt8)} (hz : z.Pairwise (· ≤ ·)) : (Lib.compact z).Pairwise (· < ·) ∧ ∀ x, x ∈ Lib.compact z ↔ x ∈ z := by
  have mono : ∀ i j, i ≤ j → j < z.length → z.toArray[i]! ≤ z.toArray[j]! := by
    intro i j hij hj
    rw [getElem!_pos z.toArray i (by simp; omega), getElem!_pos z.toArray j (by simpa using hj)]
    rcases Nat.lt_or_ge i j with h | h
    · exact List.pairwise_iff_getElem.1 hz i j (by omega) hj h
    · have : i = j := by omega
      subst this
      exact List.le_refl _
  have key : ∀ m, m ≤ z.length → (Lib.compactUpTo z.toArray m).Pairwise (· < ·) ∧ ∀ x, x ∈ Lib.compactUpTo z.toArray m ↔ ∃ j, j < m ∧ z.toArray[j]! = x := by
    intro m
    induction m with
    | zero => intro _; exact ⟨by simp [Lib.compactUpTo], fun x => by simp [Lib.compactUpTo]⟩
    | succ m ih =>
      intro hm
      obtain ⟨h1, h2⟩ := ih (by omega)
      rw [Lib.compactUpTo_succ]
      cases hk : Lib.keeps z.toArray m with
      | true =>
        rw [if_pos rfl]
        refine ⟨List.pairwise_append.2 ⟨h1, by simp, fun x hx y hy => ?_⟩, fun x => ?_⟩
        · obtain ⟨j, hj, rfl⟩ := (h2 x).1 hx
          have hy : y = z.toArray[m]! := by simpa using hy
          subst hy
          simp only [Lib.keeps, decide_eq_true_eq] at hk
          have hne := hk.resolve_left (by omega)
          refine List.not_le.1 fun hle => hne ?_
          exact List.le_antisymm (List.le_trans hle (mono j (m - 1) (by omega) (by omega))) (mono (m - 1) m (by omega) (by omega))
        · rw [List.mem_append, h2]
          constructor
          · rintro (⟨j, hj, e⟩ | h)
            · exact ⟨j, by omega, e⟩
            · exact ⟨m, by omega, (by simpa using h : x = _).symm⟩
          · rintro ⟨j, hj, e⟩
            by_cases hjm : j = m
            · subst hjm; exact .inr (by simp [e])
            · exact .inl ⟨j, by omega, e⟩
      | false =>
        rw [if_neg (by simp), List.append_nil]
        refine ⟨h1, fun x => ?_⟩
        rw [h2]
        simp only [Lib.keeps, decide_eq_false_iff_not, not_or, Decidable.not_not] at hk
        constructor
        · rintro ⟨j, hj, e⟩; exact ⟨j, by omega, e⟩
        · rintro ⟨j, hj, e⟩
          by_cases hjm : j = m
          · subst hjm; exact ⟨j - 1, by omega, by rw [← hk.2]; exact e⟩
          · exact ⟨j, by omega, e⟩
  obtain ⟨h1, h2⟩ := key z.length (Nat.le_refl _)
  refine ⟨h1, fun x => (h2 x).trans ?_⟩
  constructor
  · rintro ⟨j, hj, rfl⟩
    rw [getElem!_pos z.toArray j (by simpa using hj)]
    simp
  · intro hx
    obtain ⟨j, hj, rfl⟩ := List.getElem_of_mem hx
    exact ⟨j, hj, by rw [getElem!_pos z.toArray j (by simpa using hj)]; simp⟩
theorem compact_uni (l : List ByteArray) : Lib.compact ((l.map nm).mergeSort fun x y => decide (x ≤ y)) = (uniS l).map nm := by
  have hz : ((l.map nm).mergeSort fun x y => decide (x ≤ y)).Pairwise (· ≤ ·) := by
    have := List.pairwise_mergeSort (le := fun x y : List UInt8 => decide (x ≤ y)) (fun a b c h1 h2 => by simp only [decide_eq_true_eq] at *; exact List.le_trans h1 h2) (fun a b => by simp only [Bool.or_eq_true, decide_eq_true_eq]; exact List.le_total a b) (l.map nm)
    exact this.imp fun h => by simpa using h
  obtain ⟨h1, h2⟩ := compact_facts hz
  obtain ⟨u1, u2, -⟩ := uni_facts l
  generalize Lib.compact ((l.map nm).mergeSort fun x y => decide (x ≤ y)) = T at h1 h2
  have e : T = (T.map fun x => (⟨x.toArray⟩ : ByteArray)).map nm := by
    rw [List.map_map]
    conv => lhs; rw [← List.map_id T]
    exact List.map_congr_left fun x _ => by simp [nm]
  rw [e]
  congr 1
  refine inc_eq ?_ u1 fun x => ?_
  · unfold Inc
    rw [List.pairwise_map]
    exact h1.imp fun h => by simpa [nm] using h
  · rw [u2]
    have : x ∈ (T.map fun x => (⟨x.toArray⟩ : ByteArray)) ↔ nm x ∈ T := by
      rw [List.mem_map]
      constructor
      · rintro ⟨y, hy, rfl⟩; simpa [nm] using hy
      · intro h; exact ⟨nm x, h, by simp [nm]⟩
    rw [this, h2, List.mem_mergeSort, List.mem_map]
    constructor
    · rintro ⟨y, hy, h⟩; rw [nm_inj h] at hy; exact hy
    · intro h; exact ⟨x, h, rfl⟩
theorem strs_at {w : World} {A : Nat → Nat → Prop} {b sz : Nat} : ∀ {l : List ByteArray} {o j : Nat} {x : ByteArray}, PRows w A b sz o (l.map strC) → nth l j = some x → sz = 1 ∧ w.cell? ⟨b, o + j, none⟩ = some (.string x)
  | y :: l, o, 0, x, h, hx => by
    simp only [nth, Option.some.injEq] at hx
    subst hx
    simp only [List.map_cons, PRows, strC] at h
    obtain ⟨h0, ⟨vs, h1, h2⟩, -⟩ := h
    match vs, h2 with
    | [v], h2 =>
    simp only [PRs, PR, and_true] at h2
    simp only [Lie] at h1
    have h0 : sz = 1 := by simpa using h0.symm
    exact ⟨h0, by rw [Nat.add_zero, h1.1, h2.1]⟩
  | y :: l, o, j + 1, x, h, hx => by
    simp only [nth] at hx
    simp only [List.map_cons, PRows] at h
    obtain ⟨h0, -, h3⟩ := h
    have h0 : sz = 1 := by simpa [strC] using h0.symm
    subst h0
    obtain ⟨-, h4⟩ := strs_at h3 hx
    exact ⟨rfl, by rw [← h4]; congr 2; omega⟩
theorem PRows_strs {w : World} {A : Nat → Nat → Prop} {b : Nat} (hA : ∀ o, ¬ A b o) : ∀ (l : List ByteArray) (o : Nat), (∀ i x, nth l i = some x → w.cell? ⟨b, o + i, none⟩ = some (.string x)) → PRows w A b 1 o (l.map strC)
  | [], _, _ => by simp only [List.map_nil, PRows]
  | x :: l, o, h => by
    simp only [List.map_cons, PRows]
    have h1 := h 0 x rfl
    refine ⟨rfl, ⟨[.string x], ⟨h1, hA _, trivial⟩, ?_⟩, PRows_strs hA l (o + 1) fun i d hd => ?_⟩
    · simp [PRs, PR, strC, Value.oneCell']
    · have := h (i + 1) d hd
      rwa [show o + (i + 1) = o + 1 + i from by omega] at this
theorem Union_run {C : Cx} {vs : Array Value} (hs : SR C) (l : List ByteArray) (c : Cap) (hlen : l.length ≤ 1000000) (hv : VRs C [.frz (l.map strC) c, .frz [] .nilc] vs.toList) :
    Calls Tryz.prog 35 vs C.w fun e w' => ∃ v C', e = .returned v ∧ C'.w = w' ∧ Le C C' ∧ SR C' ∧ C'.S = C.S ∧ C'.tk = C.tk ∧ C'.n = C.n ∧ VR C' (strsA (uniS l)) v := by
  obtain ⟨vl⟩ := vs
  match vl, hv with
  | [x, y], hv =>
  simp only [VRs, VR, and_true] at hv
  obtain ⟨⟨a, len, cap, rfl, h1, h2, h3, h4⟩, ⟨a2, len2, cap2, rfl, g1, g2, g3, -⟩⟩ := hv
  have g1 : len2 = 0 := by simpa using g1.symm
  subst g1
  obtain ⟨rfl, g3⟩ := (g3 : a2 = none ∧ cap2 = 0)
  subst g3
  by_cases hl : l = []
  · subst hl
    have h1 : len = 0 := by simpa using h1.symm
    subst h1
    refine (union_zero C.w a cap).mono ?_
    rintro e w' ⟨a, rfl, hb⟩
    refine ⟨_, C.at w', rfl, rfl, Le.of_below hb, SR.of_below hs hb, rfl, rfl, rfl, ?_⟩
    simp only [strsA, uniS, List.foldl_nil, List.map_nil, VR]
    exact ⟨a, 0, 0, rfl, rfl, Nat.le_refl _, trivial, .inl trivial⟩
  · have hpos : 0 < l.length := List.length_pos_iff.2 hl
    obtain ⟨b, o, sz, rfl, hr⟩ := h4.resolve_left (by simpa using hl)
    have h1 : l.length = len := by simpa using h1
    subst h1
    have hcell : ∀ j u, ((l.map nm).map encStr)[j]? = some u → C.w.cell? ⟨b, o + j, none⟩ = some u := by
      intro j u hj
      rw [List.map_map, List.getElem?_map, Option.map_eq_some_iff] at hj
      obtain ⟨x, hx, rfl⟩ := hj
      rw [(strs_at hr (by rw [nth_get]; exact hx)).2]
      simp [nm]
    refine (union_some C.w b o l.length cap (l.map nm) (by simp) hpos hcell hlen).mono ?_
    rintro e w' ⟨g, cap', rfl, hown, hb⟩
    rw [compact_uni] at hown ⊢
    rcases hown.2 with ⟨h0, -⟩ | ⟨g', cap2, cur, hv, hbase, hg, k1, k2, k3, k4⟩
    · cases h0
    cases hv
    refine ⟨_, C.at w', rfl, rfl, Le.of_below hb, SR.of_below hs hb, rfl, rfl, rfl, ?_⟩
    simp only [strsA, VR]
    refine ⟨_, _, _, rfl, by simp, by simpa using k1, trivial, .inr ⟨g, 0, 1, rfl, PRows_strs (fun o ha => ?_) _ _ fun i x hx => ?_⟩⟩
    · rcases ha with ha | ha
      · have := hs.avlt g o ha; omega
      · have := mut_lt hs (show C.Mut g o from ha); omega
    · have hx' := hx
      rw [nth_get] at hx'
      have hi : i < (uniS l).length := nth_lt hx
      show w'.cell? _ = _
      have hq : cur.toList[i]? = some (.string x) := by
        have : (cur.toList.take (((uniS l).map nm).length * 1))[i]? = some (.string x) := by
          rw [k4, List.map_map, List.getElem?_map, hx']
          simp [nm]
        rw [List.getElem?_take] at this
        split at this
        · exact this
        · simp at this
      simp only [World.cell?, hg, Nat.zero_add]
      simpa using hq
theorem uni_some {args : List AV} {S : List Ent} {tk : List Nat} {n : Nat} {r : AV × List Ent × List Nat × Nat} (h : uniC args S tk n = some r) :
    ∃ l c, args = [.frz (l.map strC) c, .frz [] .nilc] ∧ l.length ≤ 1000000 ∧ r = (strsA (uniS l), S, tk, n) := by
  unfold uniC at h
  split at h
  · rename_i es c
    split at h
    · rename_i l hl
      split at h
      · rename_i hlen
        simp only [Option.some.injEq] at h
        exact ⟨l, c, by rw [strsOf_some hl], hlen, h.symm⟩
      · simp at h
    · simp at h
  · simp at h
theorem Uni_ok {C : Cx} {vs : Array Value} (hs : SR C) {l : List ByteArray} {c : Cap} (hlen : l.length ≤ 1000000) (hv : VRs C [.frz (l.map strC) c, .frz [] .nilc] vs.toList) :
    Calls Tryz.prog 35 vs C.w fun e w' => ∃ v C', e = .returned v ∧ C'.w = w' ∧ Le C C' ∧ SR C' ∧ C'.S = C.S ∧ C'.tk = C.tk ∧ C'.n = C.n ∧ VR C' (strsA (uniS l)) v :=
  Union_run hs l c hlen hv
end Go.Proofs.YtmkoiandfojgmaaGreat
namespace Go.Proofs.YtmkoiandfojgmaaGreat
open Go
theorem insB_some {E : Ext Tryz.prog} {args : List AV} {S : List Ent} {tk : List Nat} {n : Nat} {r : AV × List Ent × List Nat × Nat} (h : insB E args S tk n = some r) : (args.map w2).all pure2 = false ∧ finS S.length (@RK _ Tryz.prog E Tryz.f63 (Tryz.f63.body.getD .skip) ⟨args ++ bots (46 - args.length), S, tk, n⟩ []) = some r := by
  unfold insB at h
  split at h
  · cases h
  · rename_i hp
    exact ⟨by simpa using hp, h⟩
theorem insB_calls (hmx : Tryz.prog.follows .mixedOrders = true) {E : Ext Tryz.prog} (hE : @ExtOk _ Tryz.prog E) {args : List AV} {S' : List Ent} {tk' : List Nat} {n' : Nat} {r : AV} {C : Cx} {vs : Array Value} (h : insB E args C.S C.tk C.n = some (r, S', tk', n')) (hs : SR C) (hv : VRs C args vs.toList) :
    Calls Tryz.prog 63 vs C.w (ToldR C S' tk' n' r) := by
  obtain ⟨-, h⟩ := insB_some h
  have hb : Tryz.f63.body = some (Tryz.f63.body.getD .skip) := by kernel_rfl
  have hnt : Tryz.f63.ntmps = 46 := by kernel_rfl
  rw [bots_eq, ← hnt] at h
  cases hr : @RK _ Tryz.prog E Tryz.f63 (Tryz.f63.body.getD .skip) ⟨args ++ List.replicate (Tryz.f63.ntmps - args.length) .bot, C.S, C.tk, C.n⟩ [] with
  | none => rw [hr] at h; simp [finS] at h
  | some x =>
    obtain ⟨r', s⟩ := x
    rw [hr, finS_some] at h
    simp only [Option.some.injEq, Prod.mk.injEq] at h
    obtain ⟨rfl, rfl, rfl, rfl⟩ := h
    letI iE : Ext Tryz.prog := E
    haveI iO : @ExtOk _ Tryz.prog iE := hE
    obtain ⟨m, hm⟩ := outA_lim (P := Tryz.prog) hr
    have hd := drawOk_sound (P := Tryz.prog) hmx
    refine Calls.mono (body_sound (evF_sound hd m) (evF_indep m) hd hE.lps (k := m) Tryz.func63 hb hs hv hm) ?_
    rintro e w' ⟨v, C', rfl, rfl, hle, hs', e1, e2, e3, h2⟩
    have h3 := fz3_sound hs' C.S.length h2
    rw [e1] at h3
    exact ⟨v, { C' with S := C'.S.take C.S.length }, rfl, rfl, hle.trans (Le.take _), hs'.take _, by show C'.S.take _ = _; rw [e1], e2, e3, by rw [e1]; exact h3⟩
theorem cloC_some {args : List AV} {S : List Ent} {tk : List Nat} {n : Nat} {r : AV × List Ent × List Nat × Nat} (h : cloC args S tk n = some r) : ∃ i e s, args = [.mref i e] ∧ mapAt S i e = some s ∧ r = (.mref S.length n, S ++ [⟨n, [.mset s]⟩], tk, n + 1) := by
  unfold cloC at h
  split at h
  · simp only [Option.map_eq_some_iff] at h
    obtain ⟨s, h, rfl⟩ := h
    exact ⟨_, _, s, rfl, h, rfl⟩
  · cases h
theorem cpyC_some {args : List AV} {S : List Ent} {tk : List Nat} {n : Nat} {r : AV × List Ent × List Nat × Nat} (h : cpyC args S tk n = some r) : ∃ i e j e' s s', args = [.mref i e, .mref j e'] ∧ mapAt S i e = some s ∧ mapAt S j e' = some s' ∧ i ≠ j ∧ r = (.tup [], put S i ⟨e, [.mset (uniK s s')]⟩, tk, n) := by
  unfold cpyC at h
  split at h
  · split at h
    · rename_i s s' h1 h2
      split at h
      · cases h
      · rename_i hij
        simp only [Option.some.injEq] at h
        exact ⟨_, _, _, _, s, s', rfl, h1, h2, hij, h.symm⟩
    · cases h
  · cases h
theorem clsC_some {args : List AV} {S : List Ent} {tk : List Nat} {n : Nat} {r : AV × List Ent × List Nat × Nat} (h : clsC args S tk n = some r) : ∃ (l : List ByteArray) (c : Cap), args = [.frz (l.map strC) c] ∧ l.length ≤ 1048576 ∧ r = (.frz (l.map strC) (.tok tk.length 0 1), S, tk ++ [0], n) := by
  unfold clsC at h
  split at h
  · split at h
    · rename_i l hl
      split at h
      · rename_i hle
        simp only [Option.some.injEq] at h
        have := strsOf_some hl
        subst this
        exact ⟨l, _, rfl, hle, h.symm⟩
      · cases h
    · cases h
  · cases h
theorem cldC_some {args : List AV} {S : List Ent} {tk : List Nat} {n : Nat} {r : AV × List Ent × List Nat × Nat} (h : cldC args S tk n = some r) : ∃ (es : List (List AV)) (c : Cap), args = [.frz es c] ∧ rowsOk 25 es = true ∧ es.length ≤ 1048576 ∧ r = (.frz es (.tok tk.length 0 25), S, tk ++ [0], n) := by
  unfold cldC at h
  split at h
  · split at h
    · rename_i hle
      simp only [Option.some.injEq] at h
      simp only [Bool.and_eq_true, decide_eq_true_eq] at hle
      exact ⟨_, _, rfl, hle.1, hle.2, h.symm⟩
    · cases h
  · cases h
theorem witC_some {args : List AV} {S : List Ent} {tk : List Nat} {n : Nat} {r : AV × List Ent × List Nat × Nat} (h : witC args S tk n = some r) : ∃ (l : List ByteArray) (s : ByteArray) (c : Cap), args = [.frz (l.map strC) c, .prim (.string s)] ∧ l.length ≤ 1048576 ∧ r = (.frz ((delB l s).map strC) (.tok tk.length ((delB l s).length - 1) 1), S, tk ++ [(delB l s).length - 1], n) := by
  unfold witC at h
  split at h
  · split at h
    · rename_i l hl
      split at h
      · rename_i hle
        simp only [Option.some.injEq] at h
        have := strsOf_some hl
        subst this
        exact ⟨l, _, _, rfl, hle, h.symm⟩
      · cases h
    · cases h
  · cases h
theorem sh_none (M : Md) (f : FuncId) : @shF (gM M) f = false := by cases M <;> rfl
theorem tk_all (M : Md) : @tkF (gM M) 55 = true := by cases M <;> rfl
theorem tk_allD (M : Md) : @tkF (gM M) 26 = true := by cases M <;> rfl
theorem extok (hmx : Tryz.prog.follows .mixedOrders = true) (ins : CallI) (hins : ∀ (args : List AV) (C : Cx) (S' : List Ent) (tk' : List Nat) (n' : Nat) (r : AV) (vs : Array Value), ins args C.S C.tk C.n = some (r, S', tk', n') → SR C → VRs C args vs.toList → Calls Tryz.prog 63 vs C.w (ToldR C S' tk' n' r))
    (hpure : ∀ args S tk n r, ins args S tk n = some r → (args.map w2).all pure2 = false) : @ExtOk _ Tryz.prog (EIx ins) := by
  refine @ExtOk.mk _ _ (EIx ins) (lp_okx hmx _ rfl) ?_ ?_
  · intro f args S tk n r S' tk' n' h
    unfold extC at h
    split at h
    case isFalse => cases h
    replace h : callU ins f args S tk n = some (r, S', tk', n') := h
    unfold callU at h
    split at h
    · rename_i hf
      obtain rfl : f = 35 := by simpa using hf
      obtain ⟨l, c, rfl, h1, h3⟩ := uni_some h
      simp only [Prod.mk.injEq] at h3
      obtain ⟨rfl, rfl, rfl, rfl⟩ := h3
      refine ⟨⟨_, Tryz.func35, by decide +kernel, by decide +kernel⟩, fun C vs e1 e2 e3 hs hv => ?_⟩
      subst e1 e2 e3
      exact Uni_ok hs h1 hv
    split at h
    · rename_i hf
      obtain rfl : f = 61 := by simpa using hf
      obtain ⟨i, e, s, rfl, h1, h3⟩ := cloC_some h
      simp only [Prod.mk.injEq] at h3
      obtain ⟨rfl, rfl, rfl, rfl⟩ := h3
      refine ⟨⟨_, Tryz.func61, by decide +kernel, by decide +kernel⟩, fun C vs e1 e2 e3 hs hv => ?_⟩
      subst e1 e2 e3
      exact mclone_calls hmx hs h1 hv
    split at h
    · rename_i hf
      obtain rfl : f = 87 := by simpa using hf
      obtain ⟨i, e, j, e', s, s', rfl, h1, h2, h4, h3⟩ := cpyC_some h
      simp only [Prod.mk.injEq] at h3
      obtain ⟨rfl, rfl, rfl, rfl⟩ := h3
      refine ⟨⟨_, Tryz.func87, by decide +kernel, by decide +kernel⟩, fun C vs e1 e2 e3 hs hv => ?_⟩
      subst e1 e2 e3
      exact copy_calls hmx hs h1 h2 h4 hv
    split at h
    · rename_i hf
      obtain rfl : f = 63 := by simpa using hf
      refine ⟨⟨_, Tryz.func63, by decide +kernel, by decide +kernel⟩, fun C vs e1 e2 e3 hs hv => ?_⟩
      subst e1 e2 e3
      exact hins _ C _ _ _ _ vs h hs hv
    split at h
    · rename_i hf
      obtain rfl : f = 55 := by simpa using hf
      obtain ⟨l, c, rfl, h1, h3⟩ := clsC_some h
      simp only [Prod.mk.injEq] at h3
      obtain ⟨rfl, rfl, rfl, rfl⟩ := h3
      refine ⟨⟨_, Tryz.func55, by decide +kernel, by decide +kernel⟩, fun C vs e1 e2 e3 hs hv => ?_⟩
      subst e1 e2 e3
      exact sclone_calls hmx hs h1 hv
    split at h
    · rename_i hf
      obtain rfl : f = 26 := by simpa using hf
      obtain ⟨es, c, rfl, h1, h1', h3⟩ := cldC_some h
      simp only [Prod.mk.injEq] at h3
      obtain ⟨rfl, rfl, rfl, rfl⟩ := h3
      refine ⟨⟨_, Tryz.func26, by decide +kernel, by decide +kernel⟩, fun C vs e1 e2 e3 hs hv => ?_⟩
      subst e1 e2 e3
      exact dclone_calls hmx hs h1 h1' hv
    split at h
    · rename_i hf
      obtain rfl : f = 68 := by simpa [withF] using hf
      obtain ⟨l, s, c, rfl, h1, h3⟩ := witC_some h
      simp only [Prod.mk.injEq] at h3
      obtain ⟨rfl, rfl, rfl, rfl⟩ := h3
      refine ⟨⟨_, Tryz.func68, by decide +kernel, by decide +kernel⟩, fun C vs e1 e2 e3 hs hv => ?_⟩
      subst e1 e2 e3
      exact wit_calls hmx hs h1 hv
    · cases h
  · intro M f args S tk n r S' tk' n' h
    unfold callP at h
    split at h
    case isFalse => cases h
    rename_i hp
    have hagain : ∀ S2 tk2 n2, @callP (gM M) Tryz.prog (EIx ins) (@extC Tryz.prog (EIx ins)) f args S2 tk2 n2 = @extC Tryz.prog (EIx ins) f args S2 tk2 n2 := fun S2 tk2 n2 => by unfold callP; rw [if_pos hp]
    simp only [hagain]
    have hnp : (args.map w2).all pure2 = false → (@xF (gM M) f && @Globs.dr (gM M)) = true := fun hpu => by
      rw [hpu, sh_none] at hp
      simpa using hp
    unfold extC at h ⊢
    split at h
    case isFalse => cases h
    rename_i hon
    simp only [hon, if_true]
    replace h : callU ins f args S tk n = some (r, S', tk', n') := h
    show _ ∨ (_ ∧ _ ∧ _ ∧ ∀ S2 n2, callU ins f args S2 tk n2 = _) ∨ (_ ∧ _ ∧ (_ ∨ (_ ∧ ∀ S2 tk2 n2, callU ins f args S2 tk2 n2 = _)))
    unfold callU at h ⊢
    split at h
    · rename_i hf
      obtain ⟨l, c, rfl, h1, h3⟩ := uni_some h
      simp only [Prod.mk.injEq] at h3
      obtain ⟨rfl, rfl, rfl, rfl⟩ := h3
      refine .inr (.inr ⟨rfl, rfl, .inr ⟨rfl, fun S2 tk2 n2 => ?_⟩⟩)
      rw [if_pos hf]
      simp [uniC, strsOf_map, h1]
    split at h
    · obtain ⟨i, e, s, rfl, h1, h3⟩ := cloC_some h
      exact .inl (hnp rfl)
    split at h
    · obtain ⟨i, e, j, e', s, s', rfl, h1, h2, h4, h3⟩ := cpyC_some h
      exact .inl (hnp rfl)
    split at h
    · exact .inl (hnp (hpure _ _ _ _ _ h))
    split at h
    · rename_i hf1 hf2 hf3 hf4 hf
      obtain rfl : f = 55 := by simpa using hf
      obtain ⟨l, c, rfl, h1, h3⟩ := clsC_some h
      simp only [Prod.mk.injEq] at h3
      obtain ⟨rfl, rfl, rfl, rfl⟩ := h3
      refine .inr (.inl ⟨tk_all M, rfl, rfl, fun S2 n2 => ?_⟩)
      rw [if_neg hf1, if_neg hf2, if_neg hf3, if_neg hf4, if_pos hf]
      simp [clsC, strsOf_map, h1]
    split at h
    · rename_i hf1 hf2 hf3 hf4 hf5 hf
      obtain rfl : f = 26 := by simpa using hf
      obtain ⟨es, c, rfl, h1, h1', h3⟩ := cldC_some h
      simp only [Prod.mk.injEq] at h3
      obtain ⟨rfl, rfl, rfl, rfl⟩ := h3
      refine .inr (.inl ⟨tk_allD M, rfl, rfl, fun S2 n2 => ?_⟩)
      rw [if_neg hf1, if_neg hf2, if_neg hf3, if_neg hf4, if_neg hf5, if_pos hf]
      simp [cldC, h1, h1']
    split at h
    · rename_i hf1 hf2 hf3 hf4 hf5 hf6 hf
      obtain rfl : f = 68 := by simpa [withF] using hf
      obtain ⟨l, s, c, rfl, h1, h3⟩ := witC_some h
      simp only [Prod.mk.injEq] at h3
      obtain ⟨rfl, rfl, rfl, rfl⟩ := h3
      refine .inr (.inl ⟨by cases M <;> rfl, rfl, rfl, fun S2 n2 => ?_⟩)
      rw [if_neg hf1, if_neg hf2, if_neg hf3, if_neg hf4, if_neg hf5, if_neg hf6, if_pos hf]
      simp [witC, strsOf_map, h1]
    · cases h
theorem ei_ok (hmx : Tryz.prog.follows .mixedOrders = true) : ∀ d, @ExtOk _ Tryz.prog (EI d)
  | 0 => extok hmx _ (fun _ _ _ _ _ _ _ h => by cases h) (fun _ _ _ _ _ h => by cases h)
  | d + 1 => extok hmx _ (fun args C S' tk' n' r vs h hs hv => insB_calls hmx (ei_ok hmx d) h hs hv) (fun _ _ _ _ _ h => (insB_some h).1)
end Go.Proofs.YtmkoiandfojgmaaGreat
namespace Go.Proofs.YtmkoiandfojgmaaGreat
open Go
theorem lpF_ins {E : Ext Tryz.prog} (hE : E.lp = lpU) {T : List AV} {S : List Ent} {tk : List Nat} {n pi pe ii ie gi ge oi oe : Nat} {bs : List ByteArray} {c : Cap} {p1 i1 : AV} {G H : Sn} (hp : entAt S pi pe = some [p1, .mref gi ge]) (hi : entAt S ii ie = some [i1, .mref oi oe]) (hG : mapAt S gi ge = some G) (hH : mapAt S oi oe = some H) (hne : gi ≠ oi) (hbs : bs.length ≤ 1048576)
    (hT : T.length = 46) (h3 : getT T 3 = .frz (bs.map strC) c) (h4 : getT T 4 = .ref pi pe 0) (h9 : getT T 9 = .ref ii ie 0) :
    @lpF Tryz.prog E Tryz.f63 ⟨T, S, tk, n⟩ = some ⟨bots 46, put S gi ⟨ge, [.mset (uniK G (outK H bs))]⟩, tk, n⟩ := by
  have hc : Tryz.f63.body.bind rngIn = some insL := by kernel_rfl
  have hne' : insL ≠ copyL := by
    intro h
    have : rngIn insL = rngIn copyL := by rw [h]
    exact absurd (congrArg (fun c : Code => match c with | .seq (.region i _ _) _ => i | _ => 99) h) (by decide +kernel)
  unfold lpF
  rw [hc]
  show E.lp insL _ = _
  rw [hE]
  unfold lpU
  rw [if_neg hne', if_pos rfl]
  unfold lpIns
  simp only [hT, if_true, h3, h4, h9, strsOf_map, hp, hi, mapIn, hG, hH]
  rw [if_neg (by rintro (h | h); exact hne h; omega)]
theorem opI {E : Ext Tryz.prog} {args : List AV} {c : Code} {S : List Ent} {tk : List Nat} {n : Nat} {Φ : Rs → Prop} (h : Gd (finS S.length) Φ (@KX _ Tryz.prog E Tryz.f63 c ⟨args ++ bots (46 - args.length), S, tk, n⟩ [] .mk)) (hb : Tryz.f63.body = some c := by exact rfl) (hp : (args.map w2).all pure2 = false := by exact rfl) : ∃ r, insB E args S tk n = some r ∧ Φ r := by
  obtain ⟨r, h1, h2⟩ := h
  refine ⟨r, ?_, h2⟩
  unfold insB
  rw [if_neg (by rw [hp]; simp), hb]
  exact h1
theorem insP_zero : InsP 0 := by
  intro q ho
  have : 1 ≤ dpX q.e := by
    obtain ⟨eo, es, en, ek, ep, ea, et⟩ := q.e
    simp only [dpX]; omega
  have := ho.1
  omega
section
variable [Depth]
set_option maxRecDepth 100000 in
set_option maxHeartbeats 4000000 in
theorem ins_body (ci ce gi ge hi he : Nat) (e : XT) (bs : List ByteArray) (hd : dpX e ≤ Depth.d + 1) (hsz : szX e ≤ 262144) (hbs : bs.length ≤ 1048576) (hgh : gi ≠ hi) (c : Cap) (S : List Ent) (tk : List Nat) (k : Nat) (G C : Sn) (hG : mapAt S gi ge = some G) (hC : mapAt S hi he = some C) :
    ∃ r, insB E0 (insArgsC ⟨ci, ce, gi, ge, hi, he, e, bs⟩ c) S tk k = some r ∧ (r.1 = .bool (insF e C bs G).isSome ∧ r.2.1 = put S gi ⟨ge, [.mset ((insF e C bs G).getD G)]⟩) := by
  obtain ⟨R, hR⟩ : ∃ R, R = insF e C bs G := ⟨_, rfl⟩
  obtain ⟨Φ, hΦ⟩ : ∃ Φ : Rs → Prop, Φ = fun r => r.1 = .bool R.isSome ∧ r.2.1 = put S gi ⟨ge, [.mset (R.getD G)]⟩ := ⟨_, rfl⟩
  rw [← hR]
  show ∃ r, _ = some r ∧ (fun r : Rs => r.1 = .bool R.isSome ∧ r.2.1 = put S gi ⟨ge, [.mset (R.getD G)]⟩) r
  rw [← hΦ]
  have hgl := mapAt_lt hG
  have hhl := mapAt_lt hC
  have hth := thr_all e hd hsz
  obtain ⟨S1, hS1⟩ : ∃ S1 : List Ent, S1 = S ++ [⟨k, [.mref ci ce, .mref gi ge]⟩] ++ [⟨k + 1, exprC e⟩] := ⟨_, rfl⟩
  have hl1 : S1.length = S.length + 2 := by rw [hS1]; simp
  have hK1 : Kp S S1 := by rw [hS1]; exact ((Kp.refl S).old _).old _
  have hp1 : entAt S1 S.length k = some [.mref ci ce, .mref gi ge] := by rw [hS1]; exact entAt_mid rfl
  have he1 : entAt S1 (S.length + 1) (k + 1) = some (exprC e) := by
    rw [hS1]
    have := @entAt_new (S ++ [⟨k, [.mref ci ce, .mref gi ge]⟩]) (k + 1) (exprC e) (by obtain ⟨eo, es, en, ek, ep, ea, et⟩ := e; rfl)
    simpa using this
  have hG1 := hK1.map hG
  obtain ⟨S2, hS2⟩ : ∃ S2 : List Ent, S2 = S1 ++ [⟨k + 1 + 1, [.mset G]⟩] ++ [⟨k + 1 + 1 + 1, [.mref hi he, .mref S1.length (k + 1 + 1)]⟩] := ⟨_, rfl⟩
  have hK2 : Kp S1 S2 := by rw [hS2]; exact ((Kp.refl S1).old _).old _
  have hl2 : S2.length = S1.length + 2 := by rw [hS2]; simp
  have hm2 : mapAt S2 S1.length (k + 1 + 1) = some G := by rw [hS2]; exact mapAt_old mapAt_new
  have hi2 : entAt S2 (S1.length + 1) (k + 1 + 1 + 1) = some [.mref hi he, .mref S1.length (k + 1 + 1)] := by
    rw [hS2]
    have := @entAt_new (S1 ++ [⟨k + 1 + 1, [.mset G]⟩]) (k + 1 + 1 + 1) [.mref hi he, .mref S1.length (k + 1 + 1)] rfl
    simpa using this
  have hcl := fun tk => maps_Clone S1 tk (k + 1 + 1) hG1
  have hp2 := hp1
  have hp3 := fun x => entAt_old (e := x) hp1
  obtain ⟨eo, es, en, ek, ep, ea, et⟩ := e
  simp only [exprC] at hS1 he1 hth
  rw [hS1] at hcl hp2 hp3
  have hla : (S ++ [(⟨k, [.mref ci ce, .mref gi ge]⟩ : Ent)]).length = S.length + 1 := by simp
  have hlb : (S1 ++ [(⟨k + 1 + 1, [.mset G]⟩ : Ent)]).length = S1.length + 1 := by simp
  unfold insArgsC
  refine opI (E := E0) ?_
  simp (maxSteps := 10^6) +contextual (disch := try exact dqd) only [evg1, simprocAttr, AV.int, AV.bool, AV.str, Tryz.results63, exprC, hcl, hp2, hp3, xfs, reLd_same, reA_one 95 14 15]
  rw [← hS1, hla, ← hS2, hlb]
  have hC2 := (hK1.trans hK2).map hC
  have hG2 := hK2.map hG1
  have hp4 := hK2.ent hp1
  have he4 := hK2.ent he1
  clear hcl hp2 hp3
  refine loopG (P := Tryz.prog) (fun x st => st.T.length = 46 ∧ (x.2.2.2 ≤ bs.length) ∧ (Kp (put S2 S1.length ⟨k + 1 + 1, [.mset (delL G (bs.take x.2.2.2))]⟩) x.1) ∧ getT st.T 3 = .frz (bs.map strC) c ∧ getT st.T 4 = .ref S.length k 0 ∧ getT st.T 5 = .ref (S.length + 1) (k + 1) 0 ∧ getT st.T 9 = .ref (S1.length + 1) (k + 1 + 1 + 1) 0 ∧ getT st.T 18 = .frz (bs.map strC) c ∧ getT st.T 19 = .int (bs.length : Nat) ∧ getT st.T 20 = .int (x.2.2.2 : Nat) ∧ st.S = x.1 ∧ st.tk = x.2.1 ∧ st.n = x.2.2.1) (fun x => bs.length - x.2.2.2) (S2, tk, (k + 1 + 1 + 1 + 1), (0 : Nat)) ?_ ?_
  case refine_2 => exact ⟨rfl, Nat.zero_le _, by rw [List.take_zero]; rw [put_same (by exact hm2)]; exact Kp.refl _, rfl, rfl, rfl, rfl, rfl, rfl, rfl, rfl, rfl, rfl⟩
  rintro ⟨SS, tkx, nx, j⟩ ⟨T, S', tk', n'⟩ ⟨hl, hj, hK, e3, e4, e5, e9, e18, e19, e20, eS, eT, eN⟩ IH
  simp only at hj hK e3 e4 e5 e9 e18 e19 e20 eS eT eN
  subst eS eT eN
  obtain ⟨g, hg, hT⟩ := tab_of hl
  rw [hg] at e3 e4 e5 e9 e18 e19 e20
  subst hT
  clear hg hl
  have hsl : S1.length < S2.length := by omega
  have hX := KpX.of hK
  have hm3 : mapAt S' S1.length (k + 1 + 1) = some (delL G (bs.take j)) := hK.map (mapAt_put hsl)
  have hi3 := hX.ent hi2 (by omega)
  by_cases hlt : j < bs.length
  · have d1 : decide ((j : Int) < (bs.length : Int)) = true := by simpa using hlt
    obtain ⟨s, hs⟩ := nth_some hlt
    have hs' := nth_strs hs
    simp only [strC] at hs'
    have hw := wrap_add (i := j) (by omega)
    have ht : ∀ v : Ent, (put S' S1.length v).take S'.length = put S' S1.length v := fun v => List.take_of_length_le (by rw [put_len]; exact Nat.le_refl _)
    simp (maxSteps := 10^6) +contextual (disch := try exact dqd) only [evg1, simprocAttr, AV.int, AV.bool, AV.str, Tryz.results63, e3, e4, e5, e9, e18, e19, e20, d1, hs', hw, hi3, hm3, ht]
    refine IH (_, _, _, j + 1) _ (by dsimp only; omega) ⟨rfl, hlt, ?_, rfl, rfl, rfl, rfl, rfl, rfl, rfl, rfl, rfl, rfl⟩
    show Kp (put S2 S1.length ⟨k + 1 + 1, [.mset (delL G (bs.take (j + 1)))]⟩) _
    rw [delL_take hs]
    have := hK.put2 (id := S1.length) (by rw [put_len]; exact hsl) ⟨k + 1 + 1, [.mset (delK (delL G (bs.take j)) s)]⟩
    rw [put_put] at this
    exact this
  · have d1 : decide ((j : Int) < (bs.length : Int)) = false := by simpa using hlt
    have hel : j = bs.length := by omega
    rw [hel, List.take_length] at hm3
    have hC3 := hX.map hC2 (by omega)
    have hG3 := hX.map hG2 (by omega)
    have hp5 := hX.ent hp4 (by omega)
    have he5 := hX.ent he4 (by omega)
    obtain ⟨G', tk2, k2, hc, hG'⟩ := hth S' tk' n' hi he S1.length (k + 1 + 1) C (delL G bs) hC3 hm3 (by omega)
    have hRd : R = (thr (.node eo es en ek ep ea et) C (delL G bs)).map fun r => uniK G (outK r bs) := hR
    generalize thr (.node eo es en ek ep ea et) C (delL G bs) = x at hc hRd hG'
    have hmd : mapAt (put S' S1.length ⟨k + 1 + 1, [.mset G']⟩) S1.length (k + 1 + 1) = some G' := mapAt_put (mapAt_lt hm3)
    have hge : mapAt (put S' S1.length ⟨k + 1 + 1, [.mset G']⟩) gi ge = some G := by rw [mapAt_put_other (by omega)]; exact hG3
    have hpe : entAt (put S' S1.length ⟨k + 1 + 1, [.mset G']⟩) S.length k = some [.mref ci ce, .mref gi ge] := by rw [entAt_put_other (by omega)]; exact hp5
    have hie : entAt (put S' S1.length ⟨k + 1 + 1, [.mset G']⟩) (S1.length + 1) (k + 1 + 1 + 1) = some [.mref hi he, .mref S1.length (k + 1 + 1)] := by rw [entAt_put_other (by omega)]; exact hi3
    have hlp := fun (T : List AV) (tk : List Nat) (n : Nat) => lpF_ins (E := E0) rfl (T := T) (tk := tk) (n := n) (c := c) hpe hie hge hmd (by omega) hbs
    simp (maxSteps := 10^6) +contextual (disch := try exact dqd) only [evg1, simprocAttr, AV.int, AV.bool, AV.str, Tryz.results63, e3, e4, e5, e9, e18, e19, e20, d1, hi3, he5, hc, hlp, xfs, reA_putL]
    have hK3 : Kp S (put S' S1.length ⟨k + 1 + 1, [.mset G']⟩) := ⟨by rw [put_len]; have := hK.len; rw [put_len] at this; omega, fun i hi => by
      rw [nth_put_other (by omega), hX.same i (by omega) (by omega)]
      exact (hK1.trans hK2).same i hi⟩
    rw [hΦ]
    refine ⟨fun hx => ?_, fun hx => ?_⟩
    · obtain ⟨r, hr⟩ := Option.isSome_iff_exists.1 hx
      obtain rfl := hG' r hr
      rw [hRd, hr]
      exact ⟨rfl, take_put_len (hK3.put2 hgl _)⟩
    · have hx0 : x = none := by simpa using hx
      rw [hRd, hx0]
      exact ⟨rfl, by rw [hK3.take]; exact (put_same hG).symm⟩
theorem insP_step (hd : InsP Depth.d) : InsP (Depth.d + 1) := by
  intro q ho c S tk k G C hG hC
  obtain ⟨ci, ce, gi, ge, hi, he, e, bs⟩ := q
  obtain ⟨h1, h2, h3, h4⟩ := ho
  obtain ⟨⟨r1, r2, r3, r4⟩, q1, q2, q3⟩ := ins_body ci ce gi ge hi he e bs h1 h2 h3 h4 c S tk k G C hG hC
  simp only at q2 q3
  subst q2 q3
  exact ⟨r3, r4, q1⟩
end
theorem insP : ∀ d, InsP d
  | 0 => insP_zero
  | d + 1 => @insP_step ⟨d, insP d⟩ (insP d)
end Go.Proofs.YtmkoiandfojgmaaGreat
