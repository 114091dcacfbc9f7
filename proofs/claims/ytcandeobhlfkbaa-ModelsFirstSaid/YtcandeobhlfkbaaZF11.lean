/-
  Texts laid together: FUnion, MM2, MM3, FVars, MM5.
-/
import Derived.Test.YtcandeobhlfkbaaZF9
import Derived.Test.YtcandeobhlfkbaaZF10
import Derived.Sort.OwnSorted
import Derived.Sort.Grow
import Derived.Lib.OwnBridge
import Derived.Laws.AppendOwn
import Derived.Laws.AppendOwnNone
import Derived.Lib.Hide
/-
  The union of names: what names.Union does in the model; so it may be told from outside.
-/









namespace Go.Proofs.Ytcandeobhlfkbaa
open Go Go.RowKit Go.Sort

theorem infStr : (Try.prog.info? 9).map (fun i => (i.zero, i.size, i.bytes)) = some (some (.string ⟨#[]⟩), 1, 16) := by kernel_rfl
set_option maxHeartbeats 2000000 in
set_option maxRecDepth 100000 in
theorem union_none (w : World) : Calls Try.prog 53 #[.slice none 0 0, .slice none 0 0] w fun e w' => ∃ a, e = .returned (.slice a 0 0) ∧ Below w.heap.size w w' := by
  go_enter Try.func53, Try.ntmps53
  go_wp2_with (go_at_call 60; refine (Try.slices_Sort_string_none _ _ _).mono ?_; rintro e w' ⟨rfl, rfl⟩)
  go_wp2_with (go_at_call 61; refine (Try.slices_Compact_string_empty _ _ _).mono ?_; rintro e w' ⟨rfl, rfl⟩)
  go_ret
  exact ⟨_, rfl, (Below.refl _ _).alloc (Nat.le_refl _) _⟩
/-- what comes of the two contracts -/
theorem union_end {w w1 : World} {g cap n nn q : Nat} {os : Array Obj} {ss : List (List UInt8)} (hown : w1.ownsRow w.heap.size 9 1 (.slice (some ⟨g, 0, none⟩) n cap) n (ss.map encStr)) (hbel : Below w.heap.size w w1) (hbg : w.heap.size ≤ g) (hlen : ss.length = n) :
    ∃ g' cap', (Ending.returned (.slice (some ⟨g, 0, none⟩) (Lib.compact (ss.mergeSort fun x y => decide (x ≤ y))).length cap)) = .returned (.slice (some ⟨g', 0, none⟩) (Lib.compact (ss.mergeSort fun x y => decide (x ≤ y))).length cap') ∧
      (putRow encStr (Sort.ahead (grow (putRow encStr (Sort.ahead w1 nn) g 0 (ss.mergeSort fun x y => decide (x ≤ y)).toArray) os) q) g 0 (Lib.compact (ss.mergeSort fun x y => decide (x ≤ y)) ++ List.replicate (n - (Lib.compact (ss.mergeSort fun x y => decide (x ≤ y))).length) []).toArray).ownsRow w.heap.size 9 1 (.slice (some ⟨g', 0, none⟩) (Lib.compact (ss.mergeSort fun x y => decide (x ≤ y))).length cap') (Lib.compact (ss.mergeSort fun x y => decide (x ≤ y))).length ((Lib.compact (ss.mergeSort fun x y => decide (x ≤ y))).map encStr) ∧
      Below w.heap.size w (putRow encStr (Sort.ahead (grow (putRow encStr (Sort.ahead w1 nn) g 0 (ss.mergeSort fun x y => decide (x ≤ y)).toArray) os) q) g 0 (Lib.compact (ss.mergeSort fun x y => decide (x ≤ y)) ++ List.replicate (n - (Lib.compact (ss.mergeSort fun x y => decide (x ≤ y))).length) []).toArray) := by
  have hl2 : (ss.mergeSort fun x y => decide (x ≤ y)).length = ss.length := List.length_mergeSort ss
  have hle := Lib.compact_length_le (ss.mergeSort fun x y => decide (x ≤ y))
  subst hlen
  rcases hown.2 with ⟨h0, _⟩ | ⟨g', cap', cur, hv, hbase, hb, h1, h2, h3, h4⟩
  · cases h0
  cases hv
  have hs := ownsRow_sorted (n := nn) (os := os) (ts := ss.mergeSort fun x y => decide (x ≤ y)) hl2 hbase hb h1 h2 h3
  have hc := Lib.ownsRow_putRow (q := q) (k := (Lib.compact (ss.mergeSort fun x y => decide (x ≤ y))).length) (ys := Lib.compact (ss.mergeSort fun x y => decide (x ≤ y)) ++ List.replicate (ss.length - (Lib.compact (ss.mergeSort fun x y => decide (x ≤ y))).length) []) hs (by simp; omega) (by omega)
  rw [List.take_left] at hc
  exact ⟨g, cap, rfl, hc, Lib.below_putRow (hbel.grown (grownBy_sorted _) hbel.size (fun j hj => by cases hj; exact hbase)) hbg⟩
theorem union_app {w : World} {b o len cap : Nat} {ss : List (List UInt8)} (hl : ss.length = len) (hc : ∀ j u, (ss.map encStr)[j]? = some u → w.cell? ⟨b, o + j, none⟩ = some u) (hbig : len ≤ 1000000) {ops : Array Oper} {rest : List Oper} {op : Oper} {a : Act} {Q : Exit → Act → World → Prop}
    (hgd : op.guard = none) (ho : op.op = .call { callee := .builtin .append, args := #[.tmp 6, .tmp 7], argTypes := #[36, 36] }) (h6 : a.eval (.tmp 6) = .slice (some ⟨w.heap.size, 0, none⟩) 0 0) (h7 : a.eval (.tmp 7) = .slice (some ⟨b, o, none⟩) len cap)
    (h : ∀ v' w', w'.ownsRow w.heap.size 9 1 v' len (ss.map encStr) → Below w.heap.size w w' → v' ≠ .slice none 0 0 → wpList Try.prog ops Q rest (a.put op.dst v') w') : wpList Try.prog ops Q (op :: rest) a (w.alloc (.cells #[] 9)) := by
  obtain ⟨i0, hi, hz0, hz1, hz2⟩ := info_parts infStr
  have hbel0 : Below w.heap.size w (w.alloc (.cells #[] 9)) := (Below.refl _ _).alloc (Nat.le_refl _) _
  refine wpList_append_own _ hgd _ _ 36 ho w.heap.size 9 i0 (.string ⟨#[]⟩) 1 16 Try.underlying36 hi hz0 hz1 hz2 rfl (by decide) (.slice (some ⟨w.heap.size, 0, none⟩) 0 0) 0 [] h6 (World.ownsRow_made w #[] 0 (Nat.le_refl _) (by decide) rfl) ⟨b, o, none⟩ len cap (ss.map encStr) h7 (by rw [List.length_map, hl, Nat.mul_one]) (fun j u hj => ?_) (fun u hu => ?_) (by unfold maxLen; omega) (by omega) hbel0.size (fun v' w' hown hg hn => ?_)
  · have := hc j u hj
    rw [add_none, hbel0.cell (cell_lt this)]; exact this
  · obtain ⟨x, -, rfl⟩ := List.mem_map.1 hu
    rfl
  · rw [Nat.zero_add, List.nil_append] at hown
    refine h v' w' hown (hbel0.grown hg hbel0.size fun j hj => ?_) fun e => ?_
    · simp only [Value.ownBlock, Option.some.injEq] at hj; omega
    · have := (hn.1 e).1
      simp at this
set_option maxHeartbeats 2000000 in
set_option maxRecDepth 100000 in
theorem union_some (w : World) (b o len cap : Nat) (ss : List (List UInt8)) (hl : ss.length = len) (hpos : 0 < len) (hc : ∀ j u, (ss.map encStr)[j]? = some u → w.cell? ⟨b, o + j, none⟩ = some u) (hbig : len ≤ 1000000) : Calls Try.prog 53 #[.slice (some ⟨b, o, none⟩) len cap, .slice none 0 0] w fun e w' =>
    ∃ g cap, e = .returned (.slice (some ⟨g, 0, none⟩) (Lib.compact (ss.mergeSort fun x y => decide (x ≤ y))).length cap) ∧
    w'.ownsRow w.heap.size 9 1 (.slice (some ⟨g, 0, none⟩) (Lib.compact (ss.mergeSort fun x y => decide (x ≤ y))).length cap) (Lib.compact (ss.mergeSort fun x y => decide (x ≤ y))).length ((Lib.compact (ss.mergeSort fun x y => decide (x ≤ y))).map encStr) ∧ Below w.heap.size w w' := by
  have HC := Lib.hid hc
  have HL := Lib.hid hl
  clear hc hl
  go_enter Try.func53, Try.ntmps53
  go_wp2_with (at_builtin; refine union_app HL.out HC.out hbig rfl rfl rfl rfl ?_; intro v1 w1 hown hbel hnn; obtain ⟨g, cap1, rfl, hbg, hgl, hncap, hcm, -, hH⟩ := Lib.holds_of_ownsRow hown hnn; have HO := Lib.hid hown; have HB := Lib.hid hbel; have HG := Lib.hid hbg; have HS := Lib.hid (show Calls Try.prog 60 #[.slice (some ⟨g, 0, none⟩) len cap1] w1 fun e w' => e = .returned (.tuple #[]) ∧ ∃ n os, w' = grow (putRow encStr (Sort.ahead w1 n) g 0 (ss.mergeSort fun x y => decide (x ≤ y)).toArray) os from by have := Try.slices_Sort_string g 0 cap1 ss w1 hH hgl (by rw [HL.out]; omega); rw [HL.out] at this; exact this); have HH := Lib.hid hH; have HGL := Lib.hid hgl; clear hown hbel hnn hbg hgl hH)
  have HC2 := Lib.hid (show ∀ nn os, Calls Try.prog 61 #[.slice (some ⟨g, 0, none⟩) len cap1] (grow (putRow encStr (Sort.ahead w1 nn) g 0 (ss.mergeSort fun x y => decide (x ≤ y)).toArray) os) fun e w' => e = .returned (.slice (some ⟨g, 0, none⟩) (Lib.compact (ss.mergeSort fun x y => decide (x ≤ y))).length cap1) ∧ ∃ q, w' = putRow encStr (Sort.ahead (grow (putRow encStr (Sort.ahead w1 nn) g 0 (ss.mergeSort fun x y => decide (x ≤ y)).toArray) os) q) g 0 (Lib.compact (ss.mergeSort fun x y => decide (x ≤ y)) ++ List.replicate (len - (Lib.compact (ss.mergeSort fun x y => decide (x ≤ y))).length) []).toArray from by
    intro nn os
    have hl2 : (ss.mergeSort fun x y => decide (x ≤ y)).length = len := by rw [List.length_mergeSort]; exact HL.out
    have hH2 : Holds encStr (grow (putRow encStr (Sort.ahead w1 nn) g 0 (ss.mergeSort fun x y => decide (x ≤ y)).toArray) os) g 0 (ss.mergeSort fun x y => decide (x ≤ y)).toArray :=
      holds_grow encStr _ os g 0 _ (by simpa [putRow, mapBlock, Sort.ahead] using HGL.out) (holds_putRow encStr _ g 0 _ _ (holds_ahead encStr w1 nn g 0 _ HH.out) (by simp))
    have := Try.slices_Compact_string g 0 cap1 (ss.mergeSort fun x y => decide (x ≤ y)) _ hH2 (by omega) (by omega)
    rw [hl2] at this
    exact this)
  go_wp2_with (go_at_call 60; refine HS.out.mono ?_; rintro e w2 ⟨rfl, nn, os, rfl⟩)
  go_wp2_with (go_at_call 61; refine (HC2.out nn os).mono ?_; rintro e w3 ⟨rfl, q, rfl⟩)
  go_ret
  exact union_end HO.out HB.out HG.out HL.out
theorem compact_facts {z : List (List UInt8)} (hz : z.Pairwise (· ≤ ·)) : (Lib.compact z).Pairwise (· < ·) ∧ ∀ x, x ∈ Lib.compact z ↔ x ∈ z := by
  have mono : ∀ i j, i ≤ j → j < z.length → z.toArray[i]! ≤ z.toArray[j]! := by
    intro i j hij hj
    rw [getElem!_pos z.toArray i (by simp; omega), getElem!_pos z.toArray j (by simpa using hj)]
    rcases Nat.lt_or_ge i j with h | h
    · exact List.pairwise_iff_getElem.1 hz i j (by omega) hj h
    · have : i = j := by omega
      subst this
      exact List.le_refl _
  have key : ∀ m, m ≤ z.length → (Lib.compactUpTo z.toArray m).Pairwise (· < ·) ∧ ∀ x, x ∈ Lib.compactUpTo z.toArray m ↔ ∃ j, j < m ∧ z.toArray[j]! = x := by
    intro m
    induction m with
    | zero => intro _; exact ⟨by simp [Lib.compactUpTo], fun x => by simp [Lib.compactUpTo]⟩
    | succ m ih =>
      intro hm
      obtain ⟨h1, h2⟩ := ih (by omega)
      rw [Lib.compactUpTo_succ]
      cases hk : Lib.keeps z.toArray m with
      | true =>
        rw [if_pos rfl]
        refine ⟨List.pairwise_append.2 ⟨h1, by simp, fun x hx y hy => ?_⟩, fun x => ?_⟩
        · obtain ⟨j, hj, rfl⟩ := (h2 x).1 hx
          have hy : y = z.toArray[m]! := by simpa using hy
          subst hy
          simp only [Lib.keeps, decide_eq_true_eq] at hk
          have hne := hk.resolve_left (by omega)
          refine List.not_le.1 fun hle => hne ?_
          exact List.le_antisymm (List.le_trans hle (mono j (m - 1) (by omega) (by omega))) (mono (m - 1) m (by omega) (by omega))
        · rw [List.mem_append, h2]
          constructor
          · rintro (⟨j, hj, e⟩ | h)
            · exact ⟨j, by omega, e⟩
            · exact ⟨m, by omega, (by simpa using h : x = _).symm⟩
          · rintro ⟨j, hj, e⟩
            by_cases hjm : j = m
            · subst hjm; exact .inr (by simp [e])
            · exact .inl ⟨j, by omega, e⟩
      | false =>
        rw [if_neg (by simp), List.append_nil]
        refine ⟨h1, fun x => ?_⟩
        rw [h2]
        simp only [Lib.keeps, decide_eq_false_iff_not, not_or, Decidable.not_not] at hk
        constructor
        · rintro ⟨j, hj, e⟩; exact ⟨j, by omega, e⟩
        · rintro ⟨j, hj, e⟩
          by_cases hjm : j = m
          · subst hjm; exact ⟨j - 1, by omega, by rw [← hk.2]; exact e⟩
          · exact ⟨j, by omega, e⟩
  obtain ⟨h1, h2⟩ := key z.length (Nat.le_refl _)
  refine ⟨h1, fun x => (h2 x).trans ?_⟩
  constructor
  · rintro ⟨j, hj, rfl⟩
    rw [getElem!_pos z.toArray j (by simpa using hj)]
    simp
  · intro hx
    obtain ⟨j, hj, rfl⟩ := List.getElem_of_mem hx
    exact ⟨j, hj, by rw [getElem!_pos z.toArray j (by simpa using hj)]; simp⟩
theorem compact_uni (l : List ByteArray) : Lib.compact ((l.map nm).mergeSort fun x y => decide (x ≤ y)) = (uniS l).map nm := by
  have hz : ((l.map nm).mergeSort fun x y => decide (x ≤ y)).Pairwise (· ≤ ·) := by
    have := List.pairwise_mergeSort (le := fun x y : List UInt8 => decide (x ≤ y)) (fun a b c h1 h2 => by simp only [decide_eq_true_eq] at *; exact List.le_trans h1 h2) (fun a b => by simp only [Bool.or_eq_true, decide_eq_true_eq]; exact List.le_total a b) (l.map nm)
    exact this.imp fun h => by simpa using h
  obtain ⟨h1, h2⟩ := compact_facts hz
  obtain ⟨u1, u2, -⟩ := uni_facts l
  generalize Lib.compact ((l.map nm).mergeSort fun x y => decide (x ≤ y)) = T at h1 h2
  have e : T = (T.map fun x => (⟨x.toArray⟩ : ByteArray)).map nm := by
    rw [List.map_map]
    conv => lhs; rw [← List.map_id T]
    exact List.map_congr_left fun x _ => by simp [nm]
  rw [e]
  congr 1
  refine inc_eq ?_ u1 fun x => ?_
  · unfold Inc
    rw [List.pairwise_map]
    exact h1.imp fun h => by simpa [nm] using h
  · rw [u2]
    have : x ∈ (T.map fun x => (⟨x.toArray⟩ : ByteArray)) ↔ nm x ∈ T := by
      rw [List.mem_map]
      constructor
      · rintro ⟨y, hy, rfl⟩; simpa [nm] using hy
      · intro h; exact ⟨nm x, h, by simp [nm]⟩
    rw [this, h2, List.mem_mergeSort, List.mem_map]
    constructor
    · rintro ⟨y, hy, h⟩; rw [nm_inj h] at hy; exact hy
    · intro h; exact ⟨x, h, rfl⟩
theorem strs_at {w : World} {A : Nat → Nat → Prop} {b sz : Nat} : ∀ {l : List ByteArray} {o j : Nat} {x : ByteArray}, PRows w A b sz o (l.map strC) → nth l j = some x → sz = 1 ∧ w.cell? ⟨b, o + j, none⟩ = some (.string x)
  | y :: l, o, 0, x, h, hx => by
    simp only [nth, Option.some.injEq] at hx
    subst hx
    simp only [List.map_cons, PRows, strC] at h
    obtain ⟨h0, ⟨vs, h1, h2⟩, -⟩ := h
    match vs, h2 with
    | [v], h2 =>
    simp only [PRs, PR, and_true] at h2
    simp only [Lie] at h1
    have h0 : sz = 1 := by simpa using h0.symm
    exact ⟨h0, by rw [Nat.add_zero, h1.1, h2.1]⟩
  | y :: l, o, j + 1, x, h, hx => by
    simp only [nth] at hx
    simp only [List.map_cons, PRows] at h
    obtain ⟨h0, -, h3⟩ := h
    have h0 : sz = 1 := by simpa [strC] using h0.symm
    subst h0
    obtain ⟨-, h4⟩ := strs_at h3 hx
    exact ⟨rfl, by rw [← h4]; congr 2; omega⟩
theorem PRows_strs {w : World} {A : Nat → Nat → Prop} {b : Nat} (hA : ∀ o, ¬ A b o) : ∀ (l : List ByteArray) (o : Nat), (∀ i x, nth l i = some x → w.cell? ⟨b, o + i, none⟩ = some (.string x)) → PRows w A b 1 o (l.map strC)
  | [], _, _ => by simp only [List.map_nil, PRows]
  | x :: l, o, h => by
    simp only [List.map_cons, PRows]
    have h1 := h 0 x rfl
    refine ⟨rfl, ⟨[.string x], ⟨h1, hA _, trivial⟩, ?_⟩, PRows_strs hA l (o + 1) fun i d hd => ?_⟩
    · simp [PRs, PR, strC, Value.oneCell']
    · have := h (i + 1) d hd
      rwa [show o + (i + 1) = o + 1 + i from by omega] at this
theorem Union_run {C : Cx} {vs : Array Value} (hs : SR C) (l : List ByteArray) (c : Cap) (hlen : l.length ≤ 1000000) (hc : l = [] → c = .nilc) (hv : VRs C [.frz (l.map strC) c, .frz [] .nilc] vs.toList) :
    Calls Try.prog 53 vs C.w fun e w' => ∃ v C', e = .returned v ∧ C'.w = w' ∧ Le C C' ∧ SR C' ∧ C'.S = C.S ∧ C'.tk = C.tk ∧ C'.n = C.n ∧ VR C' (strsA (uniS l)) v := by
  obtain ⟨vl⟩ := vs
  match vl, hv with
  | [x, y], hv =>
  simp only [VRs, VR, and_true] at hv
  obtain ⟨⟨a, len, cap, rfl, h1, h2, h3, h4⟩, ⟨a2, len2, cap2, rfl, g1, g2, g3, -⟩⟩ := hv
  have g1 : len2 = 0 := by simpa using g1.symm
  subst g1
  obtain ⟨rfl, g3⟩ := (g3 : a2 = none ∧ cap2 = 0)
  subst g3
  by_cases hl : l = []
  · subst hl
    obtain rfl := hc rfl
    have h1 : len = 0 := by simpa using h1.symm
    subst h1
    obtain ⟨rfl, h3⟩ := (h3 : a = none ∧ cap = 0)
    subst h3
    refine (union_none C.w).mono ?_
    rintro e w' ⟨a, rfl, hb⟩
    refine ⟨_, C.at w', rfl, rfl, Le.of_below hb, SR.of_below hs hb, rfl, rfl, rfl, ?_⟩
    simp only [strsA, uniS, List.foldl_nil, List.map_nil, VR]
    exact ⟨a, 0, 0, rfl, rfl, Nat.le_refl _, trivial, .inl trivial⟩
  · have hpos : 0 < l.length := List.length_pos_iff.2 hl
    obtain ⟨b, o, sz, rfl, hr⟩ := h4.resolve_left (by simpa using hl)
    have h1 : l.length = len := by simpa using h1
    subst h1
    have hcell : ∀ j u, ((l.map nm).map encStr)[j]? = some u → C.w.cell? ⟨b, o + j, none⟩ = some u := by
      intro j u hj
      rw [List.map_map, List.getElem?_map, Option.map_eq_some_iff] at hj
      obtain ⟨x, hx, rfl⟩ := hj
      rw [(strs_at hr (by rw [nth_get]; exact hx)).2]
      simp [nm]
    refine (union_some C.w b o l.length cap (l.map nm) (by simp) hpos hcell hlen).mono ?_
    rintro e w' ⟨g, cap', rfl, hown, hb⟩
    rw [compact_uni] at hown ⊢
    rcases hown.2 with ⟨h0, -⟩ | ⟨g', cap2, cur, hv, hbase, hg, k1, k2, k3, k4⟩
    · cases h0
    cases hv
    refine ⟨_, C.at w', rfl, rfl, Le.of_below hb, SR.of_below hs hb, rfl, rfl, rfl, ?_⟩
    simp only [strsA, VR]
    refine ⟨_, _, _, rfl, by simp, by simpa using k1, trivial, .inr ⟨g, 0, 1, rfl, PRows_strs (fun o ha => ?_) _ _ fun i x hx => ?_⟩⟩
    · rcases ha with ha | ha
      · have := hs.avlt g o ha; omega
      · have := mut_lt hs (show C.Mut g o from ha); omega
    · have hx' := hx
      rw [nth_get] at hx'
      have hi : i < (uniS l).length := nth_lt hx
      show w'.cell? _ = _
      have hq : cur.toList[i]? = some (.string x) := by
        have : (cur.toList.take (((uniS l).map nm).length * 1))[i]? = some (.string x) := by
          rw [k4, List.map_map, List.getElem?_map, hx']
          simp [nm]
        rw [List.getElem?_take] at this
        split at this
        · exact this
        · simp at this
      simp only [World.cell?, hg, Nat.zero_add]
      simpa using hq
theorem uni_some {f : FuncId} {args : List AV} {S : List Ent} {tk : List Nat} {n : Nat} {r : AV × List Ent × List Nat × Nat} (h : uniC f args S tk n = some r) :
    f = 53 ∧ ∃ l c, args = [.frz (l.map strC) c, .frz [] .nilc] ∧ l.length ≤ 1000000 ∧ (!l.isEmpty || isNilc c) = true ∧ r = (strsA (uniS l), S, tk, n) := by
  unfold uniC at h
  split at h
  · rename_i hon
    have hf : f = 53 := by simpa using hon
    subst hf
    refine ⟨rfl, ?_⟩
    split at h
    · rename_i es c
      split at h
      · rename_i l hl
        split at h
        · rename_i hlen
          simp only [Bool.and_eq_true, decide_eq_true_eq] at hlen
          simp only [Option.some.injEq] at h
          exact ⟨l, c, by rw [strsOf_some hl], hlen.1, hlen.2, h.symm⟩
        · simp at h
      · simp at h
    · simp at h
  · simp at h
theorem uni_of {l : List ByteArray} {c : Cap} (hlen : l.length ≤ 1000000) (hc : (!l.isEmpty || isNilc c) = true) (S : List Ent) (tk : List Nat) (n : Nat) : uniC 53 [.frz (l.map strC) c, .frz [] .nilc] S tk n = some (strsA (uniS l), S, tk, n) := by
  simp only [uniC, strsOf_map, beq_self_eq_true, if_true]
  rw [if_pos (by rw [hc]; simpa using hlen)]
theorem ext0_some {f : FuncId} {args : List AV} {S : List Ent} {tk : List Nat} {n : Nat} {r : AV} {S' : List Ent} {tk' : List Nat} {n' : Nat} (h : @extC Try.prog E0 f args S tk n = some (r, S', tk', n')) :
    f = 53 ∧ ∃ l c, args = [.frz (l.map strC) c, .frz [] .nilc] ∧ l.length ≤ 1000000 ∧ (!l.isEmpty || isNilc c) = true ∧ r = strsA (uniS l) ∧ S' = S ∧ tk' = tk ∧ n' = n := by
  unfold extC at h
  split at h
  · obtain ⟨h1, l, c, h2, h3, h4, h5⟩ := uni_some h
    simp only [Prod.mk.injEq] at h5
    exact ⟨h1, l, c, h2, h3, h4, h5⟩
  · simp at h
theorem Uni_ok {C : Cx} {vs : Array Value} (hs : SR C) {l : List ByteArray} {c : Cap} (hlen : l.length ≤ 1000000) (hc : (!l.isEmpty || isNilc c) = true) (hv : VRs C [.frz (l.map strC) c, .frz [] .nilc] vs.toList) :
    Calls Try.prog 53 vs C.w fun e w' => ∃ v C', e = .returned v ∧ C'.w = w' ∧ Le C C' ∧ SR C' ∧ C'.S = C.S ∧ C'.tk = C.tk ∧ C'.n = C.n ∧ VR C' (strsA (uniS l)) v := by
  refine Union_run hs l c hlen (fun e => ?_) hv
  subst e
  cases c <;> simp [isNilc] at hc
  rfl
instance : ExtOk Try.prog := {
  ok := fun f args S tk n r S' tk' n' h => by
    obtain ⟨rfl, l, c, rfl, hlen, hc, rfl, rfl, rfl, rfl⟩ := ext0_some h
    refine ⟨⟨_, Try.func53, by decide +kernel, by decide +kernel⟩, fun C vs h1 h2 h3 hs hv => ?_⟩
    subst h1 h2 h3
    exact Uni_ok hs hlen hc hv
  indep := fun M f args S tk n r S' tk' n' h => by
    unfold callP at h
    split at h
    · rename_i hp
      obtain ⟨rfl, l, c, rfl, hlen, hc, rfl, rfl, rfl, rfl⟩ := ext0_some h
      refine ⟨rfl, rfl, .inr ⟨rfl, fun S2 tk2 n2 => ?_⟩⟩
      unfold callP
      rw [if_pos hp]
      simp only [extC, Ext.on, beq_self_eq_true, Bool.true_or, if_true]
      exact uni_of hlen hc S2 tk2 n2
    · simp at h }
end Go.Proofs.Ytcandeobhlfkbaa
/-
  The order of points, by the reference: what its functions compute.
-/

namespace Go.Proofs.Ytcandeobhlfkbaa
open Go
def szF (n : Int) : Int := if n = -9223372036854775808 then 9223372036854775807 else (n.natAbs : Int)
def furF (a b : Int) : Int := if a.natAbs < b.natAbs then -1 else if b.natAbs < a.natAbs then 1 else 0
def radR (pt : Pt) : Int → Pt → Int
  | n, [] => n
  | n, c :: r => radR pt (if n.natAbs < (findS c.1 pt).natAbs then findS c.1 pt else n) r
theorem radR_abs (pt : Pt) : ∀ (l : Pt) (n : Int), (radR pt n l).natAbs = radG pt n.natAbs l
  | [], n => rfl
  | c :: r, n => by
    rw [radR, radG, radR_abs pt r]
    congr 1
    split <;> omega
theorem radR_i64 {pt : Pt} (h : PtI pt) : ∀ (l : Pt) (n : Int), i64 n → i64 (radR pt n l)
  | [], n, hn => hn
  | c :: r, n, hn => by
    rw [radR]
    refine radR_i64 h r _ ?_
    split
    · exact findS_i64 h c.1
    · exact hn
def strO (o : Option ByteArray) : ByteArray := match o with | none => ⟨#[]⟩ | some s => s
section
variable (S : List Ent) (tk : List Nat) (k : Nat)
theorem R15_size (n : Int) (hn : i64 n) : cL Try.prog 47 [.int n] S tk k = some (.int (szF n), S, tk, k) := by
  unfold i64 at hn
  refine call_pure Try.func47 rfl rfl (by decide +kernel) (by decide +kernel) Try.ntmps47 rfl rfl _ _ _ rfl ?_; rw [RK_KX]
  by_cases h : n = -9223372036854775808
  · have d1 : (n == -9223372036854775808) = true := by simpa using h
    simp (maxSteps := 1000000) +contextual (disch := first | with_reducible assumption | exact ⟨rfl⟩ | exact ⟨rfl, rfl⟩ | (refine _root_.id ?_; kernel_rfl) | omega) only [evs, ext_mv, nth, put, putT, getT, binInt, binStr, binBool, aUn, outA, resA, mapO, resA1, oneOf, w1, w2, w3, bots, cond_true, cond_false, if_true, if_false, ite_true, ite_false, reduceIte, reduceCtorEq, implies_true, Nat.reduceAdd, Nat.reduceSub, AV.int, AV.bool, AV.str, Nat.reduceBEq, Nat.reduceEqDiff, Nat.reduceMul, Nat.reduceLT, Nat.reduceLeDiff, Int.reduceNeg, BEq.rfl, beq_self_eq_true, tabl, cellsOf, fldA, ldA, stA, entAt, partA, takeN, over, leafOk, Value.oneCell', idxA, nilA, cellsEq, fillA, elemsA, pure1, pure2, reps, chkA, tys, Try.results47, KX_draw, KX_drawQ, KX_tail, lastO_one, lastO_more, dropL_one, dropL_more, callP_eq, callM_true, d1]
    simp [szF, h]
  · have d1 : (n == -9223372036854775808) = false := by simpa using h
    have hw : IntKind.i64.wrap (0 - n) = -n := by rw [wrap_of (by unfold i64; omega)]; omega
    by_cases h0 : n < 0
    · have d2 : decide (n < 0) = true := by simpa using h0
      simp (maxSteps := 1000000) +contextual (disch := first | with_reducible assumption | exact ⟨rfl⟩ | exact ⟨rfl, rfl⟩ | (refine _root_.id ?_; kernel_rfl) | omega) only [evs, ext_mv, nth, put, putT, getT, binInt, binStr, binBool, aUn, outA, resA, mapO, resA1, oneOf, w1, w2, w3, bots, cond_true, cond_false, if_true, if_false, ite_true, ite_false, reduceIte, reduceCtorEq, implies_true, Nat.reduceAdd, Nat.reduceSub, AV.int, AV.bool, AV.str, Nat.reduceBEq, Nat.reduceEqDiff, Nat.reduceMul, Nat.reduceLT, Nat.reduceLeDiff, Int.reduceNeg, BEq.rfl, beq_self_eq_true, tabl, cellsOf, fldA, ldA, stA, entAt, partA, takeN, over, leafOk, Value.oneCell', idxA, nilA, cellsEq, fillA, elemsA, pure1, pure2, reps, chkA, tys, Try.results47, KX_draw, KX_drawQ, KX_tail, lastO_one, lastO_more, dropL_one, dropL_more, callP_eq, callM_true, d1, d2, hw]
      simp only [szF, h, if_false, AV.prim.injEq, Value.int.injEq, true_and]
      omega
    · have d2 : decide (n < 0) = false := by simpa using h0
      simp (maxSteps := 1000000) +contextual (disch := first | with_reducible assumption | exact ⟨rfl⟩ | exact ⟨rfl, rfl⟩ | (refine _root_.id ?_; kernel_rfl) | omega) only [evs, ext_mv, nth, put, putT, getT, binInt, binStr, binBool, aUn, outA, resA, mapO, resA1, oneOf, w1, w2, w3, bots, cond_true, cond_false, if_true, if_false, ite_true, ite_false, reduceIte, reduceCtorEq, implies_true, Nat.reduceAdd, Nat.reduceSub, AV.int, AV.bool, AV.str, Nat.reduceBEq, Nat.reduceEqDiff, Nat.reduceMul, Nat.reduceLT, Nat.reduceLeDiff, Int.reduceNeg, BEq.rfl, beq_self_eq_true, tabl, cellsOf, fldA, ldA, stA, entAt, partA, takeN, over, leafOk, Value.oneCell', idxA, nilA, cellsEq, fillA, elemsA, pure1, pure2, reps, chkA, tys, Try.results47, KX_draw, KX_drawQ, KX_tail, lastO_one, lastO_more, dropL_one, dropL_more, callP_eq, callM_true, d1, d2]
      simp only [szF, h, if_false, AV.prim.injEq, Value.int.injEq, true_and]
      omega
theorem R15_before (a b : Int) (ha : i64 a) (hb : i64 b) : cL Try.prog 32 [.int a, .int b] S tk k = some (.bool (befF a b), S, tk, k) := by
  have h1 := fun S tk k => R15_size S tk k a ha
  have h2 := fun S tk k => R15_size S tk k b hb
  unfold i64 at ha hb
  obtain ⟨b', hb'⟩ : ∃ b', IntKind.i64.wrap (0 - b) = b' := ⟨_, rfl⟩
  have hw : b' = if b = -9223372036854775808 then b else -b := by
    rw [← hb']
    split
    · rename_i h; subst h; rfl
    · rw [wrap_of (by unfold i64; omega)]; omega
  refine call_pure Try.func32 rfl rfl (by decide +kernel) (by decide +kernel) Try.ntmps32 rfl rfl _ _ _ rfl ?_; rw [RK_KX]
  by_cases c1 : a = b'
  · have d1 : (a == b') = true := by simpa using c1
    by_cases c2 : a = b
    · have d2 : (a != b) = false := by simpa using c2
      by_cases c3 : a = -9223372036854775808
      · have d3 : (a == -9223372036854775808) = true := by simpa using c3
        have d4 : (b == -9223372036854775808) = true := by rw [← c2]; exact d3
        simp (maxSteps := 1000000) +contextual (disch := first | with_reducible assumption | exact ⟨rfl⟩ | exact ⟨rfl, rfl⟩ | (refine _root_.id ?_; kernel_rfl) | omega) only [evs, ext_mv, nth, put, putT, getT, binInt, binStr, binBool, aUn, outA, resA, mapO, resA1, oneOf, w1, w2, w3, bots, cond_true, cond_false, if_true, if_false, ite_true, ite_false, reduceIte, reduceCtorEq, implies_true, Nat.reduceAdd, Nat.reduceSub, AV.int, AV.bool, AV.str, Nat.reduceBEq, Nat.reduceEqDiff, Nat.reduceMul, Nat.reduceLT, Nat.reduceLeDiff, Int.reduceNeg, BEq.rfl, beq_self_eq_true, tabl, cellsOf, fldA, ldA, stA, entAt, partA, takeN, over, leafOk, Value.oneCell', idxA, nilA, cellsEq, fillA, elemsA, pure1, pure2, reps, chkA, tys, Try.results32, KX_draw, KX_drawQ, KX_tail, lastO_one, lastO_more, dropL_one, dropL_more, callP_eq, callM_true, hb', d1, d2, d3, d4]
        simp [befF, c2]
      · have d3 : (a == -9223372036854775808) = false := by simpa using c3
        have d4 : (b == -9223372036854775808) = false := by rw [← c2]; exact d3
        have d5 : decide (szF a < szF b) = false := by simp [c2]
        simp (maxSteps := 1000000) +contextual (disch := first | with_reducible assumption | exact ⟨rfl⟩ | exact ⟨rfl, rfl⟩ | (refine _root_.id ?_; kernel_rfl) | omega) only [evs, ext_mv, nth, put, putT, getT, binInt, binStr, binBool, aUn, outA, resA, mapO, resA1, oneOf, w1, w2, w3, bots, cond_true, cond_false, if_true, if_false, ite_true, ite_false, reduceIte, reduceCtorEq, implies_true, Nat.reduceAdd, Nat.reduceSub, AV.int, AV.bool, AV.str, Nat.reduceBEq, Nat.reduceEqDiff, Nat.reduceMul, Nat.reduceLT, Nat.reduceLeDiff, Int.reduceNeg, BEq.rfl, beq_self_eq_true, tabl, cellsOf, fldA, ldA, stA, entAt, partA, takeN, over, leafOk, Value.oneCell', idxA, nilA, cellsEq, fillA, elemsA, pure1, pure2, reps, chkA, tys, Try.results32, KX_draw, KX_drawQ, KX_tail, lastO_one, lastO_more, dropL_one, dropL_more, callP_eq, callM_true, hb', d1, d2, d3, d4, h1, h2, d5]
        simp [befF, c2]
    · have d2 : (a != b) = true := by simpa using c2
      have c3 : a ≠ -9223372036854775808 := by
        intro h; split at hw <;> omega
      have d3 : (a != -9223372036854775808) = true := by simpa using c3
      have c4 : a.natAbs = b.natAbs := by split at hw <;> omega
      simp (maxSteps := 1000000) +contextual (disch := first | with_reducible assumption | exact ⟨rfl⟩ | exact ⟨rfl, rfl⟩ | (refine _root_.id ?_; kernel_rfl) | omega) only [evs, ext_mv, nth, put, putT, getT, binInt, binStr, binBool, aUn, outA, resA, mapO, resA1, oneOf, w1, w2, w3, bots, cond_true, cond_false, if_true, if_false, ite_true, ite_false, reduceIte, reduceCtorEq, implies_true, Nat.reduceAdd, Nat.reduceSub, AV.int, AV.bool, AV.str, Nat.reduceBEq, Nat.reduceEqDiff, Nat.reduceMul, Nat.reduceLT, Nat.reduceLeDiff, Int.reduceNeg, BEq.rfl, beq_self_eq_true, tabl, cellsOf, fldA, ldA, stA, entAt, partA, takeN, over, leafOk, Value.oneCell', idxA, nilA, cellsEq, fillA, elemsA, pure1, pure2, reps, chkA, tys, Try.results32, KX_draw, KX_drawQ, KX_tail, lastO_one, lastO_more, dropL_one, dropL_more, callP_eq, callM_true, hb', d1, d2, d3]
      simp [befF, c4]
  · have d1 : (a == b') = false := by simpa using c1
    by_cases c3 : a = -9223372036854775808
    · have d3 : (a == -9223372036854775808) = true := by simpa using c3
      by_cases c4 : b = -9223372036854775808
      · exfalso; rw [if_pos c4] at hw; omega
      · have d4 : (b == -9223372036854775808) = false := by simpa using c4
        simp (maxSteps := 1000000) +contextual (disch := first | with_reducible assumption | exact ⟨rfl⟩ | exact ⟨rfl, rfl⟩ | (refine _root_.id ?_; kernel_rfl) | omega) only [evs, ext_mv, nth, put, putT, getT, binInt, binStr, binBool, aUn, outA, resA, mapO, resA1, oneOf, w1, w2, w3, bots, cond_true, cond_false, if_true, if_false, ite_true, ite_false, reduceIte, reduceCtorEq, implies_true, Nat.reduceAdd, Nat.reduceSub, AV.int, AV.bool, AV.str, Nat.reduceBEq, Nat.reduceEqDiff, Nat.reduceMul, Nat.reduceLT, Nat.reduceLeDiff, Int.reduceNeg, BEq.rfl, beq_self_eq_true, tabl, cellsOf, fldA, ldA, stA, entAt, partA, takeN, over, leafOk, Value.oneCell', idxA, nilA, cellsEq, fillA, elemsA, pure1, pure2, reps, chkA, tys, Try.results32, KX_draw, KX_drawQ, KX_tail, lastO_one, lastO_more, dropL_one, dropL_more, callP_eq, callM_true, hb', d1, d3, d4]
        have h5 : ¬ a.natAbs = b.natAbs := by omega
        have h6 : ¬ a.natAbs < b.natAbs := by omega
        simp [befF, h5, h6]
    · have d3 : (a == -9223372036854775808) = false := by simpa using c3
      by_cases c4 : b = -9223372036854775808
      · have d4 : (b == -9223372036854775808) = true := by simpa using c4
        have d5 : (a != b) = true := by simp; omega
        simp (maxSteps := 1000000) +contextual (disch := first | with_reducible assumption | exact ⟨rfl⟩ | exact ⟨rfl, rfl⟩ | (refine _root_.id ?_; kernel_rfl) | omega) only [evs, ext_mv, nth, put, putT, getT, binInt, binStr, binBool, aUn, outA, resA, mapO, resA1, oneOf, w1, w2, w3, bots, cond_true, cond_false, if_true, if_false, ite_true, ite_false, reduceIte, reduceCtorEq, implies_true, Nat.reduceAdd, Nat.reduceSub, AV.int, AV.bool, AV.str, Nat.reduceBEq, Nat.reduceEqDiff, Nat.reduceMul, Nat.reduceLT, Nat.reduceLeDiff, Int.reduceNeg, BEq.rfl, beq_self_eq_true, tabl, cellsOf, fldA, ldA, stA, entAt, partA, takeN, over, leafOk, Value.oneCell', idxA, nilA, cellsEq, fillA, elemsA, pure1, pure2, reps, chkA, tys, Try.results32, KX_draw, KX_drawQ, KX_tail, lastO_one, lastO_more, dropL_one, dropL_more, callP_eq, callM_true, hb', d1, d3, d4, d5]
        have h5 : ¬ a.natAbs = b.natAbs := by omega
        have h6 : a.natAbs < b.natAbs := by omega
        simp [befF, h5, h6]
      · have d4 : (b == -9223372036854775808) = false := by simpa using c4
        simp (maxSteps := 1000000) +contextual (disch := first | with_reducible assumption | exact ⟨rfl⟩ | exact ⟨rfl, rfl⟩ | (refine _root_.id ?_; kernel_rfl) | omega) only [evs, ext_mv, nth, put, putT, getT, binInt, binStr, binBool, aUn, outA, resA, mapO, resA1, oneOf, w1, w2, w3, bots, cond_true, cond_false, if_true, if_false, ite_true, ite_false, reduceIte, reduceCtorEq, implies_true, Nat.reduceAdd, Nat.reduceSub, AV.int, AV.bool, AV.str, Nat.reduceBEq, Nat.reduceEqDiff, Nat.reduceMul, Nat.reduceLT, Nat.reduceLeDiff, Int.reduceNeg, BEq.rfl, beq_self_eq_true, tabl, cellsOf, fldA, ldA, stA, entAt, partA, takeN, over, leafOk, Value.oneCell', idxA, nilA, cellsEq, fillA, elemsA, pure1, pure2, reps, chkA, tys, Try.results32, KX_draw, KX_drawQ, KX_tail, lastO_one, lastO_more, dropL_one, dropL_more, callP_eq, callM_true, hb', d1, d3, d4, h1, h2]
        rw [if_neg c4] at hw
        simp only [szF, c3, c4, if_false, befF]
        split
        · rename_i h
          have h6 : ¬ b < a := by omega
          simp [h, h6]
        · simp
theorem R15_further (a b : Int) (ha : i64 a) (hb : i64 b) : cL Try.prog 29 [.int a, .int b] S tk k = some (.int (furF a b), S, tk, k) := by
  have h1 := fun S tk k => R15_size S tk k a ha
  have h2 := fun S tk k => R15_size S tk k b hb
  unfold i64 at ha hb
  refine call_pure Try.func29 rfl rfl (by decide +kernel) (by decide +kernel) Try.ntmps29 rfl rfl _ _ _ rfl ?_; rw [RK_KX]
  by_cases c3 : a = -9223372036854775808
  · have d3 : (a == -9223372036854775808) = true := by simpa using c3
    by_cases c4 : a = b
    · have d4 : (a == b) = true := by simpa using c4
      simp (maxSteps := 1000000) +contextual (disch := first | with_reducible assumption | exact ⟨rfl⟩ | exact ⟨rfl, rfl⟩ | (refine _root_.id ?_; kernel_rfl) | omega) only [evs, ext_mv, nth, put, putT, getT, binInt, binStr, binBool, aUn, outA, resA, mapO, resA1, oneOf, w1, w2, w3, bots, cond_true, cond_false, if_true, if_false, ite_true, ite_false, reduceIte, reduceCtorEq, implies_true, Nat.reduceAdd, Nat.reduceSub, AV.int, AV.bool, AV.str, Nat.reduceBEq, Nat.reduceEqDiff, Nat.reduceMul, Nat.reduceLT, Nat.reduceLeDiff, Int.reduceNeg, BEq.rfl, beq_self_eq_true, tabl, cellsOf, fldA, ldA, stA, entAt, partA, takeN, over, leafOk, Value.oneCell', idxA, nilA, cellsEq, fillA, elemsA, pure1, pure2, reps, chkA, tys, Try.results29, KX_draw, KX_drawQ, KX_tail, lastO_one, lastO_more, dropL_one, dropL_more, callP_eq, callM_true, d3, d4]
      simp [furF, c4]
    · have d4 : (a == b) = false := by simpa using c4
      simp (maxSteps := 1000000) +contextual (disch := first | with_reducible assumption | exact ⟨rfl⟩ | exact ⟨rfl, rfl⟩ | (refine _root_.id ?_; kernel_rfl) | omega) only [evs, ext_mv, nth, put, putT, getT, binInt, binStr, binBool, aUn, outA, resA, mapO, resA1, oneOf, w1, w2, w3, bots, cond_true, cond_false, if_true, if_false, ite_true, ite_false, reduceIte, reduceCtorEq, implies_true, Nat.reduceAdd, Nat.reduceSub, AV.int, AV.bool, AV.str, Nat.reduceBEq, Nat.reduceEqDiff, Nat.reduceMul, Nat.reduceLT, Nat.reduceLeDiff, Int.reduceNeg, BEq.rfl, beq_self_eq_true, tabl, cellsOf, fldA, ldA, stA, entAt, partA, takeN, over, leafOk, Value.oneCell', idxA, nilA, cellsEq, fillA, elemsA, pure1, pure2, reps, chkA, tys, Try.results29, KX_draw, KX_drawQ, KX_tail, lastO_one, lastO_more, dropL_one, dropL_more, callP_eq, callM_true, d3, d4]
      have h5 : ¬ a.natAbs < b.natAbs := by omega
      have h6 : b.natAbs < a.natAbs := by omega
      simp [furF, h5, h6]
  · have d3 : (a == -9223372036854775808) = false := by simpa using c3
    by_cases c4 : b = -9223372036854775808
    · have d4 : (b == -9223372036854775808) = true := by simpa using c4
      have d5 : (a == b) = false := by simp; omega
      simp (maxSteps := 1000000) +contextual (disch := first | with_reducible assumption | exact ⟨rfl⟩ | exact ⟨rfl, rfl⟩ | (refine _root_.id ?_; kernel_rfl) | omega) only [evs, ext_mv, nth, put, putT, getT, binInt, binStr, binBool, aUn, outA, resA, mapO, resA1, oneOf, w1, w2, w3, bots, cond_true, cond_false, if_true, if_false, ite_true, ite_false, reduceIte, reduceCtorEq, implies_true, Nat.reduceAdd, Nat.reduceSub, AV.int, AV.bool, AV.str, Nat.reduceBEq, Nat.reduceEqDiff, Nat.reduceMul, Nat.reduceLT, Nat.reduceLeDiff, Int.reduceNeg, BEq.rfl, beq_self_eq_true, tabl, cellsOf, fldA, ldA, stA, entAt, partA, takeN, over, leafOk, Value.oneCell', idxA, nilA, cellsEq, fillA, elemsA, pure1, pure2, reps, chkA, tys, Try.results29, KX_draw, KX_drawQ, KX_tail, lastO_one, lastO_more, dropL_one, dropL_more, callP_eq, callM_true, d3, d4, d5]
      have h5 : a.natAbs < b.natAbs := by omega
      simp [furF, h5]
    · have d4 : (b == -9223372036854775808) = false := by simpa using c4
      have ea : szF a = a.natAbs := by simp [szF, c3]
      have eb : szF b = b.natAbs := by simp [szF, c4]
      rw [ea] at h1
      rw [eb] at h2
      by_cases c5 : a.natAbs < b.natAbs
      · have d5 : decide ((a.natAbs : Int) < (b.natAbs : Int)) = true := by simp; omega
        simp (maxSteps := 1000000) +contextual (disch := first | with_reducible assumption | exact ⟨rfl⟩ | exact ⟨rfl, rfl⟩ | (refine _root_.id ?_; kernel_rfl) | omega) only [evs, ext_mv, nth, put, putT, getT, binInt, binStr, binBool, aUn, outA, resA, mapO, resA1, oneOf, w1, w2, w3, bots, cond_true, cond_false, if_true, if_false, ite_true, ite_false, reduceIte, reduceCtorEq, implies_true, Nat.reduceAdd, Nat.reduceSub, AV.int, AV.bool, AV.str, Nat.reduceBEq, Nat.reduceEqDiff, Nat.reduceMul, Nat.reduceLT, Nat.reduceLeDiff, Int.reduceNeg, BEq.rfl, beq_self_eq_true, tabl, cellsOf, fldA, ldA, stA, entAt, partA, takeN, over, leafOk, Value.oneCell', idxA, nilA, cellsEq, fillA, elemsA, pure1, pure2, reps, chkA, tys, Try.results29, KX_draw, KX_drawQ, KX_tail, lastO_one, lastO_more, dropL_one, dropL_more, callP_eq, callM_true, d3, d4, h1, h2, d5]
        simp [furF, c5]
      · have d5 : decide ((a.natAbs : Int) < (b.natAbs : Int)) = false := by simp; omega
        by_cases c6 : b.natAbs < a.natAbs
        · have d6 : decide ((a.natAbs : Int) > (b.natAbs : Int)) = true := by simp; omega
          simp (maxSteps := 1000000) +contextual (disch := first | with_reducible assumption | exact ⟨rfl⟩ | exact ⟨rfl, rfl⟩ | (refine _root_.id ?_; kernel_rfl) | omega) only [evs, ext_mv, nth, put, putT, getT, binInt, binStr, binBool, aUn, outA, resA, mapO, resA1, oneOf, w1, w2, w3, bots, cond_true, cond_false, if_true, if_false, ite_true, ite_false, reduceIte, reduceCtorEq, implies_true, Nat.reduceAdd, Nat.reduceSub, AV.int, AV.bool, AV.str, Nat.reduceBEq, Nat.reduceEqDiff, Nat.reduceMul, Nat.reduceLT, Nat.reduceLeDiff, Int.reduceNeg, BEq.rfl, beq_self_eq_true, tabl, cellsOf, fldA, ldA, stA, entAt, partA, takeN, over, leafOk, Value.oneCell', idxA, nilA, cellsEq, fillA, elemsA, pure1, pure2, reps, chkA, tys, Try.results29, KX_draw, KX_drawQ, KX_tail, lastO_one, lastO_more, dropL_one, dropL_more, callP_eq, callM_true, d3, d4, h1, h2, d5, d6]
          simp [furF, c5, c6]
        · have d6 : decide ((a.natAbs : Int) > (b.natAbs : Int)) = false := by simp; omega
          simp (maxSteps := 1000000) +contextual (disch := first | with_reducible assumption | exact ⟨rfl⟩ | exact ⟨rfl, rfl⟩ | (refine _root_.id ?_; kernel_rfl) | omega) only [evs, ext_mv, nth, put, putT, getT, binInt, binStr, binBool, aUn, outA, resA, mapO, resA1, oneOf, w1, w2, w3, bots, cond_true, cond_false, if_true, if_false, ite_true, ite_false, reduceIte, reduceCtorEq, implies_true, Nat.reduceAdd, Nat.reduceSub, AV.int, AV.bool, AV.str, Nat.reduceBEq, Nat.reduceEqDiff, Nat.reduceMul, Nat.reduceLT, Nat.reduceLeDiff, Int.reduceNeg, BEq.rfl, beq_self_eq_true, tabl, cellsOf, fldA, ldA, stA, entAt, partA, takeN, over, leafOk, Value.oneCell', idxA, nilA, cellsEq, fillA, elemsA, pure1, pure2, reps, chkA, tys, Try.results29, KX_draw, KX_drawQ, KX_tail, lastO_one, lastO_more, dropL_one, dropL_more, callP_eq, callM_true, d3, d4, h1, h2, d5, d6]
          simp [furF, c5, c6]
theorem R15_radius (pt : Pt) (hlen : pt.length ≤ 1048576) (hp : PtI pt) : cL Try.prog 30 [coefsA pt] S tk k = some (.int (radR pt 0 pt), S, tk, k) := by
  refine call_pure Try.func30 rfl rfl (by decide +kernel) (by decide +kernel) Try.ntmps30 rfl rfl _ _ _ rfl ?_; rw [RK_KX]
  simp (maxSteps := 1000000) +contextual (disch := first | with_reducible assumption | exact ⟨rfl⟩ | exact ⟨rfl, rfl⟩ | (refine _root_.id ?_; kernel_rfl) | omega) only [evs, ext_mv, nth, put, putT, getT, binInt, binStr, binBool, aUn, outA, resA, mapO, resA1, oneOf, w1, w2, w3, bots, cond_true, cond_false, if_true, if_false, ite_true, ite_false, reduceIte, reduceCtorEq, implies_true, Nat.reduceAdd, Nat.reduceSub, AV.int, AV.bool, AV.str, Nat.reduceBEq, Nat.reduceEqDiff, Nat.reduceMul, Nat.reduceLT, Nat.reduceLeDiff, Int.reduceNeg, BEq.rfl, beq_self_eq_true, tabl, cellsOf, fldA, ldA, stA, entAt, partA, takeN, over, leafOk, Value.oneCell', idxA, nilA, cellsEq, fillA, elemsA, pure1, pure2, reps, chkA, tys, Try.results30, KX_draw, KX_drawQ, KX_tail, lastO_one, lastO_more, dropL_one, dropL_more, callP_eq, callM_true, coefsA]
  refine loop1 (P := Try.prog) (fun x st => st.T.length = 35 ∧ (x.1 ≤ pt.length) ∧ (i64 x.2) ∧ (radR pt 0 pt = radR pt x.2 (pt.drop x.1)) ∧ getT st.T 0 = coefsA pt ∧ getT st.T 3 = .int x.2 ∧ getT st.T 4 = .int (x.1 : Nat) ∧ st.S = []) (fun x => pt.length - x.1) (fun x => .int (radR pt 0 pt)) (0, 0) ?_ ?_
  case refine_2 => exact ⟨rfl, Nat.zero_le _, by simp [i64], rfl, rfl, rfl, rfl, rfl⟩
  rintro ⟨i, n⟩ ⟨T, S', tk', n'⟩ ⟨hl, hi, hn, hE, e0, e3, e4, eS⟩ IH
  simp only at hi hn hE e0 e3 e4 eS
  subst eS
  obtain ⟨g, hg, hT⟩ := tab_of hl
  rw [hg] at e0 e3 e4
  subst hT
  clear hg hl
  have hiw := wrap_add (i := i) (m := 0) (by omega)
  by_cases hlt : i < pt.length
  · have d1 : decide ((i : Int) < (pt.length : Int)) = true := by simpa using hlt
    obtain ⟨c, hc⟩ := nth_some hlt
    have hc' : nth (pt.map coefC) i = some (coefC c) := by rw [nth_map, hc]; rfl
    have hC := fun S tk k => R15_coordinate S tk k pt c.1 hlen
    have hm := findS_i64 hp c.1
    simp only [coefC] at hc'
    simp only [coefsA] at hC
    rw [nth_drop hc, radR] at hE
    generalize findS c.1 pt = m at *
    have hB := fun S tk k => R15_before S tk k n m hn hm
    have hZ1 := fun S tk k => R15_size S tk k n hn
    have hZ2 := fun S tk k => R15_size S tk k m hm
    have hn' := hn
    have hm' := hm
    unfold i64 at hn' hm'
    cases hb : befF n m with
    | false =>
      have h0 : ¬ n.natAbs < m.natAbs := by
        unfold befF at hb
        split at hb
        · omega
        · simpa using hb
      rw [if_neg h0] at hE
      simp (maxSteps := 1000000) +contextual (disch := first | with_reducible assumption | exact ⟨rfl⟩ | exact ⟨rfl, rfl⟩ | (refine _root_.id ?_; kernel_rfl) | omega) only [evs, ext_mv, nth, put, putT, getT, binInt, binStr, binBool, aUn, outA, resA, mapO, resA1, oneOf, w1, w2, w3, bots, cond_true, cond_false, if_true, if_false, ite_true, ite_false, reduceIte, reduceCtorEq, implies_true, Nat.reduceAdd, Nat.reduceSub, AV.int, AV.bool, AV.str, Nat.reduceBEq, Nat.reduceEqDiff, Nat.reduceMul, Nat.reduceLT, Nat.reduceLeDiff, Int.reduceNeg, BEq.rfl, beq_self_eq_true, tabl, cellsOf, fldA, ldA, stA, entAt, partA, takeN, over, leafOk, Value.oneCell', idxA, nilA, cellsEq, fillA, elemsA, pure1, pure2, reps, chkA, tys, Try.results30, KX_draw, KX_drawQ, KX_tail, lastO_one, lastO_more, dropL_one, dropL_more, callP_eq, callM_true, e0, e3, e4, d1, coefsA, hc', hiw, hC, hB, hb]
      exact IH (i + 1, n) _ (by first | omega | (simp only; omega)) ⟨rfl, by first | omega | (dsimp only; omega), hn, hE, rfl, rfl, rfl, rfl⟩
    | true =>
      have hb' : n.natAbs < m.natAbs ∨ m < n := by
        unfold befF at hb
        split at hb
        · right; simpa using hb
        · left; simpa using hb
      by_cases hs : szF m > szF n
      · have ds : decide (szF m > szF n) = true := by simpa using hs
        have h0 : n.natAbs < m.natAbs := by
          unfold szF at hs
          split at hs <;> split at hs <;> omega
        rw [if_pos h0] at hE
        simp (maxSteps := 1000000) +contextual (disch := first | with_reducible assumption | exact ⟨rfl⟩ | exact ⟨rfl, rfl⟩ | (refine _root_.id ?_; kernel_rfl) | omega) only [evs, ext_mv, nth, put, putT, getT, binInt, binStr, binBool, aUn, outA, resA, mapO, resA1, oneOf, w1, w2, w3, bots, cond_true, cond_false, if_true, if_false, ite_true, ite_false, reduceIte, reduceCtorEq, implies_true, Nat.reduceAdd, Nat.reduceSub, AV.int, AV.bool, AV.str, Nat.reduceBEq, Nat.reduceEqDiff, Nat.reduceMul, Nat.reduceLT, Nat.reduceLeDiff, Int.reduceNeg, BEq.rfl, beq_self_eq_true, tabl, cellsOf, fldA, ldA, stA, entAt, partA, takeN, over, leafOk, Value.oneCell', idxA, nilA, cellsEq, fillA, elemsA, pure1, pure2, reps, chkA, tys, Try.results30, KX_draw, KX_drawQ, KX_tail, lastO_one, lastO_more, dropL_one, dropL_more, callP_eq, callM_true, e0, e3, e4, d1, coefsA, hc', hiw, hC, hB, hb, hZ1, hZ2, ds]
        exact IH (i + 1, m) _ (by first | omega | (simp only; omega)) ⟨rfl, by first | omega | (dsimp only; omega), hm, hE, rfl, rfl, rfl, rfl⟩
      · have ds : decide (szF m > szF n) = false := by simpa using hs
        by_cases hx : m = -9223372036854775808
        · have dx : (m == -9223372036854775808) = true := by simpa using hx
          have h0 : n.natAbs < m.natAbs := by omega
          rw [if_pos h0] at hE
          simp (maxSteps := 1000000) +contextual (disch := first | with_reducible assumption | exact ⟨rfl⟩ | exact ⟨rfl, rfl⟩ | (refine _root_.id ?_; kernel_rfl) | omega) only [evs, ext_mv, nth, put, putT, getT, binInt, binStr, binBool, aUn, outA, resA, mapO, resA1, oneOf, w1, w2, w3, bots, cond_true, cond_false, if_true, if_false, ite_true, ite_false, reduceIte, reduceCtorEq, implies_true, Nat.reduceAdd, Nat.reduceSub, AV.int, AV.bool, AV.str, Nat.reduceBEq, Nat.reduceEqDiff, Nat.reduceMul, Nat.reduceLT, Nat.reduceLeDiff, Int.reduceNeg, BEq.rfl, beq_self_eq_true, tabl, cellsOf, fldA, ldA, stA, entAt, partA, takeN, over, leafOk, Value.oneCell', idxA, nilA, cellsEq, fillA, elemsA, pure1, pure2, reps, chkA, tys, Try.results30, KX_draw, KX_drawQ, KX_tail, lastO_one, lastO_more, dropL_one, dropL_more, callP_eq, callM_true, e0, e3, e4, d1, coefsA, hc', hiw, hC, hB, hb, hZ1, hZ2, ds, dx]
          exact IH (i + 1, m) _ (by first | omega | (simp only; omega)) ⟨rfl, by first | omega | (dsimp only; omega), hm, hE, rfl, rfl, rfl, rfl⟩
        · have dx : (m == -9223372036854775808) = false := by simpa using hx
          have h0 : ¬ n.natAbs < m.natAbs := by
            unfold szF at hs
            split at hs <;> split at hs <;> omega
          rw [if_neg h0] at hE
          simp (maxSteps := 1000000) +contextual (disch := first | with_reducible assumption | exact ⟨rfl⟩ | exact ⟨rfl, rfl⟩ | (refine _root_.id ?_; kernel_rfl) | omega) only [evs, ext_mv, nth, put, putT, getT, binInt, binStr, binBool, aUn, outA, resA, mapO, resA1, oneOf, w1, w2, w3, bots, cond_true, cond_false, if_true, if_false, ite_true, ite_false, reduceIte, reduceCtorEq, implies_true, Nat.reduceAdd, Nat.reduceSub, AV.int, AV.bool, AV.str, Nat.reduceBEq, Nat.reduceEqDiff, Nat.reduceMul, Nat.reduceLT, Nat.reduceLeDiff, Int.reduceNeg, BEq.rfl, beq_self_eq_true, tabl, cellsOf, fldA, ldA, stA, entAt, partA, takeN, over, leafOk, Value.oneCell', idxA, nilA, cellsEq, fillA, elemsA, pure1, pure2, reps, chkA, tys, Try.results30, KX_draw, KX_drawQ, KX_tail, lastO_one, lastO_more, dropL_one, dropL_more, callP_eq, callM_true, e0, e3, e4, d1, coefsA, hc', hiw, hC, hB, hb, hZ1, hZ2, ds, dx]
          exact IH (i + 1, n) _ (by first | omega | (simp only; omega)) ⟨rfl, by first | omega | (dsimp only; omega), hn, hE, rfl, rfl, rfl, rfl⟩
  · have d1 : decide ((i : Int) < (pt.length : Int)) = false := by simpa using hlt
    have hie : i = pt.length := by omega
    rw [hie, List.drop_length] at hE
    simp (maxSteps := 1000000) +contextual (disch := first | with_reducible assumption | exact ⟨rfl⟩ | exact ⟨rfl, rfl⟩ | (refine _root_.id ?_; kernel_rfl) | omega) only [evs, ext_mv, nth, put, putT, getT, binInt, binStr, binBool, aUn, outA, resA, mapO, resA1, oneOf, w1, w2, w3, bots, cond_true, cond_false, if_true, if_false, ite_true, ite_false, reduceIte, reduceCtorEq, implies_true, Nat.reduceAdd, Nat.reduceSub, AV.int, AV.bool, AV.str, Nat.reduceBEq, Nat.reduceEqDiff, Nat.reduceMul, Nat.reduceLT, Nat.reduceLeDiff, Int.reduceNeg, BEq.rfl, beq_self_eq_true, tabl, cellsOf, fldA, ldA, stA, entAt, partA, takeN, over, leafOk, Value.oneCell', idxA, nilA, cellsEq, fillA, elemsA, pure1, pure2, reps, chkA, tys, Try.results30, KX_draw, KX_drawQ, KX_tail, lastO_one, lastO_more, dropL_one, dropL_more, callP_eq, callM_true, e0, e3, e4, d1, coefsA]
    rw [hE]; rfl
theorem R15_smallest (a b : Pt) (ha : a.length ≤ 100000) (hb : b.length ≤ 100000) : cL Try.prog 31 [coefsA a, coefsA b] S tk k = some (.tup [.str (strO (leastG a b none (a ++ b))), .bool (leastG a b none (a ++ b)).isSome], S, tk, k) := by
  have hwl : IntKind.i64.wrap ((a.length : Int) + (b.length : Int)) = ((a.length + b.length : Nat) : Int) := by rw [wrap_of (by unfold i64; omega)]; omega
  refine call_pure Try.func31 rfl rfl (by decide +kernel) (by decide +kernel) Try.ntmps31 rfl rfl _ _ _ rfl ?_; rw [RK_KX]
  simp (maxSteps := 1000000) +contextual (disch := first | with_reducible assumption | exact ⟨rfl⟩ | exact ⟨rfl, rfl⟩ | (refine _root_.id ?_; kernel_rfl) | omega) only [evs, ext_mv, nth, put, putT, getT, binInt, binStr, binBool, aUn, outA, resA, mapO, resA1, oneOf, w1, w2, w3, bots, cond_true, cond_false, if_true, if_false, ite_true, ite_false, reduceIte, reduceCtorEq, implies_true, Nat.reduceAdd, Nat.reduceSub, AV.int, AV.bool, AV.str, Nat.reduceBEq, Nat.reduceEqDiff, Nat.reduceMul, Nat.reduceLT, Nat.reduceLeDiff, Int.reduceNeg, BEq.rfl, beq_self_eq_true, tabl, cellsOf, fldA, ldA, stA, entAt, partA, takeN, over, leafOk, Value.oneCell', idxA, nilA, cellsEq, fillA, elemsA, pure1, pure2, reps, chkA, tys, Try.results31, KX_draw, KX_drawQ, KX_tail, lastO_one, lastO_more, dropL_one, dropL_more, callP_eq, callM_true, coefsA]
  refine loop1 (P := Try.prog) (fun x st => st.T.length = 55 ∧ (x.1 ≤ a.length + b.length) ∧ (leastG a b none (a ++ b) = leastG a b x.2 ((a ++ b).drop x.1)) ∧ getT st.T 0 = coefsA a ∧ getT st.T 1 = coefsA b ∧ getT st.T 6 = .str (strO x.2) ∧ getT st.T 7 = .bool x.2.isSome ∧ getT st.T 8 = .int (x.1 : Nat) ∧ st.S = []) (fun x => a.length + b.length - x.1) (fun x => .tup [.str (strO (leastG a b none (a ++ b))), .bool (leastG a b none (a ++ b)).isSome]) (0, (none : Option ByteArray)) ?_ ?_
  case refine_2 => exact ⟨rfl, Nat.zero_le _, rfl, rfl, rfl, rfl, rfl, rfl, rfl⟩
  rintro ⟨i, o⟩ ⟨T, S', tk', n'⟩ ⟨hl, hi, hE, e0, e1, e6, e7, e8, eS⟩ IH
  simp only at hi hE e0 e1 e6 e7 e8 eS
  subst eS
  obtain ⟨g, hg, hT⟩ := tab_of hl
  rw [hg] at e0 e1 e6 e7 e8
  subst hT
  clear hg hl
  have hiw := wrap_add (i := i) (m := 0) (by omega)
  by_cases hlt : i < a.length + b.length
  · have d1 : decide ((i : Int) < ((a.length + b.length : Nat) : Int)) = true := by simp; omega
    obtain ⟨c, hc⟩ := nth_some (show i < (a ++ b).length by rw [List.length_append]; exact hlt)
    rw [nth_drop hc, leastG] at hE
    have hCa := fun S tk k => R15_coordinate S tk k a c.1 (by omega)
    have hCb := fun S tk k => R15_coordinate S tk k b c.1 (by omega)
    simp only [coefsA] at hCa hCb
    have stepf : ∀ (d : Bool), (findS c.1 a != findS c.1 b) = d → ∀ (q : Bool), lessO o c.1 = q → leastG a b none (a ++ b) = leastG a b (if (d && q) = true then some c.1 else o) ((a ++ b).drop (i + 1)) := by
      intro d hd q hq; rw [hE, hd, hq]
    by_cases hia : i < a.length
    · have d2 : decide ((i : Int) < (a.length : Int)) = true := by simpa using hia
      have hc' : nth (a.map coefC) i = some (coefC c) := by
        rw [nth_map, nth_get]
        rw [nth_get, List.getElem?_append_left hia] at hc
        rw [hc]; rfl
      simp only [coefC] at hc'
      cases hd : (findS c.1 a != findS c.1 b) with
      | false =>
        simp (maxSteps := 1000000) +contextual (disch := first | with_reducible assumption | exact ⟨rfl⟩ | exact ⟨rfl, rfl⟩ | (refine _root_.id ?_; kernel_rfl) | omega) only [evs, ext_mv, nth, put, putT, getT, binInt, binStr, binBool, aUn, outA, resA, mapO, resA1, oneOf, w1, w2, w3, bots, cond_true, cond_false, if_true, if_false, ite_true, ite_false, reduceIte, reduceCtorEq, implies_true, Nat.reduceAdd, Nat.reduceSub, AV.int, AV.bool, AV.str, Nat.reduceBEq, Nat.reduceEqDiff, Nat.reduceMul, Nat.reduceLT, Nat.reduceLeDiff, Int.reduceNeg, BEq.rfl, beq_self_eq_true, tabl, cellsOf, fldA, ldA, stA, entAt, partA, takeN, over, leafOk, Value.oneCell', idxA, nilA, cellsEq, fillA, elemsA, pure1, pure2, reps, chkA, tys, Try.results31, KX_draw, KX_drawQ, KX_tail, lastO_one, lastO_more, dropL_one, dropL_more, callP_eq, callM_true, e0, e1, e6, e7, e8, d1, d2, coefsA, hc', hiw, hwl, hCa, hCb, hd]
        exact IH (i + 1, o) _ (by first | omega | (simp only; omega)) ⟨rfl, by first | omega | (dsimp only; omega), stepf false hd _ rfl, rfl, rfl, rfl, rfl, rfl, rfl⟩
      | true =>
        cases o with
        | none =>
          simp (maxSteps := 1000000) +contextual (disch := first | with_reducible assumption | exact ⟨rfl⟩ | exact ⟨rfl, rfl⟩ | (refine _root_.id ?_; kernel_rfl) | omega) only [evs, ext_mv, nth, put, putT, getT, binInt, binStr, binBool, aUn, outA, resA, mapO, resA1, oneOf, w1, w2, w3, bots, cond_true, cond_false, if_true, if_false, ite_true, ite_false, reduceIte, reduceCtorEq, implies_true, Nat.reduceAdd, Nat.reduceSub, AV.int, AV.bool, AV.str, Nat.reduceBEq, Nat.reduceEqDiff, Nat.reduceMul, Nat.reduceLT, Nat.reduceLeDiff, Int.reduceNeg, BEq.rfl, beq_self_eq_true, tabl, cellsOf, fldA, ldA, stA, entAt, partA, takeN, over, leafOk, Value.oneCell', idxA, nilA, cellsEq, fillA, elemsA, pure1, pure2, reps, chkA, tys, Try.results31, KX_draw, KX_drawQ, KX_tail, lastO_one, lastO_more, dropL_one, dropL_more, callP_eq, callM_true, e0, e1, e6, e7, e8, d1, d2, coefsA, hc', hiw, hwl, hCa, hCb, hd, Option.isSome]
          exact IH (i + 1, some c.1) _ (by first | omega | (simp only; omega)) ⟨rfl, by first | omega | (dsimp only; omega), stepf true hd true rfl, rfl, rfl, rfl, rfl, rfl, rfl⟩
        | some t =>
          cases hs : sLt c.1 t with
          | true =>
            simp (maxSteps := 1000000) +contextual (disch := first | with_reducible assumption | exact ⟨rfl⟩ | exact ⟨rfl, rfl⟩ | (refine _root_.id ?_; kernel_rfl) | omega) only [evs, ext_mv, nth, put, putT, getT, binInt, binStr, binBool, aUn, outA, resA, mapO, resA1, oneOf, w1, w2, w3, bots, cond_true, cond_false, if_true, if_false, ite_true, ite_false, reduceIte, reduceCtorEq, implies_true, Nat.reduceAdd, Nat.reduceSub, AV.int, AV.bool, AV.str, Nat.reduceBEq, Nat.reduceEqDiff, Nat.reduceMul, Nat.reduceLT, Nat.reduceLeDiff, Int.reduceNeg, BEq.rfl, beq_self_eq_true, tabl, cellsOf, fldA, ldA, stA, entAt, partA, takeN, over, leafOk, Value.oneCell', idxA, nilA, cellsEq, fillA, elemsA, pure1, pure2, reps, chkA, tys, Try.results31, KX_draw, KX_drawQ, KX_tail, lastO_one, lastO_more, dropL_one, dropL_more, callP_eq, callM_true, e0, e1, e6, e7, e8, d1, d2, coefsA, hc', hiw, hwl, hCa, hCb, hd, Option.isSome, strO, hs]
            exact IH (i + 1, some c.1) _ (by first | omega | (simp only; omega)) ⟨rfl, by first | omega | (dsimp only; omega), stepf true hd true hs, rfl, rfl, rfl, rfl, rfl, rfl⟩
          | false =>
            simp (maxSteps := 1000000) +contextual (disch := first | with_reducible assumption | exact ⟨rfl⟩ | exact ⟨rfl, rfl⟩ | (refine _root_.id ?_; kernel_rfl) | omega) only [evs, ext_mv, nth, put, putT, getT, binInt, binStr, binBool, aUn, outA, resA, mapO, resA1, oneOf, w1, w2, w3, bots, cond_true, cond_false, if_true, if_false, ite_true, ite_false, reduceIte, reduceCtorEq, implies_true, Nat.reduceAdd, Nat.reduceSub, AV.int, AV.bool, AV.str, Nat.reduceBEq, Nat.reduceEqDiff, Nat.reduceMul, Nat.reduceLT, Nat.reduceLeDiff, Int.reduceNeg, BEq.rfl, beq_self_eq_true, tabl, cellsOf, fldA, ldA, stA, entAt, partA, takeN, over, leafOk, Value.oneCell', idxA, nilA, cellsEq, fillA, elemsA, pure1, pure2, reps, chkA, tys, Try.results31, KX_draw, KX_drawQ, KX_tail, lastO_one, lastO_more, dropL_one, dropL_more, callP_eq, callM_true, e0, e1, e6, e7, e8, d1, d2, coefsA, hc', hiw, hwl, hCa, hCb, hd, Option.isSome, strO, hs]
            exact IH (i + 1, some t) _ (by first | omega | (simp only; omega)) ⟨rfl, by first | omega | (dsimp only; omega), stepf true hd false hs, rfl, rfl, rfl, rfl, rfl, rfl⟩
    · have d2 : decide ((i : Int) < (a.length : Int)) = false := by simpa using hia
      have hws : IntKind.i64.wrap ((i : Int) - (a.length : Int)) = ((i - a.length : Nat) : Int) := by rw [wrap_of (by unfold i64; omega)]; omega
      have hc' : nth (b.map coefC) (i - a.length) = some (coefC c) := by
        rw [nth_map, nth_get]
        rw [nth_get, List.getElem?_append_right (by omega)] at hc
        rw [hc]; rfl
      simp only [coefC] at hc'
      cases hd : (findS c.1 a != findS c.1 b) with
      | false =>
        simp (maxSteps := 1000000) +contextual (disch := first | with_reducible assumption | exact ⟨rfl⟩ | exact ⟨rfl, rfl⟩ | (refine _root_.id ?_; kernel_rfl) | omega) only [evs, ext_mv, nth, put, putT, getT, binInt, binStr, binBool, aUn, outA, resA, mapO, resA1, oneOf, w1, w2, w3, bots, cond_true, cond_false, if_true, if_false, ite_true, ite_false, reduceIte, reduceCtorEq, implies_true, Nat.reduceAdd, Nat.reduceSub, AV.int, AV.bool, AV.str, Nat.reduceBEq, Nat.reduceEqDiff, Nat.reduceMul, Nat.reduceLT, Nat.reduceLeDiff, Int.reduceNeg, BEq.rfl, beq_self_eq_true, tabl, cellsOf, fldA, ldA, stA, entAt, partA, takeN, over, leafOk, Value.oneCell', idxA, nilA, cellsEq, fillA, elemsA, pure1, pure2, reps, chkA, tys, Try.results31, KX_draw, KX_drawQ, KX_tail, lastO_one, lastO_more, dropL_one, dropL_more, callP_eq, callM_true, e0, e1, e6, e7, e8, d1, d2, coefsA, hc', hiw, hwl, hws, hCa, hCb, hd]
        exact IH (i + 1, o) _ (by first | omega | (simp only; omega)) ⟨rfl, by first | omega | (dsimp only; omega), stepf false hd _ rfl, rfl, rfl, rfl, rfl, rfl, rfl⟩
      | true =>
        cases o with
        | none =>
          simp (maxSteps := 1000000) +contextual (disch := first | with_reducible assumption | exact ⟨rfl⟩ | exact ⟨rfl, rfl⟩ | (refine _root_.id ?_; kernel_rfl) | omega) only [evs, ext_mv, nth, put, putT, getT, binInt, binStr, binBool, aUn, outA, resA, mapO, resA1, oneOf, w1, w2, w3, bots, cond_true, cond_false, if_true, if_false, ite_true, ite_false, reduceIte, reduceCtorEq, implies_true, Nat.reduceAdd, Nat.reduceSub, AV.int, AV.bool, AV.str, Nat.reduceBEq, Nat.reduceEqDiff, Nat.reduceMul, Nat.reduceLT, Nat.reduceLeDiff, Int.reduceNeg, BEq.rfl, beq_self_eq_true, tabl, cellsOf, fldA, ldA, stA, entAt, partA, takeN, over, leafOk, Value.oneCell', idxA, nilA, cellsEq, fillA, elemsA, pure1, pure2, reps, chkA, tys, Try.results31, KX_draw, KX_drawQ, KX_tail, lastO_one, lastO_more, dropL_one, dropL_more, callP_eq, callM_true, e0, e1, e6, e7, e8, d1, d2, coefsA, hc', hiw, hwl, hws, hCa, hCb, hd, Option.isSome]
          exact IH (i + 1, some c.1) _ (by first | omega | (simp only; omega)) ⟨rfl, by first | omega | (dsimp only; omega), stepf true hd true rfl, rfl, rfl, rfl, rfl, rfl, rfl⟩
        | some t =>
          cases hs : sLt c.1 t with
          | true =>
            simp (maxSteps := 1000000) +contextual (disch := first | with_reducible assumption | exact ⟨rfl⟩ | exact ⟨rfl, rfl⟩ | (refine _root_.id ?_; kernel_rfl) | omega) only [evs, ext_mv, nth, put, putT, getT, binInt, binStr, binBool, aUn, outA, resA, mapO, resA1, oneOf, w1, w2, w3, bots, cond_true, cond_false, if_true, if_false, ite_true, ite_false, reduceIte, reduceCtorEq, implies_true, Nat.reduceAdd, Nat.reduceSub, AV.int, AV.bool, AV.str, Nat.reduceBEq, Nat.reduceEqDiff, Nat.reduceMul, Nat.reduceLT, Nat.reduceLeDiff, Int.reduceNeg, BEq.rfl, beq_self_eq_true, tabl, cellsOf, fldA, ldA, stA, entAt, partA, takeN, over, leafOk, Value.oneCell', idxA, nilA, cellsEq, fillA, elemsA, pure1, pure2, reps, chkA, tys, Try.results31, KX_draw, KX_drawQ, KX_tail, lastO_one, lastO_more, dropL_one, dropL_more, callP_eq, callM_true, e0, e1, e6, e7, e8, d1, d2, coefsA, hc', hiw, hwl, hws, hCa, hCb, hd, Option.isSome, strO, hs]
            exact IH (i + 1, some c.1) _ (by first | omega | (simp only; omega)) ⟨rfl, by first | omega | (dsimp only; omega), stepf true hd true hs, rfl, rfl, rfl, rfl, rfl, rfl⟩
          | false =>
            simp (maxSteps := 1000000) +contextual (disch := first | with_reducible assumption | exact ⟨rfl⟩ | exact ⟨rfl, rfl⟩ | (refine _root_.id ?_; kernel_rfl) | omega) only [evs, ext_mv, nth, put, putT, getT, binInt, binStr, binBool, aUn, outA, resA, mapO, resA1, oneOf, w1, w2, w3, bots, cond_true, cond_false, if_true, if_false, ite_true, ite_false, reduceIte, reduceCtorEq, implies_true, Nat.reduceAdd, Nat.reduceSub, AV.int, AV.bool, AV.str, Nat.reduceBEq, Nat.reduceEqDiff, Nat.reduceMul, Nat.reduceLT, Nat.reduceLeDiff, Int.reduceNeg, BEq.rfl, beq_self_eq_true, tabl, cellsOf, fldA, ldA, stA, entAt, partA, takeN, over, leafOk, Value.oneCell', idxA, nilA, cellsEq, fillA, elemsA, pure1, pure2, reps, chkA, tys, Try.results31, KX_draw, KX_drawQ, KX_tail, lastO_one, lastO_more, dropL_one, dropL_more, callP_eq, callM_true, e0, e1, e6, e7, e8, d1, d2, coefsA, hc', hiw, hwl, hws, hCa, hCb, hd, Option.isSome, strO, hs]
            exact IH (i + 1, some t) _ (by first | omega | (simp only; omega)) ⟨rfl, by first | omega | (dsimp only; omega), stepf true hd false hs, rfl, rfl, rfl, rfl, rfl, rfl⟩
  · have d1 : decide ((i : Int) < ((a.length + b.length : Nat) : Int)) = false := by simp; omega
    have hie : i = (a ++ b).length := by rw [List.length_append]; omega
    rw [hie, List.drop_length, leastG] at hE
    simp (maxSteps := 1000000) +contextual (disch := first | with_reducible assumption | exact ⟨rfl⟩ | exact ⟨rfl, rfl⟩ | (refine _root_.id ?_; kernel_rfl) | omega) only [evs, ext_mv, nth, put, putT, getT, binInt, binStr, binBool, aUn, outA, resA, mapO, resA1, oneOf, w1, w2, w3, bots, cond_true, cond_false, if_true, if_false, ite_true, ite_false, reduceIte, reduceCtorEq, implies_true, Nat.reduceAdd, Nat.reduceSub, AV.int, AV.bool, AV.str, Nat.reduceBEq, Nat.reduceEqDiff, Nat.reduceMul, Nat.reduceLT, Nat.reduceLeDiff, Int.reduceNeg, BEq.rfl, beq_self_eq_true, tabl, cellsOf, fldA, ldA, stA, entAt, partA, takeN, over, leafOk, Value.oneCell', idxA, nilA, cellsEq, fillA, elemsA, pure1, pure2, reps, chkA, tys, Try.results31, KX_draw, KX_drawQ, KX_tail, lastO_one, lastO_more, dropL_one, dropL_more, callP_eq, callM_true, e0, e1, e6, e7, e8, d1, coefsA, hwl]
    rw [hE]; exact ⟨rfl, rfl⟩
theorem rad_eq (pt : Pt) : (radR pt 0 pt).natAbs = radF pt := radR_abs pt pt 0
theorem R15_Order (a b : Pt) (ha : a.length ≤ 100000) (hb : b.length ≤ 100000) (ia : PtI a) (ib : PtI b) : cL Try.prog 15 [coefsA a, coefsA b] S tk k = some (.int (ordF a b), S, tk, k) := by
  have z0 : i64 0 := by simp [i64]
  have r1 := fun S tk k => R15_radius S tk k a (by omega) ia
  have r2 := fun S tk k => R15_radius S tk k b (by omega) ib
  have hF := fun S tk k => R15_further S tk k (radR a 0 a) (radR b 0 b) (radR_i64 ia a 0 z0) (radR_i64 ib b 0 z0)
  have hS := fun S tk k => R15_smallest S tk k a b ha hb
  have hfu : furF (radR a 0 a) (radR b 0 b) = if radF a < radF b then -1 else if radF b < radF a then 1 else 0 := by unfold furF; rw [rad_eq, rad_eq]
  rw [hfu] at hF
  clear hfu
  simp only [coefsA] at r1 r2 hS
  unfold ordF
  refine call_pure Try.func15 rfl rfl (by decide +kernel) (by decide +kernel) Try.ntmps15 rfl rfl _ _ _ rfl ?_; rw [RK_KX]
  by_cases c1 : radF a < radF b
  · rw [if_pos c1] at hF ⊢
    have dn : ((-1 : Int) != 0) = true := rfl
    simp (maxSteps := 1000000) +contextual (disch := first | with_reducible assumption | exact ⟨rfl⟩ | exact ⟨rfl, rfl⟩ | (refine _root_.id ?_; kernel_rfl) | omega) only [evs, ext_mv, nth, put, putT, getT, binInt, binStr, binBool, aUn, outA, resA, mapO, resA1, oneOf, w1, w2, w3, bots, cond_true, cond_false, if_true, if_false, ite_true, ite_false, reduceIte, reduceCtorEq, implies_true, Nat.reduceAdd, Nat.reduceSub, AV.int, AV.bool, AV.str, Nat.reduceBEq, Nat.reduceEqDiff, Nat.reduceMul, Nat.reduceLT, Nat.reduceLeDiff, Int.reduceNeg, BEq.rfl, beq_self_eq_true, tabl, cellsOf, fldA, ldA, stA, entAt, partA, takeN, over, leafOk, Value.oneCell', idxA, nilA, cellsEq, fillA, elemsA, pure1, pure2, reps, chkA, tys, Try.results15, KX_draw, KX_drawQ, KX_tail, lastO_one, lastO_more, dropL_one, dropL_more, callP_eq, callM_true, coefsA, r1, r2, hF, dn]
  rw [if_neg c1] at hF ⊢
  by_cases c2 : radF b < radF a
  · rw [if_pos c2] at hF ⊢
    have dn : ((1 : Int) != 0) = true := rfl
    simp (maxSteps := 1000000) +contextual (disch := first | with_reducible assumption | exact ⟨rfl⟩ | exact ⟨rfl, rfl⟩ | (refine _root_.id ?_; kernel_rfl) | omega) only [evs, ext_mv, nth, put, putT, getT, binInt, binStr, binBool, aUn, outA, resA, mapO, resA1, oneOf, w1, w2, w3, bots, cond_true, cond_false, if_true, if_false, ite_true, ite_false, reduceIte, reduceCtorEq, implies_true, Nat.reduceAdd, Nat.reduceSub, AV.int, AV.bool, AV.str, Nat.reduceBEq, Nat.reduceEqDiff, Nat.reduceMul, Nat.reduceLT, Nat.reduceLeDiff, Int.reduceNeg, BEq.rfl, beq_self_eq_true, tabl, cellsOf, fldA, ldA, stA, entAt, partA, takeN, over, leafOk, Value.oneCell', idxA, nilA, cellsEq, fillA, elemsA, pure1, pure2, reps, chkA, tys, Try.results15, KX_draw, KX_drawQ, KX_tail, lastO_one, lastO_more, dropL_one, dropL_more, callP_eq, callM_true, coefsA, r1, r2, hF, dn]
  rw [if_neg c2] at hF ⊢
  have dn : ((0 : Int) != 0) = false := rfl
  generalize leastG a b none (a ++ b) = o at *
  cases o with
  | none => simp (maxSteps := 1000000) +contextual (disch := first | with_reducible assumption | exact ⟨rfl⟩ | exact ⟨rfl, rfl⟩ | (refine _root_.id ?_; kernel_rfl) | omega) only [evs, ext_mv, nth, put, putT, getT, binInt, binStr, binBool, aUn, outA, resA, mapO, resA1, oneOf, w1, w2, w3, bots, cond_true, cond_false, if_true, if_false, ite_true, ite_false, reduceIte, reduceCtorEq, implies_true, Nat.reduceAdd, Nat.reduceSub, AV.int, AV.bool, AV.str, Nat.reduceBEq, Nat.reduceEqDiff, Nat.reduceMul, Nat.reduceLT, Nat.reduceLeDiff, Int.reduceNeg, BEq.rfl, beq_self_eq_true, tabl, cellsOf, fldA, ldA, stA, entAt, partA, takeN, over, leafOk, Value.oneCell', idxA, nilA, cellsEq, fillA, elemsA, pure1, pure2, reps, chkA, tys, Try.results15, KX_draw, KX_drawQ, KX_tail, lastO_one, lastO_more, dropL_one, dropL_more, callP_eq, callM_true, coefsA, r1, r2, hF, dn, hS, Option.isSome]
  | some s =>
    have hCa := fun S tk k => R15_coordinate S tk k a s (by omega)
    have hCb := fun S tk k => R15_coordinate S tk k b s (by omega)
    have hB := fun S tk k => R15_before S tk k (findS s a) (findS s b) (findS_i64 ia s) (findS_i64 ib s)
    simp only [coefsA] at hCa hCb
    cases hbf : befF (findS s a) (findS s b) with
    | true =>
      simp (maxSteps := 1000000) +contextual (disch := first | with_reducible assumption | exact ⟨rfl⟩ | exact ⟨rfl, rfl⟩ | (refine _root_.id ?_; kernel_rfl) | omega) only [evs, ext_mv, nth, put, putT, getT, binInt, binStr, binBool, aUn, outA, resA, mapO, resA1, oneOf, w1, w2, w3, bots, cond_true, cond_false, if_true, if_false, ite_true, ite_false, reduceIte, reduceCtorEq, implies_true, Nat.reduceAdd, Nat.reduceSub, AV.int, AV.bool, AV.str, Nat.reduceBEq, Nat.reduceEqDiff, Nat.reduceMul, Nat.reduceLT, Nat.reduceLeDiff, Int.reduceNeg, BEq.rfl, beq_self_eq_true, tabl, cellsOf, fldA, ldA, stA, entAt, partA, takeN, over, leafOk, Value.oneCell', idxA, nilA, cellsEq, fillA, elemsA, pure1, pure2, reps, chkA, tys, Try.results15, KX_draw, KX_drawQ, KX_tail, lastO_one, lastO_more, dropL_one, dropL_more, callP_eq, callM_true, coefsA, r1, r2, hF, dn, hS, Option.isSome, strO, hCa, hCb, hB, hbf]
    | false =>
      simp (maxSteps := 1000000) +contextual (disch := first | with_reducible assumption | exact ⟨rfl⟩ | exact ⟨rfl, rfl⟩ | (refine _root_.id ?_; kernel_rfl) | omega) only [evs, ext_mv, nth, put, putT, getT, binInt, binStr, binBool, aUn, outA, resA, mapO, resA1, oneOf, w1, w2, w3, bots, cond_true, cond_false, if_true, if_false, ite_true, ite_false, reduceIte, reduceCtorEq, implies_true, Nat.reduceAdd, Nat.reduceSub, AV.int, AV.bool, AV.str, Nat.reduceBEq, Nat.reduceEqDiff, Nat.reduceMul, Nat.reduceLT, Nat.reduceLeDiff, Int.reduceNeg, BEq.rfl, beq_self_eq_true, tabl, cellsOf, fldA, ldA, stA, entAt, partA, takeN, over, leafOk, Value.oneCell', idxA, nilA, cellsEq, fillA, elemsA, pure1, pure2, reps, chkA, tys, Try.results15, KX_draw, KX_drawQ, KX_tail, lastO_one, lastO_more, dropL_one, dropL_more, callP_eq, callM_true, coefsA, r1, r2, hF, dn, hS, Option.isSome, strO, hCa, hCb, hB, hbf]
end
end Go.Proofs.Ytcandeobhlfkbaa
/-
  The order of points, by the program.
-/

namespace Go.Proofs.Ytcandeobhlfkbaa
open Go
def restP (a b : Pt) : Nat → Pt
  | 0 => a ++ b
  | 1 => b
  | _ => []
def atP (a b : Pt) : Nat → Pt
  | 0 => a
  | _ => b
theorem rest_at (a b : Pt) {p : Nat} (h : p < 2) : restP a b p = atP a b p ++ restP a b (p + 1) := by
  rcases p with _ | _ | p
  · rfl
  · simp [restP, atP]
  · omega
section
variable (S : List Ent) (tk : List Nat) (k : Nat)
set_option maxRecDepth 100000 in
theorem models_Order (a b : Pt) (ha : a.length ≤ 100000) (hb : b.length ≤ 100000) (ia : PtI a) (ib : PtI b) : cL Try.prog 14 [coefsA a, coefsA b] S tk k = some (.int (ordF a b), S, tk, k) := by
  have r1 := fun S tk k => models_radius S tk k a (by omega) ia
  have r2 := fun S tk k => models_radius S tk k b (by omega) ib
  simp only [coefsA] at r1 r2
  unfold ordF
  refine call_pure Try.func14 rfl rfl (by decide +kernel) (by decide +kernel) Try.ntmps14 rfl rfl _ _ _ rfl ?_; rw [RK_KX]
  by_cases c1 : radF a < radF b
  · have d1 : decide (((radF a : Nat) : Int) < ((radF b : Nat) : Int)) = true := by simp; omega
    rw [if_pos c1]
    simp (maxSteps := 1000000) +contextual (disch := first | with_reducible assumption | exact ⟨rfl⟩ | exact ⟨rfl, rfl⟩ | (refine _root_.id ?_; kernel_rfl) | omega) only [evs, ext_mv, nth, put, putT, getT, binInt, binStr, binBool, aUn, outA, resA, mapO, resA1, oneOf, w1, w2, w3, bots, cond_true, cond_false, if_true, if_false, ite_true, ite_false, reduceIte, reduceCtorEq, implies_true, Nat.reduceAdd, Nat.reduceSub, AV.int, AV.bool, AV.str, Nat.reduceBEq, Nat.reduceEqDiff, Nat.reduceMul, Nat.reduceLT, Nat.reduceLeDiff, Int.reduceNeg, BEq.rfl, beq_self_eq_true, tabl, cellsOf, fldA, ldA, stA, entAt, partA, takeN, over, leafOk, Value.oneCell', idxA, nilA, cellsEq, fillA, elemsA, pure1, pure2, reps, chkA, tys, Try.results14, KX_draw, KX_drawQ, KX_tail, lastO_one, lastO_more, dropL_one, dropL_more, callP_eq, callM_true, coefsA, r1, r2, d1]
  have d1 : decide (((radF a : Nat) : Int) < ((radF b : Nat) : Int)) = false := by simp; omega
  rw [if_neg c1]
  by_cases c2 : radF b < radF a
  · have d2 : decide (((radF a : Nat) : Int) > ((radF b : Nat) : Int)) = true := by simp; omega
    rw [if_pos c2]
    simp (maxSteps := 1000000) +contextual (disch := first | with_reducible assumption | exact ⟨rfl⟩ | exact ⟨rfl, rfl⟩ | (refine _root_.id ?_; kernel_rfl) | omega) only [evs, ext_mv, nth, put, putT, getT, binInt, binStr, binBool, aUn, outA, resA, mapO, resA1, oneOf, w1, w2, w3, bots, cond_true, cond_false, if_true, if_false, ite_true, ite_false, reduceIte, reduceCtorEq, implies_true, Nat.reduceAdd, Nat.reduceSub, AV.int, AV.bool, AV.str, Nat.reduceBEq, Nat.reduceEqDiff, Nat.reduceMul, Nat.reduceLT, Nat.reduceLeDiff, Int.reduceNeg, BEq.rfl, beq_self_eq_true, tabl, cellsOf, fldA, ldA, stA, entAt, partA, takeN, over, leafOk, Value.oneCell', idxA, nilA, cellsEq, fillA, elemsA, pure1, pure2, reps, chkA, tys, Try.results14, KX_draw, KX_drawQ, KX_tail, lastO_one, lastO_more, dropL_one, dropL_more, callP_eq, callM_true, coefsA, r1, r2, d1, d2]
  have d2 : decide (((radF a : Nat) : Int) > ((radF b : Nat) : Int)) = false := by simp; omega
  rw [if_neg c2]
  simp (maxSteps := 1000000) +contextual (disch := first | with_reducible assumption | exact ⟨rfl⟩ | exact ⟨rfl, rfl⟩ | (refine _root_.id ?_; kernel_rfl) | omega) only [evs, ext_mv, nth, put, putT, getT, binInt, binStr, binBool, aUn, outA, resA, mapO, resA1, oneOf, w1, w2, w3, bots, cond_true, cond_false, if_true, if_false, ite_true, ite_false, reduceIte, reduceCtorEq, implies_true, Nat.reduceAdd, Nat.reduceSub, AV.int, AV.bool, AV.str, Nat.reduceBEq, Nat.reduceEqDiff, Nat.reduceMul, Nat.reduceLT, Nat.reduceLeDiff, Int.reduceNeg, BEq.rfl, beq_self_eq_true, tabl, cellsOf, fldA, ldA, stA, entAt, partA, takeN, over, leafOk, Value.oneCell', idxA, nilA, cellsEq, fillA, elemsA, pure1, pure2, reps, chkA, tys, Try.results14, KX_draw, KX_drawQ, KX_tail, lastO_one, lastO_more, dropL_one, dropL_more, callP_eq, callM_true, coefsA, r1, r2, d1, d2]
  refine loop1 (P := Try.prog) (fun x st => st.T.length = 71 ∧ (x.1 ≤ 2) ∧ (leastG a b none (a ++ b) = leastG a b x.2 (restP a b x.1)) ∧ getT st.T 0 = coefsA a ∧ getT st.T 1 = coefsA b ∧ getT st.T 7 = .str (strO x.2) ∧ getT st.T 8 = .bool x.2.isSome ∧ getT st.T 27 = .frz [[coefsA a], [coefsA b]] .tight ∧ getT st.T 28 = .int 2 ∧ getT st.T 29 = .int (x.1 : Nat) ∧ st.S = []) (fun x => 2 - x.1) (fun x => .int (match leastG a b none (a ++ b) with | none => 0 | some s => if befF (findS s a) (findS s b) = true then -1 else 1)) (0, (none : Option ByteArray)) ?_ ?_
  case refine_2 => exact ⟨rfl, Nat.zero_le _, rfl, rfl, rfl, rfl, rfl, rfl, rfl, rfl, rfl⟩
  rintro ⟨p, o⟩ ⟨T, S', tk', n'⟩ ⟨hl, hp, hE, e0, e1, e7, e8, e27, e28, e29, eS⟩ IH
  simp only at hp hE e0 e1 e7 e8 e27 e28 e29 eS
  subst eS
  obtain ⟨g, hg, hT⟩ := tab_of hl
  rw [hg] at e0 e1 e7 e8 e27 e28 e29
  subst hT
  clear hg hl
  have OUT := IH
  clear IH
  have hpw := wrap_add (i := p) (m := 0) (by omega)
  by_cases hlt : p < 2
  · have dp : decide ((p : Int) < (2 : Int)) = true := by simp; omega
    have hat : nth [[coefsA a], [coefsA b]] p = some [coefsA (atP a b p)] := by
      rcases p with _ | _ | p
      · rfl
      · rfl
      · omega
    have hal : (atP a b p).length ≤ 100000 := by
      unfold atP; split <;> assumption
    rw [rest_at a b hlt] at hE
    simp only [coefsA] at hat
    simp (maxSteps := 1000000) +contextual (disch := first | with_reducible assumption | exact ⟨rfl⟩ | exact ⟨rfl, rfl⟩ | (refine _root_.id ?_; kernel_rfl) | omega) only [evs, ext_mv, nth, put, putT, getT, binInt, binStr, binBool, aUn, outA, resA, mapO, resA1, oneOf, w1, w2, w3, bots, cond_true, cond_false, if_true, if_false, ite_true, ite_false, reduceIte, reduceCtorEq, implies_true, Nat.reduceAdd, Nat.reduceSub, AV.int, AV.bool, AV.str, Nat.reduceBEq, Nat.reduceEqDiff, Nat.reduceMul, Nat.reduceLT, Nat.reduceLeDiff, Int.reduceNeg, BEq.rfl, beq_self_eq_true, tabl, cellsOf, fldA, ldA, stA, entAt, partA, takeN, over, leafOk, Value.oneCell', idxA, nilA, cellsEq, fillA, elemsA, pure1, pure2, reps, chkA, tys, Try.results14, KX_draw, KX_drawQ, KX_tail, lastO_one, lastO_more, dropL_one, dropL_more, callP_eq, callM_true, e0, e1, e7, e8, e27, e28, e29, dp, hat, coefsA]
    refine loop1 (P := Try.prog) (fun x st => st.T.length = 71 ∧ (x.1 ≤ (atP a b p).length) ∧ (leastG a b none (a ++ b) = leastG a b x.2 ((atP a b p).drop x.1 ++ restP a b (p + 1))) ∧ getT st.T 0 = coefsA a ∧ getT st.T 1 = coefsA b ∧ getT st.T 7 = .str (strO x.2) ∧ getT st.T 8 = .bool x.2.isSome ∧ getT st.T 27 = .frz [[coefsA a], [coefsA b]] .tight ∧ getT st.T 28 = .int 2 ∧ getT st.T 29 = .int (p : Nat) ∧ getT st.T 33 = coefsA (atP a b p) ∧ getT st.T 34 = .int (atP a b p).length ∧ getT st.T 35 = .int (x.1 : Nat) ∧ st.S = []) (fun x => (atP a b p).length - x.1) (fun x => .int (match leastG a b none (a ++ b) with | none => 0 | some s => if befF (findS s a) (findS s b) = true then -1 else 1)) (0, o) ?_ ?_
    case refine_2 => exact ⟨rfl, Nat.zero_le _, by simpa using hE, rfl, rfl, rfl, rfl, rfl, rfl, rfl, rfl, rfl, rfl, rfl⟩
    rintro ⟨j, o2⟩ ⟨T, S', tk', n'⟩ ⟨hl, hj, hE2, e0, e1, e7, e8, e27, e28, e29, e33, e34, e35, eS⟩ IH
    simp only at hj hE2 e0 e1 e7 e8 e27 e28 e29 e33 e34 e35 eS
    subst eS
    obtain ⟨g, hg, hT⟩ := tab_of hl
    rw [hg] at e0 e1 e7 e8 e27 e28 e29 e33 e34 e35
    subst hT
    clear hg hl
    have hjw := wrap_add (i := j) (m := 0) (by omega)
    by_cases hj2 : j < (atP a b p).length
    · have dj : decide ((j : Int) < ((atP a b p).length : Int)) = true := by simpa using hj2
      obtain ⟨c, hc⟩ := nth_some hj2
      have hc' : nth ((atP a b p).map coefC) j = some (coefC c) := by rw [nth_map, hc]; rfl
      rw [nth_drop hc, List.cons_append, leastG] at hE2
      have hCa := fun S tk k => models_coordinate S tk k a c.1 (by omega)
      have hCb := fun S tk k => models_coordinate S tk k b c.1 (by omega)
      simp only [coefsA] at hCa hCb
      simp only [coefC] at hc'
      have stepf : ∀ (d : Bool), (findS c.1 a != findS c.1 b) = d → ∀ (q : Bool), lessO o2 c.1 = q → leastG a b none (a ++ b) = leastG a b (if (d && q) = true then some c.1 else o2) ((atP a b p).drop (j + 1) ++ restP a b (p + 1)) := by
        intro d hd q hq; rw [hE2, hd, hq]
      cases hd : (findS c.1 a != findS c.1 b) with
      | false =>
        simp (maxSteps := 1000000) +contextual (disch := first | with_reducible assumption | exact ⟨rfl⟩ | exact ⟨rfl, rfl⟩ | (refine _root_.id ?_; kernel_rfl) | omega) only [evs, ext_mv, nth, put, putT, getT, binInt, binStr, binBool, aUn, outA, resA, mapO, resA1, oneOf, w1, w2, w3, bots, cond_true, cond_false, if_true, if_false, ite_true, ite_false, reduceIte, reduceCtorEq, implies_true, Nat.reduceAdd, Nat.reduceSub, AV.int, AV.bool, AV.str, Nat.reduceBEq, Nat.reduceEqDiff, Nat.reduceMul, Nat.reduceLT, Nat.reduceLeDiff, Int.reduceNeg, BEq.rfl, beq_self_eq_true, tabl, cellsOf, fldA, ldA, stA, entAt, partA, takeN, over, leafOk, Value.oneCell', idxA, nilA, cellsEq, fillA, elemsA, pure1, pure2, reps, chkA, tys, Try.results14, KX_draw, KX_drawQ, KX_tail, lastO_one, lastO_more, dropL_one, dropL_more, callP_eq, callM_true, e0, e1, e7, e8, e27, e28, e29, e33, e34, e35, dj, coefsA, hc', hjw, hCa, hCb, hd]
        exact IH (j + 1, o2) _ (by first | omega | (simp only; omega)) ⟨rfl, by first | omega | (dsimp only; omega), stepf false hd _ rfl, rfl, rfl, rfl, rfl, rfl, rfl, rfl, rfl, rfl, rfl, rfl⟩
      | true =>
        cases o2 with
        | none =>
          simp (maxSteps := 1000000) +contextual (disch := first | with_reducible assumption | exact ⟨rfl⟩ | exact ⟨rfl, rfl⟩ | (refine _root_.id ?_; kernel_rfl) | omega) only [evs, ext_mv, nth, put, putT, getT, binInt, binStr, binBool, aUn, outA, resA, mapO, resA1, oneOf, w1, w2, w3, bots, cond_true, cond_false, if_true, if_false, ite_true, ite_false, reduceIte, reduceCtorEq, implies_true, Nat.reduceAdd, Nat.reduceSub, AV.int, AV.bool, AV.str, Nat.reduceBEq, Nat.reduceEqDiff, Nat.reduceMul, Nat.reduceLT, Nat.reduceLeDiff, Int.reduceNeg, BEq.rfl, beq_self_eq_true, tabl, cellsOf, fldA, ldA, stA, entAt, partA, takeN, over, leafOk, Value.oneCell', idxA, nilA, cellsEq, fillA, elemsA, pure1, pure2, reps, chkA, tys, Try.results14, KX_draw, KX_drawQ, KX_tail, lastO_one, lastO_more, dropL_one, dropL_more, callP_eq, callM_true, e0, e1, e7, e8, e27, e28, e29, e33, e34, e35, dj, coefsA, hc', hjw, hCa, hCb, hd, Option.isSome]
          exact IH (j + 1, some c.1) _ (by first | omega | (simp only; omega)) ⟨rfl, by first | omega | (dsimp only; omega), stepf true hd true rfl, rfl, rfl, rfl, rfl, rfl, rfl, rfl, rfl, rfl, rfl, rfl⟩
        | some t =>
          cases hs : sLt c.1 t with
          | true =>
            simp (maxSteps := 1000000) +contextual (disch := first | with_reducible assumption | exact ⟨rfl⟩ | exact ⟨rfl, rfl⟩ | (refine _root_.id ?_; kernel_rfl) | omega) only [evs, ext_mv, nth, put, putT, getT, binInt, binStr, binBool, aUn, outA, resA, mapO, resA1, oneOf, w1, w2, w3, bots, cond_true, cond_false, if_true, if_false, ite_true, ite_false, reduceIte, reduceCtorEq, implies_true, Nat.reduceAdd, Nat.reduceSub, AV.int, AV.bool, AV.str, Nat.reduceBEq, Nat.reduceEqDiff, Nat.reduceMul, Nat.reduceLT, Nat.reduceLeDiff, Int.reduceNeg, BEq.rfl, beq_self_eq_true, tabl, cellsOf, fldA, ldA, stA, entAt, partA, takeN, over, leafOk, Value.oneCell', idxA, nilA, cellsEq, fillA, elemsA, pure1, pure2, reps, chkA, tys, Try.results14, KX_draw, KX_drawQ, KX_tail, lastO_one, lastO_more, dropL_one, dropL_more, callP_eq, callM_true, e0, e1, e7, e8, e27, e28, e29, e33, e34, e35, dj, coefsA, hc', hjw, hCa, hCb, hd, Option.isSome, strO, hs]
            exact IH (j + 1, some c.1) _ (by first | omega | (simp only; omega)) ⟨rfl, by first | omega | (dsimp only; omega), stepf true hd true hs, rfl, rfl, rfl, rfl, rfl, rfl, rfl, rfl, rfl, rfl, rfl⟩
          | false =>
            simp (maxSteps := 1000000) +contextual (disch := first | with_reducible assumption | exact ⟨rfl⟩ | exact ⟨rfl, rfl⟩ | (refine _root_.id ?_; kernel_rfl) | omega) only [evs, ext_mv, nth, put, putT, getT, binInt, binStr, binBool, aUn, outA, resA, mapO, resA1, oneOf, w1, w2, w3, bots, cond_true, cond_false, if_true, if_false, ite_true, ite_false, reduceIte, reduceCtorEq, implies_true, Nat.reduceAdd, Nat.reduceSub, AV.int, AV.bool, AV.str, Nat.reduceBEq, Nat.reduceEqDiff, Nat.reduceMul, Nat.reduceLT, Nat.reduceLeDiff, Int.reduceNeg, BEq.rfl, beq_self_eq_true, tabl, cellsOf, fldA, ldA, stA, entAt, partA, takeN, over, leafOk, Value.oneCell', idxA, nilA, cellsEq, fillA, elemsA, pure1, pure2, reps, chkA, tys, Try.results14, KX_draw, KX_drawQ, KX_tail, lastO_one, lastO_more, dropL_one, dropL_more, callP_eq, callM_true, e0, e1, e7, e8, e27, e28, e29, e33, e34, e35, dj, coefsA, hc', hjw, hCa, hCb, hd, Option.isSome, strO, hs]
            exact IH (j + 1, some t) _ (by first | omega | (simp only; omega)) ⟨rfl, by first | omega | (dsimp only; omega), stepf true hd false hs, rfl, rfl, rfl, rfl, rfl, rfl, rfl, rfl, rfl, rfl, rfl⟩
    · have dj : decide ((j : Int) < ((atP a b p).length : Int)) = false := by simpa using hj2
      have hje : j = (atP a b p).length := by omega
      rw [hje, List.drop_length, List.nil_append] at hE2
      simp (maxSteps := 1000000) +contextual (disch := first | with_reducible assumption | exact ⟨rfl⟩ | exact ⟨rfl, rfl⟩ | (refine _root_.id ?_; kernel_rfl) | omega) only [evs, ext_mv, nth, put, putT, getT, binInt, binStr, binBool, aUn, outA, resA, mapO, resA1, oneOf, w1, w2, w3, bots, cond_true, cond_false, if_true, if_false, ite_true, ite_false, reduceIte, reduceCtorEq, implies_true, Nat.reduceAdd, Nat.reduceSub, AV.int, AV.bool, AV.str, Nat.reduceBEq, Nat.reduceEqDiff, Nat.reduceMul, Nat.reduceLT, Nat.reduceLeDiff, Int.reduceNeg, BEq.rfl, beq_self_eq_true, tabl, cellsOf, fldA, ldA, stA, entAt, partA, takeN, over, leafOk, Value.oneCell', idxA, nilA, cellsEq, fillA, elemsA, pure1, pure2, reps, chkA, tys, Try.results14, KX_draw, KX_drawQ, KX_tail, lastO_one, lastO_more, dropL_one, dropL_more, callP_eq, callM_true, e0, e1, e7, e8, e27, e28, e29, e33, e34, e35, dj, coefsA, hpw]
      exact OUT (p + 1, o2) _ (by first | omega | (simp only; omega)) ⟨rfl, by first | omega | (dsimp only; omega), hE2, rfl, rfl, rfl, rfl, rfl, rfl, rfl, rfl⟩
  · have dp : decide ((p : Int) < (2 : Int)) = false := by simp; omega
    have hpe : p = 2 := by omega
    rw [hpe, show restP a b 2 = [] from rfl, leastG] at hE
    rw [hE]
    cases o with
    | none =>
      simp (maxSteps := 1000000) +contextual (disch := first | with_reducible assumption | exact ⟨rfl⟩ | exact ⟨rfl, rfl⟩ | (refine _root_.id ?_; kernel_rfl) | omega) only [evs, ext_mv, nth, put, putT, getT, binInt, binStr, binBool, aUn, outA, resA, mapO, resA1, oneOf, w1, w2, w3, bots, cond_true, cond_false, if_true, if_false, ite_true, ite_false, reduceIte, reduceCtorEq, implies_true, Nat.reduceAdd, Nat.reduceSub, AV.int, AV.bool, AV.str, Nat.reduceBEq, Nat.reduceEqDiff, Nat.reduceMul, Nat.reduceLT, Nat.reduceLeDiff, Int.reduceNeg, BEq.rfl, beq_self_eq_true, tabl, cellsOf, fldA, ldA, stA, entAt, partA, takeN, over, leafOk, Value.oneCell', idxA, nilA, cellsEq, fillA, elemsA, pure1, pure2, reps, chkA, tys, Try.results14, KX_draw, KX_drawQ, KX_tail, lastO_one, lastO_more, dropL_one, dropL_more, callP_eq, callM_true, e0, e1, e7, e8, e27, e28, e29, dp, coefsA, Option.isSome]
    | some s =>
      have hCa := fun S tk k => models_coordinate S tk k a s (by omega)
      have hCb := fun S tk k => models_coordinate S tk k b s (by omega)
      have hB := fun S tk k => models_before S tk k (findS s a) (findS s b) (findS_i64 ia s) (findS_i64 ib s)
      simp only [coefsA] at hCa hCb
      cases hbf : befF (findS s a) (findS s b) with
      | true =>
        simp (maxSteps := 1000000) +contextual (disch := first | with_reducible assumption | exact ⟨rfl⟩ | exact ⟨rfl, rfl⟩ | (refine _root_.id ?_; kernel_rfl) | omega) only [evs, ext_mv, nth, put, putT, getT, binInt, binStr, binBool, aUn, outA, resA, mapO, resA1, oneOf, w1, w2, w3, bots, cond_true, cond_false, if_true, if_false, ite_true, ite_false, reduceIte, reduceCtorEq, implies_true, Nat.reduceAdd, Nat.reduceSub, AV.int, AV.bool, AV.str, Nat.reduceBEq, Nat.reduceEqDiff, Nat.reduceMul, Nat.reduceLT, Nat.reduceLeDiff, Int.reduceNeg, BEq.rfl, beq_self_eq_true, tabl, cellsOf, fldA, ldA, stA, entAt, partA, takeN, over, leafOk, Value.oneCell', idxA, nilA, cellsEq, fillA, elemsA, pure1, pure2, reps, chkA, tys, Try.results14, KX_draw, KX_drawQ, KX_tail, lastO_one, lastO_more, dropL_one, dropL_more, callP_eq, callM_true, e0, e1, e7, e8, e27, e28, e29, dp, coefsA, Option.isSome, strO, hCa, hCb, hB, hbf]
      | false =>
        simp (maxSteps := 1000000) +contextual (disch := first | with_reducible assumption | exact ⟨rfl⟩ | exact ⟨rfl, rfl⟩ | (refine _root_.id ?_; kernel_rfl) | omega) only [evs, ext_mv, nth, put, putT, getT, binInt, binStr, binBool, aUn, outA, resA, mapO, resA1, oneOf, w1, w2, w3, bots, cond_true, cond_false, if_true, if_false, ite_true, ite_false, reduceIte, reduceCtorEq, implies_true, Nat.reduceAdd, Nat.reduceSub, AV.int, AV.bool, AV.str, Nat.reduceBEq, Nat.reduceEqDiff, Nat.reduceMul, Nat.reduceLT, Nat.reduceLeDiff, Int.reduceNeg, BEq.rfl, beq_self_eq_true, tabl, cellsOf, fldA, ldA, stA, entAt, partA, takeN, over, leafOk, Value.oneCell', idxA, nilA, cellsEq, fillA, elemsA, pure1, pure2, reps, chkA, tys, Try.results14, KX_draw, KX_drawQ, KX_tail, lastO_one, lastO_more, dropL_one, dropL_more, callP_eq, callM_true, e0, e1, e7, e8, e27, e28, e29, dp, coefsA, Option.isSome, strO, hCa, hCb, hB, hbf]
end
end Go.Proofs.Ytcandeobhlfkbaa
/-
  The variables of rows: the names in them, increasing.
-/


namespace Go.Proofs.Ytcandeobhlfkbaa
open Go

abbrev RowT := List (ByteArray × Int) × Int × Bool
def rowC (r : RowT) : List AV := [coefsA r.1, .prim (.int .i64 r.2.1), .prim (.bool r.2.2)]
def rowsA (l : List RowT) : AV := .frz (l.map rowC) .unk
theorem nth_row {l : List RowT} {i : Nat} {r : RowT} (h : nth l i = some r) : nth (l.map rowC) i = some (rowC r) := by rw [nth_map, h]; rfl
theorem nth_coef {l : List (ByteArray × Int)} {i : Nat} {c : ByteArray × Int} (h : nth l i = some c) : nth (l.map coefC) i = some (coefC c) := by rw [nth_map, h]; rfl
theorem nth_str {l : List ByteArray} {i : Nat} {s : ByteArray} (h : nth l i = some s) : nth (l.map strC) i = some [.prim (.string s)] := by rw [nth_map, h]; rfl
theorem rowsOk_str (l : List ByteArray) : rowsOk 1 (l.map strC) = true := rowsOk_map (f := strC) (sz := 1) (fun _ => rfl) l
/-- all names of rows -/
def namesOf (l : List RowT) : List ByteArray := (l.map fun r => r.1.map (·.1)).flatten
def varsF (l : List RowT) : List ByteArray := uniS (namesOf l)
theorem names_snoc (l : List RowT) (r : RowT) : namesOf (l ++ [r]) = namesOf l ++ r.1.map (·.1) := by simp [namesOf]
theorem take_snoc {α : Type} : ∀ {l : List α} {i : Nat} {x : α}, nth l i = some x → l.take (i + 1) = l.take i ++ [x]
  | a :: l, 0, x, h => by simp only [nth, Option.some.injEq] at h; subst h; rfl
  | a :: l, i + 1, x, h => by simp only [List.take_succ_cons, List.cons_append, take_snoc (l := l) (i := i) h]
  | [], _, _, h => by simp [nth] at h
/-- rows with few coefficients -/
def fewC (l : List RowT) : Prop := ∀ r ∈ l, r.1.length ≤ 24
theorem names_len : ∀ {l : List RowT}, fewC l → (namesOf l).length ≤ 24 * l.length
  | [], _ => by simp [namesOf]
  | r :: l, h => by
    have h1 := h r (by simp)
    have h2 := names_len (l := l) fun x hx => h x (by simp [hx])
    simp only [namesOf, List.map_cons, List.flatten_cons, List.length_append, List.length_map, List.length_cons] at h2 ⊢
    omega
theorem mem_nth {α : Type} {l : List α} {i : Nat} {x : α} (h : nth l i = some x) : x ∈ l := List.mem_of_getElem? (by rw [nth_get] at h; exact h)
theorem insert_at : ∀ (l : List ByteArray) (s : ByteArray), ∃ i, i ≤ l.length ∧ (∀ j x, j < i → nth l j = some x → sLt x s = true) ∧ (∀ x, nth l i = some x → sLt x s = false) ∧
    putS l s = l.take i ++ [s] ++ l.drop (match nth l i with | some x => if sEq x s = true then i + 1 else i | none => i)
  | [], s => ⟨0, Nat.le_refl _, fun j x h => by omega, fun x h => by simp [nth] at h, rfl⟩
  | y :: r, s => by
    cases h1 : sLt y s with
    | true =>
      obtain ⟨i, a, b, c, d⟩ := insert_at r s
      refine ⟨i + 1, by simp; exact a, fun j x hj hx => ?_, c, ?_⟩
      · cases j with
        | zero => simp only [nth, Option.some.injEq] at hx; subst hx; exact h1
        | succ j => exact b j x (by omega) hx
      · rw [putS, if_pos h1, d]
        simp only [nth]
        cases nth r i with
        | none => simp
        | some x => by_cases h : sEq x s = true <;> simp [h]
    | false =>
      refine ⟨0, Nat.zero_le _, fun j x hj => by omega, fun x hx => ?_, ?_⟩
      · simp only [nth, Option.some.injEq] at hx; subst hx; exact h1
      · rw [putS, if_neg (by simp [h1])]
        simp only [nth]
        by_cases h : sEq y s = true
        · have : y = s := by rw [sEq_nm] at h; simpa using h
          rw [if_pos h, if_pos h, this]; simp
        · rw [if_neg h, if_neg h]; simp
section
variable (S : List Ent) (tk : List Nat) (k : Nat)
set_option maxRecDepth 100000 in
theorem R04_put (l : List ByteArray) (s : ByteArray) (c : Cap) (hl : l.length ≤ 100000) : cL Try.prog 62 [.frz (l.map strC) c, .str s] S tk k = some (strsA (putS l s), S, tk, k) := by
  obtain ⟨i, hj0, h2, h3, h4⟩ := insert_at l s
  rw [h4]
  refine call_pure Try.func62 rfl rfl (by decide +kernel) (by decide +kernel) Try.ntmps62 rfl rfl _ _ _ rfl ?_; rw [RK_KX]
  simp (maxSteps := 1000000) +contextual (disch := first | with_reducible assumption | exact ⟨rfl⟩ | exact ⟨rfl, rfl⟩ | (refine _root_.id ?_; kernel_rfl) | omega) only [evs, ext_mv, nth, put, putT, getT, binInt, binStr, binBool, aUn, outA, resA, mapO, resA1, oneOf, w1, w2, w3, bots, cond_true, cond_false, if_true, if_false, ite_true, ite_false, reduceIte, reduceCtorEq, implies_true, Nat.reduceAdd, Nat.reduceSub, AV.int, AV.bool, AV.str, Nat.reduceBEq, Nat.reduceEqDiff, Nat.reduceMul, Nat.reduceLT, Nat.reduceLeDiff, Int.reduceNeg, BEq.rfl, beq_self_eq_true, tabl, cellsOf, fldA, ldA, stA, entAt, partA, takeN, over, leafOk, Value.oneCell', idxA, nilA, cellsEq, fillA, elemsA, pure1, pure2, reps, chkA, tys, Try.results62, KX_draw, KX_drawQ, KX_tail, lastO_one, lastO_more, dropL_one, dropL_more, callP_eq, callM_true, w2, w1]
  refine loop1 (P := Try.prog) (fun x st => st.T.length = 52 ∧ (x.1 ≤ i) ∧ (x.2.1 = l.take x.1) ∧ (okCap st.tk x.2.2 1 = true) ∧ getT st.T 0 = strsA l ∧ getT st.T 1 = .str s ∧ getT st.T 5 = .frz (x.2.1.map strC) x.2.2 ∧ getT st.T 6 = .int (x.1 : Nat) ∧ st.S = []) (fun x => i - x.1) (fun x => strsA (l.take i ++ [s] ++ l.drop (match nth l i with | some x => if sEq x s = true then i + 1 else i | none => i))) (0, [], .nilc) ?_ ?_
  case refine_2 => exact ⟨rfl, Nat.zero_le _, rfl, rfl, rfl, rfl, rfl, rfl, rfl⟩
  rintro ⟨j, out, c⟩ ⟨T, S', tk', n'⟩ ⟨hl, hj, ho, hok, e0, e1, e5, e6, eS⟩ IH
  simp only at hj ho hok e0 e1 e5 e6 eS
  subst eS
  obtain ⟨g, hg, hT⟩ := tab_of hl
  rw [hg] at e0 e1 e5 e6
  subst hT
  clear hg hl
  have hol : out.length ≤ l.length := by rw [ho]; simp; omega
  have htl : (l.map strC).take l.length = l.map strC := List.take_of_length_le (by simp)
  have hr := rowsOk_str out
  have hok' := okCap_new hok
  have hn1 : (out.map strC).length + 1 ≤ 1048576 := by simp; omega
  have hjw := wrap_add (i := j) (m := 0) (by omega)
  by_cases hlt : j < i
  · have d1 : decide ((j : Int) < (l.length : Int)) = true := by simp; omega
    obtain ⟨x, hx⟩ := nth_some (show j < l.length by omega)
    have hx' := nth_str hx
    have d2 := h2 j x hlt hx
    have hts := take_snoc hx
    simp (maxSteps := 1000000) +contextual (disch := first | with_reducible assumption | exact ⟨rfl⟩ | exact ⟨rfl, rfl⟩ | (refine _root_.id ?_; kernel_rfl) | omega) only [evs, ext_mv, nth, put, putT, getT, binInt, binStr, binBool, aUn, outA, resA, mapO, resA1, oneOf, w1, w2, w3, bots, cond_true, cond_false, if_true, if_false, ite_true, ite_false, reduceIte, reduceCtorEq, implies_true, Nat.reduceAdd, Nat.reduceSub, AV.int, AV.bool, AV.str, Nat.reduceBEq, Nat.reduceEqDiff, Nat.reduceMul, Nat.reduceLT, Nat.reduceLeDiff, Int.reduceNeg, BEq.rfl, beq_self_eq_true, tabl, cellsOf, fldA, ldA, stA, entAt, partA, takeN, over, leafOk, Value.oneCell', idxA, nilA, cellsEq, fillA, elemsA, pure1, pure2, reps, chkA, tys, Try.results62, KX_draw, KX_drawQ, KX_tail, lastO_one, lastO_more, dropL_one, dropL_more, callP_eq, callM_true, e0, e1, e5, e6, d1, d2, strsA, hx', hr, hjw]
    exact IH (j + 1, out ++ [x], capNew tk' c 1) _ (by first | omega | (simp only; omega)) ⟨rfl, by first | omega | (dsimp only; omega), by rw [hts, ho], hok', (by first | rfl | simp only [getT, List.map_append, List.map_cons, List.map_nil, strC, strsA, and_self]), (by first | rfl | simp only [getT, List.map_append, List.map_cons, List.map_nil, strC, strsA, and_self]), (by first | rfl | simp only [getT, List.map_append, List.map_cons, List.map_nil, strC, strsA, and_self]), (by first | rfl | simp only [getT, List.map_append, List.map_cons, List.map_nil, strC, strsA, and_self]), (by first | rfl | simp only [getT, List.map_append, List.map_cons, List.map_nil, strC, strsA, and_self])⟩
  have hje : j = i := by omega
  subst hje
  subst ho
  have hr2 := rowsOk_str (l.take j ++ [s])
  have hr3 := rowsOk_str l
  have hok2 := okCap_new hok'
  simp only [List.map_append, List.map_cons, List.map_nil, strC] at hr2
  by_cases hjl : j < l.length
  case neg =>
    have d1 : decide ((j : Int) < (l.length : Int)) = false := by simp; omega
    have hjn : nth l j = none := by rw [nth_get]; exact List.getElem?_eq_none (by omega)
    have hr4 : rowsOk 1 (((l.map strC).take l.length).drop j) = true := by rw [← List.map_take, ← List.map_drop]; exact rowsOk_str _
    have hn2 : ((l.take j).map strC ++ [[(.prim (.string s) : AV)]]).length + (((l.map strC).take l.length).drop j).length ≤ 1048576 := by simp; omega
    simp (maxSteps := 1000000) +contextual (disch := first | with_reducible assumption | exact ⟨rfl⟩ | exact ⟨rfl, rfl⟩ | (refine _root_.id ?_; kernel_rfl) | omega) only [evs, ext_mv, nth, put, putT, getT, binInt, binStr, binBool, aUn, outA, resA, mapO, resA1, oneOf, w1, w2, w3, bots, cond_true, cond_false, if_true, if_false, ite_true, ite_false, reduceIte, reduceCtorEq, implies_true, Nat.reduceAdd, Nat.reduceSub, AV.int, AV.bool, AV.str, Nat.reduceBEq, Nat.reduceEqDiff, Nat.reduceMul, Nat.reduceLT, Nat.reduceLeDiff, Int.reduceNeg, BEq.rfl, beq_self_eq_true, tabl, cellsOf, fldA, ldA, stA, entAt, partA, takeN, over, leafOk, Value.oneCell', idxA, nilA, cellsEq, fillA, elemsA, pure1, pure2, reps, chkA, tys, Try.results62, KX_draw, KX_drawQ, KX_tail, lastO_one, lastO_more, dropL_one, dropL_more, callP_eq, callM_true, e0, e1, e5, e6, d1, strsA, hr, sliceA, hr3, bound, hj0, Nat.le_refl, Nat.zero_le, hr2, hr4]
    simp [hjn, strC, htl]
  have d1 : decide ((j : Int) < (l.length : Int)) = true := by simp; omega
  obtain ⟨x, hx⟩ := nth_some hjl
  have hx' := nth_str hx
  have d2 := h3 x hx
  have hj1 : j + 1 ≤ l.length := hjl
  cases d3 : sEq x s with
  | true =>
    have hr4 : rowsOk 1 (((l.map strC).take l.length).drop (j + 1)) = true := by rw [← List.map_take, ← List.map_drop]; exact rowsOk_str _
    have hn2 : ((l.take j).map strC ++ [[(.prim (.string s) : AV)]]).length + (((l.map strC).take l.length).drop (j + 1)).length ≤ 1048576 := by simp; omega
    simp (maxSteps := 1000000) +contextual (disch := first | with_reducible assumption | exact ⟨rfl⟩ | exact ⟨rfl, rfl⟩ | (refine _root_.id ?_; kernel_rfl) | omega) only [evs, ext_mv, nth, put, putT, getT, binInt, binStr, binBool, aUn, outA, resA, mapO, resA1, oneOf, w1, w2, w3, bots, cond_true, cond_false, if_true, if_false, ite_true, ite_false, reduceIte, reduceCtorEq, implies_true, Nat.reduceAdd, Nat.reduceSub, AV.int, AV.bool, AV.str, Nat.reduceBEq, Nat.reduceEqDiff, Nat.reduceMul, Nat.reduceLT, Nat.reduceLeDiff, Int.reduceNeg, BEq.rfl, beq_self_eq_true, tabl, cellsOf, fldA, ldA, stA, entAt, partA, takeN, over, leafOk, Value.oneCell', idxA, nilA, cellsEq, fillA, elemsA, pure1, pure2, reps, chkA, tys, Try.results62, KX_draw, KX_drawQ, KX_tail, lastO_one, lastO_more, dropL_one, dropL_more, callP_eq, callM_true, e0, e1, e5, e6, d1, d2, d3, hx', hjw, strsA, hr, sliceA, hr3, bound, hj1, Nat.le_refl, Nat.zero_le, hr2, hr4]
    simp [hx, d3, strC, htl]
  | false =>
    have hr4 : rowsOk 1 (((l.map strC).take l.length).drop j) = true := by rw [← List.map_take, ← List.map_drop]; exact rowsOk_str _
    have hn2 : ((l.take j).map strC ++ [[(.prim (.string s) : AV)]]).length + (((l.map strC).take l.length).drop j).length ≤ 1048576 := by simp; omega
    simp (maxSteps := 1000000) +contextual (disch := first | with_reducible assumption | exact ⟨rfl⟩ | exact ⟨rfl, rfl⟩ | (refine _root_.id ?_; kernel_rfl) | omega) only [evs, ext_mv, nth, put, putT, getT, binInt, binStr, binBool, aUn, outA, resA, mapO, resA1, oneOf, w1, w2, w3, bots, cond_true, cond_false, if_true, if_false, ite_true, ite_false, reduceIte, reduceCtorEq, implies_true, Nat.reduceAdd, Nat.reduceSub, AV.int, AV.bool, AV.str, Nat.reduceBEq, Nat.reduceEqDiff, Nat.reduceMul, Nat.reduceLT, Nat.reduceLeDiff, Int.reduceNeg, BEq.rfl, beq_self_eq_true, tabl, cellsOf, fldA, ldA, stA, entAt, partA, takeN, over, leafOk, Value.oneCell', idxA, nilA, cellsEq, fillA, elemsA, pure1, pure2, reps, chkA, tys, Try.results62, KX_draw, KX_drawQ, KX_tail, lastO_one, lastO_more, dropL_one, dropL_more, callP_eq, callM_true, e0, e1, e5, e6, d1, d2, d3, hx', hjw, strsA, hr, sliceA, hr3, bound, hj0, Nat.le_refl, Nat.zero_le, hr2, hr4]
    simp [hx, d3, strC, htl]
theorem putS_len (l : List ByteArray) (s : ByteArray) : (putS l s).length ≤ l.length + 1 := len_put s l
theorem fold_len : ∀ (l acc : List ByteArray), (l.foldl putS acc).length ≤ acc.length + l.length
  | [], acc => by simp
  | s :: l, acc => by
    have := fold_len l (putS acc s)
    have h2 := len_put s acc
    simp only [List.foldl_cons, List.length_cons]; omega
set_option maxRecDepth 100000 in
/-- the union of an increasing list and one name -/
theorem R04_Union (l : List ByteArray) (s : ByteArray) (c c2 : Cap) (hi : Inc l) (hl : l.length ≤ 90000) : cL Try.prog 59 [.frz (l.map strC) c, .frz [[.prim (.string s)]] c2] S tk k = some (strsA (putS l s), S, tk, k) := by
  refine call_pure Try.func59 rfl rfl (by decide +kernel) (by decide +kernel) Try.ntmps59 rfl rfl _ _ _ rfl ?_; rw [RK_KX]
  simp (maxSteps := 1000000) +contextual (disch := first | with_reducible assumption | exact ⟨rfl⟩ | exact ⟨rfl, rfl⟩ | (refine _root_.id ?_; kernel_rfl) | omega) only [evs, ext_mv, nth, put, putT, getT, binInt, binStr, binBool, aUn, outA, resA, mapO, resA1, oneOf, w1, w2, w3, bots, cond_true, cond_false, if_true, if_false, ite_true, ite_false, reduceIte, reduceCtorEq, implies_true, Nat.reduceAdd, Nat.reduceSub, AV.int, AV.bool, AV.str, Nat.reduceBEq, Nat.reduceEqDiff, Nat.reduceMul, Nat.reduceLT, Nat.reduceLeDiff, Int.reduceNeg, BEq.rfl, beq_self_eq_true, tabl, cellsOf, fldA, ldA, stA, entAt, partA, takeN, over, leafOk, Value.oneCell', idxA, nilA, cellsEq, fillA, elemsA, pure1, pure2, reps, chkA, tys, Try.results59, KX_draw, KX_drawQ, KX_tail, lastO_one, lastO_more, dropL_one, dropL_more, callP_eq, callM_true, w2, w1]
  refine loop1 (P := Try.prog) (fun x st => st.T.length = 33 ∧ (x.1 ≤ l.length) ∧ (x.2.1 = l.take x.1) ∧ getT st.T 0 = strsA l ∧ getT st.T 1 = .frz [[.prim (.string s)]] .unk ∧ getT st.T 5 = .frz (x.2.1.map strC) x.2.2 ∧ getT st.T 8 = strsA l ∧ getT st.T 9 = .int l.length ∧ getT st.T 10 = .int (x.1 : Nat) ∧ st.S = []) (fun x => l.length - x.1) (fun x => strsA (putS l s)) (0, [], .nilc) ?_ ?_
  case refine_2 => exact ⟨rfl, Nat.zero_le _, rfl, rfl, rfl, rfl, rfl, rfl, rfl, rfl⟩
  rintro ⟨j, out, c3⟩ ⟨T, S', tk', n'⟩ ⟨hl, hj, ho, e0, e1, e5, e8, e9, e10, eS⟩ IH
  simp only at hj ho e0 e1 e5 e8 e9 e10 eS
  subst eS
  obtain ⟨g, hg, hT⟩ := tab_of hl
  rw [hg] at e0 e1 e5 e8 e9 e10
  subst hT
  clear hg hl
  have hjw := wrap_add (i := j) (m := 0) (by omega)
  have hol : out.length ≤ l.length := by rw [ho]; simp; omega
  by_cases hlt : j < l.length
  · have d1 : decide ((j : Int) < (l.length : Int)) = true := by simpa using hlt
    obtain ⟨x, hx⟩ := nth_some hlt
    have hx' := nth_str hx
    have hP := fun S tk k => R04_put S tk k out x c3 (by omega)
    have hpe : putS out x = out ++ [x] := putS_end fun y hy => by
      rw [ho] at hy
      have h1 : Inc (l.take j ++ l.drop j) := by rw [List.take_append_drop]; exact hi
      exact (List.pairwise_append.1 h1).2.2 y hy x (by rw [nth_drop hx]; simp)
    rw [hpe] at hP
    simp only [strsA] at hP
    have hts := take_snoc hx
    simp (maxSteps := 1000000) +contextual (disch := first | with_reducible assumption | exact ⟨rfl⟩ | exact ⟨rfl, rfl⟩ | (refine _root_.id ?_; kernel_rfl) | omega) only [evs, ext_mv, nth, put, putT, getT, binInt, binStr, binBool, aUn, outA, resA, mapO, resA1, oneOf, w1, w2, w3, bots, cond_true, cond_false, if_true, if_false, ite_true, ite_false, reduceIte, reduceCtorEq, implies_true, Nat.reduceAdd, Nat.reduceSub, AV.int, AV.bool, AV.str, Nat.reduceBEq, Nat.reduceEqDiff, Nat.reduceMul, Nat.reduceLT, Nat.reduceLeDiff, Int.reduceNeg, BEq.rfl, beq_self_eq_true, tabl, cellsOf, fldA, ldA, stA, entAt, partA, takeN, over, leafOk, Value.oneCell', idxA, nilA, cellsEq, fillA, elemsA, pure1, pure2, reps, chkA, tys, Try.results59, KX_draw, KX_drawQ, KX_tail, lastO_one, lastO_more, dropL_one, dropL_more, callP_eq, callM_true, e0, e1, e5, e8, e9, e10, d1, strsA, hx', hjw, hP]
    exact IH (j + 1, out ++ [x], .unk) _ (by first | omega | (simp only; omega)) ⟨rfl, by first | omega | (dsimp only; omega), by rw [hts, ho], (by first | rfl | simp only [getT, List.map_append, List.map_cons, List.map_nil, strC, strsA, and_self]), (by first | rfl | simp only [getT, List.map_append, List.map_cons, List.map_nil, strC, strsA, and_self]), (by first | rfl | simp only [getT, List.map_append, List.map_cons, List.map_nil, strC, strsA, and_self]), (by first | rfl | simp only [getT, List.map_append, List.map_cons, List.map_nil, strC, strsA, and_self]), (by first | rfl | simp only [getT, List.map_append, List.map_cons, List.map_nil, strC, strsA, and_self]), (by first | rfl | simp only [getT, List.map_append, List.map_cons, List.map_nil, strC, strsA, and_self]), (by first | rfl | simp only [getT, List.map_append, List.map_cons, List.map_nil, strC, strsA, and_self])⟩
  · have d1 : decide ((j : Int) < (l.length : Int)) = false := by simpa using hlt
    have hje : j = l.length := by omega
    subst hje
    rw [List.take_length] at ho
    subst ho
    have hP := fun S tk k => R04_put S tk k out s c3 (by omega)
    simp only [strsA] at hP
    simp (maxSteps := 1000000) +contextual (disch := first | with_reducible assumption | exact ⟨rfl⟩ | exact ⟨rfl, rfl⟩ | (refine _root_.id ?_; kernel_rfl) | omega) only [evs, ext_mv, nth, put, putT, getT, binInt, binStr, binBool, aUn, outA, resA, mapO, resA1, oneOf, w1, w2, w3, bots, cond_true, cond_false, if_true, if_false, ite_true, ite_false, reduceIte, reduceCtorEq, implies_true, Nat.reduceAdd, Nat.reduceSub, AV.int, AV.bool, AV.str, Nat.reduceBEq, Nat.reduceEqDiff, Nat.reduceMul, Nat.reduceLT, Nat.reduceLeDiff, Int.reduceNeg, BEq.rfl, beq_self_eq_true, tabl, cellsOf, fldA, ldA, stA, entAt, partA, takeN, over, leafOk, Value.oneCell', idxA, nilA, cellsEq, fillA, elemsA, pure1, pure2, reps, chkA, tys, Try.results59, KX_draw, KX_drawQ, KX_tail, lastO_one, lastO_more, dropL_one, dropL_more, callP_eq, callM_true, e0, e1, e5, e8, e9, e10, d1, strsA]
    refine loop1 (P := Try.prog) (fun x st => st.T.length = 33 ∧ (x ≤ 1) ∧ getT st.T 1 = .frz [[.prim (.string s)]] .unk ∧ getT st.T 5 = (if x = 0 then .frz (out.map strC) c3 else strsA (putS out s)) ∧ getT st.T 20 = .frz [[.prim (.string s)]] .unk ∧ getT st.T 21 = .int ((1 : Nat) : Int) ∧ getT st.T 22 = .int (x : Nat) ∧ st.S = []) (fun x => 1 - x) (fun x => strsA (putS out s)) (0) ?_ ?_
    case refine_2 => exact ⟨rfl, Nat.zero_le _, rfl, rfl, rfl, rfl, rfl, rfl⟩
    rintro j ⟨T, S', tk', n'⟩ ⟨hl, hj, e1, e5, e20, e21, e22, eS⟩ IH
    subst eS
    obtain ⟨g, hg, hT⟩ := tab_of hl
    rw [hg] at e1 e5 e20 e21 e22
    subst hT
    clear hg hl
    by_cases h0 : j = 0
    · subst h0
      rw [if_pos rfl] at e5
      have d2 : decide (((0 : Nat) : Int) < ((1 : Nat) : Int)) = true := rfl
      have hjw2 : IntKind.i64.wrap (((0 : Nat) : Int) + 1) = ((1 : Nat) : Int) := wrap_of (by unfold i64; omega)
      simp (maxSteps := 1000000) +contextual (disch := first | with_reducible assumption | exact ⟨rfl⟩ | exact ⟨rfl, rfl⟩ | (refine _root_.id ?_; kernel_rfl) | omega) only [evs, ext_mv, nth, put, putT, getT, binInt, binStr, binBool, aUn, outA, resA, mapO, resA1, oneOf, w1, w2, w3, bots, cond_true, cond_false, if_true, if_false, ite_true, ite_false, reduceIte, reduceCtorEq, implies_true, Nat.reduceAdd, Nat.reduceSub, AV.int, AV.bool, AV.str, Nat.reduceBEq, Nat.reduceEqDiff, Nat.reduceMul, Nat.reduceLT, Nat.reduceLeDiff, Int.reduceNeg, BEq.rfl, beq_self_eq_true, tabl, cellsOf, fldA, ldA, stA, entAt, partA, takeN, over, leafOk, Value.oneCell', idxA, nilA, cellsEq, fillA, elemsA, pure1, pure2, reps, chkA, tys, Try.results59, KX_draw, KX_drawQ, KX_tail, lastO_one, lastO_more, dropL_one, dropL_more, callP_eq, callM_true, e1, e5, e20, e21, e22, d2, hjw2, hP]
      exact IH (1) _ (by first | omega | (simp only; omega)) ⟨rfl, by first | omega | (dsimp only; omega), (by first | rfl | simp only [getT, List.map_append, List.map_cons, List.map_nil, strC, strsA, and_self]), (by first | rfl | simp only [getT, List.map_append, List.map_cons, List.map_nil, strC, strsA, and_self]), (by first | rfl | simp only [getT, List.map_append, List.map_cons, List.map_nil, strC, strsA, and_self]), (by first | rfl | simp only [getT, List.map_append, List.map_cons, List.map_nil, strC, strsA, and_self]), (by first | rfl | simp only [getT, List.map_append, List.map_cons, List.map_nil, strC, strsA, and_self]), (by first | rfl | simp only [getT, List.map_append, List.map_cons, List.map_nil, strC, strsA, and_self])⟩
    · have hj1 : j = 1 := by omega
      subst hj1
      rw [if_neg (by omega)] at e5
      have d2 : decide (((1 : Nat) : Int) < ((1 : Nat) : Int)) = false := rfl
      simp (maxSteps := 1000000) +contextual (disch := first | with_reducible assumption | exact ⟨rfl⟩ | exact ⟨rfl, rfl⟩ | (refine _root_.id ?_; kernel_rfl) | omega) only [evs, ext_mv, nth, put, putT, getT, binInt, binStr, binBool, aUn, outA, resA, mapO, resA1, oneOf, w1, w2, w3, bots, cond_true, cond_false, if_true, if_false, ite_true, ite_false, reduceIte, reduceCtorEq, implies_true, Nat.reduceAdd, Nat.reduceSub, AV.int, AV.bool, AV.str, Nat.reduceBEq, Nat.reduceEqDiff, Nat.reduceMul, Nat.reduceLT, Nat.reduceLeDiff, Int.reduceNeg, BEq.rfl, beq_self_eq_true, tabl, cellsOf, fldA, ldA, stA, entAt, partA, takeN, over, leafOk, Value.oneCell', idxA, nilA, cellsEq, fillA, elemsA, pure1, pure2, reps, chkA, tys, Try.results59, KX_draw, KX_drawQ, KX_tail, lastO_one, lastO_more, dropL_one, dropL_more, callP_eq, callM_true, e1, e5, e20, e21, e22, d2, strsA]
theorem linear_CheckA (cs : List (ByteArray × Int)) (n : Int) : cL Try.prog 37 [linA cs n] S tk k = some (.int (checkF cs n), S, tk, k) := by
  by_cases h : 24 < cs.length
  · refine call_pure Try.func37 rfl rfl (by decide +kernel) (by decide +kernel) Try.ntmps37 rfl rfl _ _ _ rfl ?_; rw [RK_KX]
    have d : decide ((cs.length : Int) > 24) = true := by simp; omega
    simp (maxSteps := 1000000) +contextual (disch := first | with_reducible assumption | exact ⟨rfl⟩ | exact ⟨rfl, rfl⟩ | (refine _root_.id ?_; kernel_rfl) | omega) only [evs, ext_mv, nth, put, putT, getT, binInt, binStr, binBool, aUn, outA, resA, mapO, resA1, oneOf, w1, w2, w3, bots, cond_true, cond_false, if_true, if_false, ite_true, ite_false, reduceIte, reduceCtorEq, implies_true, Nat.reduceAdd, Nat.reduceSub, AV.int, AV.bool, AV.str, Nat.reduceBEq, Nat.reduceEqDiff, Nat.reduceMul, Nat.reduceLT, Nat.reduceLeDiff, Int.reduceNeg, BEq.rfl, beq_self_eq_true, tabl, cellsOf, fldA, ldA, stA, entAt, partA, takeN, over, leafOk, Value.oneCell', idxA, nilA, cellsEq, fillA, elemsA, pure1, pure2, reps, chkA, tys, Try.results37, KX_draw, KX_drawQ, KX_tail, lastO_one, lastO_more, dropL_one, dropL_more, callP_eq, callM_true, linA, coefsA, d]
    unfold checkF; rw [if_pos h]
  · exact linear_Check S tk k cs n (by omega)
theorem R11_CheckA (cs : List (ByteArray × Int)) (n : Int) : cL Try.prog 42 [linA cs n] S tk k = some (.int (checkF cs n), S, tk, k) := by
  by_cases h : 24 < cs.length
  · refine call_pure Try.func42 rfl rfl (by decide +kernel) (by decide +kernel) Try.ntmps42 rfl rfl _ _ _ rfl ?_; rw [RK_KX]
    have d : decide ((cs.length : Int) > 24) = true := by simp; omega
    simp (maxSteps := 1000000) +contextual (disch := first | with_reducible assumption | exact ⟨rfl⟩ | exact ⟨rfl, rfl⟩ | (refine _root_.id ?_; kernel_rfl) | omega) only [evs, ext_mv, nth, put, putT, getT, binInt, binStr, binBool, aUn, outA, resA, mapO, resA1, oneOf, w1, w2, w3, bots, cond_true, cond_false, if_true, if_false, ite_true, ite_false, reduceIte, reduceCtorEq, implies_true, Nat.reduceAdd, Nat.reduceSub, AV.int, AV.bool, AV.str, Nat.reduceBEq, Nat.reduceEqDiff, Nat.reduceMul, Nat.reduceLT, Nat.reduceLeDiff, Int.reduceNeg, BEq.rfl, beq_self_eq_true, tabl, cellsOf, fldA, ldA, stA, entAt, partA, takeN, over, leafOk, Value.oneCell', idxA, nilA, cellsEq, fillA, elemsA, pure1, pure2, reps, chkA, tys, Try.results42, KX_draw, KX_drawQ, KX_tail, lastO_one, lastO_more, dropL_one, dropL_more, callP_eq, callM_true, linA, coefsA, d]
    unfold checkF; rw [if_pos h]
  · exact R11_Check S tk k cs n (by omega)
end
end Go.Proofs.Ytcandeobhlfkbaa
/-
  The values up to a bound; whether a point satisfies rows; when a row is hopeless.
-/


namespace Go.Proofs.Ytcandeobhlfkbaa
open Go
def intC (x : Int) : List AV := [.prim (.int .i64 x)]
def valsN : Nat → List Int
  | 0 => [0]
  | n + 1 => valsN n ++ [((n + 1 : Nat) : Int), -((n + 1 : Nat) : Int)]
def valsF (most : Int) : List Int := if most < 0 ∨ 8 < most then [] else valsN most.toNat
theorem valsN_len : ∀ n, (valsN n).length = 2 * n + 1
  | 0 => rfl
  | n + 1 => by simp only [valsN, List.length_append, valsN_len n, List.length_cons, List.length_nil]; omega
def rowOk (pt : Pt) (r : RowT) : Bool := (valueF r.1 r.2.1 pt).2 && (decide ((valueF r.1 r.2.1 pt).1 ≤ 0) && (!r.2.2 || (valueF r.1 r.2.1 pt).1 == 0))
def satF (l : List RowT) (pt : Pt) : Bool := l.all (rowOk pt)
section
variable (S : List Ent) (tk : List Nat) (k : Nat)
theorem models_Values (most : Int) : cL Try.prog 12 [.int most] S tk k = some (.frz ((valsF most).map intC) .unk, S, tk, k) := by
  refine call_pure Try.func12 rfl rfl (by decide +kernel) (by decide +kernel) Try.ntmps12 rfl rfl _ _ _ rfl ?_; rw [RK_KX]
  by_cases h0 : most < 0
  · have d0 : decide (most < 0) = true := by simpa using h0
    simp (maxSteps := 1000000) +contextual (disch := first | with_reducible assumption | exact ⟨rfl⟩ | exact ⟨rfl, rfl⟩ | (refine _root_.id ?_; kernel_rfl) | omega) only [evs, ext_mv, nth, put, putT, getT, binInt, binStr, binBool, aUn, outA, resA, mapO, resA1, oneOf, w1, w2, w3, bots, cond_true, cond_false, if_true, if_false, ite_true, ite_false, reduceIte, reduceCtorEq, implies_true, Nat.reduceAdd, Nat.reduceSub, AV.int, AV.bool, AV.str, Nat.reduceBEq, Nat.reduceEqDiff, Nat.reduceMul, Nat.reduceLT, Nat.reduceLeDiff, Int.reduceNeg, BEq.rfl, beq_self_eq_true, tabl, cellsOf, fldA, ldA, stA, entAt, partA, takeN, over, leafOk, Value.oneCell', idxA, nilA, cellsEq, fillA, elemsA, pure1, pure2, reps, chkA, tys, Try.results12, KX_draw, KX_drawQ, KX_tail, lastO_one, lastO_more, dropL_one, dropL_more, callP_eq, callM_true, d0]
    simp [valsF, h0]
  have d0 : decide (most < 0) = false := by simpa using h0
  by_cases h8 : 8 < most
  · have d8 : decide (most > 8) = true := by simpa using h8
    simp (maxSteps := 1000000) +contextual (disch := first | with_reducible assumption | exact ⟨rfl⟩ | exact ⟨rfl, rfl⟩ | (refine _root_.id ?_; kernel_rfl) | omega) only [evs, ext_mv, nth, put, putT, getT, binInt, binStr, binBool, aUn, outA, resA, mapO, resA1, oneOf, w1, w2, w3, bots, cond_true, cond_false, if_true, if_false, ite_true, ite_false, reduceIte, reduceCtorEq, implies_true, Nat.reduceAdd, Nat.reduceSub, AV.int, AV.bool, AV.str, Nat.reduceBEq, Nat.reduceEqDiff, Nat.reduceMul, Nat.reduceLT, Nat.reduceLeDiff, Int.reduceNeg, BEq.rfl, beq_self_eq_true, tabl, cellsOf, fldA, ldA, stA, entAt, partA, takeN, over, leafOk, Value.oneCell', idxA, nilA, cellsEq, fillA, elemsA, pure1, pure2, reps, chkA, tys, Try.results12, KX_draw, KX_drawQ, KX_tail, lastO_one, lastO_more, dropL_one, dropL_more, callP_eq, callM_true, d0, d8]
    simp [valsF, h8]
  have d8 : decide (most > 8) = false := by simpa using h8
  obtain ⟨m, rfl⟩ : ∃ m : Nat, most = (m : Int) := ⟨most.toNat, by omega⟩
  have hv : valsF (m : Int) = valsN m := by unfold valsF; rw [if_neg (by omega)]; congr 1
  rw [hv]
  simp (maxSteps := 1000000) +contextual (disch := first | with_reducible assumption | exact ⟨rfl⟩ | exact ⟨rfl, rfl⟩ | (refine _root_.id ?_; kernel_rfl) | omega) only [evs, ext_mv, nth, put, putT, getT, binInt, binStr, binBool, aUn, outA, resA, mapO, resA1, oneOf, w1, w2, w3, bots, cond_true, cond_false, if_true, if_false, ite_true, ite_false, reduceIte, reduceCtorEq, implies_true, Nat.reduceAdd, Nat.reduceSub, AV.int, AV.bool, AV.str, Nat.reduceBEq, Nat.reduceEqDiff, Nat.reduceMul, Nat.reduceLT, Nat.reduceLeDiff, Int.reduceNeg, BEq.rfl, beq_self_eq_true, tabl, cellsOf, fldA, ldA, stA, entAt, partA, takeN, over, leafOk, Value.oneCell', idxA, nilA, cellsEq, fillA, elemsA, pure1, pure2, reps, chkA, tys, Try.results12, KX_draw, KX_drawQ, KX_tail, lastO_one, lastO_more, dropL_one, dropL_more, callP_eq, callM_true, d0, d8]
  refine loop1 (P := Try.prog) (fun x st => st.T.length = 24 ∧ (x.1 ≤ m) ∧ (x.2.1 = valsN x.1) ∧ (okCap st.tk x.2.2 1 = true) ∧ getT st.T 0 = .int (m : Nat) ∧ getT st.T 3 = .frz (x.2.1.map intC) x.2.2 ∧ getT st.T 4 = .int ((x.1 + 1 : Nat) : Int) ∧ st.S = []) (fun x => m - x.1) (fun x => .frz ((valsN m).map intC) .unk) (0, [0], .tight) ?_ ?_
  case refine_2 => exact ⟨rfl, Nat.zero_le _, rfl, rfl, rfl, rfl, rfl, rfl⟩
  rintro ⟨i, out, c⟩ ⟨T, S', tk', n'⟩ ⟨hl, hi, ho, hok, e0, e3, e4, eS⟩ IH
  simp only at hi ho hok e0 e3 e4 eS
  subst eS
  obtain ⟨g, hg, hT⟩ := tab_of hl
  rw [hg] at e0 e3 e4
  subst hT
  clear hg hl
  have hw := wrap_add (i := i + 1) (m := 0) (by omega)
  have hneg : IntKind.i64.wrap (0 - ((i + 1 : Nat) : Int)) = -((i + 1 : Nat) : Int) := by rw [wrap_of (by unfold i64; omega)]; omega
  by_cases hlt : i < m
  · have d1 : decide (((i + 1 : Nat) : Int) ≤ ((m : Nat) : Int)) = true := by simp; omega
    have hr : rowsOk 1 (out.map intC) = true := rowsOk_map (f := intC) (sz := 1) (fun _ => rfl) out
    have hn1 : (out.map intC).length + [[(.prim (.int .i64 ((i + 1 : Nat) : Int)) : AV)], [.prim (.int .i64 (-((i + 1 : Nat) : Int)))]].length ≤ 1048576 := by
      rw [ho]; simp only [List.length_map, valsN_len, List.length_cons, List.length_nil]; omega
    have hok' := okCap_new hok
    simp (maxSteps := 1000000) +contextual (disch := first | with_reducible assumption | exact ⟨rfl⟩ | exact ⟨rfl, rfl⟩ | (refine _root_.id ?_; kernel_rfl) | omega) only [evs, ext_mv, nth, put, putT, getT, binInt, binStr, binBool, aUn, outA, resA, mapO, resA1, oneOf, w1, w2, w3, bots, cond_true, cond_false, if_true, if_false, ite_true, ite_false, reduceIte, reduceCtorEq, implies_true, Nat.reduceAdd, Nat.reduceSub, AV.int, AV.bool, AV.str, Nat.reduceBEq, Nat.reduceEqDiff, Nat.reduceMul, Nat.reduceLT, Nat.reduceLeDiff, Int.reduceNeg, BEq.rfl, beq_self_eq_true, tabl, cellsOf, fldA, ldA, stA, entAt, partA, takeN, over, leafOk, Value.oneCell', idxA, nilA, cellsEq, fillA, elemsA, pure1, pure2, reps, chkA, tys, Try.results12, KX_draw, KX_drawQ, KX_tail, lastO_one, lastO_more, dropL_one, dropL_more, callP_eq, callM_true, e0, e3, e4, d1, hw, hneg, hr]
    exact IH (i + 1, out ++ [((i + 1 : Nat) : Int), -((i + 1 : Nat) : Int)], capNew tk' c 1) _ (by first | omega | (simp only; omega)) ⟨rfl, by first | omega | (dsimp only; omega), by rw [ho]; rfl, hok', (by first | rfl | simp only [getT, List.map_append, List.map_cons, List.map_nil, intC, and_self]), (by first | rfl | simp only [getT, List.map_append, List.map_cons, List.map_nil, intC, and_self]), (by first | rfl | simp only [getT, List.map_append, List.map_cons, List.map_nil, intC, and_self]), (by first | rfl | simp only [getT, List.map_append, List.map_cons, List.map_nil, intC, and_self])⟩
  · have d1 : decide (((i + 1 : Nat) : Int) ≤ ((m : Nat) : Int)) = false := by simp; omega
    have hie : i = m := by omega
    subst hie
    simp (maxSteps := 1000000) +contextual (disch := first | with_reducible assumption | exact ⟨rfl⟩ | exact ⟨rfl, rfl⟩ | (refine _root_.id ?_; kernel_rfl) | omega) only [evs, ext_mv, nth, put, putT, getT, binInt, binStr, binBool, aUn, outA, resA, mapO, resA1, oneOf, w1, w2, w3, bots, cond_true, cond_false, if_true, if_false, ite_true, ite_false, reduceIte, reduceCtorEq, implies_true, Nat.reduceAdd, Nat.reduceSub, AV.int, AV.bool, AV.str, Nat.reduceBEq, Nat.reduceEqDiff, Nat.reduceMul, Nat.reduceLT, Nat.reduceLeDiff, Int.reduceNeg, BEq.rfl, beq_self_eq_true, tabl, cellsOf, fldA, ldA, stA, entAt, partA, takeN, over, leafOk, Value.oneCell', idxA, nilA, cellsEq, fillA, elemsA, pure1, pure2, reps, chkA, tys, Try.results12, KX_draw, KX_drawQ, KX_tail, lastO_one, lastO_more, dropL_one, dropL_more, callP_eq, callM_true, e0, e3, e4, d1]
    rw [ho]
theorem R15_Values (most : Int) : cL Try.prog 13 [.int most] S tk k = some (.frz ((valsF most).map intC) .unk, S, tk, k) := by
  refine call_pure Try.func13 rfl rfl (by decide +kernel) (by decide +kernel) Try.ntmps13 rfl rfl _ _ _ rfl ?_; rw [RK_KX]
  by_cases h0 : most < 0
  · have d0 : decide (most < 0) = true := by simpa using h0
    simp (maxSteps := 1000000) +contextual (disch := first | with_reducible assumption | exact ⟨rfl⟩ | exact ⟨rfl, rfl⟩ | (refine _root_.id ?_; kernel_rfl) | omega) only [evs, ext_mv, nth, put, putT, getT, binInt, binStr, binBool, aUn, outA, resA, mapO, resA1, oneOf, w1, w2, w3, bots, cond_true, cond_false, if_true, if_false, ite_true, ite_false, reduceIte, reduceCtorEq, implies_true, Nat.reduceAdd, Nat.reduceSub, AV.int, AV.bool, AV.str, Nat.reduceBEq, Nat.reduceEqDiff, Nat.reduceMul, Nat.reduceLT, Nat.reduceLeDiff, Int.reduceNeg, BEq.rfl, beq_self_eq_true, tabl, cellsOf, fldA, ldA, stA, entAt, partA, takeN, over, leafOk, Value.oneCell', idxA, nilA, cellsEq, fillA, elemsA, pure1, pure2, reps, chkA, tys, Try.results13, KX_draw, KX_drawQ, KX_tail, lastO_one, lastO_more, dropL_one, dropL_more, callP_eq, callM_true, d0]
    simp [valsF, h0]
  have d0 : decide (most < 0) = false := by simpa using h0
  by_cases h8 : 8 < most
  · have d8 : decide (most > 8) = true := by simpa using h8
    simp (maxSteps := 1000000) +contextual (disch := first | with_reducible assumption | exact ⟨rfl⟩ | exact ⟨rfl, rfl⟩ | (refine _root_.id ?_; kernel_rfl) | omega) only [evs, ext_mv, nth, put, putT, getT, binInt, binStr, binBool, aUn, outA, resA, mapO, resA1, oneOf, w1, w2, w3, bots, cond_true, cond_false, if_true, if_false, ite_true, ite_false, reduceIte, reduceCtorEq, implies_true, Nat.reduceAdd, Nat.reduceSub, AV.int, AV.bool, AV.str, Nat.reduceBEq, Nat.reduceEqDiff, Nat.reduceMul, Nat.reduceLT, Nat.reduceLeDiff, Int.reduceNeg, BEq.rfl, beq_self_eq_true, tabl, cellsOf, fldA, ldA, stA, entAt, partA, takeN, over, leafOk, Value.oneCell', idxA, nilA, cellsEq, fillA, elemsA, pure1, pure2, reps, chkA, tys, Try.results13, KX_draw, KX_drawQ, KX_tail, lastO_one, lastO_more, dropL_one, dropL_more, callP_eq, callM_true, d0, d8]
    simp [valsF, h8]
  have d8 : decide (most > 8) = false := by simpa using h8
  obtain ⟨m, rfl⟩ : ∃ m : Nat, most = (m : Int) := ⟨most.toNat, by omega⟩
  have hv : valsF (m : Int) = valsN m := by unfold valsF; rw [if_neg (by omega)]; congr 1
  rw [hv]
  simp (maxSteps := 1000000) +contextual (disch := first | with_reducible assumption | exact ⟨rfl⟩ | exact ⟨rfl, rfl⟩ | (refine _root_.id ?_; kernel_rfl) | omega) only [evs, ext_mv, nth, put, putT, getT, binInt, binStr, binBool, aUn, outA, resA, mapO, resA1, oneOf, w1, w2, w3, bots, cond_true, cond_false, if_true, if_false, ite_true, ite_false, reduceIte, reduceCtorEq, implies_true, Nat.reduceAdd, Nat.reduceSub, AV.int, AV.bool, AV.str, Nat.reduceBEq, Nat.reduceEqDiff, Nat.reduceMul, Nat.reduceLT, Nat.reduceLeDiff, Int.reduceNeg, BEq.rfl, beq_self_eq_true, tabl, cellsOf, fldA, ldA, stA, entAt, partA, takeN, over, leafOk, Value.oneCell', idxA, nilA, cellsEq, fillA, elemsA, pure1, pure2, reps, chkA, tys, Try.results13, KX_draw, KX_drawQ, KX_tail, lastO_one, lastO_more, dropL_one, dropL_more, callP_eq, callM_true, d0, d8]
  refine loop1 (P := Try.prog) (fun x st => st.T.length = 24 ∧ (x.1 ≤ m) ∧ (x.2.1 = valsN x.1) ∧ (okCap st.tk x.2.2 1 = true) ∧ getT st.T 0 = .int (m : Nat) ∧ getT st.T 3 = .frz (x.2.1.map intC) x.2.2 ∧ getT st.T 4 = .int ((x.1 + 1 : Nat) : Int) ∧ st.S = []) (fun x => m - x.1) (fun x => .frz ((valsN m).map intC) .unk) (0, [0], .tight) ?_ ?_
  case refine_2 => exact ⟨rfl, Nat.zero_le _, rfl, rfl, rfl, rfl, rfl, rfl⟩
  rintro ⟨i, out, c⟩ ⟨T, S', tk', n'⟩ ⟨hl, hi, ho, hok, e0, e3, e4, eS⟩ IH
  simp only at hi ho hok e0 e3 e4 eS
  subst eS
  obtain ⟨g, hg, hT⟩ := tab_of hl
  rw [hg] at e0 e3 e4
  subst hT
  clear hg hl
  have hw := wrap_add (i := i + 1) (m := 0) (by omega)
  have hneg : IntKind.i64.wrap (0 - ((i + 1 : Nat) : Int)) = -((i + 1 : Nat) : Int) := by rw [wrap_of (by unfold i64; omega)]; omega
  by_cases hlt : i < m
  · have d1 : decide (((i + 1 : Nat) : Int) ≤ ((m : Nat) : Int)) = true := by simp; omega
    have hr : rowsOk 1 (out.map intC) = true := rowsOk_map (f := intC) (sz := 1) (fun _ => rfl) out
    have hn1 : (out.map intC).length + [[(.prim (.int .i64 ((i + 1 : Nat) : Int)) : AV)], [.prim (.int .i64 (-((i + 1 : Nat) : Int)))]].length ≤ 1048576 := by
      rw [ho]; simp only [List.length_map, valsN_len, List.length_cons, List.length_nil]; omega
    have hok' := okCap_new hok
    simp (maxSteps := 1000000) +contextual (disch := first | with_reducible assumption | exact ⟨rfl⟩ | exact ⟨rfl, rfl⟩ | (refine _root_.id ?_; kernel_rfl) | omega) only [evs, ext_mv, nth, put, putT, getT, binInt, binStr, binBool, aUn, outA, resA, mapO, resA1, oneOf, w1, w2, w3, bots, cond_true, cond_false, if_true, if_false, ite_true, ite_false, reduceIte, reduceCtorEq, implies_true, Nat.reduceAdd, Nat.reduceSub, AV.int, AV.bool, AV.str, Nat.reduceBEq, Nat.reduceEqDiff, Nat.reduceMul, Nat.reduceLT, Nat.reduceLeDiff, Int.reduceNeg, BEq.rfl, beq_self_eq_true, tabl, cellsOf, fldA, ldA, stA, entAt, partA, takeN, over, leafOk, Value.oneCell', idxA, nilA, cellsEq, fillA, elemsA, pure1, pure2, reps, chkA, tys, Try.results13, KX_draw, KX_drawQ, KX_tail, lastO_one, lastO_more, dropL_one, dropL_more, callP_eq, callM_true, e0, e3, e4, d1, hw, hneg, hr]
    exact IH (i + 1, out ++ [((i + 1 : Nat) : Int), -((i + 1 : Nat) : Int)], capNew tk' c 1) _ (by first | omega | (simp only; omega)) ⟨rfl, by first | omega | (dsimp only; omega), by rw [ho]; rfl, hok', (by first | rfl | simp only [getT, List.map_append, List.map_cons, List.map_nil, intC, and_self]), (by first | rfl | simp only [getT, List.map_append, List.map_cons, List.map_nil, intC, and_self]), (by first | rfl | simp only [getT, List.map_append, List.map_cons, List.map_nil, intC, and_self]), (by first | rfl | simp only [getT, List.map_append, List.map_cons, List.map_nil, intC, and_self])⟩
  · have d1 : decide (((i + 1 : Nat) : Int) ≤ ((m : Nat) : Int)) = false := by simp; omega
    have hie : i = m := by omega
    subst hie
    simp (maxSteps := 1000000) +contextual (disch := first | with_reducible assumption | exact ⟨rfl⟩ | exact ⟨rfl, rfl⟩ | (refine _root_.id ?_; kernel_rfl) | omega) only [evs, ext_mv, nth, put, putT, getT, binInt, binStr, binBool, aUn, outA, resA, mapO, resA1, oneOf, w1, w2, w3, bots, cond_true, cond_false, if_true, if_false, ite_true, ite_false, reduceIte, reduceCtorEq, implies_true, Nat.reduceAdd, Nat.reduceSub, AV.int, AV.bool, AV.str, Nat.reduceBEq, Nat.reduceEqDiff, Nat.reduceMul, Nat.reduceLT, Nat.reduceLeDiff, Int.reduceNeg, BEq.rfl, beq_self_eq_true, tabl, cellsOf, fldA, ldA, stA, entAt, partA, takeN, over, leafOk, Value.oneCell', idxA, nilA, cellsEq, fillA, elemsA, pure1, pure2, reps, chkA, tys, Try.results13, KX_draw, KX_drawQ, KX_tail, lastO_one, lastO_more, dropL_one, dropL_more, callP_eq, callM_true, e0, e3, e4, d1]
    rw [ho]
theorem sat_drop {l : List RowT} {i : Nat} {r : RowT} {pt : Pt} (h : nth l i = some r) : satF (l.drop i) pt = (rowOk pt r && satF (l.drop (i + 1)) pt) := by
  rw [nth_drop h]; rfl
theorem models_Satisfies (l : List RowT) (pt : Pt) (hl : l.length ≤ 1048576) (hr : ∀ r ∈ l, r.1.length ≤ 1048576) (hp : pt.length ≤ 1048576) : cL Try.prog 10 [rowsA l, coefsA pt] S tk k = some (.bool (satF l pt), S, tk, k) := by
  refine call_pure Try.func10 rfl rfl (by decide +kernel) (by decide +kernel) Try.ntmps10 rfl rfl _ _ _ rfl ?_; rw [RK_KX]
  simp (maxSteps := 1000000) +contextual (disch := first | with_reducible assumption | exact ⟨rfl⟩ | exact ⟨rfl, rfl⟩ | (refine _root_.id ?_; kernel_rfl) | omega) only [evs, ext_mv, nth, put, putT, getT, binInt, binStr, binBool, aUn, outA, resA, mapO, resA1, oneOf, w1, w2, w3, bots, cond_true, cond_false, if_true, if_false, ite_true, ite_false, reduceIte, reduceCtorEq, implies_true, Nat.reduceAdd, Nat.reduceSub, AV.int, AV.bool, AV.str, Nat.reduceBEq, Nat.reduceEqDiff, Nat.reduceMul, Nat.reduceLT, Nat.reduceLeDiff, Int.reduceNeg, BEq.rfl, beq_self_eq_true, tabl, cellsOf, fldA, ldA, stA, entAt, partA, takeN, over, leafOk, Value.oneCell', idxA, nilA, cellsEq, fillA, elemsA, pure1, pure2, reps, chkA, tys, Try.results10, KX_draw, KX_drawQ, KX_tail, lastO_one, lastO_more, dropL_one, dropL_more, callP_eq, callM_true, rowsA, coefsA]
  refine loop1 (P := Try.prog) (fun x st => st.T.length = 37 ∧ (x ≤ l.length) ∧ (satF l pt = satF (l.drop x) pt) ∧ getT st.T 1 = coefsA pt ∧ getT st.T 9 = rowsA l ∧ getT st.T 10 = .int l.length ∧ getT st.T 11 = .int (x : Nat) ∧ st.S = []) (fun x => l.length - x) (fun x => .bool (satF l pt)) (0) ?_ ?_
  case refine_2 => exact ⟨rfl, Nat.zero_le _, rfl, rfl, rfl, rfl, rfl, rfl⟩
  rintro i ⟨T, S', tk', n'⟩ ⟨hl, hi, hE, e1, e9, e10, e11, eS⟩ IH
  subst eS
  obtain ⟨g, hg, hT⟩ := tab_of hl
  rw [hg] at e1 e9 e10 e11
  subst hT
  clear hg hl
  have hiw := wrap_add (i := i) (m := 0) (by omega)
  by_cases hlt : i < l.length
  · have d1 : decide ((i : Int) < (l.length : Int)) = true := by simpa using hlt
    obtain ⟨r, hx⟩ := nth_some hlt
    have hx' := nth_row hx
    have hV := fun S tk k => linear_Value S tk k r.1 r.2.1 pt (hr r (mem_nth hx)) hp
    rw [sat_drop hx] at hE
    unfold rowOk at hE
    simp only [rowC, coefsA] at hx'
    simp only [linA, coefsA] at hV
    obtain ⟨⟨n, ok⟩, hv⟩ : ∃ q, valueF r.1 r.2.1 pt = q := ⟨_, rfl⟩
    rw [hv] at hV hE
    simp only at hV hE
    cases ok with
    | false =>
      simp only [Bool.false_and] at hE
      simp (maxSteps := 1000000) +contextual (disch := first | with_reducible assumption | exact ⟨rfl⟩ | exact ⟨rfl, rfl⟩ | (refine _root_.id ?_; kernel_rfl) | omega) only [evs, ext_mv, nth, put, putT, getT, binInt, binStr, binBool, aUn, outA, resA, mapO, resA1, oneOf, w1, w2, w3, bots, cond_true, cond_false, if_true, if_false, ite_true, ite_false, reduceIte, reduceCtorEq, implies_true, Nat.reduceAdd, Nat.reduceSub, AV.int, AV.bool, AV.str, Nat.reduceBEq, Nat.reduceEqDiff, Nat.reduceMul, Nat.reduceLT, Nat.reduceLeDiff, Int.reduceNeg, BEq.rfl, beq_self_eq_true, tabl, cellsOf, fldA, ldA, stA, entAt, partA, takeN, over, leafOk, Value.oneCell', idxA, nilA, cellsEq, fillA, elemsA, pure1, pure2, reps, chkA, tys, Try.results10, KX_draw, KX_drawQ, KX_tail, lastO_one, lastO_more, dropL_one, dropL_more, callP_eq, callM_true, e1, e9, e10, e11, d1, rowsA, coefsA, hx', hV, hiw]
      rw [hE]
    | true =>
      by_cases h0 : n > 0
      · have d2 : decide (n > 0) = true := by simpa using h0
        have d3 : decide (n ≤ 0) = false := by simp; omega
        rw [d3, Bool.true_and, Bool.false_and, Bool.false_and] at hE
        simp (maxSteps := 1000000) +contextual (disch := first | with_reducible assumption | exact ⟨rfl⟩ | exact ⟨rfl, rfl⟩ | (refine _root_.id ?_; kernel_rfl) | omega) only [evs, ext_mv, nth, put, putT, getT, binInt, binStr, binBool, aUn, outA, resA, mapO, resA1, oneOf, w1, w2, w3, bots, cond_true, cond_false, if_true, if_false, ite_true, ite_false, reduceIte, reduceCtorEq, implies_true, Nat.reduceAdd, Nat.reduceSub, AV.int, AV.bool, AV.str, Nat.reduceBEq, Nat.reduceEqDiff, Nat.reduceMul, Nat.reduceLT, Nat.reduceLeDiff, Int.reduceNeg, BEq.rfl, beq_self_eq_true, tabl, cellsOf, fldA, ldA, stA, entAt, partA, takeN, over, leafOk, Value.oneCell', idxA, nilA, cellsEq, fillA, elemsA, pure1, pure2, reps, chkA, tys, Try.results10, KX_draw, KX_drawQ, KX_tail, lastO_one, lastO_more, dropL_one, dropL_more, callP_eq, callM_true, e1, e9, e10, e11, d1, rowsA, coefsA, hx', hV, hiw, d2]
        rw [hE]
      · have d2 : decide (n > 0) = false := by simpa using h0
        have d3 : decide (n ≤ 0) = true := by simp; omega
        rw [d3, Bool.true_and, Bool.true_and] at hE
        cases he : r.2.2 with
        | false =>
          rw [he, Bool.not_false, Bool.true_or, Bool.true_and] at hE
          rw [he] at hx'
          simp (maxSteps := 1000000) +contextual (disch := first | with_reducible assumption | exact ⟨rfl⟩ | exact ⟨rfl, rfl⟩ | (refine _root_.id ?_; kernel_rfl) | omega) only [evs, ext_mv, nth, put, putT, getT, binInt, binStr, binBool, aUn, outA, resA, mapO, resA1, oneOf, w1, w2, w3, bots, cond_true, cond_false, if_true, if_false, ite_true, ite_false, reduceIte, reduceCtorEq, implies_true, Nat.reduceAdd, Nat.reduceSub, AV.int, AV.bool, AV.str, Nat.reduceBEq, Nat.reduceEqDiff, Nat.reduceMul, Nat.reduceLT, Nat.reduceLeDiff, Int.reduceNeg, BEq.rfl, beq_self_eq_true, tabl, cellsOf, fldA, ldA, stA, entAt, partA, takeN, over, leafOk, Value.oneCell', idxA, nilA, cellsEq, fillA, elemsA, pure1, pure2, reps, chkA, tys, Try.results10, KX_draw, KX_drawQ, KX_tail, lastO_one, lastO_more, dropL_one, dropL_more, callP_eq, callM_true, e1, e9, e10, e11, d1, rowsA, coefsA, hx', hV, hiw, d2]
          exact IH (i + 1) _ (by first | omega | (simp only; omega)) ⟨rfl, by first | omega | (dsimp only; omega), hE, (by first | rfl | simp only [getT, List.map_append, List.map_cons, List.map_nil, intC, and_self]), (by first | rfl | simp only [getT, List.map_append, List.map_cons, List.map_nil, intC, and_self]), (by first | rfl | simp only [getT, List.map_append, List.map_cons, List.map_nil, intC, and_self]), (by first | rfl | simp only [getT, List.map_append, List.map_cons, List.map_nil, intC, and_self]), (by first | rfl | simp only [getT, List.map_append, List.map_cons, List.map_nil, intC, and_self])⟩
        | true =>
          rw [he, Bool.not_true, Bool.false_or] at hE
          rw [he] at hx'
          by_cases hz : n = 0
          · have d4 : (n != 0) = false := by simpa using hz
            have d5 : (n == 0) = true := by simpa using hz
            rw [d5, Bool.true_and] at hE
            simp (maxSteps := 1000000) +contextual (disch := first | with_reducible assumption | exact ⟨rfl⟩ | exact ⟨rfl, rfl⟩ | (refine _root_.id ?_; kernel_rfl) | omega) only [evs, ext_mv, nth, put, putT, getT, binInt, binStr, binBool, aUn, outA, resA, mapO, resA1, oneOf, w1, w2, w3, bots, cond_true, cond_false, if_true, if_false, ite_true, ite_false, reduceIte, reduceCtorEq, implies_true, Nat.reduceAdd, Nat.reduceSub, AV.int, AV.bool, AV.str, Nat.reduceBEq, Nat.reduceEqDiff, Nat.reduceMul, Nat.reduceLT, Nat.reduceLeDiff, Int.reduceNeg, BEq.rfl, beq_self_eq_true, tabl, cellsOf, fldA, ldA, stA, entAt, partA, takeN, over, leafOk, Value.oneCell', idxA, nilA, cellsEq, fillA, elemsA, pure1, pure2, reps, chkA, tys, Try.results10, KX_draw, KX_drawQ, KX_tail, lastO_one, lastO_more, dropL_one, dropL_more, callP_eq, callM_true, e1, e9, e10, e11, d1, rowsA, coefsA, hx', hV, hiw, d2, d4]
            exact IH (i + 1) _ (by first | omega | (simp only; omega)) ⟨rfl, by first | omega | (dsimp only; omega), hE, (by first | rfl | simp only [getT, List.map_append, List.map_cons, List.map_nil, intC, and_self]), (by first | rfl | simp only [getT, List.map_append, List.map_cons, List.map_nil, intC, and_self]), (by first | rfl | simp only [getT, List.map_append, List.map_cons, List.map_nil, intC, and_self]), (by first | rfl | simp only [getT, List.map_append, List.map_cons, List.map_nil, intC, and_self]), (by first | rfl | simp only [getT, List.map_append, List.map_cons, List.map_nil, intC, and_self])⟩
          · have d4 : (n != 0) = true := by simpa using hz
            have d5 : (n == 0) = false := by simpa using hz
            rw [d5, Bool.false_and] at hE
            simp (maxSteps := 1000000) +contextual (disch := first | with_reducible assumption | exact ⟨rfl⟩ | exact ⟨rfl, rfl⟩ | (refine _root_.id ?_; kernel_rfl) | omega) only [evs, ext_mv, nth, put, putT, getT, binInt, binStr, binBool, aUn, outA, resA, mapO, resA1, oneOf, w1, w2, w3, bots, cond_true, cond_false, if_true, if_false, ite_true, ite_false, reduceIte, reduceCtorEq, implies_true, Nat.reduceAdd, Nat.reduceSub, AV.int, AV.bool, AV.str, Nat.reduceBEq, Nat.reduceEqDiff, Nat.reduceMul, Nat.reduceLT, Nat.reduceLeDiff, Int.reduceNeg, BEq.rfl, beq_self_eq_true, tabl, cellsOf, fldA, ldA, stA, entAt, partA, takeN, over, leafOk, Value.oneCell', idxA, nilA, cellsEq, fillA, elemsA, pure1, pure2, reps, chkA, tys, Try.results10, KX_draw, KX_drawQ, KX_tail, lastO_one, lastO_more, dropL_one, dropL_more, callP_eq, callM_true, e1, e9, e10, e11, d1, rowsA, coefsA, hx', hV, hiw, d2, d4]
            rw [hE]
  · have d1 : decide ((i : Int) < (l.length : Int)) = false := by simpa using hlt
    have hie : i = l.length := by omega
    rw [hie, List.drop_length] at hE
    simp (maxSteps := 1000000) +contextual (disch := first | with_reducible assumption | exact ⟨rfl⟩ | exact ⟨rfl, rfl⟩ | (refine _root_.id ?_; kernel_rfl) | omega) only [evs, ext_mv, nth, put, putT, getT, binInt, binStr, binBool, aUn, outA, resA, mapO, resA1, oneOf, w1, w2, w3, bots, cond_true, cond_false, if_true, if_false, ite_true, ite_false, reduceIte, reduceCtorEq, implies_true, Nat.reduceAdd, Nat.reduceSub, AV.int, AV.bool, AV.str, Nat.reduceBEq, Nat.reduceEqDiff, Nat.reduceMul, Nat.reduceLT, Nat.reduceLeDiff, Int.reduceNeg, BEq.rfl, beq_self_eq_true, tabl, cellsOf, fldA, ldA, stA, entAt, partA, takeN, over, leafOk, Value.oneCell', idxA, nilA, cellsEq, fillA, elemsA, pure1, pure2, reps, chkA, tys, Try.results10, KX_draw, KX_drawQ, KX_tail, lastO_one, lastO_more, dropL_one, dropL_more, callP_eq, callM_true, e1, e9, e10, e11, d1, rowsA, coefsA]
    rw [hE]; rfl
theorem R15_Satisfies (l : List RowT) (pt : Pt) (hl : l.length ≤ 1048576) (hr : ∀ r ∈ l, r.1.length ≤ 1048576) (hp : pt.length ≤ 1048576) : cL Try.prog 11 [rowsA l, coefsA pt] S tk k = some (.bool (satF l pt), S, tk, k) := by
  refine call_pure Try.func11 rfl rfl (by decide +kernel) (by decide +kernel) Try.ntmps11 rfl rfl _ _ _ rfl ?_; rw [RK_KX]
  simp (maxSteps := 1000000) +contextual (disch := first | with_reducible assumption | exact ⟨rfl⟩ | exact ⟨rfl, rfl⟩ | (refine _root_.id ?_; kernel_rfl) | omega) only [evs, ext_mv, nth, put, putT, getT, binInt, binStr, binBool, aUn, outA, resA, mapO, resA1, oneOf, w1, w2, w3, bots, cond_true, cond_false, if_true, if_false, ite_true, ite_false, reduceIte, reduceCtorEq, implies_true, Nat.reduceAdd, Nat.reduceSub, AV.int, AV.bool, AV.str, Nat.reduceBEq, Nat.reduceEqDiff, Nat.reduceMul, Nat.reduceLT, Nat.reduceLeDiff, Int.reduceNeg, BEq.rfl, beq_self_eq_true, tabl, cellsOf, fldA, ldA, stA, entAt, partA, takeN, over, leafOk, Value.oneCell', idxA, nilA, cellsEq, fillA, elemsA, pure1, pure2, reps, chkA, tys, Try.results11, KX_draw, KX_drawQ, KX_tail, lastO_one, lastO_more, dropL_one, dropL_more, callP_eq, callM_true, rowsA, coefsA]
  refine loop1 (P := Try.prog) (fun x st => st.T.length = 41 ∧ (x ≤ l.length) ∧ (satF l pt = satF (l.drop x) pt) ∧ getT st.T 0 = rowsA l ∧ getT st.T 1 = coefsA pt ∧ getT st.T 5 = .int (x : Nat) ∧ st.S = []) (fun x => l.length - x) (fun x => .bool (satF l pt)) (0) ?_ ?_
  case refine_2 => exact ⟨rfl, Nat.zero_le _, rfl, rfl, rfl, rfl, rfl⟩
  rintro i ⟨T, S', tk', n'⟩ ⟨hl, hi, hE, e0, e1, e5, eS⟩ IH
  subst eS
  obtain ⟨g, hg, hT⟩ := tab_of hl
  rw [hg] at e0 e1 e5
  subst hT
  clear hg hl
  have hiw := wrap_add (i := i) (m := 0) (by omega)
  by_cases hlt : i < l.length
  · have d1 : decide ((i : Int) < (l.length : Int)) = true := by simpa using hlt
    obtain ⟨r, hx⟩ := nth_some hlt
    have hx' := nth_row hx
    have hV := fun S tk k => R11_Value S tk k r.1 r.2.1 pt (hr r (mem_nth hx)) hp
    rw [sat_drop hx] at hE
    unfold rowOk at hE
    simp only [rowC, coefsA] at hx'
    simp only [linA, coefsA] at hV
    obtain ⟨⟨n, ok⟩, hv⟩ : ∃ q, valueF r.1 r.2.1 pt = q := ⟨_, rfl⟩
    rw [hv] at hV hE
    simp only at hV hE
    cases ok with
    | false =>
      simp only [Bool.false_and] at hE
      simp (maxSteps := 1000000) +contextual (disch := first | with_reducible assumption | exact ⟨rfl⟩ | exact ⟨rfl, rfl⟩ | (refine _root_.id ?_; kernel_rfl) | omega) only [evs, ext_mv, nth, put, putT, getT, binInt, binStr, binBool, aUn, outA, resA, mapO, resA1, oneOf, w1, w2, w3, bots, cond_true, cond_false, if_true, if_false, ite_true, ite_false, reduceIte, reduceCtorEq, implies_true, Nat.reduceAdd, Nat.reduceSub, AV.int, AV.bool, AV.str, Nat.reduceBEq, Nat.reduceEqDiff, Nat.reduceMul, Nat.reduceLT, Nat.reduceLeDiff, Int.reduceNeg, BEq.rfl, beq_self_eq_true, tabl, cellsOf, fldA, ldA, stA, entAt, partA, takeN, over, leafOk, Value.oneCell', idxA, nilA, cellsEq, fillA, elemsA, pure1, pure2, reps, chkA, tys, Try.results11, KX_draw, KX_drawQ, KX_tail, lastO_one, lastO_more, dropL_one, dropL_more, callP_eq, callM_true, e0, e1, e5, d1, rowsA, coefsA, hx', hV, hiw]
      rw [hE]
    | true =>
      cases he : r.2.2 with
      | false =>
        rw [he, Bool.not_false, Bool.true_or, Bool.and_true, Bool.true_and] at hE
        rw [he] at hx'
        by_cases h0 : n > 0
        · have d2 : decide (n > 0) = true := by simpa using h0
          have d3 : decide (n ≤ 0) = false := by simp; omega
          rw [d3, Bool.false_and] at hE
          simp (maxSteps := 1000000) +contextual (disch := first | with_reducible assumption | exact ⟨rfl⟩ | exact ⟨rfl, rfl⟩ | (refine _root_.id ?_; kernel_rfl) | omega) only [evs, ext_mv, nth, put, putT, getT, binInt, binStr, binBool, aUn, outA, resA, mapO, resA1, oneOf, w1, w2, w3, bots, cond_true, cond_false, if_true, if_false, ite_true, ite_false, reduceIte, reduceCtorEq, implies_true, Nat.reduceAdd, Nat.reduceSub, AV.int, AV.bool, AV.str, Nat.reduceBEq, Nat.reduceEqDiff, Nat.reduceMul, Nat.reduceLT, Nat.reduceLeDiff, Int.reduceNeg, BEq.rfl, beq_self_eq_true, tabl, cellsOf, fldA, ldA, stA, entAt, partA, takeN, over, leafOk, Value.oneCell', idxA, nilA, cellsEq, fillA, elemsA, pure1, pure2, reps, chkA, tys, Try.results11, KX_draw, KX_drawQ, KX_tail, lastO_one, lastO_more, dropL_one, dropL_more, callP_eq, callM_true, e0, e1, e5, d1, rowsA, coefsA, hx', hV, hiw, d2]
          rw [hE]
        · have d2 : decide (n > 0) = false := by simpa using h0
          have d3 : decide (n ≤ 0) = true := by simp; omega
          rw [d3, Bool.true_and] at hE
          simp (maxSteps := 1000000) +contextual (disch := first | with_reducible assumption | exact ⟨rfl⟩ | exact ⟨rfl, rfl⟩ | (refine _root_.id ?_; kernel_rfl) | omega) only [evs, ext_mv, nth, put, putT, getT, binInt, binStr, binBool, aUn, outA, resA, mapO, resA1, oneOf, w1, w2, w3, bots, cond_true, cond_false, if_true, if_false, ite_true, ite_false, reduceIte, reduceCtorEq, implies_true, Nat.reduceAdd, Nat.reduceSub, AV.int, AV.bool, AV.str, Nat.reduceBEq, Nat.reduceEqDiff, Nat.reduceMul, Nat.reduceLT, Nat.reduceLeDiff, Int.reduceNeg, BEq.rfl, beq_self_eq_true, tabl, cellsOf, fldA, ldA, stA, entAt, partA, takeN, over, leafOk, Value.oneCell', idxA, nilA, cellsEq, fillA, elemsA, pure1, pure2, reps, chkA, tys, Try.results11, KX_draw, KX_drawQ, KX_tail, lastO_one, lastO_more, dropL_one, dropL_more, callP_eq, callM_true, e0, e1, e5, d1, rowsA, coefsA, hx', hV, hiw, d2]
          exact IH (i + 1) _ (by first | omega | (simp only; omega)) ⟨rfl, by first | omega | (dsimp only; omega), hE, (by first | rfl | simp only [getT, List.map_append, List.map_cons, List.map_nil, intC, and_self]), (by first | rfl | simp only [getT, List.map_append, List.map_cons, List.map_nil, intC, and_self]), (by first | rfl | simp only [getT, List.map_append, List.map_cons, List.map_nil, intC, and_self]), (by first | rfl | simp only [getT, List.map_append, List.map_cons, List.map_nil, intC, and_self])⟩
      | true =>
        rw [he, Bool.not_true, Bool.false_or, Bool.true_and] at hE
        rw [he] at hx'
        by_cases hz : n = 0
        · have d4 : (n != 0) = false := by simpa using hz
          have d5 : (n == 0) = true := by simpa using hz
          have d3 : decide (n ≤ 0) = true := by simp; omega
          have d2 : decide (n > 0) = false := by simp; omega
          rw [d5, d3, Bool.true_and, Bool.true_and] at hE
          simp (maxSteps := 1000000) +contextual (disch := first | with_reducible assumption | exact ⟨rfl⟩ | exact ⟨rfl, rfl⟩ | (refine _root_.id ?_; kernel_rfl) | omega) only [evs, ext_mv, nth, put, putT, getT, binInt, binStr, binBool, aUn, outA, resA, mapO, resA1, oneOf, w1, w2, w3, bots, cond_true, cond_false, if_true, if_false, ite_true, ite_false, reduceIte, reduceCtorEq, implies_true, Nat.reduceAdd, Nat.reduceSub, AV.int, AV.bool, AV.str, Nat.reduceBEq, Nat.reduceEqDiff, Nat.reduceMul, Nat.reduceLT, Nat.reduceLeDiff, Int.reduceNeg, BEq.rfl, beq_self_eq_true, tabl, cellsOf, fldA, ldA, stA, entAt, partA, takeN, over, leafOk, Value.oneCell', idxA, nilA, cellsEq, fillA, elemsA, pure1, pure2, reps, chkA, tys, Try.results11, KX_draw, KX_drawQ, KX_tail, lastO_one, lastO_more, dropL_one, dropL_more, callP_eq, callM_true, e0, e1, e5, d1, rowsA, coefsA, hx', hV, hiw, d2, d4]
          exact IH (i + 1) _ (by first | omega | (simp only; omega)) ⟨rfl, by first | omega | (dsimp only; omega), hE, (by first | rfl | simp only [getT, List.map_append, List.map_cons, List.map_nil, intC, and_self]), (by first | rfl | simp only [getT, List.map_append, List.map_cons, List.map_nil, intC, and_self]), (by first | rfl | simp only [getT, List.map_append, List.map_cons, List.map_nil, intC, and_self]), (by first | rfl | simp only [getT, List.map_append, List.map_cons, List.map_nil, intC, and_self])⟩
        · have d4 : (n != 0) = true := by simpa using hz
          have d5 : (n == 0) = false := by simpa using hz
          rw [d5, Bool.and_false, Bool.false_and] at hE
          simp (maxSteps := 1000000) +contextual (disch := first | with_reducible assumption | exact ⟨rfl⟩ | exact ⟨rfl, rfl⟩ | (refine _root_.id ?_; kernel_rfl) | omega) only [evs, ext_mv, nth, put, putT, getT, binInt, binStr, binBool, aUn, outA, resA, mapO, resA1, oneOf, w1, w2, w3, bots, cond_true, cond_false, if_true, if_false, ite_true, ite_false, reduceIte, reduceCtorEq, implies_true, Nat.reduceAdd, Nat.reduceSub, AV.int, AV.bool, AV.str, Nat.reduceBEq, Nat.reduceEqDiff, Nat.reduceMul, Nat.reduceLT, Nat.reduceLeDiff, Int.reduceNeg, BEq.rfl, beq_self_eq_true, tabl, cellsOf, fldA, ldA, stA, entAt, partA, takeN, over, leafOk, Value.oneCell', idxA, nilA, cellsEq, fillA, elemsA, pure1, pure2, reps, chkA, tys, Try.results11, KX_draw, KX_drawQ, KX_tail, lastO_one, lastO_more, dropL_one, dropL_more, callP_eq, callM_true, e0, e1, e5, d1, rowsA, coefsA, hx', hV, hiw, d4]
          rw [hE]
  · have d1 : decide ((i : Int) < (l.length : Int)) = false := by simpa using hlt
    have hie : i = l.length := by omega
    rw [hie, List.drop_length] at hE
    simp (maxSteps := 1000000) +contextual (disch := first | with_reducible assumption | exact ⟨rfl⟩ | exact ⟨rfl, rfl⟩ | (refine _root_.id ?_; kernel_rfl) | omega) only [evs, ext_mv, nth, put, putT, getT, binInt, binStr, binBool, aUn, outA, resA, mapO, resA1, oneOf, w1, w2, w3, bots, cond_true, cond_false, if_true, if_false, ite_true, ite_false, reduceIte, reduceCtorEq, implies_true, Nat.reduceAdd, Nat.reduceSub, AV.int, AV.bool, AV.str, Nat.reduceBEq, Nat.reduceEqDiff, Nat.reduceMul, Nat.reduceLT, Nat.reduceLeDiff, Int.reduceNeg, BEq.rfl, beq_self_eq_true, tabl, cellsOf, fldA, ldA, stA, entAt, partA, takeN, over, leafOk, Value.oneCell', idxA, nilA, cellsEq, fillA, elemsA, pure1, pure2, reps, chkA, tys, Try.results11, KX_draw, KX_drawQ, KX_tail, lastO_one, lastO_more, dropL_one, dropL_more, callP_eq, callM_true, e0, e1, e5, d1, rowsA, coefsA]
    rw [hE]; rfl
end
end Go.Proofs.Ytcandeobhlfkbaa
