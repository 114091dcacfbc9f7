/-
  Texts laid together: FUnion, Plain, FCheck, FVars, FVars2, B2.
-/
import Derived.Test.YtmgbmbganlndkaaZFScales9
import Derived.Test.YtmgbmbganlndkaaZFScales10
import Derived.Sort.OwnSorted
import Derived.Sort.Grow
import Derived.Lib.OwnBridge
import Derived.Laws.AppendOwn
import Derived.Laws.AppendOwnNone
import Derived.Lib.Hide
/-
  The union of names: what names.Union does in the model; so it may be told from outside.
-/









namespace Go.Proofs.Ytmgbmbganlndkaa
open Go Go.RowKit Go.Sort

theorem infStr : (Try.prog.info? 9).map (fun i => (i.zero, i.size, i.bytes)) = some (some (.string ⟨#[]⟩), 1, 16) := by kernel_rfl
set_option maxHeartbeats 2000000 in
set_option maxRecDepth 100000 in
theorem union_none (w : World) : Calls Try.prog 76 #[.slice none 0 0, .slice none 0 0] w fun e w' => ∃ a, e = .returned (.slice a 0 0) ∧ Below w.heap.size w w' := by
  go_enter Try.func76, Try.ntmps76
  go_wp2_with (go_at_call 82; refine (Try.slices_Sort_string_none _ _ _).mono ?_; rintro e w' ⟨rfl, rfl⟩)
  go_wp2_with (go_at_call 83; refine (Try.slices_Compact_string_empty _ _ _).mono ?_; rintro e w' ⟨rfl, rfl⟩)
  go_ret
  exact ⟨_, rfl, (Below.refl _ _).alloc (Nat.le_refl _) _⟩
/-- what comes of the two contracts -/
theorem union_end {w w1 : World} {g cap n nn q : Nat} {os : Array Obj} {ss : List (List UInt8)} (hown : w1.ownsRow w.heap.size 9 1 (.slice (some ⟨g, 0, none⟩) n cap) n (ss.map encStr)) (hbel : Below w.heap.size w w1) (hbg : w.heap.size ≤ g) (hlen : ss.length = n) :
    ∃ g' cap', (Ending.returned (.slice (some ⟨g, 0, none⟩) (Lib.compact (ss.mergeSort fun x y => decide (x ≤ y))).length cap)) = .returned (.slice (some ⟨g', 0, none⟩) (Lib.compact (ss.mergeSort fun x y => decide (x ≤ y))).length cap') ∧
      (putRow encStr (Sort.ahead (grow (putRow encStr (Sort.ahead w1 nn) g 0 (ss.mergeSort fun x y => decide (x ≤ y)).toArray) os) q) g 0 (Lib.compact (ss.mergeSort fun x y => decide (x ≤ y)) ++ List.replicate (n - (Lib.compact (ss.mergeSort fun x y => decide (x ≤ y))).length) []).toArray).ownsRow w.heap.size 9 1 (.slice (some ⟨g', 0, none⟩) (Lib.compact (ss.mergeSort fun x y => decide (x ≤ y))).length cap') (Lib.compact (ss.mergeSort fun x y => decide (x ≤ y))).length ((Lib.compact (ss.mergeSort fun x y => decide (x ≤ y))).map encStr) ∧
      Below w.heap.size w (putRow encStr (Sort.ahead (grow (putRow encStr (Sort.ahead w1 nn) g 0 (ss.mergeSort fun x y => decide (x ≤ y)).toArray) os) q) g 0 (Lib.compact (ss.mergeSort fun x y => decide (x ≤ y)) ++ List.replicate (n - (Lib.compact (ss.mergeSort fun x y => decide (x ≤ y))).length) []).toArray) := by
  have hl2 : (ss.mergeSort fun x y => decide (x ≤ y)).length = ss.length := List.length_mergeSort ss
  have hle := Lib.compact_length_le (ss.mergeSort fun x y => decide (x ≤ y))
  subst hlen
  rcases hown.2 with ⟨h0, _⟩ | ⟨g', cap', cur, hv, hbase, hb, h1, h2, h3, h4⟩
  · cases h0
  cases hv
  have hs := ownsRow_sorted (n := nn) (os := os) (ts := ss.mergeSort fun x y => decide (x ≤ y)) hl2 hbase hb h1 h2 h3
  have hc := Lib.ownsRow_putRow (q := q) (k := (Lib.compact (ss.mergeSort fun x y => decide (x ≤ y))).length) (ys := Lib.compact (ss.mergeSort fun x y => decide (x ≤ y)) ++ List.replicate (ss.length - (Lib.compact (ss.mergeSort fun x y => decide (x ≤ y))).length) []) hs (by simp; omega) (by omega)
  rw [List.take_left] at hc
  exact ⟨g, cap, rfl, hc, Lib.below_putRow (hbel.grown (grownBy_sorted _) hbel.size (fun j hj => by cases hj; exact hbase)) hbg⟩
theorem union_app {w : World} {b o len cap : Nat} {ss : List (List UInt8)} (hl : ss.length = len) (hc : ∀ j u, (ss.map encStr)[j]? = some u → w.cell? ⟨b, o + j, none⟩ = some u) (hbig : len ≤ 1000000) {ops : Array Oper} {rest : List Oper} {op : Oper} {a : Act} {Q : Exit → Act → World → Prop}
    (hgd : op.guard = none) (ho : op.op = .call { callee := .builtin .append, args := #[.tmp 6, .tmp 7], argTypes := #[58, 58] }) (h6 : a.eval (.tmp 6) = .slice (some ⟨w.heap.size, 0, none⟩) 0 0) (h7 : a.eval (.tmp 7) = .slice (some ⟨b, o, none⟩) len cap)
    (h : ∀ v' w', w'.ownsRow w.heap.size 9 1 v' len (ss.map encStr) → Below w.heap.size w w' → v' ≠ .slice none 0 0 → wpList Try.prog ops Q rest (a.put op.dst v') w') : wpList Try.prog ops Q (op :: rest) a (w.alloc (.cells #[] 9)) := by
  obtain ⟨i0, hi, hz0, hz1, hz2⟩ := info_parts infStr
  have hbel0 : Below w.heap.size w (w.alloc (.cells #[] 9)) := (Below.refl _ _).alloc (Nat.le_refl _) _
  refine wpList_append_own _ hgd _ _ 58 ho w.heap.size 9 i0 (.string ⟨#[]⟩) 1 16 Try.underlying58 hi hz0 hz1 hz2 rfl (by decide) (.slice (some ⟨w.heap.size, 0, none⟩) 0 0) 0 [] h6 (World.ownsRow_made w #[] 0 (Nat.le_refl _) (by decide) rfl) ⟨b, o, none⟩ len cap (ss.map encStr) h7 (by rw [List.length_map, hl, Nat.mul_one]) (fun j u hj => ?_) (fun u hu => ?_) (by unfold maxLen; omega) (by omega) hbel0.size (fun v' w' hown hg hn => ?_)
  · have := hc j u hj
    rw [add_none, hbel0.cell (cell_lt this)]; exact this
  · obtain ⟨x, -, rfl⟩ := List.mem_map.1 hu
    rfl
  · rw [Nat.zero_add, List.nil_append] at hown
    refine h v' w' hown (hbel0.grown hg hbel0.size fun j hj => ?_) fun e => ?_
    · simp only [Value.ownBlock, Option.some.injEq] at hj; omega
    · have := (hn.1 e).1
      simp at this
set_option maxHeartbeats 2000000 in
set_option maxRecDepth 100000 in
theorem union_some (w : World) (b o len cap : Nat) (ss : List (List UInt8)) (hl : ss.length = len) (hpos : 0 < len) (hc : ∀ j u, (ss.map encStr)[j]? = some u → w.cell? ⟨b, o + j, none⟩ = some u) (hbig : len ≤ 1000000) : Calls Try.prog 76 #[.slice (some ⟨b, o, none⟩) len cap, .slice none 0 0] w fun e w' =>
    ∃ g cap, e = .returned (.slice (some ⟨g, 0, none⟩) (Lib.compact (ss.mergeSort fun x y => decide (x ≤ y))).length cap) ∧
    w'.ownsRow w.heap.size 9 1 (.slice (some ⟨g, 0, none⟩) (Lib.compact (ss.mergeSort fun x y => decide (x ≤ y))).length cap) (Lib.compact (ss.mergeSort fun x y => decide (x ≤ y))).length ((Lib.compact (ss.mergeSort fun x y => decide (x ≤ y))).map encStr) ∧ Below w.heap.size w w' := by
  have HC := Lib.hid hc
  have HL := Lib.hid hl
  clear hc hl
  go_enter Try.func76, Try.ntmps76
  go_wp2_with (at_builtin; refine union_app HL.out HC.out hbig rfl rfl rfl rfl ?_; intro v1 w1 hown hbel hnn; obtain ⟨g, cap1, rfl, hbg, hgl, hncap, hcm, -, hH⟩ := Lib.holds_of_ownsRow hown hnn; have HO := Lib.hid hown; have HB := Lib.hid hbel; have HG := Lib.hid hbg; have HS := Lib.hid (show Calls Try.prog 82 #[.slice (some ⟨g, 0, none⟩) len cap1] w1 fun e w' => e = .returned (.tuple #[]) ∧ ∃ n os, w' = grow (putRow encStr (Sort.ahead w1 n) g 0 (ss.mergeSort fun x y => decide (x ≤ y)).toArray) os from by have := Try.slices_Sort_string g 0 cap1 ss w1 hH hgl (by rw [HL.out]; omega); rw [HL.out] at this; exact this); have HH := Lib.hid hH; have HGL := Lib.hid hgl; clear hown hbel hnn hbg hgl hH)
  have HC2 := Lib.hid (show ∀ nn os, Calls Try.prog 83 #[.slice (some ⟨g, 0, none⟩) len cap1] (grow (putRow encStr (Sort.ahead w1 nn) g 0 (ss.mergeSort fun x y => decide (x ≤ y)).toArray) os) fun e w' => e = .returned (.slice (some ⟨g, 0, none⟩) (Lib.compact (ss.mergeSort fun x y => decide (x ≤ y))).length cap1) ∧ ∃ q, w' = putRow encStr (Sort.ahead (grow (putRow encStr (Sort.ahead w1 nn) g 0 (ss.mergeSort fun x y => decide (x ≤ y)).toArray) os) q) g 0 (Lib.compact (ss.mergeSort fun x y => decide (x ≤ y)) ++ List.replicate (len - (Lib.compact (ss.mergeSort fun x y => decide (x ≤ y))).length) []).toArray from by
    intro nn os
    have hl2 : (ss.mergeSort fun x y => decide (x ≤ y)).length = len := by rw [List.length_mergeSort]; exact HL.out
    have hH2 : Holds encStr (grow (putRow encStr (Sort.ahead w1 nn) g 0 (ss.mergeSort fun x y => decide (x ≤ y)).toArray) os) g 0 (ss.mergeSort fun x y => decide (x ≤ y)).toArray :=
      holds_grow encStr _ os g 0 _ (by simpa [putRow, mapBlock, Sort.ahead] using HGL.out) (holds_putRow encStr _ g 0 _ _ (holds_ahead encStr w1 nn g 0 _ HH.out) (by simp))
    have := Try.slices_Compact_string g 0 cap1 (ss.mergeSort fun x y => decide (x ≤ y)) _ hH2 (by omega) (by omega)
    rw [hl2] at this
    exact this)
  go_wp2_with (go_at_call 82; refine HS.out.mono ?_; rintro e w2 ⟨rfl, nn, os, rfl⟩)
  go_wp2_with (go_at_call 83; refine (HC2.out nn os).mono ?_; rintro e w3 ⟨rfl, q, rfl⟩)
  go_ret
  exact union_end HO.out HB.out HG.out HL.out
theorem compact_facts {z : List (List UInt8)} (hz : z.Pairwise (· ≤ ·)) : (Lib.compact z).Pairwise (· < ·) ∧ ∀ x, x ∈ Lib.compact z ↔ x ∈ z := by
  have mono : ∀ i j, i ≤ j → j < z.length → z.toArray[i]! ≤ z.toArray[j]! := by
    intro i j hij hj
    rw [getElem!_pos z.toArray i (by simp; omega), getElem!_pos z.toArray j (by simpa using hj)]
    rcases Nat.lt_or_ge i j with h | h
    · exact List.pairwise_iff_getElem.1 hz i j (by omega) hj h
    · have : i = j := by omega
      subst this
      exact List.le_refl _
  have key : ∀ m, m ≤ z.length → (Lib.compactUpTo z.toArray m).Pairwise (· < ·) ∧ ∀ x, x ∈ Lib.compactUpTo z.toArray m ↔ ∃ j, j < m ∧ z.toArray[j]! = x := by
    intro m
    induction m with
    | zero => intro _; exact ⟨by simp [Lib.compactUpTo], fun x => by simp [Lib.compactUpTo]⟩
    | succ m ih =>
      intro hm
      obtain ⟨h1, h2⟩ := ih (by omega)
      rw [Lib.compactUpTo_succ]
      cases hk : Lib.keeps z.toArray m with
      | true =>
        rw [if_pos rfl]
        refine ⟨List.pairwise_append.2 ⟨h1, by simp, fun x hx y hy => ?_⟩, fun x => ?_⟩
        · obtain ⟨j, hj, rfl⟩ := (h2 x).1 hx
          have hy : y = z.toArray[m]! := by simpa using hy
          subst hy
          simp only [Lib.keeps, decide_eq_true_eq] at hk
          have hne := hk.resolve_left (by omega)
          refine List.not_le.1 fun hle => hne ?_
          exact List.le_antisymm (List.le_trans hle (mono j (m - 1) (by omega) (by omega))) (mono (m - 1) m (by omega) (by omega))
        · rw [List.mem_append, h2]
          constructor
          · rintro (⟨j, hj, e⟩ | h)
            · exact ⟨j, by omega, e⟩
            · exact ⟨m, by omega, (by simpa using h : x = _).symm⟩
          · rintro ⟨j, hj, e⟩
            by_cases hjm : j = m
            · subst hjm; exact .inr (by simp [e])
            · exact .inl ⟨j, by omega, e⟩
      | false =>
        rw [if_neg (by simp), List.append_nil]
        refine ⟨h1, fun x => ?_⟩
        rw [h2]
        simp only [Lib.keeps, decide_eq_false_iff_not, not_or, Decidable.not_not] at hk
        constructor
        · rintro ⟨j, hj, e⟩; exact ⟨j, by omega, e⟩
        · rintro ⟨j, hj, e⟩
          by_cases hjm : j = m
          · subst hjm; exact ⟨j - 1, by omega, by rw [← hk.2]; exact e⟩
          · exact ⟨j, by omega, e⟩
  obtain ⟨h1, h2⟩ := key z.length (Nat.le_refl _)
  refine ⟨h1, fun x => (h2 x).trans ?_⟩
  constructor
  · rintro ⟨j, hj, rfl⟩
    rw [getElem!_pos z.toArray j (by simpa using hj)]
    simp
  · intro hx
    obtain ⟨j, hj, rfl⟩ := List.getElem_of_mem hx
    exact ⟨j, hj, by rw [getElem!_pos z.toArray j (by simpa using hj)]; simp⟩
theorem compact_uni (l : List ByteArray) : Lib.compact ((l.map nm).mergeSort fun x y => decide (x ≤ y)) = (uniS l).map nm := by
  have hz : ((l.map nm).mergeSort fun x y => decide (x ≤ y)).Pairwise (· ≤ ·) := by
    have := List.pairwise_mergeSort (le := fun x y : List UInt8 => decide (x ≤ y)) (fun a b c h1 h2 => by simp only [decide_eq_true_eq] at *; exact List.le_trans h1 h2) (fun a b => by simp only [Bool.or_eq_true, decide_eq_true_eq]; exact List.le_total a b) (l.map nm)
    exact this.imp fun h => by simpa using h
  obtain ⟨h1, h2⟩ := compact_facts hz
  obtain ⟨u1, u2, -⟩ := uni_facts l
  generalize Lib.compact ((l.map nm).mergeSort fun x y => decide (x ≤ y)) = T at h1 h2
  have e : T = (T.map fun x => (⟨x.toArray⟩ : ByteArray)).map nm := by
    rw [List.map_map]
    conv => lhs; rw [← List.map_id T]
    exact List.map_congr_left fun x _ => by simp [nm]
  rw [e]
  congr 1
  refine inc_eq ?_ u1 fun x => ?_
  · unfold Inc
    rw [List.pairwise_map]
    exact h1.imp fun h => by simpa [nm] using h
  · rw [u2]
    have : x ∈ (T.map fun x => (⟨x.toArray⟩ : ByteArray)) ↔ nm x ∈ T := by
      rw [List.mem_map]
      constructor
      · rintro ⟨y, hy, rfl⟩; simpa [nm] using hy
      · intro h; exact ⟨nm x, h, by simp [nm]⟩
    rw [this, h2, List.mem_mergeSort, List.mem_map]
    constructor
    · rintro ⟨y, hy, h⟩; rw [nm_inj h] at hy; exact hy
    · intro h; exact ⟨x, h, rfl⟩
theorem strs_at {w : World} {A : Nat → Nat → Prop} {b sz : Nat} : ∀ {l : List ByteArray} {o j : Nat} {x : ByteArray}, PRows w A b sz o (l.map strC) → nth l j = some x → sz = 1 ∧ w.cell? ⟨b, o + j, none⟩ = some (.string x)
  | y :: l, o, 0, x, h, hx => by
    simp only [nth, Option.some.injEq] at hx
    subst hx
    simp only [List.map_cons, PRows, strC] at h
    obtain ⟨h0, ⟨vs, h1, h2⟩, -⟩ := h
    match vs, h2 with
    | [v], h2 =>
    simp only [PRs, PR, and_true] at h2
    simp only [Lie] at h1
    have h0 : sz = 1 := by simpa using h0.symm
    exact ⟨h0, by rw [Nat.add_zero, h1.1, h2.1]⟩
  | y :: l, o, j + 1, x, h, hx => by
    simp only [nth] at hx
    simp only [List.map_cons, PRows] at h
    obtain ⟨h0, -, h3⟩ := h
    have h0 : sz = 1 := by simpa [strC] using h0.symm
    subst h0
    obtain ⟨-, h4⟩ := strs_at h3 hx
    exact ⟨rfl, by rw [← h4]; congr 2; omega⟩
theorem PRows_strs {w : World} {A : Nat → Nat → Prop} {b : Nat} (hA : ∀ o, ¬ A b o) : ∀ (l : List ByteArray) (o : Nat), (∀ i x, nth l i = some x → w.cell? ⟨b, o + i, none⟩ = some (.string x)) → PRows w A b 1 o (l.map strC)
  | [], _, _ => by simp only [List.map_nil, PRows]
  | x :: l, o, h => by
    simp only [List.map_cons, PRows]
    have h1 := h 0 x rfl
    refine ⟨rfl, ⟨[.string x], ⟨h1, hA _, trivial⟩, ?_⟩, PRows_strs hA l (o + 1) fun i d hd => ?_⟩
    · simp [PRs, PR, strC, Value.oneCell']
    · have := h (i + 1) d hd
      rwa [show o + (i + 1) = o + 1 + i from by omega] at this
theorem Union_run {C : Cx} {vs : Array Value} (hs : SR C) (l : List ByteArray) (c : Cap) (hlen : l.length ≤ 1000000) (hc : l = [] → c = .nilc) (hv : VRs C [.frz (l.map strC) c, .frz [] .nilc] vs.toList) :
    Calls Try.prog 76 vs C.w fun e w' => ∃ v C', e = .returned v ∧ C'.w = w' ∧ Le C C' ∧ SR C' ∧ C'.S = C.S ∧ C'.tk = C.tk ∧ C'.n = C.n ∧ VR C' (strsA (uniS l)) v := by
  obtain ⟨vl⟩ := vs
  match vl, hv with
  | [x, y], hv =>
  simp only [VRs, VR, and_true] at hv
  obtain ⟨⟨a, len, cap, rfl, h1, h2, h3, h4⟩, ⟨a2, len2, cap2, rfl, g1, g2, g3, -⟩⟩ := hv
  have g1 : len2 = 0 := by simpa using g1.symm
  subst g1
  obtain ⟨rfl, g3⟩ := (g3 : a2 = none ∧ cap2 = 0)
  subst g3
  by_cases hl : l = []
  · subst hl
    obtain rfl := hc rfl
    have h1 : len = 0 := by simpa using h1.symm
    subst h1
    obtain ⟨rfl, h3⟩ := (h3 : a = none ∧ cap = 0)
    subst h3
    refine (union_none C.w).mono ?_
    rintro e w' ⟨a, rfl, hb⟩
    refine ⟨_, C.at w', rfl, rfl, Le.of_below hb, SR.of_below hs hb, rfl, rfl, rfl, ?_⟩
    simp only [strsA, uniS, List.foldl_nil, List.map_nil, VR]
    exact ⟨a, 0, 0, rfl, rfl, Nat.le_refl _, trivial, .inl trivial⟩
  · have hpos : 0 < l.length := List.length_pos_iff.2 hl
    obtain ⟨b, o, sz, rfl, hr⟩ := h4.resolve_left (by simpa using hl)
    have h1 : l.length = len := by simpa using h1
    subst h1
    have hcell : ∀ j u, ((l.map nm).map encStr)[j]? = some u → C.w.cell? ⟨b, o + j, none⟩ = some u := by
      intro j u hj
      rw [List.map_map, List.getElem?_map, Option.map_eq_some_iff] at hj
      obtain ⟨x, hx, rfl⟩ := hj
      rw [(strs_at hr (by rw [nth_get]; exact hx)).2]
      simp [nm]
    refine (union_some C.w b o l.length cap (l.map nm) (by simp) hpos hcell hlen).mono ?_
    rintro e w' ⟨g, cap', rfl, hown, hb⟩
    rw [compact_uni] at hown ⊢
    rcases hown.2 with ⟨h0, -⟩ | ⟨g', cap2, cur, hv, hbase, hg, k1, k2, k3, k4⟩
    · cases h0
    cases hv
    refine ⟨_, C.at w', rfl, rfl, Le.of_below hb, SR.of_below hs hb, rfl, rfl, rfl, ?_⟩
    simp only [strsA, VR]
    refine ⟨_, _, _, rfl, by simp, by simpa using k1, trivial, .inr ⟨g, 0, 1, rfl, PRows_strs (fun o ha => ?_) _ _ fun i x hx => ?_⟩⟩
    · rcases ha with ha | ha
      · have := hs.avlt g o ha; omega
      · have := mut_lt hs (show C.Mut g o from ha); omega
    · have hx' := hx
      rw [nth_get] at hx'
      have hi : i < (uniS l).length := nth_lt hx
      show w'.cell? _ = _
      have hq : cur.toList[i]? = some (.string x) := by
        have : (cur.toList.take (((uniS l).map nm).length * 1))[i]? = some (.string x) := by
          rw [k4, List.map_map, List.getElem?_map, hx']
          simp [nm]
        rw [List.getElem?_take] at this
        split at this
        · exact this
        · simp at this
      simp only [World.cell?, hg, Nat.zero_add]
      simpa using hq
theorem ext_some {f : FuncId} {args : List AV} {S : List Ent} {tk : List Nat} {n : Nat} {r : AV} {S' : List Ent} {tk' : List Nat} {n' : Nat} (h : extC Try.prog f args S tk n = some (r, S', tk', n')) :
    f = 76 ∧ ∃ l c, args = [.frz (l.map strC) c, .frz [] .nilc] ∧ l.length ≤ 1000000 ∧ (!l.isEmpty || isNilc c) = true ∧ r = strsA (uniS l) ∧ S' = S ∧ tk' = tk ∧ n' = n := by
  unfold extC at h
  split at h
  · rename_i hon
    have hf : f = 76 := by simpa [Ext.on] using hon
    subst hf
    refine ⟨rfl, ?_⟩
    simp only [Ext.call, beq_self_eq_true, if_true] at h
    split at h
    · rename_i es c
      split at h
      · rename_i l hl
        split at h
        · rename_i hlen
          simp only [Bool.and_eq_true, decide_eq_true_eq] at hlen
          simp only [Option.some.injEq, Prod.mk.injEq] at h
          obtain ⟨rfl, rfl, rfl, rfl⟩ := h
          exact ⟨l, c, by rw [strsOf_some hl], hlen.1, hlen.2, rfl, rfl, rfl, rfl⟩
        · simp at h
      · simp at h
    · simp at h
  · simp at h
theorem ext_of {l : List ByteArray} {c : Cap} (hlen : l.length ≤ 1000000) (hc : (!l.isEmpty || isNilc c) = true) (S : List Ent) (tk : List Nat) (n : Nat) : extC Try.prog 76 [.frz (l.map strC) c, .frz [] .nilc] S tk n = some (strsA (uniS l), S, tk, n) := by
  simp only [extC, Ext.on, Ext.call, strsOf_map, beq_self_eq_true, if_true]
  rw [if_pos (by rw [hc]; simpa using hlen)]
instance : ExtOk Try.prog := {
  ok := fun f args S tk n r S' tk' n' h => by
    obtain ⟨rfl, l, c, rfl, hlen, hc, rfl, rfl, rfl, rfl⟩ := ext_some h
    refine ⟨⟨_, Try.func76, by decide +kernel, by decide +kernel⟩, fun C vs h1 h2 h3 hs hv => ?_⟩
    subst h1 h2 h3
    refine Union_run hs l c hlen (fun e => ?_) hv
    subst e
    cases c <;> simp [isNilc] at hc
    rfl
  indep := fun M f args S tk n r S' tk' n' h => by
    unfold callP at h
    split at h
    · rename_i hp
      obtain ⟨rfl, l, c, rfl, hlen, hc, rfl, rfl, rfl, rfl⟩ := ext_some h
      refine ⟨rfl, rfl, .inr ⟨rfl, fun S2 tk2 n2 => ?_⟩⟩
      unfold callP
      rw [if_pos hp]
      exact ext_of hlen hc S2 tk2 n2
    · simp at h }
end Go.Proofs.Ytmgbmbganlndkaa
/-
  Plain functions and laws on integers: no program in sight.
-/
namespace Go.Proofs.Ytmgbmbganlndkaa

/-- in bounds -/
def inB (n : Int) : Bool := decide (-1000000000000 ≤ n ∧ n ≤ 1000000000000)
theorem inB_true {n : Int} : inB n = true ↔ -1000000000000 ≤ n ∧ n ≤ 1000000000000 := by simp [inB]
theorem inB_false {n : Int} : inB n = false ↔ ¬ (-1000000000000 ≤ n ∧ n ≤ 1000000000000) := by simp [inB]

/-- the value of a checked operation -/
def chk (ok : Bool) (n : Int) : Int × Bool := if ok && inB n then (n, true) else (0, false)
def addS (a b : Int) : Int × Bool := chk (inB a && inB b) (a + b)
def subS (a b : Int) : Int × Bool := chk (inB a && inB b) (a - b)
def mulS (a b : Int) : Int × Bool := chk (inB a && inB b) (a * b)
/-- the quotient rounded down, of a number by one that is not 0 -/
def divS (a b : Int) : Int × Bool := if inB a && inB b && !(b == 0) then (a.fdiv b, true) else (0, false)
def absS (n : Int) : Int := if n = -9223372036854775808 then 1000000000000 else if 0 ≤ n then n else -n
def gcdS (a b : Int) : Int := (Int.gcd (absS a) (absS b) : Int)

theorem absS_in {n : Int} (h : inB n = true) : absS n = n.natAbs := by
  rw [inB_true] at h; unfold absS; split
  · omega
  · split <;> omega

theorem mul_test (a b : Int) (h : a ≠ 0) :
    (decide (1000000000000 / (a.natAbs : Int) < (b.natAbs : Int)) = false ∧ -1000000000000 ≤ a * b ∧ a * b ≤ 1000000000000 ∧ inB (a * b) = true) ∨
    (decide (1000000000000 / (a.natAbs : Int) < (b.natAbs : Int)) = true ∧ inB (a * b) = false) := by
  have hp : 0 < (a.natAbs : Int) := by omega
  have hab : ((a * b).natAbs : Int) = (b.natAbs : Int) * a.natAbs := by rw [Int.natAbs_mul]; push_cast; rw [Int.mul_comm]
  by_cases hc : 1000000000000 / (a.natAbs : Int) < (b.natAbs : Int)
  · right
    refine ⟨by simpa using hc, ?_⟩
    rw [Int.ediv_lt_iff_lt_mul hp] at hc
    rw [inB_false]
    omega
  · left
    have hd := hc
    rw [Int.ediv_lt_iff_lt_mul hp] at hc
    rw [inB_true]
    refine ⟨by simpa using hd, ?_⟩
    omega

/-- at most 40 coefficients with names of at most 500 bytes -/
def smallS (cs : List (ByteArray × Int)) : Bool := decide (cs.length ≤ 40 ∧ ∀ c ∈ cs, ¬ 500 < c.1.size)
theorem smallS_long {cs : List (ByteArray × Int)} {len : Nat} (hl : cs.length = len) (h : 40 < len) : false = smallS cs := by
  symm; unfold smallS; rw [decide_eq_false_iff_not]; omega
theorem smallS_name {cs : List (ByteArray × Int)} {n : Nat} {c : ByteArray × Int} (hn : cs[n]? = some c) (h : 500 < c.1.size) : false = smallS cs := by
  symm; unfold smallS; rw [decide_eq_false_iff_not]; intro hh
  exact hh.2 c (List.mem_of_getElem? hn) h
theorem smallS_true {cs : List (ByteArray × Int)} {len n : Nat} (hl : cs.length = len) (hn : len ≤ n) (h4 : n ≤ 40) (h : ∀ j, j < n → ∀ c, cs[j]? = some c → ¬ 500 < c.1.size) : true = smallS cs := by
  symm; unfold smallS; rw [decide_eq_true_iff]
  refine ⟨by omega, fun c hc => ?_⟩
  obtain ⟨j, hj⟩ := List.getElem?_of_mem hc
  exact h j (by have := (List.getElem?_eq_some_iff.1 hj).1; omega) c hj
theorem smallS_iff {cs : List (ByteArray × Int)} : smallS cs = true ↔ cs.length ≤ 40 ∧ ∀ c ∈ cs, ¬ 500 < c.1.size := by simp [smallS]

def sameS (x : List (ByteArray × Int)) (k : Int) (y : List (ByteArray × Int)) (l : Int) : Bool := decide (x = y ∧ k = l)
theorem sameS_len {x y : List (ByteArray × Int)} {k l : Int} (h : x.length ≠ y.length) : false = sameS x k y l := by
  symm; unfold sameS; rw [decide_eq_false_iff_not]; rintro ⟨rfl, _⟩; exact h rfl
theorem sameS_const {x y : List (ByteArray × Int)} {k l : Int} (h : k ≠ l) : false = sameS x k y l := by
  symm; unfold sameS; rw [decide_eq_false_iff_not]; rintro ⟨_, e⟩; exact h e
theorem sameS_at {x y : List (ByteArray × Int)} {k l : Int} {n : Nat} {c d : ByteArray × Int} (h : x[n]? = some c) (h' : y[n]? = some d) (hne : c ≠ d) : false = sameS x k y l := by
  symm; unfold sameS; rw [decide_eq_false_iff_not]; rintro ⟨rfl, _⟩; rw [h] at h'; exact hne (by simpa using h')
theorem sameS_true {x y : List (ByteArray × Int)} {k : Int} {len n : Nat} (hx : x.length = len) (hy : y.length = len) (hn : len ≤ n) (h : ∀ j, j < n → x[j]? = y[j]?) : true = sameS x k y k := by
  symm; unfold sameS; rw [decide_eq_true_iff]; refine ⟨List.ext_getElem? fun j => ?_, rfl⟩
  rcases Nat.lt_or_ge j n with hj | hj
  · exact h j hj
  · rw [List.getElem?_eq_none (by omega), List.getElem?_eq_none (by omega)]
theorem sameS_refl (x : List (ByteArray × Int)) (k : Int) : sameS x k x k = true := by simp [sameS]

/-- the sum of two lists of coefficients by increasing names; less compares names -/
def addF (less : ByteArray → ByteArray → Bool) : Nat → List (ByteArray × Int) → List (ByteArray × Int) → List (ByteArray × Int)
  | 0, _, _ => []
  | _ + 1, [], [] => []
  | n + 1, x :: xs, [] => x :: addF less n xs []
  | n + 1, [], y :: ys => y :: addF less n [] ys
  | n + 1, x :: xs, y :: ys =>
    if less x.1 y.1 then x :: addF less n xs (y :: ys)
    else if less y.1 x.1 then y :: addF less n (x :: xs) ys
    else if x.2 + y.2 = 0 then addF less n xs ys else (x.1, x.2 + y.2) :: addF less n xs ys
theorem addF_more (less : ByteArray → ByteArray → Bool) : ∀ (n m : Nat) (xs ys : List (ByteArray × Int)), xs.length + ys.length ≤ n → xs.length + ys.length ≤ m → addF less n xs ys = addF less m xs ys
  | 0, m, xs, ys, h, _ => by
    have h1 : xs = [] := List.eq_nil_of_length_eq_zero (by omega)
    have h2 : ys = [] := List.eq_nil_of_length_eq_zero (by omega)
    subst h1 h2
    cases m <;> rfl
  | n + 1, 0, xs, ys, _, h => by
    have h1 : xs = [] := List.eq_nil_of_length_eq_zero (by omega)
    have h2 : ys = [] := List.eq_nil_of_length_eq_zero (by omega)
    subst h1 h2
    rfl
  | n + 1, m + 1, [], [], _, _ => rfl
  | n + 1, m + 1, x :: xs, [], h, h' => by simp only [addF]; rw [addF_more less n m xs [] (by simp at h ⊢; omega) (by simp at h' ⊢; omega)]
  | n + 1, m + 1, [], y :: ys, h, h' => by simp only [addF]; rw [addF_more less n m [] ys (by simp at h ⊢; omega) (by simp at h' ⊢; omega)]
  | n + 1, m + 1, x :: xs, y :: ys, h, h' => by
    simp only [addF]
    rw [addF_more less n m xs (y :: ys) (by simp at h ⊢; omega) (by simp at h' ⊢; omega), addF_more less n m (x :: xs) ys (by simp at h ⊢; omega) (by simp at h' ⊢; omega), addF_more less n m xs ys (by simp at h ⊢; omega) (by simp at h' ⊢; omega)]
def addC (less : ByteArray → ByteArray → Bool) (xs ys : List (ByteArray × Int)) : List (ByteArray × Int) := addF less (xs.length + ys.length) xs ys
section
variable {less : ByteArray → ByteArray → Bool} {x y : ByteArray × Int} {xs ys : List (ByteArray × Int)}
theorem addC_nil : addC less [] [] = [] := rfl
theorem addC_left0 : addC less (x :: xs) [] = x :: addC less xs [] := rfl
theorem addC_right0 : addC less [] (y :: ys) = y :: addC less [] ys := by
  unfold addC
  rw [addF_more less (([] : List (ByteArray × Int)).length + (y :: ys).length) (ys.length + 1) _ _ (by simp) (by simp)]
  simp only [addF]
  rw [addF_more less ys.length (([] : List (ByteArray × Int)).length + ys.length) _ _ (by simp) (by simp)]
theorem addC_left (h : less x.1 y.1 = true) : addC less (x :: xs) (y :: ys) = x :: addC less xs (y :: ys) := by
  unfold addC
  rw [addF_more less ((x :: xs).length + (y :: ys).length) (xs.length + (y :: ys).length + 1) _ _ (by simp) (by simp only [List.length_cons]; omega)]
  simp only [addF, h, if_true]
theorem addC_right (h : less x.1 y.1 = false) (h' : less y.1 x.1 = true) : addC less (x :: xs) (y :: ys) = y :: addC less (x :: xs) ys := by
  unfold addC
  rw [addF_more less ((x :: xs).length + (y :: ys).length) ((x :: xs).length + ys.length + 1) _ _ (by simp) (by simp only [List.length_cons]; omega)]
  simp [addF, h, h']
theorem addC_both (h : less x.1 y.1 = false) (h' : less y.1 x.1 = false) : addC less (x :: xs) (y :: ys) = if x.2 + y.2 = 0 then addC less xs ys else (x.1, x.2 + y.2) :: addC less xs ys := by
  have e := addF_more less (xs.length + ys.length + 1) (xs.length + ys.length) xs ys (by omega) (by omega)
  unfold addC
  rw [addF_more less ((x :: xs).length + (y :: ys).length) (xs.length + ys.length + 1 + 1) _ _ (by simp) (by simp only [List.length_cons]; omega)]
  simp only [addF, h, h', e]
  simp
end
theorem drop_cons {α : Type} {l : List α} {n : Nat} {x : α} (h : l[n]? = some x) : l.drop n = x :: l.drop (n + 1) := by
  obtain ⟨hlt, hx⟩ := List.getElem?_eq_some_iff.1 h
  rw [List.drop_eq_getElem_cons hlt, hx]
theorem drop_nil {α : Type} {l : List α} {n : Nat} (h : l.length ≤ n) : l.drop n = [] := List.drop_eq_nil_of_le h

end Go.Proofs.Ytmgbmbganlndkaa
/-
  What the checks of forms compute.
-/



namespace Go.Proofs.Ytmgbmbganlndkaa
open Go

/-- a coefficient, a list of them, a form, a row, as the evaluator sees them -/
def coefC (c : ByteArray × Int) : List AV := [.prim (.string c.1), .prim (.int .i64 c.2)]
def coefsA (cs : List (ByteArray × Int)) : AV := .frz (cs.map coefC) .unk
def linA (cs : List (ByteArray × Int)) (n : Int) : AV := .agg [coefsA cs, .prim (.int .i64 n)]
def rowA (cs : List (ByteArray × Int)) (n : Int) (eq : Bool) : AV := .agg [coefsA cs, .prim (.int .i64 n), .prim (.bool eq)]
theorem coefC_len (c : ByteArray × Int) : (coefC c).length = 2 := rfl
def badName (s : ByteArray) : Bool := sEq s ⟨#[]⟩ || decide ((s.size : Int) > 400)
def notAbove : Option ByteArray → ByteArray → Bool
  | none, _ => false
  | some p, s => sLt s p || sEq s p
def chkFrom (n : Int) : Option ByteArray → List (ByteArray × Int) → Int
  | _, [] => if inB n then 0 else 2
  | p, c :: cs => if badName c.1 then 3 else if c.2 == 0 || !inB c.2 then 2 else if notAbove p c.1 then 9 else chkFrom n (some c.1) cs
def checkF (cs : List (ByteArray × Int)) (n : Int) : Int := if 24 < cs.length then 7 else chkFrom n none cs
def prevName (cs : List (ByteArray × Int)) : Nat → Option ByteArray
  | 0 => none
  | j + 1 => (nth cs j).map (·.1)

section
variable (S : List Ent) (tk : List Nat) (k : Nat)
theorem numIn_F (n : Int) : cL Try.prog 75 [.int n] S tk k = some (.bool (inB n), S, tk, k) := by
  refine call_pure Try.func75 rfl rfl (by decide +kernel) (by decide +kernel) Try.ntmps75 rfl rfl _ _ _ rfl ?_; rw [RK_KX]
  simp +contextual only [evs, ext_mv, nth, put, putT, getT, binInt, binStr, binBool, aUn, outA, resA, mapO, resA1, oneOf, w1, w2, w3, bots, cond_true, cond_false, if_true, if_false, ite_true, ite_false, reduceIte, reduceCtorEq, implies_true, Nat.reduceAdd, Nat.reduceSub, AV.int, AV.bool, AV.str, Nat.reduceBEq, Nat.reduceEqDiff, Nat.reduceMul, Nat.reduceLT, Nat.reduceLeDiff, Int.reduceNeg, BEq.rfl, beq_self_eq_true, tabl, cellsOf, fldA, ldA, stA, entAt, partA, takeN, over, leafOk, Value.oneCell', idxA, nilA, cellsEq, fillA, elemsA, pure1, pure2, reps, chkA, tys, Try.results75]
  unfold inB
  exact ⟨fun h => by simp at h ⊢; omega, fun h => by simp at h ⊢; omega⟩
theorem R01_In (n : Int) : cL Try.prog 78 [.int n] S tk k = some (.bool (inB n), S, tk, k) := by
  refine call_pure Try.func78 rfl rfl (by decide +kernel) (by decide +kernel) Try.ntmps78 rfl rfl _ _ _ rfl ?_; rw [RK_KX]
  simp +contextual only [evs, ext_mv, nth, put, putT, getT, binInt, binStr, binBool, aUn, outA, resA, mapO, resA1, oneOf, w1, w2, w3, bots, cond_true, cond_false, if_true, if_false, ite_true, ite_false, reduceIte, reduceCtorEq, implies_true, Nat.reduceAdd, Nat.reduceSub, AV.int, AV.bool, AV.str, Nat.reduceBEq, Nat.reduceEqDiff, Nat.reduceMul, Nat.reduceLT, Nat.reduceLeDiff, Int.reduceNeg, BEq.rfl, beq_self_eq_true, tabl, cellsOf, fldA, ldA, stA, entAt, partA, takeN, over, leafOk, Value.oneCell', idxA, nilA, cellsEq, fillA, elemsA, pure1, pure2, reps, chkA, tys, Try.results78]
  unfold inB
  exact ⟨fun h => by simp at h ⊢; omega, fun h => by simp at h ⊢; omega⟩
theorem linear_Check (cs : List (ByteArray × Int)) (n : Int) (hlen : cs.length ≤ 1048576) : cL Try.prog 53 [linA cs n] S tk k = some (.int (checkF cs n), S, tk, k) := by
  refine call_pure Try.func53 rfl rfl (by decide +kernel) (by decide +kernel) Try.ntmps53 rfl rfl _ _ _ rfl ?_; rw [RK_KX]
  simp (maxSteps := 1000000) +contextual (disch := first | with_reducible assumption | exact ⟨rfl⟩ | exact ⟨rfl, rfl⟩ | (refine _root_.id ?_; kernel_rfl) | omega) only [evs, ext_mv, nth, put, putT, getT, binInt, binStr, binBool, aUn, outA, resA, mapO, resA1, oneOf, w1, w2, w3, bots, cond_true, cond_false, if_true, if_false, ite_true, ite_false, reduceIte, reduceCtorEq, implies_true, Nat.reduceAdd, Nat.reduceSub, AV.int, AV.bool, AV.str, Nat.reduceBEq, Nat.reduceEqDiff, Nat.reduceMul, Nat.reduceLT, Nat.reduceLeDiff, Int.reduceNeg, BEq.rfl, beq_self_eq_true, tabl, cellsOf, fldA, ldA, stA, entAt, partA, takeN, over, leafOk, Value.oneCell', idxA, nilA, cellsEq, fillA, elemsA, pure1, pure2, reps, chkA, tys, Try.results53, KX_draw, KX_drawQ, KX_tail, lastO_one, lastO_more, dropL_one, dropL_more, callP_eq, callM_true, linA, coefsA]
  refine ⟨fun h => ?_, fun h => ?_⟩
  · unfold checkF; rw [if_pos (by simp at h; omega)]
  have hc : checkF cs n = chkFrom n none cs := by unfold checkF; rw [if_neg (by simp at h; omega)]
  rw [hc]
  refine loop1 (fun i st => st.T.length = 57 ∧ i ≤ cs.length ∧ getT st.T 1 = .ref 0 0 0 ∧ getT st.T 10 = coefsA cs ∧ getT st.T 11 = .int cs.length ∧ getT st.T 12 = .int (i : Nat) ∧ st.S = [⟨0, [coefsA cs, .int n]⟩]) (fun i => cs.length - i) (fun i => .int (chkFrom n (prevName cs i) (cs.drop i))) 0 ?_ ?_
  case refine_2 => exact ⟨rfl, Nat.zero_le _, rfl, rfl, rfl, rfl, rfl⟩
  rintro i ⟨T, S', tk', n'⟩ ⟨hl, hi, e1, e10, e11, e12, rfl⟩ IH
  obtain ⟨g, hg, hT⟩ := tab_of hl
  rw [hg] at e1 e10 e11 e12
  subst hT
  clear hg hl h hc
  by_cases hlt : i < cs.length
  · have d1 : decide ((i : Int) < (cs.length : Int)) = true := by simpa using hlt
    obtain ⟨c, hc⟩ := nth_some hlt
    have hc' : nth (cs.map coefC) i = some (coefC c) := by rw [nth_map, hc]; rfl
    have hw := wrap_add (i := i) (by omega)
    have hp : prevName cs (i + 1) = some c.1 := by simp [prevName, hc]
    rw [nth_drop hc]
    rcases i with _ | j
    · have d2 : decide (((0 : Nat) : Int) > 0) = false := rfl
      simp (maxSteps := 1000000) +contextual (disch := first | with_reducible assumption | exact ⟨rfl⟩ | exact ⟨rfl, rfl⟩ | (refine _root_.id ?_; kernel_rfl) | omega) only [evs, ext_mv, nth, put, putT, getT, binInt, binStr, binBool, aUn, outA, resA, mapO, resA1, oneOf, w1, w2, w3, bots, cond_true, cond_false, if_true, if_false, ite_true, ite_false, reduceIte, reduceCtorEq, implies_true, Nat.reduceAdd, Nat.reduceSub, AV.int, AV.bool, AV.str, Nat.reduceBEq, Nat.reduceEqDiff, Nat.reduceMul, Nat.reduceLT, Nat.reduceLeDiff, Int.reduceNeg, BEq.rfl, beq_self_eq_true, tabl, cellsOf, fldA, ldA, stA, entAt, partA, takeN, over, leafOk, Value.oneCell', idxA, nilA, cellsEq, fillA, elemsA, pure1, pure2, reps, chkA, tys, Try.results53, KX_draw, KX_drawQ, KX_tail, lastO_one, lastO_more, dropL_one, dropL_more, callP_eq, callM_true, e1, e10, e11, e12, d1, d2, coefsA, hc', hw, coefC, numIn_F]
      refine ⟨fun h1 => ?_, fun h1 => ⟨fun h2 => ?_, fun h2 => ⟨fun h3 => ?_, fun h3 => ⟨fun h4 => ?_, fun h4 => ?_⟩⟩⟩⟩
      · simp [chkFrom, badName, h1]
      · simp only [chkFrom, badName, h1, h2]; rfl
      · simp only [chkFrom, badName, h1, h2, h3]; rfl
      · rw [IH 1 _ (by omega) ⟨rfl, by omega, rfl, rfl, rfl, rfl, rfl⟩, hp]
        simp only [chkFrom, badName, h1, h2, h3, h4, prevName, notAbove]; rfl
      · simp only [chkFrom, badName, h1, h2, h3, h4]; rfl
    · have d2 : decide (((j + 1 : Nat) : Int) > 0) = true := decide_eq_true (by omega)
      obtain ⟨p, hpr⟩ := nth_some (show j < cs.length by omega)
      have hp' : nth (cs.map coefC) j = some (coefC p) := by rw [nth_map, hpr]; rfl
      have hw' := wrap_pred (j := j) (by omega)
      have hpp : prevName cs (j + 1) = some p.1 := by simp [prevName, hpr]
      simp (maxSteps := 1000000) +contextual (disch := first | with_reducible assumption | exact ⟨rfl⟩ | exact ⟨rfl, rfl⟩ | (refine _root_.id ?_; kernel_rfl) | omega) only [evs, ext_mv, nth, put, putT, getT, binInt, binStr, binBool, aUn, outA, resA, mapO, resA1, oneOf, w1, w2, w3, bots, cond_true, cond_false, if_true, if_false, ite_true, ite_false, reduceIte, reduceCtorEq, implies_true, Nat.reduceAdd, Nat.reduceSub, AV.int, AV.bool, AV.str, Nat.reduceBEq, Nat.reduceEqDiff, Nat.reduceMul, Nat.reduceLT, Nat.reduceLeDiff, Int.reduceNeg, BEq.rfl, beq_self_eq_true, tabl, cellsOf, fldA, ldA, stA, entAt, partA, takeN, over, leafOk, Value.oneCell', idxA, nilA, cellsEq, fillA, elemsA, pure1, pure2, reps, chkA, tys, Try.results53, KX_draw, KX_drawQ, KX_tail, lastO_one, lastO_more, dropL_one, dropL_more, callP_eq, callM_true, e1, e10, e11, e12, d1, d2, coefsA, hc', hw, coefC, numIn_F, hp', hw']
      refine ⟨fun h1 => ?_, fun h1 => ⟨fun h2 => ?_, fun h2 => ⟨fun h3 => ?_, fun h3 => ⟨fun h4 => ?_, fun h4 => ?_⟩⟩⟩⟩
      · simp [chkFrom, badName, h1]
      · simp only [chkFrom, badName, h1, h2]; rfl
      · simp only [chkFrom, badName, h1, h2, h3]; rfl
      · refine ⟨fun h5 => ?_, fun h5 => ?_⟩
        · simp only [chkFrom, badName, h1, h2, h3, h4, hpp, notAbove, h5]; rfl
        · rw [IH (j + 1 + 1) _ (by omega) ⟨rfl, by omega, rfl, rfl, rfl, rfl, rfl⟩, hp]
          simp only [chkFrom, badName, h1, h2, h3, h4, hpp, notAbove, h5]; rfl
      · simp only [chkFrom, badName, h1, h2, h3, h4]; rfl
  · have d1 : decide ((i : Int) < (cs.length : Int)) = false := by simpa using hlt
    have he : i = cs.length := by omega
    simp (maxSteps := 1000000) +contextual (disch := first | with_reducible assumption | exact ⟨rfl⟩ | exact ⟨rfl, rfl⟩ | (refine _root_.id ?_; kernel_rfl) | omega) only [evs, ext_mv, nth, put, putT, getT, binInt, binStr, binBool, aUn, outA, resA, mapO, resA1, oneOf, w1, w2, w3, bots, cond_true, cond_false, if_true, if_false, ite_true, ite_false, reduceIte, reduceCtorEq, implies_true, Nat.reduceAdd, Nat.reduceSub, AV.int, AV.bool, AV.str, Nat.reduceBEq, Nat.reduceEqDiff, Nat.reduceMul, Nat.reduceLT, Nat.reduceLeDiff, Int.reduceNeg, BEq.rfl, beq_self_eq_true, tabl, cellsOf, fldA, ldA, stA, entAt, partA, takeN, over, leafOk, Value.oneCell', idxA, nilA, cellsEq, fillA, elemsA, pure1, pure2, reps, chkA, tys, Try.results53, KX_draw, KX_drawQ, KX_tail, lastO_one, lastO_more, dropL_one, dropL_more, callP_eq, callM_true, e1, e10, e11, e12, d1, coefsA, numIn_F]
    rw [he, List.drop_length]
    exact ⟨fun h => by simp [chkFrom, h], fun h => by simp [chkFrom, h]⟩
theorem R11_Check (cs : List (ByteArray × Int)) (n : Int) (hlen : cs.length ≤ 1048576) : cL Try.prog 61 [linA cs n] S tk k = some (.int (checkF cs n), S, tk, k) := by
  refine call_pure Try.func61 rfl rfl (by decide +kernel) (by decide +kernel) Try.ntmps61 rfl rfl _ _ _ rfl ?_; rw [RK_KX]
  simp (maxSteps := 1000000) +contextual (disch := first | with_reducible assumption | exact ⟨rfl⟩ | exact ⟨rfl, rfl⟩ | (refine _root_.id ?_; kernel_rfl) | omega) only [evs, ext_mv, nth, put, putT, getT, binInt, binStr, binBool, aUn, outA, resA, mapO, resA1, oneOf, w1, w2, w3, bots, cond_true, cond_false, if_true, if_false, ite_true, ite_false, reduceIte, reduceCtorEq, implies_true, Nat.reduceAdd, Nat.reduceSub, AV.int, AV.bool, AV.str, Nat.reduceBEq, Nat.reduceEqDiff, Nat.reduceMul, Nat.reduceLT, Nat.reduceLeDiff, Int.reduceNeg, BEq.rfl, beq_self_eq_true, tabl, cellsOf, fldA, ldA, stA, entAt, partA, takeN, over, leafOk, Value.oneCell', idxA, nilA, cellsEq, fillA, elemsA, pure1, pure2, reps, chkA, tys, Try.results61, KX_draw, KX_drawQ, KX_tail, lastO_one, lastO_more, dropL_one, dropL_more, callP_eq, callM_true, linA, coefsA]
  refine ⟨fun h => ?_, fun h => ?_⟩
  · unfold checkF; rw [if_pos (by simp at h; omega)]
  have hc : checkF cs n = chkFrom n none cs := by unfold checkF; rw [if_neg (by simp at h; omega)]
  rw [hc]
  refine loop1 (fun i st => st.T.length = 60 ∧ i ≤ cs.length ∧ getT st.T 1 = .ref 0 0 0 ∧ getT st.T 3 = .int (i : Nat) ∧ st.S = [⟨0, [coefsA cs, .int n]⟩]) (fun i => cs.length - i) (fun i => .int (chkFrom n (prevName cs i) (cs.drop i))) 0 ?_ ?_
  case refine_2 => exact ⟨rfl, Nat.zero_le _, rfl, rfl, rfl⟩
  rintro i ⟨T, S', tk', n'⟩ ⟨hl, hi, e1, e3, rfl⟩ IH
  obtain ⟨g, hg, hT⟩ := tab_of hl
  rw [hg] at e1 e3
  subst hT
  clear hg hl h hc
  by_cases hlt : i < cs.length
  · have d1 : decide ((i : Int) < (cs.length : Int)) = true := by simpa using hlt
    obtain ⟨c, hc⟩ := nth_some hlt
    have hc' : nth (cs.map coefC) i = some (coefC c) := by rw [nth_map, hc]; rfl
    have hw := wrap_add (i := i) (by omega)
    have hp : prevName cs (i + 1) = some c.1 := by simp [prevName, hc]
    rw [nth_drop hc]
    rcases i with _ | j
    · have d2 : decide (((0 : Nat) : Int) > 0) = false := rfl
      simp (maxSteps := 1000000) +contextual (disch := first | with_reducible assumption | exact ⟨rfl⟩ | exact ⟨rfl, rfl⟩ | (refine _root_.id ?_; kernel_rfl) | omega) only [evs, ext_mv, nth, put, putT, getT, binInt, binStr, binBool, aUn, outA, resA, mapO, resA1, oneOf, w1, w2, w3, bots, cond_true, cond_false, if_true, if_false, ite_true, ite_false, reduceIte, reduceCtorEq, implies_true, Nat.reduceAdd, Nat.reduceSub, AV.int, AV.bool, AV.str, Nat.reduceBEq, Nat.reduceEqDiff, Nat.reduceMul, Nat.reduceLT, Nat.reduceLeDiff, Int.reduceNeg, BEq.rfl, beq_self_eq_true, tabl, cellsOf, fldA, ldA, stA, entAt, partA, takeN, over, leafOk, Value.oneCell', idxA, nilA, cellsEq, fillA, elemsA, pure1, pure2, reps, chkA, tys, Try.results61, KX_draw, KX_drawQ, KX_tail, lastO_one, lastO_more, dropL_one, dropL_more, callP_eq, callM_true, e1, e3, d1, d2, coefsA, hc', hw, coefC, R01_In]
      refine ⟨fun h1 => ?_, fun h1 => ⟨fun h2 => ?_, fun h2 => ⟨fun h3 => ?_, fun h3 => ⟨fun h4 => ?_, fun h4 => ?_⟩⟩⟩⟩
      · simp [chkFrom, badName, h1]
      · simp only [chkFrom, badName, h1, h2]; rfl
      · simp only [chkFrom, badName, h1, h2, h3]; rfl
      · rw [IH 1 _ (by omega) ⟨rfl, by omega, rfl, rfl, rfl⟩, hp]
        simp only [chkFrom, badName, h1, h2, h3, h4, prevName, notAbove]; rfl
      · simp only [chkFrom, badName, h1, h2, h3, h4]; rfl
    · have d2 : decide (((j + 1 : Nat) : Int) > 0) = true := decide_eq_true (by omega)
      obtain ⟨p, hpr⟩ := nth_some (show j < cs.length by omega)
      have hp' : nth (cs.map coefC) j = some (coefC p) := by rw [nth_map, hpr]; rfl
      have hw' := wrap_pred (j := j) (by omega)
      have hpp : prevName cs (j + 1) = some p.1 := by simp [prevName, hpr]
      simp (maxSteps := 1000000) +contextual (disch := first | with_reducible assumption | exact ⟨rfl⟩ | exact ⟨rfl, rfl⟩ | (refine _root_.id ?_; kernel_rfl) | omega) only [evs, ext_mv, nth, put, putT, getT, binInt, binStr, binBool, aUn, outA, resA, mapO, resA1, oneOf, w1, w2, w3, bots, cond_true, cond_false, if_true, if_false, ite_true, ite_false, reduceIte, reduceCtorEq, implies_true, Nat.reduceAdd, Nat.reduceSub, AV.int, AV.bool, AV.str, Nat.reduceBEq, Nat.reduceEqDiff, Nat.reduceMul, Nat.reduceLT, Nat.reduceLeDiff, Int.reduceNeg, BEq.rfl, beq_self_eq_true, tabl, cellsOf, fldA, ldA, stA, entAt, partA, takeN, over, leafOk, Value.oneCell', idxA, nilA, cellsEq, fillA, elemsA, pure1, pure2, reps, chkA, tys, Try.results61, KX_draw, KX_drawQ, KX_tail, lastO_one, lastO_more, dropL_one, dropL_more, callP_eq, callM_true, e1, e3, d1, d2, coefsA, hc', hw, coefC, R01_In, hp', hw']
      refine ⟨fun h1 => ?_, fun h1 => ⟨fun h2 => ?_, fun h2 => ⟨fun h3 => ?_, fun h3 => ⟨fun h4 => ?_, fun h4 => ?_⟩⟩⟩⟩
      · simp [chkFrom, badName, h1]
      · simp only [chkFrom, badName, h1, h2]; rfl
      · simp only [chkFrom, badName, h1, h2, h3]; rfl
      · refine ⟨fun h5 => ?_, fun h5 => ?_⟩
        · simp only [chkFrom, badName, h1, h2, h3, h4, hpp, notAbove, h5]; rfl
        · rw [IH (j + 1 + 1) _ (by omega) ⟨rfl, by omega, rfl, rfl, rfl⟩, hp]
          simp only [chkFrom, badName, h1, h2, h3, h4, hpp, notAbove, h5]; rfl
      · simp only [chkFrom, badName, h1, h2, h3, h4]; rfl
  · have d1 : decide ((i : Int) < (cs.length : Int)) = false := by simpa using hlt
    have he : i = cs.length := by omega
    simp (maxSteps := 1000000) +contextual (disch := first | with_reducible assumption | exact ⟨rfl⟩ | exact ⟨rfl, rfl⟩ | (refine _root_.id ?_; kernel_rfl) | omega) only [evs, ext_mv, nth, put, putT, getT, binInt, binStr, binBool, aUn, outA, resA, mapO, resA1, oneOf, w1, w2, w3, bots, cond_true, cond_false, if_true, if_false, ite_true, ite_false, reduceIte, reduceCtorEq, implies_true, Nat.reduceAdd, Nat.reduceSub, AV.int, AV.bool, AV.str, Nat.reduceBEq, Nat.reduceEqDiff, Nat.reduceMul, Nat.reduceLT, Nat.reduceLeDiff, Int.reduceNeg, BEq.rfl, beq_self_eq_true, tabl, cellsOf, fldA, ldA, stA, entAt, partA, takeN, over, leafOk, Value.oneCell', idxA, nilA, cellsEq, fillA, elemsA, pure1, pure2, reps, chkA, tys, Try.results61, KX_draw, KX_drawQ, KX_tail, lastO_one, lastO_more, dropL_one, dropL_more, callP_eq, callM_true, e1, e3, d1, coefsA, R01_In]
    rw [he, List.drop_length]
    exact ⟨fun h => by simp [chkFrom, h], fun h => by simp [chkFrom, h]⟩
end
end Go.Proofs.Ytmgbmbganlndkaa
/-
  The variables of rows: the names in them, increasing.
-/

namespace Go.Proofs.Ytmgbmbganlndkaa
open Go

abbrev RowT := List (ByteArray × Int) × Int × Bool
def rowC (r : RowT) : List AV := [coefsA r.1, .prim (.int .i64 r.2.1), .prim (.bool r.2.2)]
def rowsA (l : List RowT) : AV := .frz (l.map rowC) .unk
theorem nth_row {l : List RowT} {i : Nat} {r : RowT} (h : nth l i = some r) : nth (l.map rowC) i = some (rowC r) := by rw [nth_map, h]; rfl
theorem nth_coef {l : List (ByteArray × Int)} {i : Nat} {c : ByteArray × Int} (h : nth l i = some c) : nth (l.map coefC) i = some (coefC c) := by rw [nth_map, h]; rfl
theorem nth_str {l : List ByteArray} {i : Nat} {s : ByteArray} (h : nth l i = some s) : nth (l.map strC) i = some [.prim (.string s)] := by rw [nth_map, h]; rfl
theorem rowsOk_str (l : List ByteArray) : rowsOk 1 (l.map strC) = true := rowsOk_map (f := strC) (sz := 1) (fun _ => rfl) l
/-- all names of rows -/
def namesOf (l : List RowT) : List ByteArray := (l.map fun r => r.1.map (·.1)).flatten
def varsF (l : List RowT) : List ByteArray := uniS (namesOf l)
theorem names_snoc (l : List RowT) (r : RowT) : namesOf (l ++ [r]) = namesOf l ++ r.1.map (·.1) := by simp [namesOf]
theorem take_snoc {α : Type} : ∀ {l : List α} {i : Nat} {x : α}, nth l i = some x → l.take (i + 1) = l.take i ++ [x]
  | a :: l, 0, x, h => by simp only [nth, Option.some.injEq] at h; subst h; rfl
  | a :: l, i + 1, x, h => by simp only [List.take_succ_cons, List.cons_append, take_snoc (l := l) (i := i) h]
  | [], _, _, h => by simp [nth] at h
/-- rows with few coefficients -/
def fewC (l : List RowT) : Prop := ∀ r ∈ l, r.1.length ≤ 24
theorem names_len : ∀ {l : List RowT}, fewC l → (namesOf l).length ≤ 24 * l.length
  | [], _ => by simp [namesOf]
  | r :: l, h => by
    have h1 := h r (by simp)
    have h2 := names_len (l := l) fun x hx => h x (by simp [hx])
    simp only [namesOf, List.map_cons, List.flatten_cons, List.length_append, List.length_map, List.length_cons] at h2 ⊢
    omega
theorem mem_nth {α : Type} {l : List α} {i : Nat} {x : α} (h : nth l i = some x) : x ∈ l := List.mem_of_getElem? (by rw [nth_get] at h; exact h)
theorem insert_at : ∀ (l : List ByteArray) (s : ByteArray), ∃ i, i ≤ l.length ∧ (∀ j x, j < i → nth l j = some x → sLt x s = true) ∧ (∀ x, nth l i = some x → sLt x s = false) ∧
    putS l s = l.take i ++ [s] ++ l.drop (match nth l i with | some x => if sEq x s = true then i + 1 else i | none => i)
  | [], s => ⟨0, Nat.le_refl _, fun j x h => by omega, fun x h => by simp [nth] at h, rfl⟩
  | y :: r, s => by
    cases h1 : sLt y s with
    | true =>
      obtain ⟨i, a, b, c, d⟩ := insert_at r s
      refine ⟨i + 1, by simp; exact a, fun j x hj hx => ?_, c, ?_⟩
      · cases j with
        | zero => simp only [nth, Option.some.injEq] at hx; subst hx; exact h1
        | succ j => exact b j x (by omega) hx
      · rw [putS, if_pos h1, d]
        simp only [nth]
        cases nth r i with
        | none => simp
        | some x => by_cases h : sEq x s = true <;> simp [h]
    | false =>
      refine ⟨0, Nat.zero_le _, fun j x hj => by omega, fun x hx => ?_, ?_⟩
      · simp only [nth, Option.some.injEq] at hx; subst hx; exact h1
      · rw [putS, if_neg (by simp [h1])]
        simp only [nth]
        by_cases h : sEq y s = true
        · have : y = s := by rw [sEq_nm] at h; simpa using h
          rw [if_pos h, if_pos h, this]; simp
        · rw [if_neg h, if_neg h]; simp
section
variable (S : List Ent) (tk : List Nat) (k : Nat)
set_option maxRecDepth 100000 in
theorem R04_put (l : List ByteArray) (s : ByteArray) (c : Cap) (hl : l.length ≤ 100000) : cL Try.prog 84 [.frz (l.map strC) c, .str s] S tk k = some (strsA (putS l s), S, tk, k) := by
  obtain ⟨i, hj0, h2, h3, h4⟩ := insert_at l s
  rw [h4]
  refine call_pure Try.func84 rfl rfl (by decide +kernel) (by decide +kernel) Try.ntmps84 rfl rfl _ _ _ rfl ?_; rw [RK_KX]
  simp (maxSteps := 1000000) +contextual (disch := first | with_reducible assumption | exact ⟨rfl⟩ | exact ⟨rfl, rfl⟩ | (refine _root_.id ?_; kernel_rfl) | omega) only [evs, ext_mv, nth, put, putT, getT, binInt, binStr, binBool, aUn, outA, resA, mapO, resA1, oneOf, w1, w2, w3, bots, cond_true, cond_false, if_true, if_false, ite_true, ite_false, reduceIte, reduceCtorEq, implies_true, Nat.reduceAdd, Nat.reduceSub, AV.int, AV.bool, AV.str, Nat.reduceBEq, Nat.reduceEqDiff, Nat.reduceMul, Nat.reduceLT, Nat.reduceLeDiff, Int.reduceNeg, BEq.rfl, beq_self_eq_true, tabl, cellsOf, fldA, ldA, stA, entAt, partA, takeN, over, leafOk, Value.oneCell', idxA, nilA, cellsEq, fillA, elemsA, pure1, pure2, reps, chkA, tys, Try.results84, KX_draw, KX_drawQ, KX_tail, lastO_one, lastO_more, dropL_one, dropL_more, callP_eq, callM_true, w2, w1]
  refine loop1 (fun x st => st.T.length = 52 ∧ (x.1 ≤ i) ∧ (x.2.1 = l.take x.1) ∧ (okCap st.tk x.2.2 1 = true) ∧ getT st.T 0 = strsA l ∧ getT st.T 1 = .str s ∧ getT st.T 5 = .frz (x.2.1.map strC) x.2.2 ∧ getT st.T 6 = .int (x.1 : Nat) ∧ st.S = []) (fun x => i - x.1) (fun x => strsA (l.take i ++ [s] ++ l.drop (match nth l i with | some x => if sEq x s = true then i + 1 else i | none => i))) (0, [], .nilc) ?_ ?_
  case refine_2 => exact ⟨rfl, Nat.zero_le _, rfl, rfl, rfl, rfl, rfl, rfl, rfl⟩
  rintro ⟨j, out, c⟩ ⟨T, S', tk', n'⟩ ⟨hl, hj, ho, hok, e0, e1, e5, e6, eS⟩ IH
  simp only at hj ho hok e0 e1 e5 e6 eS
  subst eS
  obtain ⟨g, hg, hT⟩ := tab_of hl
  rw [hg] at e0 e1 e5 e6
  subst hT
  clear hg hl
  have hol : out.length ≤ l.length := by rw [ho]; simp; omega
  have htl : (l.map strC).take l.length = l.map strC := List.take_of_length_le (by simp)
  have hr := rowsOk_str out
  have hok' := okCap_new hok
  have hn1 : (out.map strC).length + 1 ≤ 1048576 := by simp; omega
  have hjw := wrap_add (i := j) (by omega)
  by_cases hlt : j < i
  · have d1 : decide ((j : Int) < (l.length : Int)) = true := by simp; omega
    obtain ⟨x, hx⟩ := nth_some (show j < l.length by omega)
    have hx' := nth_str hx
    have d2 := h2 j x hlt hx
    have hts := take_snoc hx
    simp (maxSteps := 1000000) +contextual (disch := first | with_reducible assumption | exact ⟨rfl⟩ | exact ⟨rfl, rfl⟩ | (refine _root_.id ?_; kernel_rfl) | omega) only [evs, ext_mv, nth, put, putT, getT, binInt, binStr, binBool, aUn, outA, resA, mapO, resA1, oneOf, w1, w2, w3, bots, cond_true, cond_false, if_true, if_false, ite_true, ite_false, reduceIte, reduceCtorEq, implies_true, Nat.reduceAdd, Nat.reduceSub, AV.int, AV.bool, AV.str, Nat.reduceBEq, Nat.reduceEqDiff, Nat.reduceMul, Nat.reduceLT, Nat.reduceLeDiff, Int.reduceNeg, BEq.rfl, beq_self_eq_true, tabl, cellsOf, fldA, ldA, stA, entAt, partA, takeN, over, leafOk, Value.oneCell', idxA, nilA, cellsEq, fillA, elemsA, pure1, pure2, reps, chkA, tys, Try.results84, KX_draw, KX_drawQ, KX_tail, lastO_one, lastO_more, dropL_one, dropL_more, callP_eq, callM_true, e0, e1, e5, e6, d1, d2, strsA, hx', hr, hjw]
    exact IH (j + 1, out ++ [x], capNew tk' c 1) _ (by first | omega | (simp only; omega)) ⟨rfl, by first | omega | (dsimp only; omega), by rw [hts, ho], hok', (by first | rfl | simp only [getT, List.map_append, List.map_cons, List.map_nil, strC, strsA, and_self]), (by first | rfl | simp only [getT, List.map_append, List.map_cons, List.map_nil, strC, strsA, and_self]), (by first | rfl | simp only [getT, List.map_append, List.map_cons, List.map_nil, strC, strsA, and_self]), (by first | rfl | simp only [getT, List.map_append, List.map_cons, List.map_nil, strC, strsA, and_self]), (by first | rfl | simp only [getT, List.map_append, List.map_cons, List.map_nil, strC, strsA, and_self])⟩
  have hje : j = i := by omega
  subst hje
  subst ho
  have hr2 := rowsOk_str (l.take j ++ [s])
  have hr3 := rowsOk_str l
  have hok2 := okCap_new hok'
  simp only [List.map_append, List.map_cons, List.map_nil, strC] at hr2
  by_cases hjl : j < l.length
  case neg =>
    have d1 : decide ((j : Int) < (l.length : Int)) = false := by simp; omega
    have hjn : nth l j = none := by rw [nth_get]; exact List.getElem?_eq_none (by omega)
    have hr4 : rowsOk 1 (((l.map strC).take l.length).drop j) = true := by rw [← List.map_take, ← List.map_drop]; exact rowsOk_str _
    have hn2 : ((l.take j).map strC ++ [[(.prim (.string s) : AV)]]).length + (((l.map strC).take l.length).drop j).length ≤ 1048576 := by simp; omega
    simp (maxSteps := 1000000) +contextual (disch := first | with_reducible assumption | exact ⟨rfl⟩ | exact ⟨rfl, rfl⟩ | (refine _root_.id ?_; kernel_rfl) | omega) only [evs, ext_mv, nth, put, putT, getT, binInt, binStr, binBool, aUn, outA, resA, mapO, resA1, oneOf, w1, w2, w3, bots, cond_true, cond_false, if_true, if_false, ite_true, ite_false, reduceIte, reduceCtorEq, implies_true, Nat.reduceAdd, Nat.reduceSub, AV.int, AV.bool, AV.str, Nat.reduceBEq, Nat.reduceEqDiff, Nat.reduceMul, Nat.reduceLT, Nat.reduceLeDiff, Int.reduceNeg, BEq.rfl, beq_self_eq_true, tabl, cellsOf, fldA, ldA, stA, entAt, partA, takeN, over, leafOk, Value.oneCell', idxA, nilA, cellsEq, fillA, elemsA, pure1, pure2, reps, chkA, tys, Try.results84, KX_draw, KX_drawQ, KX_tail, lastO_one, lastO_more, dropL_one, dropL_more, callP_eq, callM_true, e0, e1, e5, e6, d1, strsA, hr, sliceA, hr3, bound, hj0, Nat.le_refl, Nat.zero_le, hr2, hr4]
    simp [hjn, strC, htl]
  have d1 : decide ((j : Int) < (l.length : Int)) = true := by simp; omega
  obtain ⟨x, hx⟩ := nth_some hjl
  have hx' := nth_str hx
  have d2 := h3 x hx
  have hj1 : j + 1 ≤ l.length := hjl
  cases d3 : sEq x s with
  | true =>
    have hr4 : rowsOk 1 (((l.map strC).take l.length).drop (j + 1)) = true := by rw [← List.map_take, ← List.map_drop]; exact rowsOk_str _
    have hn2 : ((l.take j).map strC ++ [[(.prim (.string s) : AV)]]).length + (((l.map strC).take l.length).drop (j + 1)).length ≤ 1048576 := by simp; omega
    simp (maxSteps := 1000000) +contextual (disch := first | with_reducible assumption | exact ⟨rfl⟩ | exact ⟨rfl, rfl⟩ | (refine _root_.id ?_; kernel_rfl) | omega) only [evs, ext_mv, nth, put, putT, getT, binInt, binStr, binBool, aUn, outA, resA, mapO, resA1, oneOf, w1, w2, w3, bots, cond_true, cond_false, if_true, if_false, ite_true, ite_false, reduceIte, reduceCtorEq, implies_true, Nat.reduceAdd, Nat.reduceSub, AV.int, AV.bool, AV.str, Nat.reduceBEq, Nat.reduceEqDiff, Nat.reduceMul, Nat.reduceLT, Nat.reduceLeDiff, Int.reduceNeg, BEq.rfl, beq_self_eq_true, tabl, cellsOf, fldA, ldA, stA, entAt, partA, takeN, over, leafOk, Value.oneCell', idxA, nilA, cellsEq, fillA, elemsA, pure1, pure2, reps, chkA, tys, Try.results84, KX_draw, KX_drawQ, KX_tail, lastO_one, lastO_more, dropL_one, dropL_more, callP_eq, callM_true, e0, e1, e5, e6, d1, d2, d3, hx', hjw, strsA, hr, sliceA, hr3, bound, hj1, Nat.le_refl, Nat.zero_le, hr2, hr4]
    simp [hx, d3, strC, htl]
  | false =>
    have hr4 : rowsOk 1 (((l.map strC).take l.length).drop j) = true := by rw [← List.map_take, ← List.map_drop]; exact rowsOk_str _
    have hn2 : ((l.take j).map strC ++ [[(.prim (.string s) : AV)]]).length + (((l.map strC).take l.length).drop j).length ≤ 1048576 := by simp; omega
    simp (maxSteps := 1000000) +contextual (disch := first | with_reducible assumption | exact ⟨rfl⟩ | exact ⟨rfl, rfl⟩ | (refine _root_.id ?_; kernel_rfl) | omega) only [evs, ext_mv, nth, put, putT, getT, binInt, binStr, binBool, aUn, outA, resA, mapO, resA1, oneOf, w1, w2, w3, bots, cond_true, cond_false, if_true, if_false, ite_true, ite_false, reduceIte, reduceCtorEq, implies_true, Nat.reduceAdd, Nat.reduceSub, AV.int, AV.bool, AV.str, Nat.reduceBEq, Nat.reduceEqDiff, Nat.reduceMul, Nat.reduceLT, Nat.reduceLeDiff, Int.reduceNeg, BEq.rfl, beq_self_eq_true, tabl, cellsOf, fldA, ldA, stA, entAt, partA, takeN, over, leafOk, Value.oneCell', idxA, nilA, cellsEq, fillA, elemsA, pure1, pure2, reps, chkA, tys, Try.results84, KX_draw, KX_drawQ, KX_tail, lastO_one, lastO_more, dropL_one, dropL_more, callP_eq, callM_true, e0, e1, e5, e6, d1, d2, d3, hx', hjw, strsA, hr, sliceA, hr3, bound, hj0, Nat.le_refl, Nat.zero_le, hr2, hr4]
    simp [hx, d3, strC, htl]
theorem putS_len (l : List ByteArray) (s : ByteArray) : (putS l s).length ≤ l.length + 1 := len_put s l
theorem fold_len : ∀ (l acc : List ByteArray), (l.foldl putS acc).length ≤ acc.length + l.length
  | [], acc => by simp
  | s :: l, acc => by
    have := fold_len l (putS acc s)
    have h2 := len_put s acc
    simp only [List.foldl_cons, List.length_cons]; omega
set_option maxRecDepth 100000 in
/-- the union of an increasing list and one name -/
theorem R04_Union (l : List ByteArray) (s : ByteArray) (c c2 : Cap) (hi : Inc l) (hl : l.length ≤ 90000) : cL Try.prog 79 [.frz (l.map strC) c, .frz [[.prim (.string s)]] c2] S tk k = some (strsA (putS l s), S, tk, k) := by
  refine call_pure Try.func79 rfl rfl (by decide +kernel) (by decide +kernel) Try.ntmps79 rfl rfl _ _ _ rfl ?_; rw [RK_KX]
  simp (maxSteps := 1000000) +contextual (disch := first | with_reducible assumption | exact ⟨rfl⟩ | exact ⟨rfl, rfl⟩ | (refine _root_.id ?_; kernel_rfl) | omega) only [evs, ext_mv, nth, put, putT, getT, binInt, binStr, binBool, aUn, outA, resA, mapO, resA1, oneOf, w1, w2, w3, bots, cond_true, cond_false, if_true, if_false, ite_true, ite_false, reduceIte, reduceCtorEq, implies_true, Nat.reduceAdd, Nat.reduceSub, AV.int, AV.bool, AV.str, Nat.reduceBEq, Nat.reduceEqDiff, Nat.reduceMul, Nat.reduceLT, Nat.reduceLeDiff, Int.reduceNeg, BEq.rfl, beq_self_eq_true, tabl, cellsOf, fldA, ldA, stA, entAt, partA, takeN, over, leafOk, Value.oneCell', idxA, nilA, cellsEq, fillA, elemsA, pure1, pure2, reps, chkA, tys, Try.results79, KX_draw, KX_drawQ, KX_tail, lastO_one, lastO_more, dropL_one, dropL_more, callP_eq, callM_true, w2, w1]
  refine loop1 (fun x st => st.T.length = 33 ∧ (x.1 ≤ l.length) ∧ (x.2.1 = l.take x.1) ∧ getT st.T 0 = strsA l ∧ getT st.T 1 = .frz [[.prim (.string s)]] .unk ∧ getT st.T 5 = .frz (x.2.1.map strC) x.2.2 ∧ getT st.T 8 = strsA l ∧ getT st.T 9 = .int l.length ∧ getT st.T 10 = .int (x.1 : Nat) ∧ st.S = []) (fun x => l.length - x.1) (fun x => strsA (putS l s)) (0, [], .nilc) ?_ ?_
  case refine_2 => exact ⟨rfl, Nat.zero_le _, rfl, rfl, rfl, rfl, rfl, rfl, rfl, rfl⟩
  rintro ⟨j, out, c3⟩ ⟨T, S', tk', n'⟩ ⟨hl, hj, ho, e0, e1, e5, e8, e9, e10, eS⟩ IH
  simp only at hj ho e0 e1 e5 e8 e9 e10 eS
  subst eS
  obtain ⟨g, hg, hT⟩ := tab_of hl
  rw [hg] at e0 e1 e5 e8 e9 e10
  subst hT
  clear hg hl
  have hjw := wrap_add (i := j) (by omega)
  have hol : out.length ≤ l.length := by rw [ho]; simp; omega
  by_cases hlt : j < l.length
  · have d1 : decide ((j : Int) < (l.length : Int)) = true := by simpa using hlt
    obtain ⟨x, hx⟩ := nth_some hlt
    have hx' := nth_str hx
    have hP := fun S tk k => R04_put S tk k out x c3 (by omega)
    have hpe : putS out x = out ++ [x] := putS_end fun y hy => by
      rw [ho] at hy
      have h1 : Inc (l.take j ++ l.drop j) := by rw [List.take_append_drop]; exact hi
      exact (List.pairwise_append.1 h1).2.2 y hy x (by rw [nth_drop hx]; simp)
    rw [hpe] at hP
    simp only [strsA] at hP
    have hts := take_snoc hx
    simp (maxSteps := 1000000) +contextual (disch := first | with_reducible assumption | exact ⟨rfl⟩ | exact ⟨rfl, rfl⟩ | (refine _root_.id ?_; kernel_rfl) | omega) only [evs, ext_mv, nth, put, putT, getT, binInt, binStr, binBool, aUn, outA, resA, mapO, resA1, oneOf, w1, w2, w3, bots, cond_true, cond_false, if_true, if_false, ite_true, ite_false, reduceIte, reduceCtorEq, implies_true, Nat.reduceAdd, Nat.reduceSub, AV.int, AV.bool, AV.str, Nat.reduceBEq, Nat.reduceEqDiff, Nat.reduceMul, Nat.reduceLT, Nat.reduceLeDiff, Int.reduceNeg, BEq.rfl, beq_self_eq_true, tabl, cellsOf, fldA, ldA, stA, entAt, partA, takeN, over, leafOk, Value.oneCell', idxA, nilA, cellsEq, fillA, elemsA, pure1, pure2, reps, chkA, tys, Try.results79, KX_draw, KX_drawQ, KX_tail, lastO_one, lastO_more, dropL_one, dropL_more, callP_eq, callM_true, e0, e1, e5, e8, e9, e10, d1, strsA, hx', hjw, hP]
    exact IH (j + 1, out ++ [x], .unk) _ (by first | omega | (simp only; omega)) ⟨rfl, by first | omega | (dsimp only; omega), by rw [hts, ho], (by first | rfl | simp only [getT, List.map_append, List.map_cons, List.map_nil, strC, strsA, and_self]), (by first | rfl | simp only [getT, List.map_append, List.map_cons, List.map_nil, strC, strsA, and_self]), (by first | rfl | simp only [getT, List.map_append, List.map_cons, List.map_nil, strC, strsA, and_self]), (by first | rfl | simp only [getT, List.map_append, List.map_cons, List.map_nil, strC, strsA, and_self]), (by first | rfl | simp only [getT, List.map_append, List.map_cons, List.map_nil, strC, strsA, and_self]), (by first | rfl | simp only [getT, List.map_append, List.map_cons, List.map_nil, strC, strsA, and_self]), (by first | rfl | simp only [getT, List.map_append, List.map_cons, List.map_nil, strC, strsA, and_self])⟩
  · have d1 : decide ((j : Int) < (l.length : Int)) = false := by simpa using hlt
    have hje : j = l.length := by omega
    subst hje
    rw [List.take_length] at ho
    subst ho
    have hP := fun S tk k => R04_put S tk k out s c3 (by omega)
    simp only [strsA] at hP
    simp (maxSteps := 1000000) +contextual (disch := first | with_reducible assumption | exact ⟨rfl⟩ | exact ⟨rfl, rfl⟩ | (refine _root_.id ?_; kernel_rfl) | omega) only [evs, ext_mv, nth, put, putT, getT, binInt, binStr, binBool, aUn, outA, resA, mapO, resA1, oneOf, w1, w2, w3, bots, cond_true, cond_false, if_true, if_false, ite_true, ite_false, reduceIte, reduceCtorEq, implies_true, Nat.reduceAdd, Nat.reduceSub, AV.int, AV.bool, AV.str, Nat.reduceBEq, Nat.reduceEqDiff, Nat.reduceMul, Nat.reduceLT, Nat.reduceLeDiff, Int.reduceNeg, BEq.rfl, beq_self_eq_true, tabl, cellsOf, fldA, ldA, stA, entAt, partA, takeN, over, leafOk, Value.oneCell', idxA, nilA, cellsEq, fillA, elemsA, pure1, pure2, reps, chkA, tys, Try.results79, KX_draw, KX_drawQ, KX_tail, lastO_one, lastO_more, dropL_one, dropL_more, callP_eq, callM_true, e0, e1, e5, e8, e9, e10, d1, strsA]
    refine loop1 (fun x st => st.T.length = 33 ∧ (x ≤ 1) ∧ getT st.T 1 = .frz [[.prim (.string s)]] .unk ∧ getT st.T 5 = (if x = 0 then .frz (out.map strC) c3 else strsA (putS out s)) ∧ getT st.T 20 = .frz [[.prim (.string s)]] .unk ∧ getT st.T 21 = .int ((1 : Nat) : Int) ∧ getT st.T 22 = .int (x : Nat) ∧ st.S = []) (fun x => 1 - x) (fun x => strsA (putS out s)) (0) ?_ ?_
    case refine_2 => exact ⟨rfl, Nat.zero_le _, rfl, rfl, rfl, rfl, rfl, rfl⟩
    rintro j ⟨T, S', tk', n'⟩ ⟨hl, hj, e1, e5, e20, e21, e22, eS⟩ IH
    subst eS
    obtain ⟨g, hg, hT⟩ := tab_of hl
    rw [hg] at e1 e5 e20 e21 e22
    subst hT
    clear hg hl
    by_cases h0 : j = 0
    · subst h0
      rw [if_pos rfl] at e5
      have d2 : decide (((0 : Nat) : Int) < ((1 : Nat) : Int)) = true := rfl
      have hjw2 : IntKind.i64.wrap (((0 : Nat) : Int) + 1) = ((1 : Nat) : Int) := wrap_of (by unfold i64; omega)
      simp (maxSteps := 1000000) +contextual (disch := first | with_reducible assumption | exact ⟨rfl⟩ | exact ⟨rfl, rfl⟩ | (refine _root_.id ?_; kernel_rfl) | omega) only [evs, ext_mv, nth, put, putT, getT, binInt, binStr, binBool, aUn, outA, resA, mapO, resA1, oneOf, w1, w2, w3, bots, cond_true, cond_false, if_true, if_false, ite_true, ite_false, reduceIte, reduceCtorEq, implies_true, Nat.reduceAdd, Nat.reduceSub, AV.int, AV.bool, AV.str, Nat.reduceBEq, Nat.reduceEqDiff, Nat.reduceMul, Nat.reduceLT, Nat.reduceLeDiff, Int.reduceNeg, BEq.rfl, beq_self_eq_true, tabl, cellsOf, fldA, ldA, stA, entAt, partA, takeN, over, leafOk, Value.oneCell', idxA, nilA, cellsEq, fillA, elemsA, pure1, pure2, reps, chkA, tys, Try.results79, KX_draw, KX_drawQ, KX_tail, lastO_one, lastO_more, dropL_one, dropL_more, callP_eq, callM_true, e1, e5, e20, e21, e22, d2, hjw2, hP]
      exact IH (1) _ (by first | omega | (simp only; omega)) ⟨rfl, by first | omega | (dsimp only; omega), (by first | rfl | simp only [getT, List.map_append, List.map_cons, List.map_nil, strC, strsA, and_self]), (by first | rfl | simp only [getT, List.map_append, List.map_cons, List.map_nil, strC, strsA, and_self]), (by first | rfl | simp only [getT, List.map_append, List.map_cons, List.map_nil, strC, strsA, and_self]), (by first | rfl | simp only [getT, List.map_append, List.map_cons, List.map_nil, strC, strsA, and_self]), (by first | rfl | simp only [getT, List.map_append, List.map_cons, List.map_nil, strC, strsA, and_self]), (by first | rfl | simp only [getT, List.map_append, List.map_cons, List.map_nil, strC, strsA, and_self])⟩
    · have hj1 : j = 1 := by omega
      subst hj1
      rw [if_neg (by omega)] at e5
      have d2 : decide (((1 : Nat) : Int) < ((1 : Nat) : Int)) = false := rfl
      simp (maxSteps := 1000000) +contextual (disch := first | with_reducible assumption | exact ⟨rfl⟩ | exact ⟨rfl, rfl⟩ | (refine _root_.id ?_; kernel_rfl) | omega) only [evs, ext_mv, nth, put, putT, getT, binInt, binStr, binBool, aUn, outA, resA, mapO, resA1, oneOf, w1, w2, w3, bots, cond_true, cond_false, if_true, if_false, ite_true, ite_false, reduceIte, reduceCtorEq, implies_true, Nat.reduceAdd, Nat.reduceSub, AV.int, AV.bool, AV.str, Nat.reduceBEq, Nat.reduceEqDiff, Nat.reduceMul, Nat.reduceLT, Nat.reduceLeDiff, Int.reduceNeg, BEq.rfl, beq_self_eq_true, tabl, cellsOf, fldA, ldA, stA, entAt, partA, takeN, over, leafOk, Value.oneCell', idxA, nilA, cellsEq, fillA, elemsA, pure1, pure2, reps, chkA, tys, Try.results79, KX_draw, KX_drawQ, KX_tail, lastO_one, lastO_more, dropL_one, dropL_more, callP_eq, callM_true, e1, e5, e20, e21, e22, d2, strsA]
end
end Go.Proofs.Ytmgbmbganlndkaa
/-
  The variables of rows, walked; which systems are accepted.
-/

namespace Go.Proofs.Ytmgbmbganlndkaa
open Go

theorem names_take {l : List RowT} {i : Nat} {r : RowT} (h : nth l i = some r) : namesOf (l.take (i + 1)) = namesOf (l.take i) ++ r.1.map (·.1) := by
  rw [take_snoc h, names_snoc]
theorem few_take {l : List RowT} (h : fewC l) (i : Nat) : fewC (l.take i) := fun r hr => h r (List.mem_of_mem_take hr)
theorem few_len {l : List RowT} (h : fewC l) (hl : l.length ≤ 64) (i : Nat) : (namesOf (l.take i)).length ≤ 1536 := by
  have h1 := names_len (few_take h i)
  have : (l.take i).length ≤ 64 := by simp; omega
  omega
theorem uni_len (l : List ByteArray) : (uniS l).length ≤ l.length := (uni_facts l).2.2
section
variable (S : List Ent) (tk : List Nat) (k : Nat)
set_option maxRecDepth 100000 in
theorem R13_names (l : List RowT) (hf : fewC l) (hl : l.length ≤ 64) : cL Try.prog 62 [rowsA l] S tk k = some (strsA (varsF l), S, tk, k) := by
  refine call_pure Try.func62 rfl rfl (by decide +kernel) (by decide +kernel) Try.ntmps62 rfl rfl _ _ _ rfl ?_; rw [RK_KX]
  simp (maxSteps := 1000000) +contextual (disch := first | with_reducible assumption | exact ⟨rfl⟩ | exact ⟨rfl, rfl⟩ | (refine _root_.id ?_; kernel_rfl) | omega) only [evs, ext_mv, nth, put, putT, getT, binInt, binStr, binBool, aUn, outA, resA, mapO, resA1, oneOf, w1, w2, w3, bots, cond_true, cond_false, if_true, if_false, ite_true, ite_false, reduceIte, reduceCtorEq, implies_true, Nat.reduceAdd, Nat.reduceSub, AV.int, AV.bool, AV.str, Nat.reduceBEq, Nat.reduceEqDiff, Nat.reduceMul, Nat.reduceLT, Nat.reduceLeDiff, Int.reduceNeg, BEq.rfl, beq_self_eq_true, tabl, cellsOf, fldA, ldA, stA, entAt, partA, takeN, over, leafOk, Value.oneCell', idxA, nilA, cellsEq, fillA, elemsA, pure1, pure2, reps, chkA, tys, Try.results62, KX_draw, KX_drawQ, KX_tail, lastO_one, lastO_more, dropL_one, dropL_more, callP_eq, callM_true, rowsA]
  refine loop1 (fun x st => st.T.length = 30 ∧ (x.1 ≤ l.length) ∧ (x.2.1 = uniS (namesOf (l.take x.1))) ∧ getT st.T 3 = .frz (x.2.1.map strC) x.2.2 ∧ getT st.T 8 = rowsA l ∧ getT st.T 9 = .int l.length ∧ getT st.T 10 = .int (x.1 : Nat) ∧ st.S = []) (fun x => l.length - x.1) (fun x => strsA (varsF l)) (0, [], .nilc) ?_ ?_
  case refine_2 => exact ⟨rfl, Nat.zero_le _, rfl, rfl, rfl, rfl, rfl, rfl⟩
  rintro ⟨i, out, c⟩ ⟨T, S', tk', n'⟩ ⟨hl, hi, ho, e3, e8, e9, e10, eS⟩ IH
  simp only at hi ho e3 e8 e9 e10 eS
  subst eS
  obtain ⟨g, hg, hT⟩ := tab_of hl
  rw [hg] at e3 e8 e9 e10
  subst hT
  clear hg hl
  have OUT := IH
  clear IH
  have hiw := wrap_add (i := i) (by omega)
  by_cases hlt : i < l.length
  · have d1 : decide ((i : Int) < (l.length : Int)) = true := by simpa using hlt
    obtain ⟨r, hx⟩ := nth_some hlt
    have hx' := nth_row hx
    have hrl := hf r (mem_nth hx)
    have hnl := few_len hf hl i
    have hnt := names_take hx
    simp only [rowC, coefsA] at hx'
    simp (maxSteps := 1000000) +contextual (disch := first | with_reducible assumption | exact ⟨rfl⟩ | exact ⟨rfl, rfl⟩ | (refine _root_.id ?_; kernel_rfl) | omega) only [evs, ext_mv, nth, put, putT, getT, binInt, binStr, binBool, aUn, outA, resA, mapO, resA1, oneOf, w1, w2, w3, bots, cond_true, cond_false, if_true, if_false, ite_true, ite_false, reduceIte, reduceCtorEq, implies_true, Nat.reduceAdd, Nat.reduceSub, AV.int, AV.bool, AV.str, Nat.reduceBEq, Nat.reduceEqDiff, Nat.reduceMul, Nat.reduceLT, Nat.reduceLeDiff, Int.reduceNeg, BEq.rfl, beq_self_eq_true, tabl, cellsOf, fldA, ldA, stA, entAt, partA, takeN, over, leafOk, Value.oneCell', idxA, nilA, cellsEq, fillA, elemsA, pure1, pure2, reps, chkA, tys, Try.results62, KX_draw, KX_drawQ, KX_tail, lastO_one, lastO_more, dropL_one, dropL_more, callP_eq, callM_true, e3, e8, e9, e10, d1, rowsA, hx']
    refine loop1 (fun x st => st.T.length = 30 ∧ (x.1 ≤ r.1.length) ∧ (x.2.1 = uniS (namesOf (l.take i) ++ (r.1.take x.1).map (·.1))) ∧ getT st.T 3 = .frz (x.2.1.map strC) x.2.2 ∧ getT st.T 8 = rowsA l ∧ getT st.T 9 = .int l.length ∧ getT st.T 10 = .int (i : Nat) ∧ getT st.T 16 = .frz (r.1.map coefC) .unk ∧ getT st.T 17 = .int r.1.length ∧ getT st.T 18 = .int (x.1 : Nat) ∧ st.S = [⟨n', [.frz (r.1.map coefC) .unk, .int r.2.1, .bool r.2.2]⟩]) (fun x => r.1.length - x.1) (fun x => strsA (varsF l)) (0, out, c) ?_ ?_
    case refine_2 => exact ⟨rfl, Nat.zero_le _, by simp [ho], rfl, rfl, rfl, rfl, rfl, rfl, rfl, rfl⟩
    rintro ⟨j, out2, c2⟩ ⟨T, S', tk', n'⟩ ⟨hl, hj, ho2, e3, e8, e9, e10, e16, e17, e18, eS⟩ IH
    simp only at hj ho2 e3 e8 e9 e10 e16 e17 e18 eS
    subst eS
    obtain ⟨g, hg, hT⟩ := tab_of hl
    rw [hg] at e3 e8 e9 e10 e16 e17 e18
    subst hT
    clear hg hl
    have hjw := wrap_add (i := j) (by omega)
    have hml : (namesOf (l.take i) ++ (r.1.take j).map (·.1)).length ≤ 1600 := by simp; omega
    have hul := uni_len (namesOf (l.take i) ++ (r.1.take j).map (·.1))
    by_cases hlt2 : j < r.1.length
    · have d2 : decide ((j : Int) < (r.1.length : Int)) = true := by simpa using hlt2
      obtain ⟨q, hq⟩ := nth_some hlt2
      have hq' := nth_coef hq
      simp only [coefC] at hq'
      have hU := fun S tk k => R04_Union S tk k out2 q.1 c2 .tight (by rw [ho2]; exact (uni_facts _).1) (by rw [ho2]; omega)
      have hts := take_snoc hq
      simp only [strsA] at hU
      simp (maxSteps := 1000000) +contextual (disch := first | with_reducible assumption | exact ⟨rfl⟩ | exact ⟨rfl, rfl⟩ | (refine _root_.id ?_; kernel_rfl) | omega) only [evs, ext_mv, nth, put, putT, getT, binInt, binStr, binBool, aUn, outA, resA, mapO, resA1, oneOf, w1, w2, w3, bots, cond_true, cond_false, if_true, if_false, ite_true, ite_false, reduceIte, reduceCtorEq, implies_true, Nat.reduceAdd, Nat.reduceSub, AV.int, AV.bool, AV.str, Nat.reduceBEq, Nat.reduceEqDiff, Nat.reduceMul, Nat.reduceLT, Nat.reduceLeDiff, Int.reduceNeg, BEq.rfl, beq_self_eq_true, tabl, cellsOf, fldA, ldA, stA, entAt, partA, takeN, over, leafOk, Value.oneCell', idxA, nilA, cellsEq, fillA, elemsA, pure1, pure2, reps, chkA, tys, Try.results62, KX_draw, KX_drawQ, KX_tail, lastO_one, lastO_more, dropL_one, dropL_more, callP_eq, callM_true, e3, e8, e9, e10, e16, e17, e18, d2, hq', hjw, hU]
      exact IH (j + 1, putS out2 q.1, .unk) _ (by first | omega | (simp only; omega)) ⟨rfl, by first | omega | (dsimp only; omega), by rw [hts, List.map_append, ← List.append_assoc, List.map_cons, List.map_nil, uni_snoc, ho2], (by first | rfl | simp only [getT, List.map_append, List.map_cons, List.map_nil, strC, strsA, and_self]), (by first | rfl | simp only [getT, List.map_append, List.map_cons, List.map_nil, strC, strsA, and_self]), (by first | rfl | simp only [getT, List.map_append, List.map_cons, List.map_nil, strC, strsA, and_self]), (by first | rfl | simp only [getT, List.map_append, List.map_cons, List.map_nil, strC, strsA, and_self]), (by first | rfl | simp only [getT, List.map_append, List.map_cons, List.map_nil, strC, strsA, and_self]), (by first | rfl | simp only [getT, List.map_append, List.map_cons, List.map_nil, strC, strsA, and_self]), (by first | rfl | simp only [getT, List.map_append, List.map_cons, List.map_nil, strC, strsA, and_self]), (by first | rfl | simp only [getT, List.map_append, List.map_cons, List.map_nil, strC, strsA, and_self])⟩
    · have d2 : decide ((j : Int) < (r.1.length : Int)) = false := by simpa using hlt2
      have hje : j = r.1.length := by omega
      subst hje
      rw [List.take_length] at ho2
      simp (maxSteps := 1000000) +contextual (disch := first | with_reducible assumption | exact ⟨rfl⟩ | exact ⟨rfl, rfl⟩ | (refine _root_.id ?_; kernel_rfl) | omega) only [evs, ext_mv, nth, put, putT, getT, binInt, binStr, binBool, aUn, outA, resA, mapO, resA1, oneOf, w1, w2, w3, bots, cond_true, cond_false, if_true, if_false, ite_true, ite_false, reduceIte, reduceCtorEq, implies_true, Nat.reduceAdd, Nat.reduceSub, AV.int, AV.bool, AV.str, Nat.reduceBEq, Nat.reduceEqDiff, Nat.reduceMul, Nat.reduceLT, Nat.reduceLeDiff, Int.reduceNeg, BEq.rfl, beq_self_eq_true, tabl, cellsOf, fldA, ldA, stA, entAt, partA, takeN, over, leafOk, Value.oneCell', idxA, nilA, cellsEq, fillA, elemsA, pure1, pure2, reps, chkA, tys, Try.results62, KX_draw, KX_drawQ, KX_tail, lastO_one, lastO_more, dropL_one, dropL_more, callP_eq, callM_true, e3, e8, e9, e10, e16, e17, e18, d2, hiw]
      exact OUT (i + 1, out2, c2) _ (by first | omega | (simp only; omega)) ⟨rfl, by first | omega | (dsimp only; omega), by rw [hnt, ho2], (by first | rfl | simp only [getT, List.map_append, List.map_cons, List.map_nil, strC, strsA, and_self]), (by first | rfl | simp only [getT, List.map_append, List.map_cons, List.map_nil, strC, strsA, and_self]), (by first | rfl | simp only [getT, List.map_append, List.map_cons, List.map_nil, strC, strsA, and_self]), (by first | rfl | simp only [getT, List.map_append, List.map_cons, List.map_nil, strC, strsA, and_self]), (by first | rfl | simp only [getT, List.map_append, List.map_cons, List.map_nil, strC, strsA, and_self])⟩
  · have d1 : decide ((i : Int) < (l.length : Int)) = false := by simpa using hlt
    have hie : i = l.length := by omega
    subst hie
    rw [List.take_length] at ho
    simp (maxSteps := 1000000) +contextual (disch := first | with_reducible assumption | exact ⟨rfl⟩ | exact ⟨rfl, rfl⟩ | (refine _root_.id ?_; kernel_rfl) | omega) only [evs, ext_mv, nth, put, putT, getT, binInt, binStr, binBool, aUn, outA, resA, mapO, resA1, oneOf, w1, w2, w3, bots, cond_true, cond_false, if_true, if_false, ite_true, ite_false, reduceIte, reduceCtorEq, implies_true, Nat.reduceAdd, Nat.reduceSub, AV.int, AV.bool, AV.str, Nat.reduceBEq, Nat.reduceEqDiff, Nat.reduceMul, Nat.reduceLT, Nat.reduceLeDiff, Int.reduceNeg, BEq.rfl, beq_self_eq_true, tabl, cellsOf, fldA, ldA, stA, entAt, partA, takeN, over, leafOk, Value.oneCell', idxA, nilA, cellsEq, fillA, elemsA, pure1, pure2, reps, chkA, tys, Try.results62, KX_draw, KX_drawQ, KX_tail, lastO_one, lastO_more, dropL_one, dropL_more, callP_eq, callM_true, e3, e8, e9, e10, d1, rowsA]
    rw [ho]; rfl
set_option maxRecDepth 100000 in
theorem simplex_variables (l : List RowT) (hf : fewC l) (hl : l.length ≤ 64) : cL Try.prog 54 [rowsA l] S tk k = some (strsA (varsF l), S, tk, k) := by
  refine call_pure Try.func54 rfl rfl (by decide +kernel) (by decide +kernel) Try.ntmps54 rfl rfl _ _ _ rfl ?_; rw [RK_KX]
  simp (maxSteps := 1000000) +contextual (disch := first | with_reducible assumption | exact ⟨rfl⟩ | exact ⟨rfl, rfl⟩ | (refine _root_.id ?_; kernel_rfl) | omega) only [evs, ext_mv, nth, put, putT, getT, binInt, binStr, binBool, aUn, outA, resA, mapO, resA1, oneOf, w1, w2, w3, bots, cond_true, cond_false, if_true, if_false, ite_true, ite_false, reduceIte, reduceCtorEq, implies_true, Nat.reduceAdd, Nat.reduceSub, AV.int, AV.bool, AV.str, Nat.reduceBEq, Nat.reduceEqDiff, Nat.reduceMul, Nat.reduceLT, Nat.reduceLeDiff, Int.reduceNeg, BEq.rfl, beq_self_eq_true, tabl, cellsOf, fldA, ldA, stA, entAt, partA, takeN, over, leafOk, Value.oneCell', idxA, nilA, cellsEq, fillA, elemsA, pure1, pure2, reps, chkA, tys, Try.results54, KX_draw, KX_drawQ, KX_tail, lastO_one, lastO_more, dropL_one, dropL_more, callP_eq, callM_true, rowsA]
  refine loop1 (fun x st => st.T.length = 31 ∧ (x.1 ≤ l.length) ∧ (x.2.1 = namesOf (l.take x.1)) ∧ (okCap st.tk x.2.2 1 = true) ∧ ((!x.2.1.isEmpty || isNilc x.2.2) = true) ∧ getT st.T 3 = .frz (x.2.1.map strC) x.2.2 ∧ getT st.T 8 = rowsA l ∧ getT st.T 9 = .int l.length ∧ getT st.T 10 = .int (x.1 : Nat) ∧ st.S = []) (fun x => l.length - x.1) (fun x => strsA (varsF l)) (0, [], .nilc) ?_ ?_
  case refine_2 => exact ⟨rfl, Nat.zero_le _, rfl, rfl, rfl, rfl, rfl, rfl, rfl, rfl⟩
  rintro ⟨i, out, c⟩ ⟨T, S', tk', n'⟩ ⟨hl, hi, ho, hok, hc, e3, e8, e9, e10, eS⟩ IH
  simp only at hi ho hok hc e3 e8 e9 e10 eS
  subst eS
  obtain ⟨g, hg, hT⟩ := tab_of hl
  rw [hg] at e3 e8 e9 e10
  subst hT
  clear hg hl
  have OUT := IH
  clear IH
  have hiw := wrap_add (i := i) (by omega)
  have hnl := few_len hf hl i
  by_cases hlt : i < l.length
  · have d1 : decide ((i : Int) < (l.length : Int)) = true := by simpa using hlt
    obtain ⟨r, hx⟩ := nth_some hlt
    have hx' := nth_row hx
    have hrl := hf r (mem_nth hx)
    have hnt := names_take hx
    simp only [rowC, coefsA] at hx'
    simp (maxSteps := 1000000) +contextual (disch := first | with_reducible assumption | exact ⟨rfl⟩ | exact ⟨rfl, rfl⟩ | (refine _root_.id ?_; kernel_rfl) | omega) only [evs, ext_mv, nth, put, putT, getT, binInt, binStr, binBool, aUn, outA, resA, mapO, resA1, oneOf, w1, w2, w3, bots, cond_true, cond_false, if_true, if_false, ite_true, ite_false, reduceIte, reduceCtorEq, implies_true, Nat.reduceAdd, Nat.reduceSub, AV.int, AV.bool, AV.str, Nat.reduceBEq, Nat.reduceEqDiff, Nat.reduceMul, Nat.reduceLT, Nat.reduceLeDiff, Int.reduceNeg, BEq.rfl, beq_self_eq_true, tabl, cellsOf, fldA, ldA, stA, entAt, partA, takeN, over, leafOk, Value.oneCell', idxA, nilA, cellsEq, fillA, elemsA, pure1, pure2, reps, chkA, tys, Try.results54, KX_draw, KX_drawQ, KX_tail, lastO_one, lastO_more, dropL_one, dropL_more, callP_eq, callM_true, e3, e8, e9, e10, d1, rowsA, hx']
    refine loop1 (fun x st => st.T.length = 31 ∧ (x.1 ≤ r.1.length) ∧ (x.2.1 = namesOf (l.take i) ++ (r.1.take x.1).map (·.1)) ∧ (okCap st.tk x.2.2 1 = true) ∧ ((!x.2.1.isEmpty || isNilc x.2.2) = true) ∧ getT st.T 3 = .frz (x.2.1.map strC) x.2.2 ∧ getT st.T 8 = rowsA l ∧ getT st.T 9 = .int l.length ∧ getT st.T 10 = .int (i : Nat) ∧ getT st.T 16 = .frz (r.1.map coefC) .unk ∧ getT st.T 17 = .int r.1.length ∧ getT st.T 18 = .int (x.1 : Nat) ∧ st.S = [⟨n', [.frz (r.1.map coefC) .unk, .int r.2.1, .bool r.2.2]⟩]) (fun x => r.1.length - x.1) (fun x => strsA (varsF l)) (0, out, c) ?_ ?_
    case refine_2 => exact ⟨rfl, Nat.zero_le _, by simp [ho], hok, hc, rfl, rfl, rfl, rfl, rfl, rfl, rfl, rfl⟩
    rintro ⟨j, out2, c2⟩ ⟨T, S', tk', n'⟩ ⟨hl, hj, ho2, hok2, hc2, e3, e8, e9, e10, e16, e17, e18, eS⟩ IH
    simp only at hj ho2 hok2 hc2 e3 e8 e9 e10 e16 e17 e18 eS
    subst eS
    obtain ⟨g, hg, hT⟩ := tab_of hl
    rw [hg] at e3 e8 e9 e10 e16 e17 e18
    subst hT
    clear hg hl
    have hjw := wrap_add (i := j) (by omega)
    have hml : out2.length ≤ 1600 := by rw [ho2]; simp; omega
    have hr := rowsOk_str out2
    have hok' := okCap_new hok2
    have hn1 : (out2.map strC).length + 1 ≤ 1048576 := by simp; omega
    by_cases hlt2 : j < r.1.length
    · have d2 : decide ((j : Int) < (r.1.length : Int)) = true := by simpa using hlt2
      obtain ⟨q, hq⟩ := nth_some hlt2
      have hq' := nth_coef hq
      simp only [coefC] at hq'
      have hts := take_snoc hq
      simp (maxSteps := 1000000) +contextual (disch := first | with_reducible assumption | exact ⟨rfl⟩ | exact ⟨rfl, rfl⟩ | (refine _root_.id ?_; kernel_rfl) | omega) only [evs, ext_mv, nth, put, putT, getT, binInt, binStr, binBool, aUn, outA, resA, mapO, resA1, oneOf, w1, w2, w3, bots, cond_true, cond_false, if_true, if_false, ite_true, ite_false, reduceIte, reduceCtorEq, implies_true, Nat.reduceAdd, Nat.reduceSub, AV.int, AV.bool, AV.str, Nat.reduceBEq, Nat.reduceEqDiff, Nat.reduceMul, Nat.reduceLT, Nat.reduceLeDiff, Int.reduceNeg, BEq.rfl, beq_self_eq_true, tabl, cellsOf, fldA, ldA, stA, entAt, partA, takeN, over, leafOk, Value.oneCell', idxA, nilA, cellsEq, fillA, elemsA, pure1, pure2, reps, chkA, tys, Try.results54, KX_draw, KX_drawQ, KX_tail, lastO_one, lastO_more, dropL_one, dropL_more, callP_eq, callM_true, e3, e8, e9, e10, e16, e17, e18, d2, hq', hjw, hr]
      exact IH (j + 1, out2 ++ [q.1], capNew tk' c2 1) _ (by first | omega | (simp only; omega)) ⟨rfl, by first | omega | (dsimp only; omega), by rw [hts, List.map_append, ← List.append_assoc, ho2]; rfl, hok', by simp, (by first | rfl | simp only [getT, List.map_append, List.map_cons, List.map_nil, strC, strsA, and_self]), (by first | rfl | simp only [getT, List.map_append, List.map_cons, List.map_nil, strC, strsA, and_self]), (by first | rfl | simp only [getT, List.map_append, List.map_cons, List.map_nil, strC, strsA, and_self]), (by first | rfl | simp only [getT, List.map_append, List.map_cons, List.map_nil, strC, strsA, and_self]), (by first | rfl | simp only [getT, List.map_append, List.map_cons, List.map_nil, strC, strsA, and_self]), (by first | rfl | simp only [getT, List.map_append, List.map_cons, List.map_nil, strC, strsA, and_self]), (by first | rfl | simp only [getT, List.map_append, List.map_cons, List.map_nil, strC, strsA, and_self]), (by first | rfl | simp only [getT, List.map_append, List.map_cons, List.map_nil, strC, strsA, and_self])⟩
    · have d2 : decide ((j : Int) < (r.1.length : Int)) = false := by simpa using hlt2
      have hje : j = r.1.length := by omega
      subst hje
      rw [List.take_length] at ho2
      simp (maxSteps := 1000000) +contextual (disch := first | with_reducible assumption | exact ⟨rfl⟩ | exact ⟨rfl, rfl⟩ | (refine _root_.id ?_; kernel_rfl) | omega) only [evs, ext_mv, nth, put, putT, getT, binInt, binStr, binBool, aUn, outA, resA, mapO, resA1, oneOf, w1, w2, w3, bots, cond_true, cond_false, if_true, if_false, ite_true, ite_false, reduceIte, reduceCtorEq, implies_true, Nat.reduceAdd, Nat.reduceSub, AV.int, AV.bool, AV.str, Nat.reduceBEq, Nat.reduceEqDiff, Nat.reduceMul, Nat.reduceLT, Nat.reduceLeDiff, Int.reduceNeg, BEq.rfl, beq_self_eq_true, tabl, cellsOf, fldA, ldA, stA, entAt, partA, takeN, over, leafOk, Value.oneCell', idxA, nilA, cellsEq, fillA, elemsA, pure1, pure2, reps, chkA, tys, Try.results54, KX_draw, KX_drawQ, KX_tail, lastO_one, lastO_more, dropL_one, dropL_more, callP_eq, callM_true, e3, e8, e9, e10, e16, e17, e18, d2, hiw]
      exact OUT (i + 1, out2, c2) _ (by first | omega | (simp only; omega)) ⟨rfl, by first | omega | (dsimp only; omega), by rw [hnt, ho2], hok2, hc2, (by first | rfl | simp only [getT, List.map_append, List.map_cons, List.map_nil, strC, strsA, and_self]), (by first | rfl | simp only [getT, List.map_append, List.map_cons, List.map_nil, strC, strsA, and_self]), (by first | rfl | simp only [getT, List.map_append, List.map_cons, List.map_nil, strC, strsA, and_self]), (by first | rfl | simp only [getT, List.map_append, List.map_cons, List.map_nil, strC, strsA, and_self]), (by first | rfl | simp only [getT, List.map_append, List.map_cons, List.map_nil, strC, strsA, and_self])⟩
  · have d1 : decide ((i : Int) < (l.length : Int)) = false := by simpa using hlt
    have hie : i = l.length := by omega
    subst hie
    rw [List.take_length] at ho hnl
    have hU := fun S tk k => names_Union S tk k out c (by rw [ho]; omega) hc
    simp only [strsA] at hU
    simp (maxSteps := 1000000) +contextual (disch := first | with_reducible assumption | exact ⟨rfl⟩ | exact ⟨rfl, rfl⟩ | (refine _root_.id ?_; kernel_rfl) | omega) only [evs, ext_mv, nth, put, putT, getT, binInt, binStr, binBool, aUn, outA, resA, mapO, resA1, oneOf, w1, w2, w3, bots, cond_true, cond_false, if_true, if_false, ite_true, ite_false, reduceIte, reduceCtorEq, implies_true, Nat.reduceAdd, Nat.reduceSub, AV.int, AV.bool, AV.str, Nat.reduceBEq, Nat.reduceEqDiff, Nat.reduceMul, Nat.reduceLT, Nat.reduceLeDiff, Int.reduceNeg, BEq.rfl, beq_self_eq_true, tabl, cellsOf, fldA, ldA, stA, entAt, partA, takeN, over, leafOk, Value.oneCell', idxA, nilA, cellsEq, fillA, elemsA, pure1, pure2, reps, chkA, tys, Try.results54, KX_draw, KX_drawQ, KX_tail, lastO_one, lastO_more, dropL_one, dropL_more, callP_eq, callM_true, e3, e8, e9, e10, d1, rowsA, hU]
    rw [ho]; rfl
/-- the first error of a form in rows -/
def firstE : List RowT → Int
  | [] => 0
  | r :: l => if checkF r.1 r.2.1 != 0 then checkF r.1 r.2.1 else firstE l
def sysE (l : List RowT) : Int := if 64 < l.length then 7 else if firstE l != 0 then firstE l else if 24 < (varsF l).length then 7 else 0
theorem check_few {cs : List (ByteArray × Int)} {n : Int} (h : checkF cs n = 0) : cs.length ≤ 24 := by
  unfold checkF at h
  split at h
  · cases h
  · omega
theorem first_few : ∀ {l : List RowT}, firstE l = 0 → fewC l
  | [], _ => fun r hr => by simp at hr
  | r :: l, h => by
    unfold firstE at h
    by_cases h0 : checkF r.1 r.2.1 = 0
    · rw [h0] at h
      simp only [bne_self_eq_false, Bool.false_eq_true, if_false] at h
      intro x hx
      rcases List.mem_cons.1 hx with rfl | hx
      · exact check_few h0
      · exact first_few h x hx
    · rw [if_pos (by simpa using h0)] at h; exact absurd h h0
set_option maxRecDepth 100000 in
theorem R13_Check (l : List RowT) (hl0 : ∀ r ∈ l, r.1.length ≤ 1048576) : cL Try.prog 35 [rowsA l] S tk k = some (.int (sysE l), S, tk, k) := by
  refine call_pure Try.func35 rfl rfl (by decide +kernel) (by decide +kernel) Try.ntmps35 rfl rfl _ _ _ rfl ?_; rw [RK_KX]
  by_cases h64 : 64 < l.length
  · have d0 : decide ((l.length : Int) > 64) = true := by simp; omega
    simp (maxSteps := 1000000) +contextual (disch := first | with_reducible assumption | exact ⟨rfl⟩ | exact ⟨rfl, rfl⟩ | (refine _root_.id ?_; kernel_rfl) | omega) only [evs, ext_mv, nth, put, putT, getT, binInt, binStr, binBool, aUn, outA, resA, mapO, resA1, oneOf, w1, w2, w3, bots, cond_true, cond_false, if_true, if_false, ite_true, ite_false, reduceIte, reduceCtorEq, implies_true, Nat.reduceAdd, Nat.reduceSub, AV.int, AV.bool, AV.str, Nat.reduceBEq, Nat.reduceEqDiff, Nat.reduceMul, Nat.reduceLT, Nat.reduceLeDiff, Int.reduceNeg, BEq.rfl, beq_self_eq_true, tabl, cellsOf, fldA, ldA, stA, entAt, partA, takeN, over, leafOk, Value.oneCell', idxA, nilA, cellsEq, fillA, elemsA, pure1, pure2, reps, chkA, tys, Try.results35, KX_draw, KX_drawQ, KX_tail, lastO_one, lastO_more, dropL_one, dropL_more, callP_eq, callM_true, rowsA, d0]
    simp [sysE, h64]
  have d0 : decide ((l.length : Int) > 64) = false := by simp; omega
  simp (maxSteps := 1000000) +contextual (disch := first | with_reducible assumption | exact ⟨rfl⟩ | exact ⟨rfl, rfl⟩ | (refine _root_.id ?_; kernel_rfl) | omega) only [evs, ext_mv, nth, put, putT, getT, binInt, binStr, binBool, aUn, outA, resA, mapO, resA1, oneOf, w1, w2, w3, bots, cond_true, cond_false, if_true, if_false, ite_true, ite_false, reduceIte, reduceCtorEq, implies_true, Nat.reduceAdd, Nat.reduceSub, AV.int, AV.bool, AV.str, Nat.reduceBEq, Nat.reduceEqDiff, Nat.reduceMul, Nat.reduceLT, Nat.reduceLeDiff, Int.reduceNeg, BEq.rfl, beq_self_eq_true, tabl, cellsOf, fldA, ldA, stA, entAt, partA, takeN, over, leafOk, Value.oneCell', idxA, nilA, cellsEq, fillA, elemsA, pure1, pure2, reps, chkA, tys, Try.results35, KX_draw, KX_drawQ, KX_tail, lastO_one, lastO_more, dropL_one, dropL_more, callP_eq, callM_true, rowsA, d0]
  refine loop1 (fun x st => st.T.length = 26 ∧ (x ≤ l.length) ∧ (firstE l = firstE (l.drop x)) ∧ getT st.T 0 = rowsA l ∧ getT st.T 9 = rowsA l ∧ getT st.T 10 = .int l.length ∧ getT st.T 11 = .int (x : Nat) ∧ st.S = []) (fun x => l.length - x) (fun x => .int (sysE l)) (0) ?_ ?_
  case refine_2 => exact ⟨rfl, Nat.zero_le _, rfl, rfl, rfl, rfl, rfl, rfl⟩
  rintro i ⟨T, S', tk', n'⟩ ⟨hl, hi, hE, e0, e9, e10, e11, eS⟩ IH
  subst eS
  obtain ⟨g, hg, hT⟩ := tab_of hl
  rw [hg] at e0 e9 e10 e11
  subst hT
  clear hg hl
  have hiw := wrap_add (i := i) (by omega)
  by_cases hlt : i < l.length
  · have d1 : decide ((i : Int) < (l.length : Int)) = true := by simpa using hlt
    obtain ⟨r, hx⟩ := nth_some hlt
    have hx' := nth_row hx
    have hC := fun S tk k => R11_Check S tk k r.1 r.2.1 (hl0 r (mem_nth hx))
    simp only [rowC, coefsA] at hx'
    simp only [linA, coefsA] at hC
    rw [nth_drop hx, firstE] at hE
    generalize checkF r.1 r.2.1 = e at *
    cases h0 : (e != 0) with
    | true =>
      simp (maxSteps := 1000000) +contextual (disch := first | with_reducible assumption | exact ⟨rfl⟩ | exact ⟨rfl, rfl⟩ | (refine _root_.id ?_; kernel_rfl) | omega) only [evs, ext_mv, nth, put, putT, getT, binInt, binStr, binBool, aUn, outA, resA, mapO, resA1, oneOf, w1, w2, w3, bots, cond_true, cond_false, if_true, if_false, ite_true, ite_false, reduceIte, reduceCtorEq, implies_true, Nat.reduceAdd, Nat.reduceSub, AV.int, AV.bool, AV.str, Nat.reduceBEq, Nat.reduceEqDiff, Nat.reduceMul, Nat.reduceLT, Nat.reduceLeDiff, Int.reduceNeg, BEq.rfl, beq_self_eq_true, tabl, cellsOf, fldA, ldA, stA, entAt, partA, takeN, over, leafOk, Value.oneCell', idxA, nilA, cellsEq, fillA, elemsA, pure1, pure2, reps, chkA, tys, Try.results35, KX_draw, KX_drawQ, KX_tail, lastO_one, lastO_more, dropL_one, dropL_more, callP_eq, callM_true, e0, e9, e10, e11, d1, rowsA, hx', hC, hiw, h0]
      rw [h0, if_pos rfl] at hE
      unfold sysE
      rw [if_neg h64, hE, if_pos h0]
    | false =>
      rw [h0, if_neg (by simp)] at hE
      simp (maxSteps := 1000000) +contextual (disch := first | with_reducible assumption | exact ⟨rfl⟩ | exact ⟨rfl, rfl⟩ | (refine _root_.id ?_; kernel_rfl) | omega) only [evs, ext_mv, nth, put, putT, getT, binInt, binStr, binBool, aUn, outA, resA, mapO, resA1, oneOf, w1, w2, w3, bots, cond_true, cond_false, if_true, if_false, ite_true, ite_false, reduceIte, reduceCtorEq, implies_true, Nat.reduceAdd, Nat.reduceSub, AV.int, AV.bool, AV.str, Nat.reduceBEq, Nat.reduceEqDiff, Nat.reduceMul, Nat.reduceLT, Nat.reduceLeDiff, Int.reduceNeg, BEq.rfl, beq_self_eq_true, tabl, cellsOf, fldA, ldA, stA, entAt, partA, takeN, over, leafOk, Value.oneCell', idxA, nilA, cellsEq, fillA, elemsA, pure1, pure2, reps, chkA, tys, Try.results35, KX_draw, KX_drawQ, KX_tail, lastO_one, lastO_more, dropL_one, dropL_more, callP_eq, callM_true, e0, e9, e10, e11, d1, rowsA, hx', hC, hiw, h0]
      exact IH (i + 1) _ (by first | omega | (simp only; omega)) ⟨rfl, by first | omega | (dsimp only; omega), hE, (by first | rfl | simp only [getT, List.map_append, List.map_cons, List.map_nil, strC, strsA, and_self]), (by first | rfl | simp only [getT, List.map_append, List.map_cons, List.map_nil, strC, strsA, and_self]), (by first | rfl | simp only [getT, List.map_append, List.map_cons, List.map_nil, strC, strsA, and_self]), (by first | rfl | simp only [getT, List.map_append, List.map_cons, List.map_nil, strC, strsA, and_self]), (by first | rfl | simp only [getT, List.map_append, List.map_cons, List.map_nil, strC, strsA, and_self])⟩
  · have d1 : decide ((i : Int) < (l.length : Int)) = false := by simpa using hlt
    have hie : i = l.length := by omega
    subst hie
    rw [List.drop_length] at hE
    have hE0 : firstE l = 0 := hE
    have hV := fun S tk k => R13_names S tk k l (first_few hE0) (by omega)
    have hs : sysE l = if 24 < (varsF l).length then 7 else 0 := by unfold sysE; rw [if_neg h64, hE0]; rfl
    rw [hs]
    simp only [rowsA, strsA] at hV
    by_cases h24 : 24 < (varsF l).length
    · have d2 : decide (((varsF l).length : Int) > 24) = true := by simp; omega
      simp (maxSteps := 1000000) +contextual (disch := first | with_reducible assumption | exact ⟨rfl⟩ | exact ⟨rfl, rfl⟩ | (refine _root_.id ?_; kernel_rfl) | omega) only [evs, ext_mv, nth, put, putT, getT, binInt, binStr, binBool, aUn, outA, resA, mapO, resA1, oneOf, w1, w2, w3, bots, cond_true, cond_false, if_true, if_false, ite_true, ite_false, reduceIte, reduceCtorEq, implies_true, Nat.reduceAdd, Nat.reduceSub, AV.int, AV.bool, AV.str, Nat.reduceBEq, Nat.reduceEqDiff, Nat.reduceMul, Nat.reduceLT, Nat.reduceLeDiff, Int.reduceNeg, BEq.rfl, beq_self_eq_true, tabl, cellsOf, fldA, ldA, stA, entAt, partA, takeN, over, leafOk, Value.oneCell', idxA, nilA, cellsEq, fillA, elemsA, pure1, pure2, reps, chkA, tys, Try.results35, KX_draw, KX_drawQ, KX_tail, lastO_one, lastO_more, dropL_one, dropL_more, callP_eq, callM_true, e0, e9, e10, e11, d1, rowsA, hV, d2]
      rw [if_pos h24]
    · have d2 : decide (((varsF l).length : Int) > 24) = false := by simp; omega
      simp (maxSteps := 1000000) +contextual (disch := first | with_reducible assumption | exact ⟨rfl⟩ | exact ⟨rfl, rfl⟩ | (refine _root_.id ?_; kernel_rfl) | omega) only [evs, ext_mv, nth, put, putT, getT, binInt, binStr, binBool, aUn, outA, resA, mapO, resA1, oneOf, w1, w2, w3, bots, cond_true, cond_false, if_true, if_false, ite_true, ite_false, reduceIte, reduceCtorEq, implies_true, Nat.reduceAdd, Nat.reduceSub, AV.int, AV.bool, AV.str, Nat.reduceBEq, Nat.reduceEqDiff, Nat.reduceMul, Nat.reduceLT, Nat.reduceLeDiff, Int.reduceNeg, BEq.rfl, beq_self_eq_true, tabl, cellsOf, fldA, ldA, stA, entAt, partA, takeN, over, leafOk, Value.oneCell', idxA, nilA, cellsEq, fillA, elemsA, pure1, pure2, reps, chkA, tys, Try.results35, KX_draw, KX_drawQ, KX_tail, lastO_one, lastO_more, dropL_one, dropL_more, callP_eq, callM_true, e0, e9, e10, e11, d1, rowsA, hV, d2]
      rw [if_neg h24]
set_option maxRecDepth 100000 in
theorem simplex_Check (l : List RowT) (hl0 : ∀ r ∈ l, r.1.length ≤ 1048576) : cL Try.prog 27 [rowsA l] S tk k = some (.int (sysE l), S, tk, k) := by
  refine call_pure Try.func27 rfl rfl (by decide +kernel) (by decide +kernel) Try.ntmps27 rfl rfl _ _ _ rfl ?_; rw [RK_KX]
  by_cases h64 : 64 < l.length
  · have d0 : decide ((l.length : Int) > 64) = true := by simp; omega
    simp (maxSteps := 1000000) +contextual (disch := first | with_reducible assumption | exact ⟨rfl⟩ | exact ⟨rfl, rfl⟩ | (refine _root_.id ?_; kernel_rfl) | omega) only [evs, ext_mv, nth, put, putT, getT, binInt, binStr, binBool, aUn, outA, resA, mapO, resA1, oneOf, w1, w2, w3, bots, cond_true, cond_false, if_true, if_false, ite_true, ite_false, reduceIte, reduceCtorEq, implies_true, Nat.reduceAdd, Nat.reduceSub, AV.int, AV.bool, AV.str, Nat.reduceBEq, Nat.reduceEqDiff, Nat.reduceMul, Nat.reduceLT, Nat.reduceLeDiff, Int.reduceNeg, BEq.rfl, beq_self_eq_true, tabl, cellsOf, fldA, ldA, stA, entAt, partA, takeN, over, leafOk, Value.oneCell', idxA, nilA, cellsEq, fillA, elemsA, pure1, pure2, reps, chkA, tys, Try.results27, KX_draw, KX_drawQ, KX_tail, lastO_one, lastO_more, dropL_one, dropL_more, callP_eq, callM_true, rowsA, d0]
    simp [sysE, h64]
  have d0 : decide ((l.length : Int) > 64) = false := by simp; omega
  simp (maxSteps := 1000000) +contextual (disch := first | with_reducible assumption | exact ⟨rfl⟩ | exact ⟨rfl, rfl⟩ | (refine _root_.id ?_; kernel_rfl) | omega) only [evs, ext_mv, nth, put, putT, getT, binInt, binStr, binBool, aUn, outA, resA, mapO, resA1, oneOf, w1, w2, w3, bots, cond_true, cond_false, if_true, if_false, ite_true, ite_false, reduceIte, reduceCtorEq, implies_true, Nat.reduceAdd, Nat.reduceSub, AV.int, AV.bool, AV.str, Nat.reduceBEq, Nat.reduceEqDiff, Nat.reduceMul, Nat.reduceLT, Nat.reduceLeDiff, Int.reduceNeg, BEq.rfl, beq_self_eq_true, tabl, cellsOf, fldA, ldA, stA, entAt, partA, takeN, over, leafOk, Value.oneCell', idxA, nilA, cellsEq, fillA, elemsA, pure1, pure2, reps, chkA, tys, Try.results27, KX_draw, KX_drawQ, KX_tail, lastO_one, lastO_more, dropL_one, dropL_more, callP_eq, callM_true, rowsA, d0]
  refine loop1 (fun x st => st.T.length = 26 ∧ (x ≤ l.length) ∧ (firstE l = firstE (l.drop x)) ∧ getT st.T 0 = rowsA l ∧ getT st.T 9 = rowsA l ∧ getT st.T 10 = .int l.length ∧ getT st.T 11 = .int (x : Nat) ∧ st.S = []) (fun x => l.length - x) (fun x => .int (sysE l)) (0) ?_ ?_
  case refine_2 => exact ⟨rfl, Nat.zero_le _, rfl, rfl, rfl, rfl, rfl, rfl⟩
  rintro i ⟨T, S', tk', n'⟩ ⟨hl, hi, hE, e0, e9, e10, e11, eS⟩ IH
  subst eS
  obtain ⟨g, hg, hT⟩ := tab_of hl
  rw [hg] at e0 e9 e10 e11
  subst hT
  clear hg hl
  have hiw := wrap_add (i := i) (by omega)
  by_cases hlt : i < l.length
  · have d1 : decide ((i : Int) < (l.length : Int)) = true := by simpa using hlt
    obtain ⟨r, hx⟩ := nth_some hlt
    have hx' := nth_row hx
    have hC := fun S tk k => linear_Check S tk k r.1 r.2.1 (hl0 r (mem_nth hx))
    simp only [rowC, coefsA] at hx'
    simp only [linA, coefsA] at hC
    rw [nth_drop hx, firstE] at hE
    generalize checkF r.1 r.2.1 = e at *
    cases h0 : (e != 0) with
    | true =>
      simp (maxSteps := 1000000) +contextual (disch := first | with_reducible assumption | exact ⟨rfl⟩ | exact ⟨rfl, rfl⟩ | (refine _root_.id ?_; kernel_rfl) | omega) only [evs, ext_mv, nth, put, putT, getT, binInt, binStr, binBool, aUn, outA, resA, mapO, resA1, oneOf, w1, w2, w3, bots, cond_true, cond_false, if_true, if_false, ite_true, ite_false, reduceIte, reduceCtorEq, implies_true, Nat.reduceAdd, Nat.reduceSub, AV.int, AV.bool, AV.str, Nat.reduceBEq, Nat.reduceEqDiff, Nat.reduceMul, Nat.reduceLT, Nat.reduceLeDiff, Int.reduceNeg, BEq.rfl, beq_self_eq_true, tabl, cellsOf, fldA, ldA, stA, entAt, partA, takeN, over, leafOk, Value.oneCell', idxA, nilA, cellsEq, fillA, elemsA, pure1, pure2, reps, chkA, tys, Try.results27, KX_draw, KX_drawQ, KX_tail, lastO_one, lastO_more, dropL_one, dropL_more, callP_eq, callM_true, e0, e9, e10, e11, d1, rowsA, hx', hC, hiw, h0]
      rw [h0, if_pos rfl] at hE
      unfold sysE
      rw [if_neg h64, hE, if_pos h0]
    | false =>
      rw [h0, if_neg (by simp)] at hE
      simp (maxSteps := 1000000) +contextual (disch := first | with_reducible assumption | exact ⟨rfl⟩ | exact ⟨rfl, rfl⟩ | (refine _root_.id ?_; kernel_rfl) | omega) only [evs, ext_mv, nth, put, putT, getT, binInt, binStr, binBool, aUn, outA, resA, mapO, resA1, oneOf, w1, w2, w3, bots, cond_true, cond_false, if_true, if_false, ite_true, ite_false, reduceIte, reduceCtorEq, implies_true, Nat.reduceAdd, Nat.reduceSub, AV.int, AV.bool, AV.str, Nat.reduceBEq, Nat.reduceEqDiff, Nat.reduceMul, Nat.reduceLT, Nat.reduceLeDiff, Int.reduceNeg, BEq.rfl, beq_self_eq_true, tabl, cellsOf, fldA, ldA, stA, entAt, partA, takeN, over, leafOk, Value.oneCell', idxA, nilA, cellsEq, fillA, elemsA, pure1, pure2, reps, chkA, tys, Try.results27, KX_draw, KX_drawQ, KX_tail, lastO_one, lastO_more, dropL_one, dropL_more, callP_eq, callM_true, e0, e9, e10, e11, d1, rowsA, hx', hC, hiw, h0]
      exact IH (i + 1) _ (by first | omega | (simp only; omega)) ⟨rfl, by first | omega | (dsimp only; omega), hE, (by first | rfl | simp only [getT, List.map_append, List.map_cons, List.map_nil, strC, strsA, and_self]), (by first | rfl | simp only [getT, List.map_append, List.map_cons, List.map_nil, strC, strsA, and_self]), (by first | rfl | simp only [getT, List.map_append, List.map_cons, List.map_nil, strC, strsA, and_self]), (by first | rfl | simp only [getT, List.map_append, List.map_cons, List.map_nil, strC, strsA, and_self]), (by first | rfl | simp only [getT, List.map_append, List.map_cons, List.map_nil, strC, strsA, and_self])⟩
  · have d1 : decide ((i : Int) < (l.length : Int)) = false := by simpa using hlt
    have hie : i = l.length := by omega
    subst hie
    rw [List.drop_length] at hE
    have hE0 : firstE l = 0 := hE
    have hV := fun S tk k => simplex_variables S tk k l (first_few hE0) (by omega)
    have hs : sysE l = if 24 < (varsF l).length then 7 else 0 := by unfold sysE; rw [if_neg h64, hE0]; rfl
    rw [hs]
    simp only [rowsA, strsA] at hV
    by_cases h24 : 24 < (varsF l).length
    · have d2 : decide (((varsF l).length : Int) > 24) = true := by simp; omega
      simp (maxSteps := 1000000) +contextual (disch := first | with_reducible assumption | exact ⟨rfl⟩ | exact ⟨rfl, rfl⟩ | (refine _root_.id ?_; kernel_rfl) | omega) only [evs, ext_mv, nth, put, putT, getT, binInt, binStr, binBool, aUn, outA, resA, mapO, resA1, oneOf, w1, w2, w3, bots, cond_true, cond_false, if_true, if_false, ite_true, ite_false, reduceIte, reduceCtorEq, implies_true, Nat.reduceAdd, Nat.reduceSub, AV.int, AV.bool, AV.str, Nat.reduceBEq, Nat.reduceEqDiff, Nat.reduceMul, Nat.reduceLT, Nat.reduceLeDiff, Int.reduceNeg, BEq.rfl, beq_self_eq_true, tabl, cellsOf, fldA, ldA, stA, entAt, partA, takeN, over, leafOk, Value.oneCell', idxA, nilA, cellsEq, fillA, elemsA, pure1, pure2, reps, chkA, tys, Try.results27, KX_draw, KX_drawQ, KX_tail, lastO_one, lastO_more, dropL_one, dropL_more, callP_eq, callM_true, e0, e9, e10, e11, d1, rowsA, hV, d2]
      rw [if_pos h24]
    · have d2 : decide (((varsF l).length : Int) > 24) = false := by simp; omega
      simp (maxSteps := 1000000) +contextual (disch := first | with_reducible assumption | exact ⟨rfl⟩ | exact ⟨rfl, rfl⟩ | (refine _root_.id ?_; kernel_rfl) | omega) only [evs, ext_mv, nth, put, putT, getT, binInt, binStr, binBool, aUn, outA, resA, mapO, resA1, oneOf, w1, w2, w3, bots, cond_true, cond_false, if_true, if_false, ite_true, ite_false, reduceIte, reduceCtorEq, implies_true, Nat.reduceAdd, Nat.reduceSub, AV.int, AV.bool, AV.str, Nat.reduceBEq, Nat.reduceEqDiff, Nat.reduceMul, Nat.reduceLT, Nat.reduceLeDiff, Int.reduceNeg, BEq.rfl, beq_self_eq_true, tabl, cellsOf, fldA, ldA, stA, entAt, partA, takeN, over, leafOk, Value.oneCell', idxA, nilA, cellsEq, fillA, elemsA, pure1, pure2, reps, chkA, tys, Try.results27, KX_draw, KX_drawQ, KX_tail, lastO_one, lastO_more, dropL_one, dropL_more, callP_eq, callM_true, e0, e9, e10, e11, d1, rowsA, hV, d2]
      rw [if_neg h24]
theorem sys_few {l : List RowT} (h : sysE l = 0) : fewC l ∧ l.length ≤ 64 ∧ (varsF l).length ≤ 24 ∧ firstE l = 0 := by
  unfold sysE at h
  split at h
  · cases h
  · split at h
    · rename_i h1 h2; rw [h] at h2; cases h2
    · rename_i h1 h2
      split at h
      · cases h
      · have h0 : firstE l = 0 := by simpa using h2
        exact ⟨first_few h0, by omega, by omega, h0⟩
theorem R13_Vars (l : List RowT) (h : sysE l = 0) : cL Try.prog 36 [rowsA l] S tk k = some (strsA (varsF l), S, tk, k) := by
  obtain ⟨h1, h2, -, -⟩ := sys_few h
  have hC := fun S tk k => R13_Check S tk k l (fun r hr => by have := h1 r hr; omega)
  have hV := fun S tk k => R13_names S tk k l h1 h2
  rw [h] at hC
  have d0 : ((0 : Int) != 0) = false := rfl
  simp only [rowsA, strsA] at hC hV
  refine call_pure Try.func36 rfl rfl (by decide +kernel) (by decide +kernel) Try.ntmps36 rfl rfl _ _ _ rfl ?_; rw [RK_KX]
  simp (maxSteps := 1000000) +contextual (disch := first | with_reducible assumption | exact ⟨rfl⟩ | exact ⟨rfl, rfl⟩ | (refine _root_.id ?_; kernel_rfl) | omega) only [evs, ext_mv, nth, put, putT, getT, binInt, binStr, binBool, aUn, outA, resA, mapO, resA1, oneOf, w1, w2, w3, bots, cond_true, cond_false, if_true, if_false, ite_true, ite_false, reduceIte, reduceCtorEq, implies_true, Nat.reduceAdd, Nat.reduceSub, AV.int, AV.bool, AV.str, Nat.reduceBEq, Nat.reduceEqDiff, Nat.reduceMul, Nat.reduceLT, Nat.reduceLeDiff, Int.reduceNeg, BEq.rfl, beq_self_eq_true, tabl, cellsOf, fldA, ldA, stA, entAt, partA, takeN, over, leafOk, Value.oneCell', idxA, nilA, cellsEq, fillA, elemsA, pure1, pure2, reps, chkA, tys, Try.results36, KX_draw, KX_drawQ, KX_tail, lastO_one, lastO_more, dropL_one, dropL_more, callP_eq, callM_true, rowsA, strsA, hC, hV, d0]
theorem simplex_Vars (l : List RowT) (h : sysE l = 0) : cL Try.prog 28 [rowsA l] S tk k = some (strsA (varsF l), S, tk, k) := by
  obtain ⟨h1, h2, -, -⟩ := sys_few h
  have hC := fun S tk k => simplex_Check S tk k l (fun r hr => by have := h1 r hr; omega)
  have hV := fun S tk k => simplex_variables S tk k l h1 h2
  rw [h] at hC
  have d0 : ((0 : Int) != 0) = false := rfl
  simp only [rowsA, strsA] at hC hV
  refine call_pure Try.func28 rfl rfl (by decide +kernel) (by decide +kernel) Try.ntmps28 rfl rfl _ _ _ rfl ?_; rw [RK_KX]
  simp (maxSteps := 1000000) +contextual (disch := first | with_reducible assumption | exact ⟨rfl⟩ | exact ⟨rfl, rfl⟩ | (refine _root_.id ?_; kernel_rfl) | omega) only [evs, ext_mv, nth, put, putT, getT, binInt, binStr, binBool, aUn, outA, resA, mapO, resA1, oneOf, w1, w2, w3, bots, cond_true, cond_false, if_true, if_false, ite_true, ite_false, reduceIte, reduceCtorEq, implies_true, Nat.reduceAdd, Nat.reduceSub, AV.int, AV.bool, AV.str, Nat.reduceBEq, Nat.reduceEqDiff, Nat.reduceMul, Nat.reduceLT, Nat.reduceLeDiff, Int.reduceNeg, BEq.rfl, beq_self_eq_true, tabl, cellsOf, fldA, ldA, stA, entAt, partA, takeN, over, leafOk, Value.oneCell', idxA, nilA, cellsEq, fillA, elemsA, pure1, pure2, reps, chkA, tys, Try.results28, KX_draw, KX_drawQ, KX_tail, lastO_one, lastO_more, dropL_one, dropL_more, callP_eq, callM_true, rowsA, strsA, hC, hV, d0]
end
end Go.Proofs.Ytmgbmbganlndkaa
/-
  What the functions of the numbers compute: cutting zeros off, signs, comparing.
-/

namespace Go.Proofs.Ytmgbmbganlndkaa
open Go

def numC (x : Int) : AV := .prim (.int .i64 x)
theorem nth_num {l : List Int} {i : Nat} {x : Int} (h : nth l i = some x) : nth ((l.map numC).drop i) 0 = some (.prim (.int .i64 x)) := by
  have : nth (l.map numC) i = some (numC x) := by rw [nth_map, h]; rfl
  exact drop_nth this
theorem over_num {l : List Int} {i : Nat} {x v : Int} (h : nth l i = some x) : over (l.map numC) i [.prim (.int .i64 v)] = some ((l.set i v).map numC) := by
  have h1 : nth (l.map numC) i = some (numC x) := by rw [nth_map, h]; rfl
  rw [over_one h1]
  have : (.prim (.int .i64 v) : AV) = numC v := rfl
  rw [this, put_map, put_set]
theorem rowsAt_num {l : List Int} {n : Nat} (h : n ≤ l.length) : rowsAt 1 n (l.map numC) = some ((l.take n).map digC) := rowsAt_one h
theorem rowsFz_num (l : List Int) : rowsFz (some (l.map digC)) = .frz (l.map digC) .unk := by
  unfold rowsFz
  simp only
  rw [if_pos (by simp [digC, pure1, w1, Value.oneCell'])]
  congr 1
  simp [w1, digC]
theorem fz_num {m id ep n : Nat} {S : List Ent} {l : List Int} (hm : m ≤ id) (h : entAt S id ep = some (l.map numC)) (hn : n ≤ l.length) : fz1 m S (.sref id ep 0 n 1) = .frz ((l.take n).map digC) .unk := by
  rw [fz1_sref hm, h, fzB_some, List.drop_zero, rowsAt_num hn, rowsFz_num]
theorem trim_stop {l : List Int} {n : Nat} (hn : n ≤ l.length) (hz : ∀ j, n ≤ j → ∀ x, nth l j = some x → x = 0) (he : n = 0 ∨ ∃ x, nth l (n - 1) = some x ∧ x ≠ 0) : trimL l = l.take n := by
  rw [trim_take n l hn hz]
  rcases he with rfl | ⟨x, hx, h0⟩
  · simp [trimL]
  · by_cases h1 : n = 0
    · subst h1; simp [trimL]
    · refine trim_end _ (n - 1) x ?_ (by simp; omega) h0
      rw [nth_get, List.getElem?_take_of_lt (by omega), ← nth_get]; exact hx
theorem pred_idx {n : Nat} (h : n ≠ 0) (hl : n ≤ 1000000) : IntKind.i64.wrap ((n : Int) - 1) = ((n - 1 : Nat) : Int) := by
  rw [wrap_of (by unfold i64; omega)]; omega

theorem hz_pred {l : List Int} {n : Nat} {x : Int} (hz : ∀ j, n ≤ j → ∀ x, nth l j = some x → x = 0) (hx : nth l (n - 1) = some x) (hx0 : x = 0) : ∀ j, n - 1 ≤ j → ∀ y, nth l j = some y → y = 0 := fun j hj y hy => by
  by_cases e : j = n - 1
  · rw [e, hx] at hy; simp only [Option.some.injEq] at hy; omega
  · exact hz j (by omega) y hy
theorem hz_start (l : List Int) : ∀ j, l.length ≤ j → ∀ x, nth l j = some x → x = 0 := fun j hj x hx => by have := nth_lt hx; omega
section
variable (S : List Ent) (tk : List Nat) (k : Nat)
theorem big_trim (l : List Int) (c : Cap) (hlen : l.length ≤ 1000000) : cL Try.prog 57 [.frz (l.map digC) c] S tk k = some (digA (trimL l), S, tk, k) := by
  refine call_pure Try.func57 rfl rfl (by decide +kernel) (by decide +kernel) Try.ntmps57 rfl rfl _ _ _ rfl ?_; rw [RK_KX]
  simp (maxSteps := 1000000) +contextual (disch := first | with_reducible assumption | exact ⟨rfl⟩ | exact ⟨rfl, rfl⟩ | (refine _root_.id ?_; kernel_rfl) | omega) only [evs, ext_mv, nth, put, putT, getT, binInt, binStr, binBool, aUn, outA, resA, mapO, resA1, oneOf, w1, w2, w3, bots, cond_true, cond_false, if_true, if_false, ite_true, ite_false, reduceIte, reduceCtorEq, implies_true, Nat.reduceAdd, Nat.reduceSub, AV.int, AV.bool, AV.str, Nat.reduceBEq, Nat.reduceEqDiff, Nat.reduceMul, Nat.reduceLT, Nat.reduceLeDiff, Int.reduceNeg, BEq.rfl, beq_self_eq_true, tabl, cellsOf, fldA, ldA, stA, entAt, partA, takeN, over, leafOk, Value.oneCell', idxA, nilA, cellsEq, fillA, elemsA, pure1, pure2, reps, chkA, tys, Try.results57, KX_draw, KX_drawQ, KX_tail, lastO_one, lastO_more, dropL_one, dropL_more, callP_eq, callM_true, w2, w1]
  refine loop1 (fun x st => st.T.length = 22 ∧ (x ≤ l.length) ∧ (∀ j, x ≤ j → ∀ x, nth l j = some x → x = 0) ∧ getT st.T 0 = digA l ∧ getT st.T 3 = .int (x : Nat) ∧ st.S = []) (fun x => x) (fun x => digA (trimL l)) (l.length) ?_ ?_
  case refine_2 => exact ⟨rfl, Nat.le_refl _, hz_start l, rfl, rfl, rfl⟩
  rintro n ⟨T, S', tk', n'⟩ ⟨hl, hn, hz, e0, e3, eS⟩ IH
  subst eS
  obtain ⟨g, hg, hT⟩ := tab_of hl
  rw [hg] at e0 e3
  subst hT
  clear hg hl
  have hr := rowsOk_dig l
  by_cases h0 : n = 0
  · have d1 : decide ((n : Int) > 0) = false := by simp; omega
    have ht := trim_stop hn hz (.inl h0)
    simp (maxSteps := 1000000) +contextual (disch := first | with_reducible assumption | exact ⟨rfl⟩ | exact ⟨rfl, rfl⟩ | (refine _root_.id ?_; kernel_rfl) | omega) only [evs, ext_mv, nth, put, putT, getT, binInt, binStr, binBool, aUn, outA, resA, mapO, resA1, oneOf, w1, w2, w3, bots, cond_true, cond_false, if_true, if_false, ite_true, ite_false, reduceIte, reduceCtorEq, implies_true, Nat.reduceAdd, Nat.reduceSub, AV.int, AV.bool, AV.str, Nat.reduceBEq, Nat.reduceEqDiff, Nat.reduceMul, Nat.reduceLT, Nat.reduceLeDiff, Int.reduceNeg, BEq.rfl, beq_self_eq_true, tabl, cellsOf, fldA, ldA, stA, entAt, partA, takeN, over, leafOk, Value.oneCell', idxA, nilA, cellsEq, fillA, elemsA, pure1, pure2, reps, chkA, tys, Try.results57, KX_draw, KX_drawQ, KX_tail, lastO_one, lastO_more, dropL_one, dropL_more, callP_eq, callM_true, e0, e3, d1, digA, sliceA, hr, bound, intN_cast, hn, Nat.le_refl, Nat.zero_le]
    rw [ht]; simp [h0]
  · have d1 : decide ((n : Int) > 0) = true := by simp; omega
    have hp := pred_idx h0 (by omega)
    obtain ⟨x, hx⟩ := nth_some (show n - 1 < l.length by omega)
    have hx' := nth_dig hx
    by_cases hx0 : x = 0
    · have d2 : (x == 0) = true := by simpa using hx0
      simp (maxSteps := 1000000) +contextual (disch := first | with_reducible assumption | exact ⟨rfl⟩ | exact ⟨rfl, rfl⟩ | (refine _root_.id ?_; kernel_rfl) | omega) only [evs, ext_mv, nth, put, putT, getT, binInt, binStr, binBool, aUn, outA, resA, mapO, resA1, oneOf, w1, w2, w3, bots, cond_true, cond_false, if_true, if_false, ite_true, ite_false, reduceIte, reduceCtorEq, implies_true, Nat.reduceAdd, Nat.reduceSub, AV.int, AV.bool, AV.str, Nat.reduceBEq, Nat.reduceEqDiff, Nat.reduceMul, Nat.reduceLT, Nat.reduceLeDiff, Int.reduceNeg, BEq.rfl, beq_self_eq_true, tabl, cellsOf, fldA, ldA, stA, entAt, partA, takeN, over, leafOk, Value.oneCell', idxA, nilA, cellsEq, fillA, elemsA, pure1, pure2, reps, chkA, tys, Try.results57, KX_draw, KX_drawQ, KX_tail, lastO_one, lastO_more, dropL_one, dropL_more, callP_eq, callM_true, e0, e3, d1, d2, hp, hx', digA]
      exact IH (n - 1) _ (by first | omega | (simp only; omega)) ⟨rfl, by first | omega | (dsimp only; omega), hz_pred hz hx hx0, (by first | rfl | simp only [getT, List.map_append, List.map_cons, List.map_nil, digC, digA]), (by first | rfl | simp only [getT, List.map_append, List.map_cons, List.map_nil, digC, digA]), (by first | rfl | simp only [getT, List.map_append, List.map_cons, List.map_nil, digC, digA])⟩
    · have d2 : (x == 0) = false := by simpa using hx0
      have ht := trim_stop hn hz (.inr ⟨x, hx, hx0⟩)
      simp (maxSteps := 1000000) +contextual (disch := first | with_reducible assumption | exact ⟨rfl⟩ | exact ⟨rfl, rfl⟩ | (refine _root_.id ?_; kernel_rfl) | omega) only [evs, ext_mv, nth, put, putT, getT, binInt, binStr, binBool, aUn, outA, resA, mapO, resA1, oneOf, w1, w2, w3, bots, cond_true, cond_false, if_true, if_false, ite_true, ite_false, reduceIte, reduceCtorEq, implies_true, Nat.reduceAdd, Nat.reduceSub, AV.int, AV.bool, AV.str, Nat.reduceBEq, Nat.reduceEqDiff, Nat.reduceMul, Nat.reduceLT, Nat.reduceLeDiff, Int.reduceNeg, BEq.rfl, beq_self_eq_true, tabl, cellsOf, fldA, ldA, stA, entAt, partA, takeN, over, leafOk, Value.oneCell', idxA, nilA, cellsEq, fillA, elemsA, pure1, pure2, reps, chkA, tys, Try.results57, KX_draw, KX_drawQ, KX_tail, lastO_one, lastO_more, dropL_one, dropL_more, callP_eq, callM_true, e0, e3, d1, d2, hp, hx', digA, sliceA, hr, bound, intN_cast, hn, Nat.le_refl, Nat.zero_le]
      rw [ht]; simp
theorem big_trim_own (l : List Int) (id ep : Nat) (hlen : l.length ≤ 1000000) (h : entAt S id ep = some (l.map numC)) : cL Try.prog 57 [.sref id ep 0 l.length 1] S tk k = some (.sref id ep 0 (trimL l).length 1, S, tk, k) := by
  refine call_shared Try.func57 rfl rfl (by decide +kernel) Try.ntmps57 rfl ?_; rw [RK_KX]
  have hid : id < S.length := by
    obtain ⟨e, h1, -⟩ := entAt_some h
    exact nth_lt h1
  simp (maxSteps := 1000000) +contextual (disch := first | with_reducible assumption | exact ⟨rfl⟩ | exact ⟨rfl, rfl⟩ | (refine _root_.id ?_; kernel_rfl) | omega) only [evs, ext_mv, nth, put, putT, getT, binInt, binStr, binBool, aUn, outA, resA, mapO, resA1, oneOf, w1, w2, w3, bots, cond_true, cond_false, if_true, if_false, ite_true, ite_false, reduceIte, reduceCtorEq, implies_true, Nat.reduceAdd, Nat.reduceSub, AV.int, AV.bool, AV.str, Nat.reduceBEq, Nat.reduceEqDiff, Nat.reduceMul, Nat.reduceLT, Nat.reduceLeDiff, Int.reduceNeg, BEq.rfl, beq_self_eq_true, tabl, cellsOf, fldA, ldA, stA, entAt_new, entAt_old, entAt_old2, List.take_left, List.take_length, partA, takeN, over, leafOk, Value.oneCell', idxA, nilA, cellsEq, fillA, elemsA, pure1, pure2, reps, chkA, tys, Try.results57, KX_draw, KX_drawQ, KX_tail, lastO_one, lastO_more, dropL_one, dropL_more, callP_eq, callM_true, w2, w1]
  refine loopS (fun x st => st.T.length = 22 ∧ (x ≤ l.length) ∧ (∀ j, x ≤ j → ∀ x, nth l j = some x → x = 0) ∧ getT st.T 0 = .sref id ep 0 l.length 1 ∧ getT st.T 3 = .int (x : Nat) ∧ st.S = S ∧ st.tk = tk ∧ st.n = k) (fun x => x) (fun x => (.sref id ep 0 (trimL l).length 1, S, tk, k)) (l.length) ?_ ?_
  case refine_2 => exact ⟨rfl, Nat.le_refl _, hz_start l, rfl, rfl, rfl, rfl, rfl⟩
  rintro n ⟨T, S', tk', n'⟩ ⟨hl, hn, hz, e0, e3, eS, eT, eN⟩ IH
  subst eS eT eN
  obtain ⟨g, hg, hT⟩ := tab_of hl
  rw [hg] at e0 e3
  subst hT
  clear hg hl
  by_cases h0 : n = 0
  · have d1 : decide ((n : Int) > 0) = false := by simp; omega
    have ht := trim_stop hn hz (.inl h0)
    simp (maxSteps := 1000000) +contextual (disch := first | with_reducible assumption | exact ⟨rfl⟩ | exact ⟨rfl, rfl⟩ | (refine _root_.id ?_; kernel_rfl) | omega) only [evs, ext_mv, nth, put, putT, getT, binInt, binStr, binBool, aUn, outA, resA, mapO, resA1, oneOf, w1, w2, w3, bots, cond_true, cond_false, if_true, if_false, ite_true, ite_false, reduceIte, reduceCtorEq, implies_true, Nat.reduceAdd, Nat.reduceSub, AV.int, AV.bool, AV.str, Nat.reduceBEq, Nat.reduceEqDiff, Nat.reduceMul, Nat.reduceLT, Nat.reduceLeDiff, Int.reduceNeg, BEq.rfl, beq_self_eq_true, tabl, cellsOf, fldA, ldA, stA, entAt_new, entAt_old, entAt_old2, List.take_left, List.take_length, partA, takeN, over, leafOk, Value.oneCell', idxA, nilA, cellsEq, fillA, elemsA, pure1, pure2, reps, chkA, tys, Try.results57, KX_draw, KX_drawQ, KX_tail, lastO_one, lastO_more, dropL_one, dropL_more, callP_eq, callM_true, e0, e3, d1, sliceA, bound, intN_cast, hn, Nat.le_refl, Nat.zero_le, Nat.zero_mul, Nat.sub_zero, Nat.add_zero]
    rw [ht]; simp [h0]
  · have d1 : decide ((n : Int) > 0) = true := by simp; omega
    have hp := pred_idx h0 (by omega)
    have hn1 : n - 1 < l.length := by omega
    obtain ⟨x, hx⟩ := nth_some hn1
    have hx' := nth_num hx
    by_cases hx0 : x = 0
    · have d2 : (x == 0) = true := by simpa using hx0
      simp (maxSteps := 1000000) +contextual (disch := first | with_reducible assumption | exact ⟨rfl⟩ | exact ⟨rfl, rfl⟩ | (refine _root_.id ?_; kernel_rfl) | omega) only [evs, ext_mv, nth, put, putT, getT, binInt, binStr, binBool, aUn, outA, resA, mapO, resA1, oneOf, w1, w2, w3, bots, cond_true, cond_false, if_true, if_false, ite_true, ite_false, reduceIte, reduceCtorEq, implies_true, Nat.reduceAdd, Nat.reduceSub, AV.int, AV.bool, AV.str, Nat.reduceBEq, Nat.reduceEqDiff, Nat.reduceMul, Nat.reduceLT, Nat.reduceLeDiff, Int.reduceNeg, BEq.rfl, beq_self_eq_true, tabl, cellsOf, fldA, ldA, stA, entAt_new, entAt_old, entAt_old2, List.take_left, List.take_length, partA, takeN, over, leafOk, Value.oneCell', idxA, nilA, cellsEq, fillA, elemsA, pure1, pure2, reps, chkA, tys, Try.results57, KX_draw, KX_drawQ, KX_tail, lastO_one, lastO_more, dropL_one, dropL_more, callP_eq, callM_true, e0, e3, d1, d2, hp, hx', h, hn1, Nat.mul_one]
      exact IH (n - 1) _ (by first | omega | (simp only; omega)) ⟨rfl, by first | omega | (dsimp only; omega), hz_pred hz hx hx0, (by first | rfl | simp only [getT, List.map_append, List.map_cons, List.map_nil, digC, digA]), (by first | rfl | simp only [getT, List.map_append, List.map_cons, List.map_nil, digC, digA]), (by first | rfl | simp only [getT, List.map_append, List.map_cons, List.map_nil, digC, digA]), rfl, rfl⟩
    · have d2 : (x == 0) = false := by simpa using hx0
      have ht := trim_stop hn hz (.inr ⟨x, hx, hx0⟩)
      simp (maxSteps := 1000000) +contextual (disch := first | with_reducible assumption | exact ⟨rfl⟩ | exact ⟨rfl, rfl⟩ | (refine _root_.id ?_; kernel_rfl) | omega) only [evs, ext_mv, nth, put, putT, getT, binInt, binStr, binBool, aUn, outA, resA, mapO, resA1, oneOf, w1, w2, w3, bots, cond_true, cond_false, if_true, if_false, ite_true, ite_false, reduceIte, reduceCtorEq, implies_true, Nat.reduceAdd, Nat.reduceSub, AV.int, AV.bool, AV.str, Nat.reduceBEq, Nat.reduceEqDiff, Nat.reduceMul, Nat.reduceLT, Nat.reduceLeDiff, Int.reduceNeg, BEq.rfl, beq_self_eq_true, tabl, cellsOf, fldA, ldA, stA, entAt_new, entAt_old, entAt_old2, List.take_left, List.take_length, partA, takeN, over, leafOk, Value.oneCell', idxA, nilA, cellsEq, fillA, elemsA, pure1, pure2, reps, chkA, tys, Try.results57, KX_draw, KX_drawQ, KX_tail, lastO_one, lastO_more, dropL_one, dropL_more, callP_eq, callM_true, e0, e3, d1, d2, hp, hx', h, hn1, Nat.mul_one, sliceA, bound, intN_cast, hn, Nat.le_refl, Nat.zero_le, Nat.zero_mul, Nat.sub_zero, Nat.add_zero]
      rw [ht]; simp; omega
theorem R02_trim (l : List Int) (c : Cap) (hlen : l.length ≤ 1000000) : cL Try.prog 72 [.frz (l.map digC) c] S tk k = some (digA (trimL l), S, tk, k) := by
  refine call_pure Try.func72 rfl rfl (by decide +kernel) (by decide +kernel) Try.ntmps72 rfl rfl _ _ _ rfl ?_; rw [RK_KX]
  simp (maxSteps := 1000000) +contextual (disch := first | with_reducible assumption | exact ⟨rfl⟩ | exact ⟨rfl, rfl⟩ | (refine _root_.id ?_; kernel_rfl) | omega) only [evs, ext_mv, nth, put, putT, getT, binInt, binStr, binBool, aUn, outA, resA, mapO, resA1, oneOf, w1, w2, w3, bots, cond_true, cond_false, if_true, if_false, ite_true, ite_false, reduceIte, reduceCtorEq, implies_true, Nat.reduceAdd, Nat.reduceSub, AV.int, AV.bool, AV.str, Nat.reduceBEq, Nat.reduceEqDiff, Nat.reduceMul, Nat.reduceLT, Nat.reduceLeDiff, Int.reduceNeg, BEq.rfl, beq_self_eq_true, tabl, cellsOf, fldA, ldA, stA, entAt, partA, takeN, over, leafOk, Value.oneCell', idxA, nilA, cellsEq, fillA, elemsA, pure1, pure2, reps, chkA, tys, Try.results72, KX_draw, KX_drawQ, KX_tail, lastO_one, lastO_more, dropL_one, dropL_more, callP_eq, callM_true, w2, w1]
  refine loop1 (fun x st => st.T.length = 23 ∧ (x ≤ l.length) ∧ (∀ j, x ≤ j → ∀ x, nth l j = some x → x = 0) ∧ getT st.T 0 = digA l ∧ getT st.T 3 = .int (x : Nat) ∧ st.S = []) (fun x => x) (fun x => digA (trimL l)) (l.length) ?_ ?_
  case refine_2 => exact ⟨rfl, Nat.le_refl _, hz_start l, rfl, rfl, rfl⟩
  rintro n ⟨T, S', tk', n'⟩ ⟨hl, hn, hz, e0, e3, eS⟩ IH
  subst eS
  obtain ⟨g, hg, hT⟩ := tab_of hl
  rw [hg] at e0 e3
  subst hT
  clear hg hl
  have hr := rowsOk_dig l
  have hr2 : rowsOk 1 ((l.map digC).take n) = true := by rw [← List.map_take]; exact rowsOk_dig _
  have hl2 : ([] : List (List AV)).length + ((l.map digC).take n).length ≤ 1048576 := by simp; omega
  by_cases h0 : n = 0
  · have d1 : decide ((n : Int) > 0) = false := by simp; omega
    have ht := trim_stop hn hz (.inl h0)
    simp (maxSteps := 1000000) +contextual (disch := first | with_reducible assumption | exact ⟨rfl⟩ | exact ⟨rfl, rfl⟩ | (refine _root_.id ?_; kernel_rfl) | omega) only [evs, ext_mv, nth, put, putT, getT, binInt, binStr, binBool, aUn, outA, resA, mapO, resA1, oneOf, w1, w2, w3, bots, cond_true, cond_false, if_true, if_false, ite_true, ite_false, reduceIte, reduceCtorEq, implies_true, Nat.reduceAdd, Nat.reduceSub, AV.int, AV.bool, AV.str, Nat.reduceBEq, Nat.reduceEqDiff, Nat.reduceMul, Nat.reduceLT, Nat.reduceLeDiff, Int.reduceNeg, BEq.rfl, beq_self_eq_true, tabl, cellsOf, fldA, ldA, stA, entAt, partA, takeN, over, leafOk, Value.oneCell', idxA, nilA, cellsEq, fillA, elemsA, pure1, pure2, reps, chkA, tys, Try.results72, KX_draw, KX_drawQ, KX_tail, lastO_one, lastO_more, dropL_one, dropL_more, callP_eq, callM_true, e0, e3, d1, digA, sliceA, hr, hr2, bound, intN_cast, hn, Nat.le_refl, Nat.zero_le, litA_nil]
    rw [ht]; simp [h0]
  · have d1 : decide ((n : Int) > 0) = true := by simp; omega
    have hp := pred_idx h0 (by omega)
    obtain ⟨x, hx⟩ := nth_some (show n - 1 < l.length by omega)
    have hx' := nth_dig hx
    by_cases hx0 : x = 0
    · have d2 : (x == 0) = true := by simpa using hx0
      simp (maxSteps := 1000000) +contextual (disch := first | with_reducible assumption | exact ⟨rfl⟩ | exact ⟨rfl, rfl⟩ | (refine _root_.id ?_; kernel_rfl) | omega) only [evs, ext_mv, nth, put, putT, getT, binInt, binStr, binBool, aUn, outA, resA, mapO, resA1, oneOf, w1, w2, w3, bots, cond_true, cond_false, if_true, if_false, ite_true, ite_false, reduceIte, reduceCtorEq, implies_true, Nat.reduceAdd, Nat.reduceSub, AV.int, AV.bool, AV.str, Nat.reduceBEq, Nat.reduceEqDiff, Nat.reduceMul, Nat.reduceLT, Nat.reduceLeDiff, Int.reduceNeg, BEq.rfl, beq_self_eq_true, tabl, cellsOf, fldA, ldA, stA, entAt, partA, takeN, over, leafOk, Value.oneCell', idxA, nilA, cellsEq, fillA, elemsA, pure1, pure2, reps, chkA, tys, Try.results72, KX_draw, KX_drawQ, KX_tail, lastO_one, lastO_more, dropL_one, dropL_more, callP_eq, callM_true, e0, e3, d1, d2, hp, hx', digA]
      exact IH (n - 1) _ (by first | omega | (simp only; omega)) ⟨rfl, by first | omega | (dsimp only; omega), hz_pred hz hx hx0, (by first | rfl | simp only [getT, List.map_append, List.map_cons, List.map_nil, digC, digA]), (by first | rfl | simp only [getT, List.map_append, List.map_cons, List.map_nil, digC, digA]), (by first | rfl | simp only [getT, List.map_append, List.map_cons, List.map_nil, digC, digA])⟩
    · have d2 : (x == 0) = false := by simpa using hx0
      have ht := trim_stop hn hz (.inr ⟨x, hx, hx0⟩)
      simp (maxSteps := 1000000) +contextual (disch := first | with_reducible assumption | exact ⟨rfl⟩ | exact ⟨rfl, rfl⟩ | (refine _root_.id ?_; kernel_rfl) | omega) only [evs, ext_mv, nth, put, putT, getT, binInt, binStr, binBool, aUn, outA, resA, mapO, resA1, oneOf, w1, w2, w3, bots, cond_true, cond_false, if_true, if_false, ite_true, ite_false, reduceIte, reduceCtorEq, implies_true, Nat.reduceAdd, Nat.reduceSub, AV.int, AV.bool, AV.str, Nat.reduceBEq, Nat.reduceEqDiff, Nat.reduceMul, Nat.reduceLT, Nat.reduceLeDiff, Int.reduceNeg, BEq.rfl, beq_self_eq_true, tabl, cellsOf, fldA, ldA, stA, entAt, partA, takeN, over, leafOk, Value.oneCell', idxA, nilA, cellsEq, fillA, elemsA, pure1, pure2, reps, chkA, tys, Try.results72, KX_draw, KX_drawQ, KX_tail, lastO_one, lastO_more, dropL_one, dropL_more, callP_eq, callM_true, e0, e3, d1, d2, hp, hx', digA, sliceA, hr, hr2, bound, intN_cast, hn, Nat.le_refl, Nat.zero_le, litA_nil]
      rw [ht]; simp
/-- a signed number, if it is not too long -/
def sgnF (neg : Bool) (l : List Int) : AV := if 200 < l.length then .tup [bigA false [], .bool false] else .tup [bigA (neg && !decide (l = [])) l, .bool true]
theorem sgn_pure (neg : Bool) (l : List Int) : pure3 (sgnF neg l) = true := by unfold sgnF; split <;> rfl
theorem big_signed (neg : Bool) (l : List Int) (c : Cap) : cL Try.prog 56 [.bool neg, .frz (l.map digC) c] S tk k = some (sgnF neg l, S, tk, k) := by
  refine call_pure Try.func56 rfl rfl (by decide +kernel) (by decide +kernel) Try.ntmps56 rfl rfl _ _ _ (sgn_pure _ _) ?_; rw [RK_KX]
  by_cases h1 : 200 < l.length
  · have d1 : decide ((l.length : Int) > 200) = true := by simp; omega
    simp (maxSteps := 1000000) +contextual (disch := first | with_reducible assumption | exact ⟨rfl⟩ | exact ⟨rfl, rfl⟩ | (refine _root_.id ?_; kernel_rfl) | omega) only [evs, ext_mv, nth, put, putT, getT, binInt, binStr, binBool, aUn, outA, resA, mapO, resA1, oneOf, w1, w2, w3, bots, cond_true, cond_false, if_true, if_false, ite_true, ite_false, reduceIte, reduceCtorEq, implies_true, Nat.reduceAdd, Nat.reduceSub, AV.int, AV.bool, AV.str, Nat.reduceBEq, Nat.reduceEqDiff, Nat.reduceMul, Nat.reduceLT, Nat.reduceLeDiff, Int.reduceNeg, BEq.rfl, beq_self_eq_true, tabl, cellsOf, fldA, ldA, stA, entAt, partA, takeN, over, leafOk, Value.oneCell', idxA, nilA, cellsEq, fillA, elemsA, pure1, pure2, reps, chkA, tys, Try.results56, KX_draw, KX_drawQ, KX_tail, lastO_one, lastO_more, dropL_one, dropL_more, callP_eq, callM_true, w2, w1, d1]
    simp [sgnF, h1, bigA, digA]
  have d1 : decide ((l.length : Int) > 200) = false := by simp; omega
  by_cases h2 : l = []
  · subst h2
    simp (maxSteps := 1000000) +contextual (disch := first | with_reducible assumption | exact ⟨rfl⟩ | exact ⟨rfl, rfl⟩ | (refine _root_.id ?_; kernel_rfl) | omega) only [evs, ext_mv, nth, put, putT, getT, binInt, binStr, binBool, aUn, outA, resA, mapO, resA1, oneOf, w1, w2, w3, bots, cond_true, cond_false, if_true, if_false, ite_true, ite_false, reduceIte, reduceCtorEq, implies_true, Nat.reduceAdd, Nat.reduceSub, AV.int, AV.bool, AV.str, Nat.reduceBEq, Nat.reduceEqDiff, Nat.reduceMul, Nat.reduceLT, Nat.reduceLeDiff, Int.reduceNeg, BEq.rfl, beq_self_eq_true, tabl, cellsOf, fldA, ldA, stA, entAt, partA, takeN, over, leafOk, Value.oneCell', idxA, nilA, cellsEq, fillA, elemsA, pure1, pure2, reps, chkA, tys, Try.results56, KX_draw, KX_drawQ, KX_tail, lastO_one, lastO_more, dropL_one, dropL_more, callP_eq, callM_true, w2, w1, List.map_nil]
    simp [sgnF, bigA, digA]
  · have d2 := len_eq_zero h2
    simp (maxSteps := 1000000) +contextual (disch := first | with_reducible assumption | exact ⟨rfl⟩ | exact ⟨rfl, rfl⟩ | (refine _root_.id ?_; kernel_rfl) | omega) only [evs, ext_mv, nth, put, putT, getT, binInt, binStr, binBool, aUn, outA, resA, mapO, resA1, oneOf, w1, w2, w3, bots, cond_true, cond_false, if_true, if_false, ite_true, ite_false, reduceIte, reduceCtorEq, implies_true, Nat.reduceAdd, Nat.reduceSub, AV.int, AV.bool, AV.str, Nat.reduceBEq, Nat.reduceEqDiff, Nat.reduceMul, Nat.reduceLT, Nat.reduceLeDiff, Int.reduceNeg, BEq.rfl, beq_self_eq_true, tabl, cellsOf, fldA, ldA, stA, entAt, partA, takeN, over, leafOk, Value.oneCell', idxA, nilA, cellsEq, fillA, elemsA, pure1, pure2, reps, chkA, tys, Try.results56, KX_draw, KX_drawQ, KX_tail, lastO_one, lastO_more, dropL_one, dropL_more, callP_eq, callM_true, w2, w1, d1, d2]
    simp [sgnF, h1, h2, bigA, digA]
theorem R02_number (neg : Bool) (l : List Int) (c : Cap) (hlen : l.length ≤ 1000000) : cL Try.prog 46 [.bool neg, .frz (l.map digC) c] S tk k = some (sgnF neg (trimL l), S, tk, k) := by
  have hT := fun S tk k => R02_trim S tk k l .unk hlen
  refine call_pure Try.func46 rfl rfl (by decide +kernel) (by decide +kernel) Try.ntmps46 rfl rfl _ _ _ (sgn_pure _ _) ?_; rw [RK_KX]
  generalize trimL l = r at *
  simp only [digA] at hT
  by_cases h1 : 200 < r.length
  · have d1 : decide ((r.length : Int) > 200) = true := by simp; omega
    simp (maxSteps := 1000000) +contextual (disch := first | with_reducible assumption | exact ⟨rfl⟩ | exact ⟨rfl, rfl⟩ | (refine _root_.id ?_; kernel_rfl) | omega) only [evs, ext_mv, nth, put, putT, getT, binInt, binStr, binBool, aUn, outA, resA, mapO, resA1, oneOf, w1, w2, w3, bots, cond_true, cond_false, if_true, if_false, ite_true, ite_false, reduceIte, reduceCtorEq, implies_true, Nat.reduceAdd, Nat.reduceSub, AV.int, AV.bool, AV.str, Nat.reduceBEq, Nat.reduceEqDiff, Nat.reduceMul, Nat.reduceLT, Nat.reduceLeDiff, Int.reduceNeg, BEq.rfl, beq_self_eq_true, tabl, cellsOf, fldA, ldA, stA, entAt, partA, takeN, over, leafOk, Value.oneCell', idxA, nilA, cellsEq, fillA, elemsA, pure1, pure2, reps, chkA, tys, Try.results46, KX_draw, KX_drawQ, KX_tail, lastO_one, lastO_more, dropL_one, dropL_more, callP_eq, callM_true, w2, w1, d1, hT]
    simp [sgnF, h1, bigA, digA]
  have d1 : decide ((r.length : Int) > 200) = false := by simp; omega
  by_cases h2 : r = []
  · subst h2
    have d3 : decide (((0 : Nat) : Int) > 0) = false := rfl
    have d4 : decide (((0 : Nat) : Int) > 200) = false := rfl
    simp only [List.map_nil] at hT
    cases neg with
    | true =>
      simp (maxSteps := 1000000) +contextual (disch := first | with_reducible assumption | exact ⟨rfl⟩ | exact ⟨rfl, rfl⟩ | (refine _root_.id ?_; kernel_rfl) | omega) only [evs, ext_mv, nth, put, putT, getT, binInt, binStr, binBool, aUn, outA, resA, mapO, resA1, oneOf, w1, w2, w3, bots, cond_true, cond_false, if_true, if_false, ite_true, ite_false, reduceIte, reduceCtorEq, implies_true, Nat.reduceAdd, Nat.reduceSub, AV.int, AV.bool, AV.str, Nat.reduceBEq, Nat.reduceEqDiff, Nat.reduceMul, Nat.reduceLT, Nat.reduceLeDiff, Int.reduceNeg, BEq.rfl, beq_self_eq_true, tabl, cellsOf, fldA, ldA, stA, entAt, partA, takeN, over, leafOk, Value.oneCell', idxA, nilA, cellsEq, fillA, elemsA, pure1, pure2, reps, chkA, tys, Try.results46, KX_draw, KX_drawQ, KX_tail, lastO_one, lastO_more, dropL_one, dropL_more, callP_eq, callM_true, w2, w1, d3, d4, hT, List.map_nil]
      simp [sgnF, bigA, digA]
    | false =>
      simp (maxSteps := 1000000) +contextual (disch := first | with_reducible assumption | exact ⟨rfl⟩ | exact ⟨rfl, rfl⟩ | (refine _root_.id ?_; kernel_rfl) | omega) only [evs, ext_mv, nth, put, putT, getT, binInt, binStr, binBool, aUn, outA, resA, mapO, resA1, oneOf, w1, w2, w3, bots, cond_true, cond_false, if_true, if_false, ite_true, ite_false, reduceIte, reduceCtorEq, implies_true, Nat.reduceAdd, Nat.reduceSub, AV.int, AV.bool, AV.str, Nat.reduceBEq, Nat.reduceEqDiff, Nat.reduceMul, Nat.reduceLT, Nat.reduceLeDiff, Int.reduceNeg, BEq.rfl, beq_self_eq_true, tabl, cellsOf, fldA, ldA, stA, entAt, partA, takeN, over, leafOk, Value.oneCell', idxA, nilA, cellsEq, fillA, elemsA, pure1, pure2, reps, chkA, tys, Try.results46, KX_draw, KX_drawQ, KX_tail, lastO_one, lastO_more, dropL_one, dropL_more, callP_eq, callM_true, w2, w1, d3, d4, hT, List.map_nil]
      simp [sgnF, bigA, digA]
  · have d3 := len_gt_zero h2
    cases neg with
    | true =>
      simp (maxSteps := 1000000) +contextual (disch := first | with_reducible assumption | exact ⟨rfl⟩ | exact ⟨rfl, rfl⟩ | (refine _root_.id ?_; kernel_rfl) | omega) only [evs, ext_mv, nth, put, putT, getT, binInt, binStr, binBool, aUn, outA, resA, mapO, resA1, oneOf, w1, w2, w3, bots, cond_true, cond_false, if_true, if_false, ite_true, ite_false, reduceIte, reduceCtorEq, implies_true, Nat.reduceAdd, Nat.reduceSub, AV.int, AV.bool, AV.str, Nat.reduceBEq, Nat.reduceEqDiff, Nat.reduceMul, Nat.reduceLT, Nat.reduceLeDiff, Int.reduceNeg, BEq.rfl, beq_self_eq_true, tabl, cellsOf, fldA, ldA, stA, entAt, partA, takeN, over, leafOk, Value.oneCell', idxA, nilA, cellsEq, fillA, elemsA, pure1, pure2, reps, chkA, tys, Try.results46, KX_draw, KX_drawQ, KX_tail, lastO_one, lastO_more, dropL_one, dropL_more, callP_eq, callM_true, w2, w1, d1, d3, hT]
      simp [sgnF, h1, h2, bigA, digA]
    | false =>
      simp (maxSteps := 1000000) +contextual (disch := first | with_reducible assumption | exact ⟨rfl⟩ | exact ⟨rfl, rfl⟩ | (refine _root_.id ?_; kernel_rfl) | omega) only [evs, ext_mv, nth, put, putT, getT, binInt, binStr, binBool, aUn, outA, resA, mapO, resA1, oneOf, w1, w2, w3, bots, cond_true, cond_false, if_true, if_false, ite_true, ite_false, reduceIte, reduceCtorEq, implies_true, Nat.reduceAdd, Nat.reduceSub, AV.int, AV.bool, AV.str, Nat.reduceBEq, Nat.reduceEqDiff, Nat.reduceMul, Nat.reduceLT, Nat.reduceLeDiff, Int.reduceNeg, BEq.rfl, beq_self_eq_true, tabl, cellsOf, fldA, ldA, stA, entAt, partA, takeN, over, leafOk, Value.oneCell', idxA, nilA, cellsEq, fillA, elemsA, pure1, pure2, reps, chkA, tys, Try.results46, KX_draw, KX_drawQ, KX_tail, lastO_one, lastO_more, dropL_one, dropL_more, callP_eq, callM_true, w2, w1, d1, d3, hT]
      simp [sgnF, h1, h2, bigA, digA]
end
end Go.Proofs.Ytmgbmbganlndkaa
