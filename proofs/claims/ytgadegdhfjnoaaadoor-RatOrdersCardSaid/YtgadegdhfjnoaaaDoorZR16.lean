/-
  Texts laid together: RQ3, RQ4, RQ5, RExt, R4, R5, R6, B11, R7, R8, R9.
-/
import Derived.Test.YtgadegdhfjnoaaaDoorZR15
import Derived.Lib.LazyBuf
import Derived.Test.YtgadegdhfjnoaaaDoorZR13
/-
  Quotients of digits, in the model: a digit put ahead of a row of one's own.
-/



namespace Go.Proofs.YtgadegdhfjnoaaaDoor
open Go Go.RowKit
/-- cells written over others -/
def layA : Array Value → Nat → List Value → Array Value
  | arr, _, [] => arr
  | arr, o, v :: vs => layA (arr.setIfInBounds o v) (o + 1) vs
theorem lay_size : ∀ (vs : List Value) (arr : Array Value) (o : Nat), (layA arr o vs).size = arr.size
  | [], _, _ => rfl
  | v :: vs, arr, o => by rw [layA, lay_size vs]; simp
theorem lay_list : ∀ (vs : List Value) (arr : Array Value) (o : Nat), o + vs.length ≤ arr.size → (layA arr o vs).toList = arr.toList.take o ++ vs ++ arr.toList.drop (o + vs.length)
  | [], arr, o, _ => by simp [layA]
  | v :: vs, arr, o, h => by
    simp only [List.length_cons] at h
    rw [layA, lay_list vs _ _ (by simp; omega), Array.toList_setIfInBounds]
    have h1 : (arr.toList.set o v).take (o + 1) = arr.toList.take o ++ [v] := by
      rw [List.take_set, List.take_add_one, List.set_append_right _ _ (by simp; omega)]
      have : o - (arr.toList.take o).length = 0 := by simp; omega
      rw [this]
      have h2 : o < arr.toList.length := by simp; omega
      rw [List.getElem?_eq_getElem h2]; rfl
    have h2 : (arr.toList.set o v).drop (o + 1 + vs.length) = arr.toList.drop (o + 1 + vs.length) := by
      rw [List.drop_set]; rw [if_pos (by omega)]
    rw [h1, h2, List.length_cons, show o + (vs.length + 1) = o + 1 + vs.length by omega]
    simp
theorem setCells_heap {b : Nat} {t : TypeId} {fz : Nat × Nat} : ∀ (vs : List Value) (o : Nat) (w : World) (arr : Array Value), w.heap[b]? = some (.cells arr t fz) → (w.setCells b o vs).heap[b]? = some (.cells (layA arr o vs) t fz)
  | [], _, _, _, h => h
  | v :: vs, o, w, arr, h => by
    refine setCells_heap vs (o + 1) (w.setCell ⟨b, o, none⟩ v) (arr.setIfInBounds o v) ?_
    unfold World.setCell
    simp only
    rw [Array.getElem?_modify, if_pos rfl, h]
    rfl
theorem below_setC {B b : Nat} {a : World} (hb : B ≤ b) : ∀ (vs : List Value) (o : Nat) (w : World), Below B a w → Below B a (w.setCells b o vs)
  | [], _, _, h => h
  | v :: vs, o, w, h => below_setC hb vs (o + 1) _ (h.trans ⟨rfl, rfl, rfl, by simp [World.setCell], fun j hj => by
      unfold World.setCell
      simp only
      rw [Array.getElem?_modify, if_neg (by omega)]⟩)
theorem map_num_get {zs : List Int} {j : Nat} {v : Value} (h : (zs.map num)[j]? = some v) : ∃ x, zs[j]? = some x ∧ v = num x := by
  rw [List.getElem?_map, Option.map_eq_some_iff] at h
  obtain ⟨x, h1, h2⟩ := h
  exact ⟨x, h1, h2.symm⟩
theorem OR_mk {w : World} {base g cap : Nat} {cur : Array Value} {zs : List Int} (hg : base ≤ g) (h : w.heap[g]? = some (.cells cur 3 (0, 0))) (hn : zs.length ≤ cap) (hm : cap ≤ maxLen) (hs : cur.size = cap) (ht : cur.toList.take zs.length = zs.map num) : OR w base (.slice (some ⟨g, 0, none⟩) zs.length cap) zs :=
  ⟨by simp, .inr ⟨g, cap, cur, rfl, hg, h, hn, hm, by omega, by rw [Nat.mul_one]; exact ht⟩⟩
theorem insert_run (base : Nat) (w : World) (v : Value) (zs : List Int) (x : Int) (vb : Nat) (hO : OR w base v zs) (hbase : base ≤ w.heap.size) (hvb : w.heap[vb]? = some (.cells #[num x] 3 (0, 0))) (hne : ∀ g n c, v = .slice (some ⟨g, 0, none⟩) n c → g ≠ vb) (hlen : zs.length ≤ 1000000) :
    Calls Tryd.prog 83 #[v, .int .i64 0, .slice (some ⟨vb, 0, none⟩) 1 1] w fun e w' => ∃ v', e = .returned v' ∧ OR w' base v' (x :: zs) ∧ Below base w w' := by
  have hvs : ∀ (j : Nat) u, [num x][j]? = some u → w.cell? ⟨vb, 0 + j, none⟩ = some u := by
    intro j u hj
    cases j with
    | zero =>
      simp only [List.getElem?_cons_zero, Option.some.injEq] at hj
      subst hj
      rw [Lib.cell_of_heap hvb]; rfl
    | succ j => simp at hj
  have h1v : ∀ u ∈ [num x], u.oneCell' = true := fun u hu => by
    have : u = num x := by simpa using hu
    subst this; rfl
  have h1c : ∀ u ∈ zs.map num, u.oneCell' = true := fun u hu => by
    obtain ⟨y, -, rfl⟩ := List.mem_map.1 hu
    rfl
  have hmax : (1000001 : Nat) ≤ maxLen := by unfold maxLen; omega
  have ht3 : Tryd.laysIns_ren.t 3 = 3 := rfl
  have hcs1 : (Value.int .i64 0).cells.size = 1 := rfl
  rcases hO.2 with ⟨rfl, h0⟩ | ⟨g, cap, cur, rfl, k1, k2, k3, k4, k5, k6⟩
  · -- nil
    have hz : zs = [] := List.eq_nil_of_length_eq_zero h0
    subst hz
    refine (Any2.slices_Insert_int_end_grow Tryd.laysIns none 0 0 vb 0 1 1 [] [num x] w (by omega) (by omega) (by omega) (by omega) rfl rfl (fun _ => rfl) (fun _ h => by cases h) hvs h1v).mono ?_
    rintro e w' ⟨rfl, rfl⟩
    have hge := grownCap_ge w 1 0 3
    refine ⟨_, rfl, OR_mk (zs := [x]) hbase (heap_alloc_same w.drew _) hge (grownCap_le_maxLen w 1 0 _ (by omega)) ?_ ?_, ((Below.refl _ _).drew).alloc hbase _⟩
    · rw [ht3]; simp [size_zeroCells, hcs1]; omega
    · simp
  · have hM : cap ≤ 9223372036854775807 := by unfold maxLen at k4; omega
    have hgv : g ≠ vb := hne g _ cap rfl
    have hcl : (zs.map num).length = zs.length := by simp
    have hc5 : cur.size = cap := by omega
    have hcs : ∀ (j : Nat) u, (zs.map num)[j]? = some u → w.cell? ⟨g, 0 + j, none⟩ = some u := by
      intro j u hj
      rw [Nat.mul_one] at k6
      have hjl : j < zs.length := by
        have := (List.getElem?_eq_some_iff.1 hj).1
        simpa using this
      rw [← k6, List.getElem?_take, if_pos hjl] at hj
      rw [Lib.cell_of_heap k2, Nat.zero_add]
      simpa using hj
    have hsp : ∀ j, j < cap → (w.cell? ⟨g, 0 + j, none⟩).isSome = true := fun j hj => by
      rw [Lib.cell_of_heap k2, Nat.zero_add]
      rw [Array.getElem?_eq_getElem (show j < cur.size by omega)]; rfl
    have hfz : ∀ j, w.frozen? ⟨g, 0 + j, none⟩ = false := fun j => by
      simp [World.frozen?, k2]
    by_cases hz : zs = []
    · subst hz
      by_cases hc : cap = 0
      · subst hc
        refine (Any2.slices_Insert_int_end_grow Tryd.laysIns (some ⟨g, 0, none⟩) 0 0 vb 0 1 1 [] [num x] w (by omega) (by omega) (by omega) (by omega) rfl rfl (fun _ => rfl) (fun _ _ j u h => by simp at h) hvs h1v).mono ?_
        rintro e w' ⟨rfl, rfl⟩
        have hge := grownCap_ge w 1 0 3
        refine ⟨_, rfl, OR_mk (zs := [x]) hbase (heap_alloc_same w.drew _) hge (grownCap_le_maxLen w 1 0 _ (by omega)) ?_ ?_, ((Below.refl _ _).drew).alloc hbase _⟩
        · rw [ht3]; simp [size_zeroCells, hcs1]; omega
        · simp
      · refine (Any2.slices_Insert_int_end_room Tryd.laysIns g 0 0 cap vb 0 1 1 [num x] w (by omega) (by omega) hM rfl (fun j hj => by simpa using hsp j (by omega)) (fun j hj => by simpa using hfz j) hvs h1v).mono ?_
        rintro e w' ⟨rfl, rfl⟩
        refine ⟨_, rfl, OR_mk (zs := [x]) (cur := layA cur 0 [num x]) k1 (setCells_heap _ _ _ _ k2) (by simp; omega) k4 (by rw [lay_size]; exact hc5) ?_, below_setC k1 _ _ _ (Below.refl _ _)⟩
        rw [lay_list _ _ _ (by simp; omega)]
        simp
    · have hpos : 0 < zs.length := List.length_pos_iff.2 hz
      by_cases hroom : zs.length + 1 ≤ cap
      · refine (Any2.slices_Insert_int_shift Tryd.laysIns g 0 zs.length cap 0 vb 0 1 1 (zs.map num) [num x] w hpos (by omega) hroom hM (fun h => hgv h.symm) hcl rfl hcs (fun j hj => hsp j (by omega)) (fun j _ => hfz j) hvs h1c h1v 3 3 1 cap ?_ ?_ (by omega) ?_ ?_).mono ?_
        · simp [World.shape?, hvb]
        · simp [World.shape?, k2, hc5]
        · simp [World.frozen?, hvb]
        · simp [World.frozen?, hvb]
        rintro e w' ⟨rfl, rfl⟩
        have hk2 : w.drew.heap[g]? = some (.cells cur 3 (0, 0)) := k2
        have hA := setCells_heap ((zs.map num).drop 0) (0 + (0 + 1)) w.drew cur hk2
        have hB := setCells_heap [num x] (0 + 0) _ _ hA
        have hcl2 : (zs.map num).length = zs.length := by simp
        refine ⟨_, rfl, OR_mk (zs := x :: zs) k1 hB (by simpa using hroom) k4 (by rw [lay_size, lay_size]; exact hc5) ?_, below_setC k1 _ _ _ (below_setC k1 _ _ _ ((Below.refl _ _).drew))⟩
        rw [lay_list _ _ _ (by rw [lay_size]; simp; omega), lay_list _ _ _ (by simp; omega)]
        have hl1 : (cur.toList.take (0 + (0 + 1))).length = 1 := by simp; omega
        simp only [List.take_zero, List.nil_append, List.drop_zero, Nat.zero_add, List.length_singleton, List.map_cons, List.length_cons, List.singleton_append, List.take_succ_cons] at hl1 ⊢
        rw [List.append_assoc, List.drop_append, List.drop_of_length_le (by omega), List.nil_append, hl1]
        simp only [List.length_nil, Nat.zero_add, Nat.sub_self, List.drop_zero]
        rw [List.take_append, List.take_of_length_le (by omega), hcl2, Nat.sub_self, List.take_zero, List.append_nil]
      · refine (Any2.slices_Insert_int_grow Tryd.laysIns g 0 zs.length cap 0 vb 0 1 1 (zs.map num) [num x] w hpos (by omega) k3 (by omega) (by omega) hcl rfl hcs hvs h1c h1v).mono ?_
        rintro e w' ⟨rfl, rfl⟩
        rw [ht3]
        have hge := grownCap_ge w (zs.length + 1) cap 3
        obtain ⟨arr, harr⟩ : ∃ arr : Array Value, ((zs.map num).take 0).toArray ++ Builtin.zeroCells (Value.int .i64 0).cells (zs.length + 1 - 0) ++ Builtin.zeroCells (Value.int .i64 0).cells (grownCap w (zs.length + 1) cap 3 - (zs.length + 1)) = arr := ⟨_, rfl⟩
        rw [harr]
        have hsz : arr.size = grownCap w (zs.length + 1) cap 3 := by
          rw [← harr]; simp [size_zeroCells, hcs1]; omega
        have h0 : (w.alloc (.cells arr 3)).drew.heap[w.heap.size]? = some (.cells arr 3 (0, 0)) := heap_alloc_same w _
        have hA := setCells_heap [num x] 0 _ _ h0
        have hB := setCells_heap ((zs.map num).drop 0) (0 + 1) (((w.alloc (.cells arr 3)).drew.setCells w.heap.size 0 [num x]).drew) _ hA
        have hcl2 : (zs.map num).length = zs.length := by simp
        refine ⟨_, rfl, OR_mk (zs := x :: zs) hbase hB (by simpa using hge) (grownCap_le_maxLen w _ _ _ (by omega)) (by rw [lay_size, lay_size]; exact hsz) ?_, below_setC hbase _ _ _ (Below.drew (below_setC hbase _ _ _ (((Below.refl _ _).alloc hbase _).drew)))⟩
        rw [lay_list _ _ _ (by rw [lay_size, hsz]; simp; omega), lay_list _ _ _ (by rw [hsz]; simp; omega)]
        simp only [List.take_zero, List.nil_append, List.drop_zero, Nat.zero_add, List.length_singleton, List.map_cons, List.length_cons, List.singleton_append, List.take_succ_cons, List.cons_append]
        rw [List.take_append, List.take_of_length_le (by omega), hcl2, Nat.sub_self, List.take_zero, List.append_nil]
end Go.Proofs.YtgadegdhfjnoaaaDoor
/-
  Quotients of digits, in the model: the function itself.
-/

namespace Go.Proofs.YtgadegdhfjnoaaaDoor
open Go Go.RowKit
theorem order0 {w : World} {v1 v2 : Value} {a b : Nat} (ht : Tab0 w) (h1 : RD w v1 (dig a)) (h2 : RD w v2 (dig b)) (ha : (dig a).length ≤ 1000000) (hb : (dig b).length ≤ 1000000) :
    Calls Tryd.prog 48 #[v1, v2] w fun e w' => e = .returned (.int .i64 (cmpN a b)) ∧ Below w.heap.size w w' := by
  refine (call0 (fun S tk k => rat_order S tk k a b ha hb) ht (by simp only [VRs]; exact ⟨h1, h2, trivial⟩)).mono ?_
  rintro e w' ⟨v, rfl, hb, hv⟩
  simp only [VR] at hv
  rw [hv]
  exact ⟨rfl, hb⟩
theorem product0 {w : World} {v1 v2 : Value} {a b : Nat} (ht : Tab0 w) (h1 : RD w v1 (dig a)) (h2 : RD w v2 (dig b)) (ha : (dig a).length ≤ 100000) (hb : (dig b).length ≤ 100000) :
    Calls Tryd.prog 75 #[v1, v2] w fun e w' => ∃ v, e = .returned v ∧ Below w.heap.size w w' ∧ RD w' v (dig (a * b)) :=
  call0 (fun S tk k => rat_product S tk k a b ha hb) ht (by simp only [VRs]; exact ⟨h1, h2, trivial⟩)
theorem trim_row {w : World} {base : Nat} {v : Value} {zs : List Int} (hO : OR w base v zs) (hb : 0 < base) (hl : zs.length ≤ 1000000) :
    Calls Tryd.prog 82 #[v] w fun e w' => ∃ v', e = .returned v' ∧ w' = w ∧ OR w base v' (trimL zs) := by
  obtain ⟨av, cv, rfl, hcv, hcells⟩ := RD_slice (hO.rd hb)
  refine (trim_run w av cv zs hl hcv fun j x hx => ?_).mono ?_
  · obtain ⟨b', o', h1, h2, -⟩ := hcells j x hx
    exact ⟨b', o', h1, h2⟩
  · rintro e w' ⟨rfl, rfl⟩
    exact ⟨_, rfl, rfl, hO.trim⟩
theorem OR.weaken {w : World} {base base' : Nat} {v : Value} {zs : List Int} (h : OR w base v zs) (hb : base' ≤ base) : OR w base' v zs := by
  refine ⟨h.1, ?_⟩
  rcases h.2 with h0 | ⟨g, cap, cur, rfl, h1, h2, h3⟩
  · exact .inl h0
  · exact .inr ⟨g, cap, cur, rfl, by omega, h2, h3⟩
theorem OR_nil (w : World) (base : Nat) : OR w base (.slice none 0 0) [] := ⟨rfl, .inl ⟨rfl, rfl⟩⟩
theorem RD_one {w : World} {d : Int} (h0 : 0 < w.heap.size) : RD (w.alloc (.cells #[num d] 3)) (.slice (some ⟨w.heap.size, 0, none⟩) 1 1) [d] := by
  refine RD_mk (zs := [d]) (by omega) (Nat.le_refl _) fun j x hx => ?_
  cases j with
  | zero =>
    simp only [nth, Option.some.injEq] at hx
    subst hx
    rw [Lib.cell_of_heap (heap_alloc_same w _)]; rfl
  | succ j => simp [nth] at hx
theorem makeN {w : World} {N : Nat} (hN : N ≤ 1000000) {ops : Array Oper} {rest : List Oper} {op : Oper} {a : Act} {Q : Exit → Act → World → Prop} {l c : Operand} (hgd : op.guard = none) (hop : op.op = .makeSlice 22 l c) (hl : a.eval l = .int .i64 (N : Nat)) (hc : a.eval c = .int .i64 (N : Nat))
    (h : ∀ w', w'.heap[w.heap.size]? = some (.cells ((List.replicate N (0 : Int)).map num).toArray 3 (0, 0)) → Below w.heap.size w w' → wpList Tryd.prog ops Q rest (a.put op.dst (.slice (some ⟨w.heap.size, 0, none⟩) N N)) w') : wpList Tryd.prog ops Q (op :: rest) a w := by
  obtain ⟨i0, hi, hz0, hz1, hz2⟩ := info_parts infInt
  refine wpList_make_row (P := Tryd.prog) w hgd l c 22 hop 3 i0 (.int .i64 0) Tryd.underlying22 hi hz0 hz1 rfl .i64 .i64 N hl hc (by rw [hz2]; omega) (by omega) ?_
  have e : madeCells #[num 0] N = ((List.replicate N (0 : Int)).map num).toArray := by
    apply Array.ext
    · simp [madeCells]
    · intro i h1 h2
      simp [madeCells, Nat.mod_one]
  rw [e]
  exact h _ (heap_alloc_same w _) ((Below.refl _ _).alloc (Nat.le_refl _) _)
/-- the value of the digits from k on -/
def topV (A : List Int) (k : Nat) : Nat := (val (A.drop k)).toNat
structure QI (A : List Int) (b k R : Nat) (qs : List Int) : Prop where
  len : qs.length = A.length
  ok : okD qs
  zero : ∀ j x, j < k → nth qs j = some x → x = 0
  rest : R = topV A k % b
  eqv : val qs = 10000 ^ k * (topV A k / b : Nat)
theorem QI.start (A : List Int) (b : Nat) : QI A b A.length 0 (List.replicate A.length 0) := by
  have h0 : topV A A.length = 0 := by unfold topV; rw [List.drop_length]; rfl
  have hz : ∀ (n j : Nat) (x : Int), nth (List.replicate n (0 : Int)) j = some x → x = 0 := fun n j x h => by
    rw [nth_get] at h
    exact (List.mem_replicate.1 (List.mem_of_getElem? h)).2
  refine ⟨by simp, okD_of fun j x hx => by rw [hz _ _ _ hx]; omega, fun j x _ hx => hz _ _ _ hx, by rw [h0]; simp, ?_⟩
  rw [val_replicate, h0]; simp
theorem topV_step {A : List Int} (hA : okD A) {k : Nat} {x : Int} (hx : nth A k = some x) : topV A k = x.toNat + 10000 * topV A (k + 1) := by
  unfold topV
  rw [nth_drop hx, val]
  have h1 := of_okD hA hx
  have h2 := val_nonneg (l := A.drop (k + 1)) fun d hd => hA d (List.mem_of_mem_drop hd)
  omega
theorem QI.step {A : List Int} {b k R : Nat} {qs : List Int} {x : Int} (hA : okD A) (hb : 0 < b) (h : QI A b (k + 1) R qs) (hx : nth A k = some x) :
    (x.toNat + 10000 * R) / b < 10000 ∧ topV A k / b = 10000 * (topV A (k + 1) / b) + (x.toNat + 10000 * R) / b ∧ topV A k % b = (x.toNat + 10000 * R) % b := by
  have hr := h.rest
  have hxk := of_okD hA hx
  have hRb : R < b := by rw [hr]; exact Nat.mod_lt _ hb
  have hdm := Nat.div_add_mod (topV A (k + 1)) b
  rw [← hr] at hdm
  have hs := topV_step hA hx
  have e : topV A k = (x.toNat + 10000 * R) + b * (10000 * (topV A (k + 1) / b)) := by
    rw [hs, Nat.mul_left_comm]; omega
  refine ⟨?_, ?_, ?_⟩
  · rw [Nat.div_lt_iff_lt_mul hb]
    have : 10000 * (R + 1) ≤ 10000 * b := Nat.mul_le_mul_left _ hRb
    omega
  · rw [e, Nat.add_mul_div_left _ _ hb]; omega
  · rw [e, Nat.add_mul_mod_self_left]
theorem QI.small {A : List Int} {b k R : Nat} {qs : List Int} {x : Int} (hA : okD A) (hb : 0 < b) (h : QI A b (k + 1) R qs) (hx : nth A k = some x) (hlt : x.toNat + 10000 * R < b) : QI A b k (x.toNat + 10000 * R) qs := by
  obtain ⟨-, h2, h3⟩ := h.step hA hb hx
  rw [Nat.div_eq_of_lt hlt] at h2
  rw [Nat.mod_eq_of_lt hlt] at h3
  refine ⟨h.len, h.ok, fun j y hj hy => h.zero j y (by omega) hy, h3.symm, ?_⟩
  have e1 : ((10000 * (topV A (k + 1) / b) + 0 : Nat) : Int) = 10000 * ((topV A (k + 1) / b : Nat) : Int) := by omega
  rw [h.eqv, h2, Int.pow_succ, e1, Int.mul_assoc]
theorem QI.big {A : List Int} {b k R : Nat} {qs : List Int} {x : Int} (hA : okD A) (hb : 0 < b) (h : QI A b (k + 1) R qs) (hx : nth A k = some x) {d : Nat} (hd : d = (x.toNat + 10000 * R) / b) : QI A b k (x.toNat + 10000 * R - b * d) (qs.set k (d : Int)) := by
  obtain ⟨h1, h2, h3⟩ := h.step hA hb hx
  have hk : k < qs.length := by rw [h.len]; exact nth_lt hx
  obtain ⟨y, hy⟩ := nth_some hk
  have hy0 := h.zero k y (by omega) hy
  subst hy0
  refine ⟨by rw [List.length_set]; exact h.len, okD_set h.ok (by omega) (by omega), fun j y hj hyj => ?_, ?_, ?_⟩
  · rcases set_same hyj with ⟨rfl, -⟩ | ⟨-, hyj⟩
    · omega
    · exact h.zero j y (by omega) hyj
  · rw [h3, hd]
    have := Nat.div_add_mod (x.toNat + 10000 * R) b
    omega
  · rw [val_set hy, h.eqv, h2, Int.pow_succ, ← hd]
    have e1 : ((10000 * (topV A (k + 1) / b) + d : Nat) : Int) = 10000 * (topV A (k + 1) / b : Nat) + (d : Int) := by omega
    rw [e1, Int.mul_add, ← Int.mul_assoc, Int.sub_zero, Int.mul_comm (d : Int)]
theorem QI.done {a b R : Nat} {qs : List Int} (h : QI (dig a) b 0 R qs) : trimL qs = dig (a / b) ∧ R = a % b := by
  have ht : topV (dig a) 0 = a := by unfold topV; rw [List.drop_zero, val_dig]; rfl
  have h1 := h.rest
  have h2 := h.eqv
  rw [ht] at h1 h2
  refine ⟨?_, h1⟩
  rw [trim_dig h.ok, h2, Int.pow_zero, Int.one_mul, Int.toNat_natCast]
theorem trim_ahead {R : Nat} {x : Int} (hx : 0 ≤ x ∧ x < 10000) : trimL (x :: dig R) = dig (x.toNat + 10000 * R) := by
  rw [trim_dig (fun d hd => by
    rcases List.mem_cons.1 hd with rfl | hd
    · exact hx
    · exact okD_dig R d hd)]
  congr 1
  simp only [val, val_dig]; omega
end Go.Proofs.YtgadegdhfjnoaaaDoor
/-
  Quotients of digits, in the model: the walk.
-/

namespace Go.Proofs.YtgadegdhfjnoaaaDoor
open Go Go.RowKit
theorem set_row {w : World} {g i : Nat} {qs : List Int} {d x : Int} (h : w.heap[g]? = some (.cells (qs.map num).toArray 3 (0, 0))) (hi : nth qs i = some x) :
    (w.setCell ⟨g, i, none⟩ (num d)).heap[g]? = some (.cells ((qs.set i d).map num).toArray 3 (0, 0)) := by
  unfold World.setCell
  simp only
  rw [Array.getElem?_modify, if_pos rfl, h]
  simp [List.map_set]
theorem set_below {w : World} {g i : Nat} {v : Value} : Below g w (w.setCell ⟨g, i, none⟩ v) :=
  below_setC (Nat.le_refl _) [v] i w (Below.refl _ _)
theorem OR.set {w : World} {g i : Nat} {u v : Value} {zs : List Int} (h : OR w (g + 1) v zs) : OR (w.setCell ⟨g, i, none⟩ u) (g + 1) v zs := by
  refine ⟨h.1, ?_⟩
  rcases h.2 with h0 | ⟨g', cap, cur, rfl, h1, h2, h3⟩
  · exact .inl h0
  · refine .inr ⟨g', cap, cur, rfl, h1, ?_, h3⟩
    unfold World.setCell
    simp only
    rw [Array.getElem?_modify, if_neg (by omega)]
    exact h2
theorem row_cells {w : World} {g : Nat} {qs : List Int} (h : w.heap[g]? = some (.cells (qs.map num).toArray 3 (0, 0))) {j : Nat} {x : Int} (hx : nth qs j = some x) : w.cell? ⟨g, 0 + j, none⟩ = some (num x) := by
  rw [nth_get] at hx
  rw [Lib.cell_of_heap h, Nat.zero_add, List.getElem?_toArray, List.getElem?_map, hx]; rfl
theorem row_rd {w : World} {g cap : Nat} {qs : List Int} (h : w.heap[g]? = some (.cells (qs.map num).toArray 3 (0, 0))) (hg : g ≠ 0) (hc : qs.length ≤ cap) : RD w (.slice (some ⟨g, 0, none⟩) (trimL qs).length cap) (trimL qs) := by
  refine RD_mk hg (Nat.le_trans (trim_len qs) hc) fun j x hx => row_cells h ?_
  have hlt := nth_lt hx
  rw [trim_is_take, nth_get, List.getElem?_take_of_lt hlt, ← nth_get] at hx
  exact hx
theorem dig_below {T b : Nat} (h : T < 10000 * b) : (dig T).length ≤ (dig b).length + 1 := dig_len.2 (by
  have h1 := dig_len.1 (Nat.le_refl (dig b).length)
  rw [Nat.pow_succ, Nat.mul_comm (10000 ^ (dig b).length)]
  exact Nat.lt_of_lt_of_le h (Nat.mul_le_mul_left _ (Nat.le_of_lt h1)))
theorem cmp_le (x y : Nat) : cmpN x y ≤ 0 ↔ x ≤ y := by
  unfold cmpN
  split
  · constructor <;> omega
  · split <;> constructor <;> omega
/-- if it lies anywhere, then in a block from here on -/
def NewB (base : Nat) (v : Value) : Prop := ∀ b o n c, v = .slice (some ⟨b, o, none⟩) n c → base ≤ b
theorem OR.newB {w : World} {base base' : Nat} {v : Value} {zs : List Int} (h : OR w base v zs) (hb : base' ≤ base) : NewB base' v := fun b _ _ _ e => Nat.le_trans hb (h.lt b (by rw [e]; rfl)).1
theorem newB_slice {base g n c : Nat} (h : base ≤ g) : NewB base (.slice (some ⟨g, 0, none⟩) n c) := by
  intro b o n' c' e
  cases e
  exact h
set_option maxHeartbeats 8000000 in
set_option maxRecDepth 100000 in
theorem quotient_run (w : World) (va vb : Value) (a b : Nat) (ht : Tab0 w) (ha : RD w va (dig a)) (hb : RD w vb (dig b)) (hb0 : 0 < b) (hla : (dig a).length ≤ 90000) (hlb : (dig b).length ≤ 90000) :
    Calls Tryd.prog 61 #[va, vb] w fun e w' => ∃ v1 v2, e = .returned (.tuple #[v1, v2]) ∧ RD w' v1 (dig (a / b)) ∧ RD w' v2 (dig (a % b)) ∧ Below w.heap.size w w' ∧ NewB w.heap.size v1 ∧ (v2 = va ∧ a % b = a ∨ NewB w.heap.size v2) := by
  have hO := order0 ht ha hb (by omega) (by omega)
  have hRA := ha
  obtain ⟨ax, cx, rfl, hcx, hX⟩ := RD_slice ha
  have HX := Lib.hid hX
  have HKX := Lib.hid (okD_dig a)
  have HRA := Lib.hid hRA
  have HRB := Lib.hid hb
  have HT := Lib.hid ht
  have HD := Lib.hid (fun (R : Nat) (qs : List Int) (h : QI (dig a) b 0 R qs) => h.done)
  have HS := Lib.hid (QI.start (dig a) b)
  clear hX ha hb hRA ht
  generalize hXX : dig a = X at *
  generalize hN : X.length = N at *
  have HO := Lib.hid hO
  have HN := Lib.hid (show N ≤ 1000000 by omega)
  clear hO
  by_cases hab : a < b
  · have hc : cmpN a b < 0 := by simp [cmpN, hab]
    go_enter Tryd.func61, Tryd.ntmps61
    go_wp2_with (go_at_call 48; refine HO.out.mono ?_; rintro e w1 ⟨rfl, hb1⟩)
    go_ret2
    have e1 : a / b = 0 := Nat.div_eq_of_lt hab
    have e2 : a % b = a := Nat.mod_eq_of_lt hab
    rw [e1, e2, dig_zero]
    exact ⟨_, _, rfl, RD_nil _ _ _, by rw [hXX]; exact HRA.out.below hb1, hb1, fun b o n c h => (by cases h), .inl ⟨rfl, rfl⟩⟩
  have hc : ¬ cmpN a b < 0 := by
    unfold cmpN
    rw [if_neg hab]; split <;> omega
  go_enter Tryd.func61, Tryd.ntmps61
  go_wp2_with (first
    | (go_at_call 48; refine HO.out.mono ?_; rintro e w1 ⟨rfl, hb1⟩; have HB1 := Lib.hid hb1; clear hb1)
    | (at_make; refine makeN HN.out rfl rfl rfl rfl ?_; intro w2 hq2 hb2; have HQ2 := Lib.hid hq2; have HB2 := Lib.hid (HB1.out.trans (hb2.mono HB1.out.size)); clear hq2 hb2))
  have hgq : w.heap.size ≤ w1.heap.size := HB1.out.size
  generalize hGQ : w1.heap.size = gq at *
  have HGP := Lib.hid (show 0 < w.heap.size from HT.out.pos)
  have HW2 := Lib.hid (Array.getElem?_eq_some_iff.1 HQ2.out).1
  go_loopw [7, 8] (fun v i wr => ∃ (k R : Nat) (qs : List Int), i = .int .i64 ((k : Int) - 1) ∧ k ≤ N ∧ Hid (QI X b k R qs) ∧ Hid (OR wr (gq + 1) v (dig R)) ∧ Hid (wr.heap[gq]? = some (.cells (qs.map num).toArray 3 (0, 0))) ∧ Hid (Below w.heap.size w wr)) (fun _ i _ => (intOf i + 1).toNat)
  case atStart => exact ⟨N, 0, _, congrArg (Value.int .i64) (by omega), Nat.le_refl _, HS, Lib.hid (by rw [dig_zero]; exact OR_nil _ _), HQ2, HB2⟩
  case round =>
    obtain ⟨k, R, qs, rfl, hk, HI, HR, HQ, HB⟩ := hrel
    cases k with
    | zero =>
      have hql : qs.length = N := HI.out.len.trans hN
      have hT := trim_run wr (some ⟨gq, 0, none⟩) N qs (by omega) (by omega) fun j x hx => ⟨gq, 0, rfl, row_cells HQ.out hx⟩
      have HV := Lib.hid (row_rd (cap := N) HQ.out (by have := HGP.out; omega) (by omega))
      have HE := Lib.hid (HD.out R qs HI.out)
      rw [hql] at hT
      have HTr := Lib.hid hT
      clear hT
      go_wp2_with (go_at_call 82; refine HTr.out.mono ?_; rintro e w6 ⟨rfl, rfl⟩)
      go_ret2
      obtain ⟨e1, e2⟩ := HE.out
      have hv := HV.out
      rw [e1] at hv ⊢
      exact ⟨_, _, rfl, hv, by rw [← e2]; exact HR.out.rd (by omega), HB.out, newB_slice (by omega), .inr (HR.out.newB (by omega))⟩
    | succ k =>
      obtain ⟨x, hx⟩ := nth_some (show k < X.length by omega)
      obtain ⟨bx, ox, rfl, hcx0, -⟩ := HX.out k x hx
      have hxk := HKX.out x (by rw [nth_get] at hx; exact List.mem_of_getElem? hx)
      have hcell := (HB.out.cell (cell_lt hcx0)).trans hcx0
      have hi : (((k + 1 : Nat) : Int) - 1) = (k : Int) := by omega
      rw [hi]
      have hi1 : IntKind.i64.wrap ((k : Int) - 1) = (k : Int) - 1 := wrap_of (by unfold i64; omega)
      have hg1 : (k : Int) ≥ 0 := by omega
      have hg2 : (k : Int) < (N : Int) := by omega
      have hQl := (Array.getElem?_eq_some_iff.1 HQ.out).1
      have hRl : (dig R).length ≤ 90000 := by
        have h1 : R < b := by rw [HI.out.rest]; exact Nat.mod_lt _ hb0
        exact Nat.le_trans (dig_len.2 (Nat.lt_trans h1 (dig_len.1 (Nat.le_refl _)))) hlb
      have hB3 : Below wr.heap.size wr (wr.alloc (.cells #[num x] 3)) := (Below.refl _ _).alloc (Nat.le_refl _) _
      have hIns := insert_run (gq + 1) (wr.alloc (.cells #[num x] 3)) _ (dig R) x wr.heap.size (HR.out.below hB3) (by have := hB3.size; omega) (heap_alloc_same wr _) (fun g n c hv => by
        have := HR.out.lt g (by rw [hv]; rfl)
        omega) (by omega)
      have HIns := Lib.hid hIns
      have HXX := Lib.hid hx
      have hTa := trim_ahead (R := R) hxk
      have hTb : x.toNat + 10000 * R < 10000 * b := by
        have h1 : R < b := by rw [HI.out.rest]; exact Nat.mod_lt _ hb0
        omega
      have HSm := Lib.hid (HI.out.small (b := b) HKX.out hb0 hx)
      have HBg := Lib.hid (fun d => HI.out.big (b := b) (d := d) HKX.out hb0 hx)
      generalize hTT : x.toNat + 10000 * R = T at *
      have hTl : (dig T).length ≤ 90001 := Nat.le_trans (dig_below hTb) (by omega)
      have HTa := Lib.hid hTa
      clear hTa
      have HB3 := Lib.hid hB3
      clear hIns hx hcx0 hB3
      have hgq2 : w.heap.size ≤ gq + 1 := by omega
      by_cases hlt : T < b
      · have hc2 : cmpN T b < 0 := by simp [cmpN, hlt]
        have HSs := Lib.hid (HSm.out hlt)
        go_wp2_with (go_at_call 83; refine HIns.out.mono ?_; rintro e w4 ⟨v4, rfl, hO4, hB4⟩; have HO4 := Lib.hid hO4; have HB4 := Lib.hid hB4; clear hO4 hB4)
        have HQ5 := Lib.hid ((HB4.out.block gq (Nat.lt_succ_self _)).trans ((HB3.out.block gq hQl).trans HQ.out))
        have HB5 := Lib.hid ((HB.out.trans (HB3.out.mono HB.out.size)).trans (HB4.out.mono hgq2))
        go_wp2_with (go_at_call 82; refine (trim_row HO4.out (Nat.succ_pos _) (by simp; omega)).mono ?_; rintro e w5 ⟨v5, rfl, rfl, hO5⟩; rw [HTa.out] at hO5; have HO5 := Lib.hid hO5; clear hO5)
        have HT5 := Lib.hid (HT.out.below HGP.out HB5.out)
        go_wp2_with (go_at_call 48; refine (order0 HT5.out (HO5.out.rd (Nat.succ_pos _)) (HRB.out.below HB5.out) (by omega) (by omega)).mono ?_; rintro e w6 ⟨rfl, hb6⟩; have HB6 := Lib.hid hb6; clear hb6)
        exact ⟨⟨k, T, qs, rfl, by omega, HSs, Lib.hid (HO5.out.below HB6.out), Lib.hid ((HB6.out.block gq (Array.getElem?_eq_some_iff.1 HQ5.out).1).trans HQ5.out), Lib.hid (HB5.out.trans (HB6.out.mono HB5.out.size))⟩, by simp [intOf]⟩
      · have hc2 : ¬ cmpN T b < 0 := by
          unfold cmpN
          rw [if_neg hlt]; split <;> omega
        obtain ⟨d, hd⟩ : ∃ d, d = T / b := ⟨_, rfl⟩
        have hd1 : 1 ≤ d := by rw [hd]; exact (Nat.le_div_iff_mul_le hb0).2 (by omega)
        have hd2 : d ≤ 9999 := by
          have : d < 10000 := by rw [hd]; exact (Nat.div_lt_iff_lt_mul hb0).2 hTb
          omega
        have HDv := Lib.hid (fun m : Nat => (show b * m ≤ T ↔ m ≤ d by rw [hd, Nat.le_div_iff_mul_le hb0, Nat.mul_comm]))
        have HBd := Lib.hid (HBg.out d hd)
        have hTd : b * d ≤ T := by rw [hd]; exact Nat.mul_div_le T b
        have HTd := Lib.hid hTd
        clear hd hTd
        go_wp2_with (go_at_call 83; refine HIns.out.mono ?_; rintro e w4 ⟨v4, rfl, hO4, hB4⟩; have HO4 := Lib.hid hO4; have HB4 := Lib.hid hB4; clear hO4 hB4)
        have HQ5 := Lib.hid ((HB4.out.block gq (Nat.lt_succ_self _)).trans ((HB3.out.block gq hQl).trans HQ.out))
        have HB5 := Lib.hid ((HB.out.trans (HB3.out.mono HB.out.size)).trans (HB4.out.mono hgq2))
        go_wp2_with (go_at_call 82; refine (trim_row HO4.out (Nat.succ_pos _) (by simp; omega)).mono ?_; rintro e w5 ⟨v5, rfl, rfl, hO5⟩; rw [HTa.out] at hO5; have HO5 := Lib.hid hO5; clear hO5)
        have HT5 := Lib.hid (HT.out.below HGP.out HB5.out)
        go_wp2_with (go_at_call 48; refine (order0 HT5.out (HO5.out.rd (Nat.succ_pos _)) (HRB.out.below HB5.out) (by omega) (by omega)).mono ?_; rintro e w6 ⟨rfl, hb6⟩; have HB6 := Lib.hid hb6; clear hb6)
        have HB7 := Lib.hid (HB5.out.trans (HB6.out.mono HB5.out.size))
        have HQ7 := Lib.hid ((HB6.out.block gq (Array.getElem?_eq_some_iff.1 HQ5.out).1).trans HQ5.out)
        have HO7 := Lib.hid (HO5.out.below HB6.out)
        clear HIns HSm HBg HO4 HB4 HB6 HO5 HT5 HQ5 HB5 HB3 hc2
        go_loopw [9, 10] (fun lo hi wq => ∃ l h : Nat, lo = .int .i64 l ∧ hi = .int .i64 h ∧ 1 ≤ l ∧ l ≤ d ∧ d ≤ h ∧ h ≤ 9999 ∧ Hid (Below w6.heap.size w6 wq)) (fun lo hi _ => (intOf hi - intOf lo).toNat)
        case atStart => exact ⟨1, 9999, rfl, rfl, Nat.le_refl _, hd1, hd2, Nat.le_refl _, Lib.hid (Below.refl _ _)⟩
        case round =>
          obtain ⟨l, h, rfl, rfl, hl1, hl2, hh1, hh2, HBq⟩ := hrel
          by_cases hlh : l < h
          · have hg3 : (l : Int) < (h : Int) := by omega
            obtain ⟨m, hm⟩ : ∃ m : Nat, m = (l + h + 1) / 2 := ⟨_, rfl⟩
            have hw1 : IntKind.i64.wrap ((l : Int) + (h : Int)) = (l : Int) + (h : Int) := wrap_of (by unfold i64; omega)
            have hw2 : IntKind.i64.wrap ((l : Int) + (h : Int) + 1) = (l : Int) + (h : Int) + 1 := wrap_of (by unfold i64; omega)
            have hdv : ((l : Int) + (h : Int) + 1) / 2 = (m : Int) := by omega
            have hwm : IntKind.i64.wrap (m : Int) = (m : Int) := wrap_of (by unfold i64; omega)
            have hwp : IntKind.i64.wrap (((l : Int) + (h : Int) + 1) / 2 - 1) = ((l : Int) + (h : Int) + 1) / 2 - 1 := wrap_of (by unfold i64; omega)
            have hd1 : dig m = [((l : Int) + (h : Int) + 1) / 2] := by
              rw [hdv]
              have := dig_one (d := (m : Int)) (by omega) (by omega)
              rwa [Int.toNat_natCast] at this
            have hBa : Below wr.heap.size wr (wr.alloc (.cells #[num (((l : Int) + (h : Int) + 1) / 2)] 3)) := (Below.refl _ _).alloc (Nat.le_refl _) _
            have hBw : Below w.heap.size w wr := HB7.out.trans (HBq.out.mono HB7.out.size)
            have hTq : Tab0 wr := HT.out.below HGP.out hBw
            have hpq : 0 < wr.heap.size := hTq.pos
            have hbm : (dig (b * m)).length ≤ (dig b).length + 1 := dig_below (by rw [Nat.mul_comm]; exact Nat.mul_lt_mul_of_pos_right (by omega) hb0)
            have HP := Lib.hid (product0 (a := b) (b := m) (hTq.below hpq hBa) (HRB.out.below (hBw.trans (hBa.mono hBw.size))) (by rw [hd1]; exact RD_one hpq) (by omega) (by rw [hd1]; simp))
            have HBa := Lib.hid hBa
            have HBw := Lib.hid hBw
            have HCm := Lib.hid (cmp_le (b * m) T)
            have HDv2 := Lib.hid hdv
            have HDv3 := Lib.hid hm
            clear hBa hBw hTq hd1 hdv hm hwm
            by_cases hmd : m ≤ d
            · have hc3 : cmpN (b * m) T ≤ 0 := HCm.out.2 ((HDv.out m).2 hmd)
              go_wp2_with (go_at_call 75; refine HP.out.mono ?_; rintro e w8 ⟨v8, rfl, hb8, hr8⟩; have HB8 := Lib.hid hb8; have HR8 := Lib.hid hr8; clear hb8 hr8)
              have HB9 := Lib.hid (HBa.out.trans (HB8.out.mono HBa.out.size))
              have HT9 := Lib.hid (HT.out.below HGP.out (HBw.out.trans (HB9.out.mono HBw.out.size)))
              have HO9 := Lib.hid ((HO7.out.below (HBq.out)).below HB9.out)
              go_wp2_with (go_at_call 48; refine (order0 HT9.out HR8.out (HO9.out.rd (Nat.succ_pos _)) (by omega) (by omega)).mono ?_; rintro e w10 ⟨rfl, hb10⟩; have HB10 := Lib.hid hb10; clear hb10)
              have hE := HDv2.out
              have hE3 := HDv3.out
              refine ⟨⟨m, h, congrArg _ hE, rfl, by omega, hmd, hh1, hh2, Lib.hid ((HBq.out.trans (HB9.out.mono HBq.out.size)).trans (HB10.out.mono (Nat.le_trans HBq.out.size HB9.out.size)))⟩, ?_⟩
              simp only [intOf]
              omega
            · have hc3 : ¬ cmpN (b * m) T ≤ 0 := fun h' => hmd ((HDv.out m).1 (HCm.out.1 h'))
              go_wp2_with (go_at_call 75; refine HP.out.mono ?_; rintro e w8 ⟨v8, rfl, hb8, hr8⟩; have HB8 := Lib.hid hb8; have HR8 := Lib.hid hr8; clear hb8 hr8)
              have HB9 := Lib.hid (HBa.out.trans (HB8.out.mono HBa.out.size))
              have HT9 := Lib.hid (HT.out.below HGP.out (HBw.out.trans (HB9.out.mono HBw.out.size)))
              have HO9 := Lib.hid ((HO7.out.below (HBq.out)).below HB9.out)
              go_wp2_with (go_at_call 48; refine (order0 HT9.out HR8.out (HO9.out.rd (Nat.succ_pos _)) (by omega) (by omega)).mono ?_; rintro e w10 ⟨rfl, hb10⟩; have HB10 := Lib.hid hb10; clear hb10)
              have hE := HDv2.out
              have hE3 := HDv3.out
              refine ⟨⟨l, m - 1, rfl, congrArg _ (by omega), hl1, hl2, by omega, by omega, Lib.hid ((HBq.out.trans (HB9.out.mono HBq.out.size)).trans (HB10.out.mono (Nat.le_trans HBq.out.size HB9.out.size)))⟩, ?_⟩
              simp only [intOf]
              omega
          · have hlde : l = d := by omega
            subst hlde
            have hg3 : ¬ (l : Int) < (h : Int) := by omega
            have hBw : Below w.heap.size w wr := HB7.out.trans (HBq.out.mono HB7.out.size)
            have hTq : Tab0 wr := HT.out.below HGP.out hBw
            have hpq : 0 < wr.heap.size := hTq.pos
            have hql : qs.length = N := HI.out.len.trans hN
            obtain ⟨y, hy⟩ := nth_some (show k < qs.length by omega)
            have hQq : wr.heap[gq]? = some (.cells (qs.map num).toArray 3 (0, 0)) := (HBq.out.block gq (Array.getElem?_eq_some_iff.1 HQ7.out).1).trans HQ7.out
            have hcq : wr.cell? ⟨gq, k, none⟩ = some (num y) := by
              have := row_cells hQq hy
              rwa [Nat.zero_add] at this
            have hfq : wr.frozen? ⟨gq, k, none⟩ = false := by simp [World.frozen?, hQq]
            have HQ8 := Lib.hid (set_row (d := (l : Int)) hQq hy)
            have hS : Below gq wr (wr.setCell ⟨gq, k, none⟩ (num (l : Int))) := set_below
            have HBw2 := Lib.hid (hBw.trans (hS.mono (by omega)))
            have HO8 := Lib.hid ((HO7.out.below HBq.out).set (i := k) (u := num (l : Int)))
            clear hQq hS hBw hTq hy
            have hsz : (wr.setCell ⟨gq, k, none⟩ (num (l : Int))).heap.size = wr.heap.size := by simp [World.setCell]
            have hdl : dig l = [(l : Int)] := by
              have := dig_one (d := (l : Int)) (by omega) (by omega)
              rwa [Int.toNat_natCast] at this
            have hBa : Below (wr.setCell ⟨gq, k, none⟩ (num (l : Int))).heap.size (wr.setCell ⟨gq, k, none⟩ (num (l : Int))) ((wr.setCell ⟨gq, k, none⟩ (num (l : Int))).alloc (.cells #[num (l : Int)] 3)) := (Below.refl _ _).alloc (Nat.le_refl _) _
            have hBw3 := HBw2.out.trans (hBa.mono HBw2.out.size)
            have hP := product0 (a := b) (b := l) (HT.out.below HGP.out hBw3) (HRB.out.below hBw3) (by rw [hdl]; exact RD_one (by rw [hsz]; exact hpq)) (by omega) (by rw [hdl]; simp)
            rw [hsz] at hP
            have HP := Lib.hid hP
            have HBa := Lib.hid hBa
            have HSz := Lib.hid hsz
            clear hP hBa hBw3 hdl hsz
            go_wp2_with (go_at_call 75; refine HP.out.mono ?_; rintro e w8 ⟨v8, rfl, hb8, hr8⟩; have HB8 := Lib.hid hb8; have HR8 := Lib.hid hr8; clear hb8 hr8)
            have HB9 := Lib.hid (HBa.out.trans (HB8.out.mono HBa.out.size))
            have HBw9 := Lib.hid (HBw2.out.trans (HB9.out.mono HBw2.out.size))
            have HO9 := Lib.hid (HO8.out.below HB9.out)
            have HQ9 := Lib.hid ((HB9.out.block gq (Array.getElem?_eq_some_iff.1 HQ8.out).1).trans HQ8.out)
            go_wp2_with (go_at_call 84; refine (less_run w8 v5 v8 T (b * l) (HO9.out.rd (Nat.succ_pos _)) HR8.out HTd.out (by omega) (Nat.lt_of_lt_of_le HGP.out HBw9.out.size)).mono ?_; rintro e w9 ⟨v9, rfl, hO9, hB9⟩; have HO10 := Lib.hid hO9; have HB10 := Lib.hid hB9; clear hO9 hB9)
            have hgl := (Array.getElem?_eq_some_iff.1 HQ9.out).1
            exact ⟨⟨k, T - b * l, qs.set k (l : Int), rfl, by omega, HBd, Lib.hid (HO10.out.weaken hgl), Lib.hid ((HB10.out.block gq hgl).trans HQ9.out), Lib.hid (HBw9.out.trans (HB10.out.mono HBw9.out.size))⟩, by simp [intOf]⟩
end Go.Proofs.YtgadegdhfjnoaaaDoor
/-
  The quotient of digits and the text of a number, told from outside.
-/

namespace Go.Proofs.YtgadegdhfjnoaaaDoor
open Go Go.RowKit
theorem Lie.other {w : World} {A A' : Nat → Nat → Prop} {b : Nat} (h : ∀ o, ¬ A' b o) : ∀ {vs : List Value} {o : Nat}, Lie w A b o vs → Lie w A' b o vs
  | [], _, _ => trivial
  | _ :: _, _, ⟨h1, _, h3⟩ => ⟨h1, h _, Lie.other h h3⟩
theorem PRows.other {w : World} {A A' : Nat → Nat → Prop} {b : Nat} (h : ∀ o, ¬ A' b o) : ∀ (l : List Int) (o : Nat), PRows w A b 1 o (l.map digC) → PRows w A' b 1 o (l.map digC)
  | [], _, _ => by simp only [List.map_nil, PRows]
  | x :: l, o, hr => by
    simp only [List.map_cons, PRows] at hr ⊢
    obtain ⟨h1, ⟨vs, h2, h3⟩, h4⟩ := hr
    refine ⟨h1, ⟨vs, h2.other h, ?_⟩, PRows.other h l _ h4⟩
    match vs, h3 with
    | [v], h3 =>
      simp only [digC, PRs, PR, and_true] at h3 ⊢
      exact h3
theorem tab0_of {C : Cx} (hs : SR C) : Tab0 C.w ∧ ∀ i, C.av 0 i := hs.glob 0 _ (by simp only [Globs.gl, List.mem_singleton])
theorem RD_of {C : Cx} (hs : SR C) {l : List Int} {c : Cap} {v : Value} (h : VR C (.frz (l.map digC) c) v) : RD C.w v l := by
  simp only [VR] at h
  obtain ⟨a, len, cap, rfl, h1, h2, -, h4⟩ := h
  simp only [RD, digA, VR]
  refine ⟨a, len, cap, rfl, h1, h2, trivial, h4.imp id ?_⟩
  rintro ⟨b, o, sz, ea, hr⟩
  refine ⟨b, o, sz, ea, PRows.stays (A := C.Avoid) (fun b' o' v hv ha => ⟨hv, C0_avoid fun hb => ha (.inl (by rw [hb]; exact (tab0_of hs).2 o'))⟩) b sz o _ hr⟩
theorem VR_of_new {C : Cx} (hs : SR C) {w' : World} {v : Value} {l : List Int} (h : RD w' v l) (hn : NewB C.w.heap.size v) : VR (C.at w') (digA l) v := by
  obtain ⟨a, cap, rfl, h2, hc⟩ := RD_slice h
  by_cases hl : l = []
  · subst hl
    simp only [digA, List.map_nil, VR]
    exact ⟨a, 0, cap, rfl, rfl, Nat.zero_le _, trivial, .inl trivial⟩
  · simp only [RD, digA, VR] at h ⊢
    obtain ⟨a', len, cap', e, h1, h3, -, h4⟩ := h
    refine ⟨a', len, cap', e, h1, h3, trivial, .inr ?_⟩
    rcases h4 with h4 | ⟨b, o, sz, ea, hr⟩
    · exact absurd (by simpa using h4) hl
    · have hsz : sz = 1 := by
        cases l with
        | nil => exact absurd rfl hl
        | cons y l => simp only [List.map_cons, PRows, digC] at hr; exact hr.1.symm
      subst hsz
      subst ea
      have hb := hn b o _ _ e
      exact ⟨b, o, 1, rfl, PRows.other (fun o' ha => by
        rcases ha with ha | ha
        · have := hs.avlt b o' ha; omega
        · have := mut_lt hs (show C.Mut b o' from ha); omega) l o hr⟩
theorem Quo_run {C : Cx} {vs : Array Value} (hs : SR C) (l r : List Int) (c d : Cap) (hl : l = dig (val l).toNat) (hr : r = dig (val r).toNat) (hr0 : r ≠ []) (h1 : l.length ≤ 90000) (h2 : r.length ≤ 90000) (hv : VRs C [.frz (l.map digC) c, .frz (r.map digC) d] vs.toList) :
    Calls Tryd.prog 61 vs C.w fun e w' => ∃ v C', e = .returned v ∧ C'.w = w' ∧ Le C C' ∧ SR C' ∧ C'.S = C.S ∧ C'.tk = C.tk ∧ C'.n = C.n ∧ VR C' (.tup [digA (dig ((val l).toNat / (val r).toNat)), digA (dig ((val l).toNat % (val r).toNat))]) v := by
  obtain ⟨vl⟩ := vs
  match vl, hv with
  | [x, y], hv =>
  simp only [VRs, and_true] at hv
  obtain ⟨hx, hy⟩ := hv
  have hb0 : 0 < (val r).toNat := by
    rcases Nat.eq_zero_or_pos (val r).toNat with h | h
    · rw [h, dig_zero] at hr; exact absurd hr hr0
    · exact h
  refine (quotient_run C.w x y (val l).toNat (val r).toNat (tab0_of hs).1 (by rw [← hl]; exact RD_of hs hx) (by rw [← hr]; exact RD_of hs hy) hb0 (by rw [← hl]; exact h1) (by rw [← hr]; exact h2)).mono ?_
  rintro e w' ⟨v1, v2, rfl, g1, g2, hb, n1, n2⟩
  refine ⟨_, C.at w', rfl, rfl, Le.of_below hb, SR.of_below hs hb, rfl, rfl, rfl, ?_⟩
  unfold VR
  refine ⟨_, rfl, ?_⟩
  simp only [VRs, and_true]
  refine ⟨VR_of_new hs g1 n1, ?_⟩
  rcases n2 with ⟨rfl, e2⟩ | n2
  · rw [e2, ← hl]
    have hx2 := VR.mono (Le.of_below hb) _ _ hx
    simp only [digA, VR] at hx2 ⊢
    obtain ⟨a, len, cap, q1, q2, q3, -, q4⟩ := hx2
    exact ⟨a, len, cap, q1, q2, q3, trivial, q4⟩
  · exact VR_of_new hs g2 n2
theorem quo_some {l r : List Int} {v : AV} (h : quoF l r = some v) : l = dig (val l).toNat ∧ r = dig (val r).toNat ∧ r ≠ [] ∧ l.length ≤ 90000 ∧ r.length ≤ 90000 ∧ v = .tup [digA (dig ((val l).toNat / (val r).toNat)), digA (dig ((val l).toNat % (val r).toNat))] := by
  unfold quoF at h
  split at h
  · rename_i hh
    simp only [Option.some.injEq] at h
    exact ⟨hh.1, hh.2.1, hh.2.2.1, hh.2.2.2.1, hh.2.2.2.2, h.symm⟩
  · simp at h
theorem ext1_some {f : FuncId} {args : List AV} {S : List Ent} {tk : List Nat} {n : Nat} {r : AV} {S' : List Ent} {tk' : List Nat} {n' : Nat} (h : @extC Tryd.prog E1 f args S tk n = some (r, S', tk', n')) :
    S' = S ∧ tk' = tk ∧ n' = n ∧ ((f = 65 ∧ ∃ neg l c, args = [.agg [.prim (.bool neg), .frz (l.map digC) c]] ∧ l.length ≤ 1000000 ∧ r = .prim (.string (textF neg l))) ∨
      (f = 61 ∧ ∃ l y c d, args = [.frz (l.map digC) c, .frz (y.map digC) d] ∧ quoF l y = some r)) := by
  unfold extC at h
  split at h
  · by_cases hf : f = 65
    · subst hf
      simp only [Ext.call, beq_self_eq_true, if_true] at h
      split at h
      · rename_i neg es c
        split at h
        · rename_i l hl
          split at h
          · rename_i hlen
            simp only [Option.some.injEq, Prod.mk.injEq] at h
            obtain ⟨rfl, rfl, rfl, rfl⟩ := h
            exact ⟨rfl, rfl, rfl, .inl ⟨rfl, neg, l, c, by rw [intsOf_some hl], hlen, rfl⟩⟩
          · simp at h
        · simp at h
      · simp at h
    · have hf1 : (f == 65) = false := by simpa using hf
      simp only [Ext.call, hf1, Bool.false_eq_true, if_false] at h
      split at h
      · rename_i hf2
        have hf2 : f = 61 := by simpa using hf2
        split at h
        · rename_i es c ys d
          split at h
          · rename_i l y hl hy
            split at h
            · rename_i v hv
              simp only [Option.some.injEq, Prod.mk.injEq] at h
              obtain ⟨rfl, rfl, rfl, rfl⟩ := h
              exact ⟨rfl, rfl, rfl, .inr ⟨hf2, l, y, c, d, by rw [intsOf_some hl, intsOf_some hy], hv⟩⟩
            · simp at h
          · simp at h
        · simp at h
      · simp at h
  · simp at h
theorem ext1_same {f : FuncId} {args : List AV} {S S2 : List Ent} {tk tk2 : List Nat} {n n2 : Nat} {r : AV} {S' : List Ent} {tk' : List Nat} {n' : Nat} (h : @extC Tryd.prog E1 f args S tk n = some (r, S', tk', n')) : @extC Tryd.prog E1 f args S2 tk2 n2 = some (r, S2, tk2, n2) := by
  obtain ⟨-, -, -, hh⟩ := ext1_some h
  rcases hh with ⟨rfl, neg, l, c, rfl, hlen, rfl⟩ | ⟨rfl, l, y, c, d, rfl, hq⟩
  · simp [extC, Ext.on, Ext.call, intsOf_map, hlen]
  · simp [extC, Ext.on, Ext.call, intsOf_map, hq]
/-- from here on the two functions are told -/
@[reducible] noncomputable instance E1i : Ext Tryd.prog := E1
instance ok1 : ExtOk Tryd.prog := {
  ok := fun f args S tk n r S' tk' n' h => by
    obtain ⟨rfl, rfl, rfl, hh⟩ := ext1_some h
    rcases hh with ⟨rfl, neg, l, c, rfl, hlen, rfl⟩ | ⟨rfl, l, y, c, d, rfl, hq⟩
    · refine ⟨⟨_, Tryd.func65, by decide +kernel, by decide +kernel⟩, fun C vs h1 h2 h3 hs hv => ?_⟩
      subst h1 h2 h3
      exact Text_run hs neg l c hlen hv
    · refine ⟨⟨_, Tryd.func61, by decide +kernel, by decide +kernel⟩, fun C vs h1 h2 h3 hs hv => ?_⟩
      subst h1 h2 h3
      obtain ⟨q1, q2, q3, q4, q5, rfl⟩ := quo_some hq
      exact Quo_run hs l y c d q1 q2 q3 q4 q5 hv
  indep := fun M f args S tk n r S' tk' n' h => by
    unfold callP at h
    split at h
    · rename_i hp
      obtain ⟨e1, e2, e3, -⟩ := ext1_some h
      refine ⟨e1, e2, .inr ⟨e3, fun S2 tk2 n2 => ?_⟩⟩
      unfold callP
      rw [if_pos hp]
      exact ext1_same h
    · simp at h }
section
variable (S : List Ent) (tk : List Nat) (k : Nat)
theorem big_Text (neg : Bool) (l : List Int) (c : Cap) (hlen : l.length ≤ 1000000) : cL Tryd.prog 65 [.agg [.bool neg, .frz (l.map digC) c]] S tk k = some (.str (textF neg l), S, tk, k) := by
  refine call_ext rfl ?_
  simp [Ext.call, intsOf_map, hlen]
theorem rat_quotient (a b : Nat) (c d : Cap) (hb : 0 < b) (ha : (dig a).length ≤ 90000) (hb2 : (dig b).length ≤ 90000) : cL Tryd.prog 61 [.frz ((dig a).map digC) c, .frz ((dig b).map digC) d] S tk k = some (.tup [digA (dig (a / b)), digA (dig (a % b))], S, tk, k) := by
  refine call_ext rfl ?_
  have e1 : (val (dig a)).toNat = a := by rw [val_dig]; rfl
  have e2 : (val (dig b)).toNat = b := by rw [val_dig]; rfl
  have hq : quoF (dig a) (dig b) = some (.tup [digA (dig (a / b)), digA (dig (a % b))]) := by
    unfold quoF
    rw [e1, e2, if_pos ⟨rfl, rfl, fun h => by have := dig_nil.1 h; omega, ha, hb2⟩]
  simp [Ext.call, intsOf_map, hq]
end
end Go.Proofs.YtgadegdhfjnoaaaDoor
/-
  What the functions of the fractions compute: small numbers, the greatest common divisor.
-/


namespace Go.Proofs.YtgadegdhfjnoaaaDoor
open Go
theorem dig_small {a n : Nat} (h : (dig a).length ≤ n) : a < 10000 ^ n := dig_len.1 h
theorem topV_lt {a k : Nat} : topV (dig a) k ≤ a := by
  have h1 : val ((dig a).take k) + 10000 ^ ((dig a).take k).length * val ((dig a).drop k) = a := by
    rw [← val_append, List.take_append_drop, val_dig]
  have h2 := val_nonneg (l := (dig a).take k) fun d hd => okD_dig a d (List.mem_of_mem_take hd)
  have h3 := val_nonneg (l := (dig a).drop k) fun d hd => okD_dig a d (List.mem_of_mem_drop hd)
  have h4 : val ((dig a).drop k) ≤ 10000 ^ ((dig a).take k).length * val ((dig a).drop k) := by
    have hp : (1 : Int) ≤ 10000 ^ ((dig a).take k).length := by
      have := pow_pos4 ((dig a).take k).length; omega
    have := Int.mul_le_mul_of_nonneg_right hp h3
    omega
  unfold topV
  omega
theorem topV_end (A : List Int) : topV A A.length = 0 := by unfold topV; rw [List.drop_length]; rfl
section
variable (S : List Ent) (tk : List Nat) (k : Nat)
theorem rat_number (a : Nat) (ha : (dig a).length ≤ 4) : cL Tryd.prog 72 [digA (dig a)] S tk k = some (.int (a : Nat), S, tk, k) := by
  have hsm : a < 10000000000000000 := dig_small ha
  have d3 := top_idx (n := (dig a).length) (by omega)
  refine call_pure Tryd.func72 rfl rfl (by decide +kernel) (by decide +kernel) Tryd.ntmps72 rfl rfl _ _ _ rfl ?_; rw [RK_KX]
  simp (maxSteps := 1000000) +contextual (disch := first | with_reducible assumption | exact ⟨rfl⟩ | exact ⟨rfl, rfl⟩ | (refine _root_.id ?_; kernel_rfl) | omega) only [evs, ext_mv, nth, put, putT, getT, binInt, binStr, binBool, aUn, outA, resA, mapO, resA1, oneOf, w1, w2, w3, bots, cond_true, cond_false, if_true, if_false, ite_true, ite_false, reduceIte, reduceCtorEq, implies_true, Nat.reduceAdd, Nat.reduceSub, AV.int, AV.bool, AV.str, Nat.reduceBEq, Nat.reduceEqDiff, Nat.reduceMul, Nat.reduceLT, Nat.reduceLeDiff, Int.reduceNeg, BEq.rfl, beq_self_eq_true, tabl, cellsOf, fldA, ldA, stA, entAt, partA, takeN, over, leafOk, Value.oneCell', idxA, nilA, cellsEq, fillA, elemsA, pure1, pure2, reps, chkA, tys, Tryd.results72, KX_draw, KX_drawQ, KX_tail, lastO_one, lastO_more, dropL_one, dropL_more, callP_eq, callM_true, digA, d3]
  refine loop1 (fun x st => st.T.length = 20 ∧ (x.1 ≤ (dig a).length) ∧ (x.2 = ((topV (dig a) x.1 : Nat) : Int)) ∧ getT st.T 0 = digA (dig a) ∧ getT st.T 3 = .int x.2 ∧ getT st.T 4 = .int ((x.1 : Int) - 1) ∧ st.S = []) (fun x => x.1) (fun x => .int (a : Nat)) ((dig a).length, (0 : Int)) ?_ ?_
  case refine_2 => exact ⟨rfl, Nat.le_refl _, by rw [topV_end]; rfl, rfl, rfl, rfl, rfl⟩
  rintro ⟨n, v⟩ ⟨T, S', tk', n'⟩ ⟨hl, hn, hv, e0, e3, e4, eS⟩ IH
  simp only at hn hv e0 e3 e4 eS
  subst eS
  obtain ⟨g, hg, hT⟩ := tab_of hl
  rw [hg] at e0 e3 e4
  subst hT
  clear hg hl
  subst hv
  by_cases h0 : n = 0
  · subst h0
    have d2 : decide (((0 : Nat) : Int) - 1 ≥ 0) = false := rfl
    have ht : topV (dig a) 0 = a := by unfold topV; rw [List.drop_zero, val_dig]; rfl
    rw [ht] at e3
    simp (maxSteps := 1000000) +contextual (disch := first | with_reducible assumption | exact ⟨rfl⟩ | exact ⟨rfl, rfl⟩ | (refine _root_.id ?_; kernel_rfl) | omega) only [evs, ext_mv, nth, put, putT, getT, binInt, binStr, binBool, aUn, outA, resA, mapO, resA1, oneOf, w1, w2, w3, bots, cond_true, cond_false, if_true, if_false, ite_true, ite_false, reduceIte, reduceCtorEq, implies_true, Nat.reduceAdd, Nat.reduceSub, AV.int, AV.bool, AV.str, Nat.reduceBEq, Nat.reduceEqDiff, Nat.reduceMul, Nat.reduceLT, Nat.reduceLeDiff, Int.reduceNeg, BEq.rfl, beq_self_eq_true, tabl, cellsOf, fldA, ldA, stA, entAt, partA, takeN, over, leafOk, Value.oneCell', idxA, nilA, cellsEq, fillA, elemsA, pure1, pure2, reps, chkA, tys, Tryd.results72, KX_draw, KX_drawQ, KX_tail, lastO_one, lastO_more, dropL_one, dropL_more, callP_eq, callM_true, e0, e3, e4, d2, digA]
  · have d2 : decide ((n : Int) - 1 ≥ 0) = true := by simp; omega
    have hi : (n : Int) - 1 = ((n - 1 : Nat) : Int) := by omega
    obtain ⟨x, hx⟩ := nth_some (show n - 1 < (dig a).length by omega)
    have hx' := nth_dig hx
    have hxk := of_okD (okD_dig a) hx
    have hst := topV_step (okD_dig a) hx
    rw [show n - 1 + 1 = n by omega] at hst
    have hb1 := topV_lt (a := a) (k := n)
    have hb2 := topV_lt (a := a) (k := n - 1)
    have hp := top_idx (n := n - 1) (by omega)
    have hw1 : IntKind.i64.wrap ((topV (dig a) n : Int) * 10000) = (topV (dig a) n : Int) * 10000 := wrap_of (by unfold i64; omega)
    have hw2 : IntKind.i64.wrap ((topV (dig a) n : Int) * 10000 + x) = ((topV (dig a) (n - 1) : Nat) : Int) := by
      rw [wrap_of (by unfold i64; omega)]; omega
    rw [hi] at e4 d2
    simp (maxSteps := 1000000) +contextual (disch := first | with_reducible assumption | exact ⟨rfl⟩ | exact ⟨rfl, rfl⟩ | (refine _root_.id ?_; kernel_rfl) | omega) only [evs, ext_mv, nth, put, putT, getT, binInt, binStr, binBool, aUn, outA, resA, mapO, resA1, oneOf, w1, w2, w3, bots, cond_true, cond_false, if_true, if_false, ite_true, ite_false, reduceIte, reduceCtorEq, implies_true, Nat.reduceAdd, Nat.reduceSub, AV.int, AV.bool, AV.str, Nat.reduceBEq, Nat.reduceEqDiff, Nat.reduceMul, Nat.reduceLT, Nat.reduceLeDiff, Int.reduceNeg, BEq.rfl, beq_self_eq_true, tabl, cellsOf, fldA, ldA, stA, entAt, partA, takeN, over, leafOk, Value.oneCell', idxA, nilA, cellsEq, fillA, elemsA, pure1, pure2, reps, chkA, tys, Tryd.results72, KX_draw, KX_drawQ, KX_tail, lastO_one, lastO_more, dropL_one, dropL_more, callP_eq, callM_true, e0, e3, e4, d2, digA, hx', hp, hw1, hw2]
    exact IH (n - 1, ((topV (dig a) (n - 1) : Nat) : Int)) _ (by first | omega | (simp only; omega)) ⟨rfl, by first | omega | (dsimp only; omega), rfl, (by first | rfl | simp only [getT, List.map_append, List.map_cons, List.map_nil, digC, digA]), (by first | rfl | simp only [getT, List.map_append, List.map_cons, List.map_nil, digC, digA]), (by first | rfl | simp only [getT, List.map_append, List.map_cons, List.map_nil, digC, digA]), (by first | rfl | simp only [getT, List.map_append, List.map_cons, List.map_nil, digC, digA])⟩
theorem rat_digits (a : Nat) (ha : a < 10000000000000000) : cL Tryd.prog 73 [.int (a : Nat)] S tk k = some (digA (dig a), S, tk, k) := by
  refine call_pure Tryd.func73 rfl rfl (by decide +kernel) (by decide +kernel) Tryd.ntmps73 rfl rfl _ _ _ rfl ?_; rw [RK_KX]
  simp (maxSteps := 1000000) +contextual (disch := first | with_reducible assumption | exact ⟨rfl⟩ | exact ⟨rfl, rfl⟩ | (refine _root_.id ?_; kernel_rfl) | omega) only [evs, ext_mv, nth, put, putT, getT, binInt, binStr, binBool, aUn, outA, resA, mapO, resA1, oneOf, w1, w2, w3, bots, cond_true, cond_false, if_true, if_false, ite_true, ite_false, reduceIte, reduceCtorEq, implies_true, Nat.reduceAdd, Nat.reduceSub, AV.int, AV.bool, AV.str, Nat.reduceBEq, Nat.reduceEqDiff, Nat.reduceMul, Nat.reduceLT, Nat.reduceLeDiff, Int.reduceNeg, BEq.rfl, beq_self_eq_true, tabl, cellsOf, fldA, ldA, stA, entAt, partA, takeN, over, leafOk, Value.oneCell', idxA, nilA, cellsEq, fillA, elemsA, pure1, pure2, reps, chkA, tys, Tryd.results73, KX_draw, KX_drawQ, KX_tail, lastO_one, lastO_more, dropL_one, dropL_more, callP_eq, callM_true]
  refine loop1 (fun x st => st.T.length = 14 ∧ (x.1 ≤ a) ∧ (x.2.1 ++ dig x.1 = dig a) ∧ (okCap st.tk x.2.2 1 = true) ∧ getT st.T 0 = .int (x.1 : Nat) ∧ getT st.T 3 = .frz (x.2.1.map digC) x.2.2 ∧ st.S = []) (fun x => x.1) (fun x => digA (dig a)) (a, [], .nilc) ?_ ?_
  case refine_2 => exact ⟨rfl, Nat.le_refl _, rfl, rfl, rfl, rfl, rfl⟩
  rintro ⟨m, zs, cp⟩ ⟨T, S', tk', n'⟩ ⟨hl, hm, he, hok, e0, e3, eS⟩ IH
  simp only at hm he hok e0 e3 eS
  subst eS
  obtain ⟨g, hg, hT⟩ := tab_of hl
  rw [hg] at e0 e3
  subst hT
  clear hg hl
  have hr := rowsOk_dig zs
  have hok' := okCap_new hok
  have hla : (dig a).length ≤ 4 := dig_len.2 ha
  have hzl : zs.length ≤ 4 := by
    have := congrArg List.length he
    simp at this; omega
  have hn1 : (zs.map digC).length + 1 ≤ 1048576 := by simp; omega
  by_cases h0 : m = 0
  · subst h0
    have d1 : decide (((0 : Nat) : Int) > 0) = false := rfl
    rw [dig_zero, List.append_nil] at he
    subst he
    simp (maxSteps := 1000000) +contextual (disch := first | with_reducible assumption | exact ⟨rfl⟩ | exact ⟨rfl, rfl⟩ | (refine _root_.id ?_; kernel_rfl) | omega) only [evs, ext_mv, nth, put, putT, getT, binInt, binStr, binBool, aUn, outA, resA, mapO, resA1, oneOf, w1, w2, w3, bots, cond_true, cond_false, if_true, if_false, ite_true, ite_false, reduceIte, reduceCtorEq, implies_true, Nat.reduceAdd, Nat.reduceSub, AV.int, AV.bool, AV.str, Nat.reduceBEq, Nat.reduceEqDiff, Nat.reduceMul, Nat.reduceLT, Nat.reduceLeDiff, Int.reduceNeg, BEq.rfl, beq_self_eq_true, tabl, cellsOf, fldA, ldA, stA, entAt, partA, takeN, over, leafOk, Value.oneCell', idxA, nilA, cellsEq, fillA, elemsA, pure1, pure2, reps, chkA, tys, Tryd.results73, KX_draw, KX_drawQ, KX_tail, lastO_one, lastO_more, dropL_one, dropL_more, callP_eq, callM_true, e0, e3, d1]
    rfl
  · have d1 : decide ((m : Int) > 0) = true := by simp; omega
    have hz' : ¬ ((10000 : Int) = 0) := by omega
    have hq : IntKind.i64.wrap ((m : Int).tdiv 10000) = ((m / 10000 : Nat) : Int) := by
      rw [Int.tdiv_eq_ediv_of_nonneg (by omega), wrap_of (by unfold i64; omega)]; rfl
    have hm' : (m : Int).tmod 10000 = ((m % 10000 : Nat) : Int) := by rw [Int.tmod_eq_emod_of_nonneg (by omega)]; rfl
    simp (maxSteps := 1000000) +contextual (disch := first | with_reducible assumption | exact ⟨rfl⟩ | exact ⟨rfl, rfl⟩ | (refine _root_.id ?_; kernel_rfl) | omega) only [evs, ext_mv, nth, put, putT, getT, binInt, binStr, binBool, aUn, outA, resA, mapO, resA1, oneOf, w1, w2, w3, bots, cond_true, cond_false, if_true, if_false, ite_true, ite_false, reduceIte, reduceCtorEq, implies_true, Nat.reduceAdd, Nat.reduceSub, AV.int, AV.bool, AV.str, Nat.reduceBEq, Nat.reduceEqDiff, Nat.reduceMul, Nat.reduceLT, Nat.reduceLeDiff, Int.reduceNeg, BEq.rfl, beq_self_eq_true, tabl, cellsOf, fldA, ldA, stA, entAt, partA, takeN, over, leafOk, Value.oneCell', idxA, nilA, cellsEq, fillA, elemsA, pure1, pure2, reps, chkA, tys, Tryd.results73, KX_draw, KX_drawQ, KX_tail, lastO_one, lastO_more, dropL_one, dropL_more, callP_eq, callM_true, e0, e3, d1, hz', hq, hm', hr]
    exact IH (m / 10000, zs ++ [((m % 10000 : Nat) : Int)], capNew tk' cp 1) _ (by first | omega | (simp only; omega)) ⟨rfl, by first | omega | (dsimp only; omega), by rw [← he, dig_step h0]; simp, hok', (by first | rfl | simp only [getT, List.map_append, List.map_cons, List.map_nil, digC, digA]), (by first | rfl | simp only [getT, List.map_append, List.map_cons, List.map_nil, digC, digA]), (by first | rfl | simp only [getT, List.map_append, List.map_cons, List.map_nil, digC, digA])⟩
set_option maxRecDepth 100000 in
theorem rat_divisor (a b : Nat) (ha : (dig a).length ≤ 90000) (hb : (dig b).length ≤ 90000) : cL Tryd.prog 49 [digA (dig a), digA (dig b)] S tk k = some (digA (dig (a.gcd b)), S, tk, k) := by
  refine call_pure Tryd.func49 rfl rfl (by decide +kernel) (by decide +kernel) Tryd.ntmps49 rfl rfl _ _ _ rfl ?_; rw [RK_KX]
  simp (maxSteps := 1000000) +contextual (disch := first | with_reducible assumption | exact ⟨rfl⟩ | exact ⟨rfl, rfl⟩ | (refine _root_.id ?_; kernel_rfl) | omega) only [evs, ext_mv, nth, put, putT, getT, binInt, binStr, binBool, aUn, outA, resA, mapO, resA1, oneOf, w1, w2, w3, bots, cond_true, cond_false, if_true, if_false, ite_true, ite_false, reduceIte, reduceCtorEq, implies_true, Nat.reduceAdd, Nat.reduceSub, AV.int, AV.bool, AV.str, Nat.reduceBEq, Nat.reduceEqDiff, Nat.reduceMul, Nat.reduceLT, Nat.reduceLeDiff, Int.reduceNeg, BEq.rfl, beq_self_eq_true, tabl, cellsOf, fldA, ldA, stA, entAt, partA, takeN, over, leafOk, Value.oneCell', idxA, nilA, cellsEq, fillA, elemsA, pure1, pure2, reps, chkA, tys, Tryd.results49, KX_draw, KX_drawQ, KX_tail, lastO_one, lastO_more, dropL_one, dropL_more, callP_eq, callM_true, digA]
  refine loop1 (fun x st => st.T.length = 33 ∧ (x.1.gcd x.2 = a.gcd b) ∧ ((dig x.1).length ≤ 90000) ∧ ((dig x.2).length ≤ 90000) ∧ getT st.T 0 = digA (dig x.1) ∧ getT st.T 1 = digA (dig x.2) ∧ st.S = []) (fun x => x.2) (fun x => digA (dig (a.gcd b))) (a, b) ?_ ?_
  case refine_2 => exact ⟨rfl, rfl, ha, hb, rfl, rfl, rfl⟩
  rintro ⟨x, y⟩ ⟨T, S', tk', n'⟩ ⟨hl, hg, hx, hy, e0, e1, eS⟩ IH
  simp only at hg hx hy e0 e1 eS
  subst eS
  obtain ⟨g, hg, hT⟩ := tab_of hl
  rw [hg] at e0 e1
  subst hT
  clear hg hl
  by_cases h0 : y = 0
  · subst h0
    have d1 : decide ((((dig 0).length : Nat) : Int) > 0) = false := rfl
    rw [Nat.gcd_zero_right] at hg
    simp (maxSteps := 1000000) +contextual (disch := first | with_reducible assumption | exact ⟨rfl⟩ | exact ⟨rfl, rfl⟩ | (refine _root_.id ?_; kernel_rfl) | omega) only [evs, ext_mv, nth, put, putT, getT, binInt, binStr, binBool, aUn, outA, resA, mapO, resA1, oneOf, w1, w2, w3, bots, cond_true, cond_false, if_true, if_false, ite_true, ite_false, reduceIte, reduceCtorEq, implies_true, Nat.reduceAdd, Nat.reduceSub, AV.int, AV.bool, AV.str, Nat.reduceBEq, Nat.reduceEqDiff, Nat.reduceMul, Nat.reduceLT, Nat.reduceLeDiff, Int.reduceNeg, BEq.rfl, beq_self_eq_true, tabl, cellsOf, fldA, ldA, stA, entAt, partA, takeN, over, leafOk, Value.oneCell', idxA, nilA, cellsEq, fillA, elemsA, pure1, pure2, reps, chkA, tys, Tryd.results49, KX_draw, KX_drawQ, KX_tail, lastO_one, lastO_more, dropL_one, dropL_more, callP_eq, callM_true, e0, e1, d1, digA]
    rw [hg]
  · have hyl : 0 < (dig y).length := List.length_pos_iff.2 fun h => h0 (dig_nil.1 h)
    have d1 : decide (((dig y).length : Int) > 0) = true := by simp; omega
    have hQ := fun c d S tk k => rat_quotient S tk k x y c d (by omega) hx hy
    simp only [digA] at hQ
    have hlt := Nat.mod_lt x (by omega : 0 < y)
    have hym : (dig (x % y)).length ≤ 90000 := Nat.le_trans (dig_len.2 (Nat.lt_trans hlt (dig_len.1 (Nat.le_refl _)))) hy
    have hgn : y.gcd (x % y) = a.gcd b := by rw [← hg, Nat.gcd_comm x y]; exact (Nat.gcd_rec y x).symm ▸ Nat.gcd_comm y (x % y)
    by_cases h4 : (dig x).length ≤ 4
    · have d2 : decide (((dig x).length : Int) ≤ 4) = true := by simp; omega
      by_cases h5 : (dig y).length ≤ 4
      · have d3 : decide (((dig y).length : Int) ≤ 4) = true := by simp; omega
        have hx1 : x < 10000000000000000 := dig_small h4
        have hy1 : y < 10000000000000000 := dig_small h5
        have hN1 := fun S tk k => rat_number S tk k x h4
        have hN2 := fun S tk k => rat_number S tk k y h5
        have hC := fun S tk k => told (E := E1) (rat_common S tk k x y (by omega) (by omega))
        have hD := fun S tk k => rat_digits S tk k (x.gcd y) (Nat.lt_of_le_of_lt (Nat.gcd_le_right x (by omega)) hy1)
        simp only [digA] at hN1 hN2 hD
        simp (maxSteps := 1000000) +contextual (disch := first | with_reducible assumption | exact ⟨rfl⟩ | exact ⟨rfl, rfl⟩ | (refine _root_.id ?_; kernel_rfl) | omega) only [evs, ext_mv, nth, put, putT, getT, binInt, binStr, binBool, aUn, outA, resA, mapO, resA1, oneOf, w1, w2, w3, bots, cond_true, cond_false, if_true, if_false, ite_true, ite_false, reduceIte, reduceCtorEq, implies_true, Nat.reduceAdd, Nat.reduceSub, AV.int, AV.bool, AV.str, Nat.reduceBEq, Nat.reduceEqDiff, Nat.reduceMul, Nat.reduceLT, Nat.reduceLeDiff, Int.reduceNeg, BEq.rfl, beq_self_eq_true, tabl, cellsOf, fldA, ldA, stA, entAt, partA, takeN, over, leafOk, Value.oneCell', idxA, nilA, cellsEq, fillA, elemsA, pure1, pure2, reps, chkA, tys, Tryd.results49, KX_draw, KX_drawQ, KX_tail, lastO_one, lastO_more, dropL_one, dropL_more, callP_eq, callM_true, e0, e1, d1, d2, d3, digA, hN1, hN2, hC, hD]
        rw [hg]
      · have d3 : decide (((dig y).length : Int) ≤ 4) = false := by simp; omega
        simp (maxSteps := 1000000) +contextual (disch := first | with_reducible assumption | exact ⟨rfl⟩ | exact ⟨rfl, rfl⟩ | (refine _root_.id ?_; kernel_rfl) | omega) only [evs, ext_mv, nth, put, putT, getT, binInt, binStr, binBool, aUn, outA, resA, mapO, resA1, oneOf, w1, w2, w3, bots, cond_true, cond_false, if_true, if_false, ite_true, ite_false, reduceIte, reduceCtorEq, implies_true, Nat.reduceAdd, Nat.reduceSub, AV.int, AV.bool, AV.str, Nat.reduceBEq, Nat.reduceEqDiff, Nat.reduceMul, Nat.reduceLT, Nat.reduceLeDiff, Int.reduceNeg, BEq.rfl, beq_self_eq_true, tabl, cellsOf, fldA, ldA, stA, entAt, partA, takeN, over, leafOk, Value.oneCell', idxA, nilA, cellsEq, fillA, elemsA, pure1, pure2, reps, chkA, tys, Tryd.results49, KX_draw, KX_drawQ, KX_tail, lastO_one, lastO_more, dropL_one, dropL_more, callP_eq, callM_true, e0, e1, d1, d2, d3, digA, hQ]
        exact IH (y, x % y) _ (by first | omega | (simp only; omega)) ⟨rfl, hgn, hy, hym, (by first | rfl | simp only [getT, List.map_append, List.map_cons, List.map_nil, digC, digA]), (by first | rfl | simp only [getT, List.map_append, List.map_cons, List.map_nil, digC, digA]), (by first | rfl | simp only [getT, List.map_append, List.map_cons, List.map_nil, digC, digA])⟩
    · have d2 : decide (((dig x).length : Int) ≤ 4) = false := by simp; omega
      simp (maxSteps := 1000000) +contextual (disch := first | with_reducible assumption | exact ⟨rfl⟩ | exact ⟨rfl, rfl⟩ | (refine _root_.id ?_; kernel_rfl) | omega) only [evs, ext_mv, nth, put, putT, getT, binInt, binStr, binBool, aUn, outA, resA, mapO, resA1, oneOf, w1, w2, w3, bots, cond_true, cond_false, if_true, if_false, ite_true, ite_false, reduceIte, reduceCtorEq, implies_true, Nat.reduceAdd, Nat.reduceSub, AV.int, AV.bool, AV.str, Nat.reduceBEq, Nat.reduceEqDiff, Nat.reduceMul, Nat.reduceLT, Nat.reduceLeDiff, Int.reduceNeg, BEq.rfl, beq_self_eq_true, tabl, cellsOf, fldA, ldA, stA, entAt, partA, takeN, over, leafOk, Value.oneCell', idxA, nilA, cellsEq, fillA, elemsA, pure1, pure2, reps, chkA, tys, Tryd.results49, KX_draw, KX_drawQ, KX_tail, lastO_one, lastO_more, dropL_one, dropL_more, callP_eq, callM_true, e0, e1, d1, d2, digA, hQ]
      exact IH (y, x % y) _ (by first | omega | (simp only; omega)) ⟨rfl, hgn, hy, hym, (by first | rfl | simp only [getT, List.map_append, List.map_cons, List.map_nil, digC, digA]), (by first | rfl | simp only [getT, List.map_append, List.map_cons, List.map_nil, digC, digA]), (by first | rfl | simp only [getT, List.map_append, List.map_cons, List.map_nil, digC, digA])⟩
end
end Go.Proofs.YtgadegdhfjnoaaaDoor
/-
  What the functions of the fractions compute: small parts, signs, sums and products of whole numbers.
-/

namespace Go.Proofs.YtgadegdhfjnoaaaDoor
open Go
/-- a part with at most two digits -/
def smB (z : Int) : Bool := !decide (2 < (dig z.natAbs).length)
def smN (z : Int) : Int := if smB z = true then z else 0
theorem smB_lt {z : Int} (h : smB z = true) : z.natAbs < 100000000 := by
  have h2 : (dig z.natAbs).length ≤ 2 := by simpa [smB] using h
  exact dig_small h2
theorem zneg (z : Int) : (!decide (z < 0) && !decide (dig z.natAbs = [])) = decide (-z < 0) := by
  have h1 : dig z.natAbs = [] ↔ z.natAbs = 0 := dig_nil
  by_cases h : z < 0
  · have h2 : ¬ (-z < 0) := by omega
    simp [h]; omega
  · by_cases h0 : z = 0
    · subst h0; rfl
    · have h2 : -z < 0 := by omega
      have h3 : ¬ dig z.natAbs = [] := fun e => by have := h1.1 e; omega
      simp [h, h3]; omega
theorem dlen_pos (n : Nat) : decide (((dig n).length : Int) > 0) = !decide (dig n = []) := by
  cases h : dig n with
  | nil => rfl
  | cons x l => simp
theorem sg_zA (z : Int) : sg (decide (z < 0)) z.natAbs = z := by
  by_cases h : z < 0 <;> simp [sg, h] <;> omega
theorem neg_add_same {x y : Int} (h : decide (x < 0) = decide (y < 0)) : decide (x + y < 0) = decide (x < 0) ∧ (x + y).natAbs = x.natAbs + y.natAbs := by
  have h' : (x < 0) ↔ (y < 0) := by simpa using h
  constructor
  · rw [decide_eq_decide]; omega
  · omega
section
variable (S : List Ent) (tk : List Nat) (k : Nat)
theorem rat_small (z : Int) : cL Tryd.prog 46 [zA z] S tk k = some (.tup [.int (smN z), .bool (smB z)], S, tk, k) := by
  refine call_pure Tryd.func46 rfl rfl (by decide +kernel) (by decide +kernel) Tryd.ntmps46 rfl rfl _ _ _ (rfl) ?_; rw [RK_KX]
  by_cases h : (dig z.natAbs).length ≤ 2
  · have hN := fun S tk k => rat_number S tk k z.natAbs (by omega)
    have hb : smB z = true := by simp [smB]; omega
    have hlt := smB_lt hb
    have d1 : decide (((dig z.natAbs).length : Int) > 2) = false := by simp; omega
    have e1 : smN z = z := by simp [smN, hb]
    rw [e1, hb]
    simp only [digA] at hN
    by_cases hn : z < 0
    · have d2 : decide (z < 0) = true := by simpa using hn
      have hw : IntKind.i64.wrap (0 - (z.natAbs : Int)) = z := by rw [wrap_of (by unfold i64; omega)]; omega
      have hw2 : IntKind.i64.wrap (-(z.natAbs : Int)) = z := by rw [wrap_of (by unfold i64; omega)]; omega
      simp (maxSteps := 1000000) +contextual (disch := first | with_reducible assumption | exact ⟨rfl⟩ | exact ⟨rfl, rfl⟩ | (refine _root_.id ?_; kernel_rfl) | omega) only [evs, ext_mv, nth, put, putT, getT, binInt, binStr, binBool, aUn, outA, resA, mapO, resA1, oneOf, w1, w2, w3, bots, cond_true, cond_false, if_true, if_false, ite_true, ite_false, reduceIte, reduceCtorEq, implies_true, Nat.reduceAdd, Nat.reduceSub, AV.int, AV.bool, AV.str, Nat.reduceBEq, Nat.reduceEqDiff, Nat.reduceMul, Nat.reduceLT, Nat.reduceLeDiff, Int.reduceNeg, BEq.rfl, beq_self_eq_true, tabl, cellsOf, fldA, ldA, stA, entAt, partA, takeN, over, leafOk, Value.oneCell', idxA, nilA, cellsEq, fillA, elemsA, pure1, pure2, reps, chkA, tys, Tryd.results46, KX_draw, KX_drawQ, KX_tail, lastO_one, lastO_more, dropL_one, dropL_more, callP_eq, callM_true, zA, bigA, digA, d1, d2, hN, hw, hw2]
    · have d2 : decide (z < 0) = false := by simpa using hn
      have hz : (z.natAbs : Int) = z := by omega
      rw [hz] at hN
      simp (maxSteps := 1000000) +contextual (disch := first | with_reducible assumption | exact ⟨rfl⟩ | exact ⟨rfl, rfl⟩ | (refine _root_.id ?_; kernel_rfl) | omega) only [evs, ext_mv, nth, put, putT, getT, binInt, binStr, binBool, aUn, outA, resA, mapO, resA1, oneOf, w1, w2, w3, bots, cond_true, cond_false, if_true, if_false, ite_true, ite_false, reduceIte, reduceCtorEq, implies_true, Nat.reduceAdd, Nat.reduceSub, AV.int, AV.bool, AV.str, Nat.reduceBEq, Nat.reduceEqDiff, Nat.reduceMul, Nat.reduceLT, Nat.reduceLeDiff, Int.reduceNeg, BEq.rfl, beq_self_eq_true, tabl, cellsOf, fldA, ldA, stA, entAt, partA, takeN, over, leafOk, Value.oneCell', idxA, nilA, cellsEq, fillA, elemsA, pure1, pure2, reps, chkA, tys, Tryd.results46, KX_draw, KX_drawQ, KX_tail, lastO_one, lastO_more, dropL_one, dropL_more, callP_eq, callM_true, zA, bigA, digA, d1, d2, hN]
  · have hb : smB z = false := by simp [smB]; omega
    have d1 : decide (((dig z.natAbs).length : Int) > 2) = true := by simp; omega
    have e1 : smN z = 0 := by simp [smN, hb]
    rw [e1, hb]
    simp (maxSteps := 1000000) +contextual (disch := first | with_reducible assumption | exact ⟨rfl⟩ | exact ⟨rfl, rfl⟩ | (refine _root_.id ?_; kernel_rfl) | omega) only [evs, ext_mv, nth, put, putT, getT, binInt, binStr, binBool, aUn, outA, resA, mapO, resA1, oneOf, w1, w2, w3, bots, cond_true, cond_false, if_true, if_false, ite_true, ite_false, reduceIte, reduceCtorEq, implies_true, Nat.reduceAdd, Nat.reduceSub, AV.int, AV.bool, AV.str, Nat.reduceBEq, Nat.reduceEqDiff, Nat.reduceMul, Nat.reduceLT, Nat.reduceLeDiff, Int.reduceNeg, BEq.rfl, beq_self_eq_true, tabl, cellsOf, fldA, ldA, stA, entAt, partA, takeN, over, leafOk, Value.oneCell', idxA, nilA, cellsEq, fillA, elemsA, pure1, pure2, reps, chkA, tys, Tryd.results46, KX_draw, KX_drawQ, KX_tail, lastO_one, lastO_more, dropL_one, dropL_more, callP_eq, callM_true, zA, bigA, digA, d1]
theorem rat_of (z : Int) : cL Tryd.prog 43 [zA z] S tk k = some (zA z, S, tk, k) := by
  refine call_pure Tryd.func43 rfl rfl (by decide +kernel) (by decide +kernel) Tryd.ntmps43 rfl rfl _ _ _ (rfl) ?_; rw [RK_KX]
  simp (maxSteps := 1000000) +contextual (disch := first | with_reducible assumption | exact ⟨rfl⟩ | exact ⟨rfl, rfl⟩ | (refine _root_.id ?_; kernel_rfl) | omega) only [evs, ext_mv, nth, put, putT, getT, binInt, binStr, binBool, aUn, outA, resA, mapO, resA1, oneOf, w1, w2, w3, bots, cond_true, cond_false, if_true, if_false, ite_true, ite_false, reduceIte, reduceCtorEq, implies_true, Nat.reduceAdd, Nat.reduceSub, AV.int, AV.bool, AV.str, Nat.reduceBEq, Nat.reduceEqDiff, Nat.reduceMul, Nat.reduceLT, Nat.reduceLeDiff, Int.reduceNeg, BEq.rfl, beq_self_eq_true, tabl, cellsOf, fldA, ldA, stA, entAt, partA, takeN, over, leafOk, Value.oneCell', idxA, nilA, cellsEq, fillA, elemsA, pure1, pure2, reps, chkA, tys, Tryd.results43, KX_draw, KX_drawQ, KX_tail, lastO_one, lastO_more, dropL_one, dropL_more, callP_eq, callM_true, zA, bigA, digA]
theorem whole_opposite (z : Int) : cL Tryd.prog 77 [zA z] S tk k = some (zA (-z), S, tk, k) := by
  refine call_pure Tryd.func77 rfl rfl (by decide +kernel) (by decide +kernel) Tryd.ntmps77 rfl rfl _ _ _ (rfl) ?_; rw [RK_KX]
  have hz := zneg z
  have hp := dlen_pos z.natAbs
  have ha : (-z).natAbs = z.natAbs := by omega
  simp only [zA, ha]
  rw [← hz]
  cases d1 : decide (z < 0) with
  | true => simp (maxSteps := 1000000) +contextual (disch := first | with_reducible assumption | exact ⟨rfl⟩ | exact ⟨rfl, rfl⟩ | (refine _root_.id ?_; kernel_rfl) | omega) only [evs, ext_mv, nth, put, putT, getT, binInt, binStr, binBool, aUn, outA, resA, mapO, resA1, oneOf, w1, w2, w3, bots, cond_true, cond_false, if_true, if_false, ite_true, ite_false, reduceIte, reduceCtorEq, implies_true, Nat.reduceAdd, Nat.reduceSub, AV.int, AV.bool, AV.str, Nat.reduceBEq, Nat.reduceEqDiff, Nat.reduceMul, Nat.reduceLT, Nat.reduceLeDiff, Int.reduceNeg, BEq.rfl, beq_self_eq_true, tabl, cellsOf, fldA, ldA, stA, entAt, partA, takeN, over, leafOk, Value.oneCell', idxA, nilA, cellsEq, fillA, elemsA, pure1, pure2, reps, chkA, tys, Tryd.results77, KX_draw, KX_drawQ, KX_tail, lastO_one, lastO_more, dropL_one, dropL_more, callP_eq, callM_true, bigA, digA, d1]
  | false => simp (maxSteps := 1000000) +contextual (disch := first | with_reducible assumption | exact ⟨rfl⟩ | exact ⟨rfl, rfl⟩ | (refine _root_.id ?_; kernel_rfl) | omega) only [evs, ext_mv, nth, put, putT, getT, binInt, binStr, binBool, aUn, outA, resA, mapO, resA1, oneOf, w1, w2, w3, bots, cond_true, cond_false, if_true, if_false, ite_true, ite_false, reduceIte, reduceCtorEq, implies_true, Nat.reduceAdd, Nat.reduceSub, AV.int, AV.bool, AV.str, Nat.reduceBEq, Nat.reduceEqDiff, Nat.reduceMul, Nat.reduceLT, Nat.reduceLeDiff, Int.reduceNeg, BEq.rfl, beq_self_eq_true, tabl, cellsOf, fldA, ldA, stA, entAt, partA, takeN, over, leafOk, Value.oneCell', idxA, nilA, cellsEq, fillA, elemsA, pure1, pure2, reps, chkA, tys, Tryd.results77, KX_draw, KX_drawQ, KX_tail, lastO_one, lastO_more, dropL_one, dropL_more, callP_eq, callM_true, bigA, digA, d1, hp]
end
end Go.Proofs.YtgadegdhfjnoaaaDoor
/-
  What the functions of the fractions compute: sums and products of whole numbers, copies.
-/

namespace Go.Proofs.YtgadegdhfjnoaaaDoor
open Go
theorem ext_mv1 (f : FuncId) : Ext.mv Tryd.prog f = false := rfl
theorem iq1 : ((-1 : Int) == 1) = false := rfl
theorem iq2 : ((0 : Int) == 1) = false := rfl
theorem iq3 : ((0 : Int) == -1) = false := rfl
theorem iq4 : ((1 : Int) == 1) = true := rfl
theorem iq5 : ((-1 : Int) == -1) = true := rfl
theorem zA_sg {p : Bool} {n : Nat} (h : n = 0 → p = false) : bigA p (dig n) = zA (sg p n) := by
  unfold zA
  rw [sg_abs]
  cases p with
  | false =>
    have : ¬ ((n : Int) < 0) := by omega
    simp [sg, this]
  | true =>
    have h0 : n ≠ 0 := fun e => by simpa using h e
    have : (sg true n < 0) := by simp [sg]; omega
    simp [this]
theorem zA_sub {p q : Bool} (h : p ≠ q) {X Y : Nat} (hl : Y < X) : bigA p (dig (X - Y)) = zA (sg p X + sg q Y) := by
  rw [← add_ge h (by omega)]
  exact zA_sg (fun e => by omega)
theorem zA_bus {p q : Bool} (h : p ≠ q) {X Y : Nat} (hl : X < Y) : bigA q (dig (Y - X)) = zA (sg p X + sg q Y) := by
  rw [← add_lt h (by omega)]
  exact zA_sg (fun e => by omega)
theorem sg_mulZ (x y : Int) : bigA (decide (x < 0) != decide (y < 0) && !decide (dig (x.natAbs * y.natAbs) = [])) (dig (x.natAbs * y.natAbs)) = zA (x * y) := by
  rw [zA_sg (fun e => by rw [e, dig_zero]; simp)]
  congr 1
  have h := mul_sg (decide (x < 0)) (decide (y < 0)) x.natAbs y.natAbs
  rw [sg_zA, sg_zA] at h
  rw [← h]
  by_cases h0 : x.natAbs * y.natAbs = 0
  · rw [h0]; simp [sg]
  · have : ¬ dig (x.natAbs * y.natAbs) = [] := fun e => h0 (dig_nil.1 e)
    simp [this]
section
variable (S : List Ent) (tk : List Nat) (k : Nat)
theorem whole_plus (x y : Int) (hx : (dig x.natAbs).length ≤ 90000) (hy : (dig y.natAbs).length ≤ 90000) : cL Tryd.prog 76 [zA x, zA y] S tk k = some (zA (x + y), S, tk, k) := by
  refine call_pure Tryd.func76 rfl rfl (by decide +kernel) (by decide +kernel) Tryd.ntmps76 rfl rfl _ _ _ (rfl) ?_; rw [RK_KX]
  by_cases hpq : decide (x < 0) = decide (y < 0)
  · obtain ⟨h1, h2⟩ := neg_add_same hpq
    have hP := fun S tk k => told (E := E1) (rat_sum S tk k x.natAbs y.natAbs (by omega) (by omega))
    have d1 : (decide (x < 0) == decide (y < 0)) = true := by simpa using hpq
    simp only [zA, h1, h2]
    simp only [digA] at hP
    simp (maxSteps := 1000000) +contextual (disch := first | with_reducible assumption | exact ⟨rfl⟩ | exact ⟨rfl, rfl⟩ | (refine _root_.id ?_; kernel_rfl) | omega) only [evs, ext_mv, nth, put, putT, getT, binInt, binStr, binBool, aUn, outA, resA, mapO, resA1, oneOf, w1, w2, w3, bots, cond_true, cond_false, if_true, if_false, ite_true, ite_false, reduceIte, reduceCtorEq, implies_true, Nat.reduceAdd, Nat.reduceSub, AV.int, AV.bool, AV.str, Nat.reduceBEq, Nat.reduceEqDiff, Nat.reduceMul, Nat.reduceLT, Nat.reduceLeDiff, Int.reduceNeg, BEq.rfl, beq_self_eq_true, tabl, cellsOf, fldA, ldA, stA, entAt, partA, takeN, over, leafOk, Value.oneCell', idxA, nilA, cellsEq, fillA, elemsA, pure1, pure2, reps, chkA, tys, Tryd.results76, KX_draw, KX_drawQ, KX_tail, lastO_one, lastO_more, dropL_one, dropL_more, callP_eq, callM_true, ext_mv1, iq1, iq2, iq3, iq4, iq5, bigA, digA, d1, hP]
  · have d1 : (decide (x < 0) == decide (y < 0)) = false := by simpa using hpq
    have hC := fun S tk k => told (E := E1) (rat_order S tk k x.natAbs y.natAbs (by omega) (by omega))
    have hs := sg_zA x
    have ht := sg_zA y
    by_cases hgt : y.natAbs < x.natAbs
    · have hM := fun S tk k => told (E := E1) (rat_less S tk k x.natAbs y.natAbs (by omega) (by omega))
      have hz := zA_sub hpq hgt
      rw [hs, ht] at hz
      rw [← hz]
      have hc : cmpN x.natAbs y.natAbs = 1 := by unfold cmpN; rw [if_neg (by omega), if_pos hgt]
      rw [hc] at hC
      simp only [digA] at hC hM
      simp (maxSteps := 1000000) +contextual (disch := first | with_reducible assumption | exact ⟨rfl⟩ | exact ⟨rfl, rfl⟩ | (refine _root_.id ?_; kernel_rfl) | omega) only [evs, ext_mv, nth, put, putT, getT, binInt, binStr, binBool, aUn, outA, resA, mapO, resA1, oneOf, w1, w2, w3, bots, cond_true, cond_false, if_true, if_false, ite_true, ite_false, reduceIte, reduceCtorEq, implies_true, Nat.reduceAdd, Nat.reduceSub, AV.int, AV.bool, AV.str, Nat.reduceBEq, Nat.reduceEqDiff, Nat.reduceMul, Nat.reduceLT, Nat.reduceLeDiff, Int.reduceNeg, BEq.rfl, beq_self_eq_true, tabl, cellsOf, fldA, ldA, stA, entAt, partA, takeN, over, leafOk, Value.oneCell', idxA, nilA, cellsEq, fillA, elemsA, pure1, pure2, reps, chkA, tys, Tryd.results76, KX_draw, KX_drawQ, KX_tail, lastO_one, lastO_more, dropL_one, dropL_more, callP_eq, callM_true, ext_mv1, iq1, iq2, iq3, iq4, iq5, zA, bigA, digA, d1, hC, hM]
    · by_cases hlt : x.natAbs < y.natAbs
      · have hM := fun S tk k => told (E := E1) (rat_less S tk k y.natAbs x.natAbs (by omega) (by omega))
        have hz := zA_bus hpq hlt
        rw [hs, ht] at hz
        rw [← hz]
        have hc : cmpN x.natAbs y.natAbs = -1 := by unfold cmpN; rw [if_pos hlt]
        rw [hc] at hC
        simp only [digA] at hC hM
        simp (maxSteps := 1000000) +contextual (disch := first | with_reducible assumption | exact ⟨rfl⟩ | exact ⟨rfl, rfl⟩ | (refine _root_.id ?_; kernel_rfl) | omega) only [evs, ext_mv, nth, put, putT, getT, binInt, binStr, binBool, aUn, outA, resA, mapO, resA1, oneOf, w1, w2, w3, bots, cond_true, cond_false, if_true, if_false, ite_true, ite_false, reduceIte, reduceCtorEq, implies_true, Nat.reduceAdd, Nat.reduceSub, AV.int, AV.bool, AV.str, Nat.reduceBEq, Nat.reduceEqDiff, Nat.reduceMul, Nat.reduceLT, Nat.reduceLeDiff, Int.reduceNeg, BEq.rfl, beq_self_eq_true, tabl, cellsOf, fldA, ldA, stA, entAt, partA, takeN, over, leafOk, Value.oneCell', idxA, nilA, cellsEq, fillA, elemsA, pure1, pure2, reps, chkA, tys, Tryd.results76, KX_draw, KX_drawQ, KX_tail, lastO_one, lastO_more, dropL_one, dropL_more, callP_eq, callM_true, ext_mv1, iq1, iq2, iq3, iq4, iq5, zA, bigA, digA, d1, hC, hM]
      · have hc : cmpN x.natAbs y.natAbs = 0 := by unfold cmpN; rw [if_neg hlt, if_neg hgt]
        have h0 : x + y = 0 := by
          have h5 : ¬ ((x < 0) ↔ (y < 0)) := by simpa using hpq
          omega
        rw [hc] at hC
        rw [h0]
        simp only [digA] at hC
        simp (maxSteps := 1000000) +contextual (disch := first | with_reducible assumption | exact ⟨rfl⟩ | exact ⟨rfl, rfl⟩ | (refine _root_.id ?_; kernel_rfl) | omega) only [evs, ext_mv, nth, put, putT, getT, binInt, binStr, binBool, aUn, outA, resA, mapO, resA1, oneOf, w1, w2, w3, bots, cond_true, cond_false, if_true, if_false, ite_true, ite_false, reduceIte, reduceCtorEq, implies_true, Nat.reduceAdd, Nat.reduceSub, AV.int, AV.bool, AV.str, Nat.reduceBEq, Nat.reduceEqDiff, Nat.reduceMul, Nat.reduceLT, Nat.reduceLeDiff, Int.reduceNeg, BEq.rfl, beq_self_eq_true, tabl, cellsOf, fldA, ldA, stA, entAt, partA, takeN, over, leafOk, Value.oneCell', idxA, nilA, cellsEq, fillA, elemsA, pure1, pure2, reps, chkA, tys, Tryd.results76, KX_draw, KX_drawQ, KX_tail, lastO_one, lastO_more, dropL_one, dropL_more, callP_eq, callM_true, ext_mv1, iq1, iq2, iq3, iq4, iq5, zA, bigA, digA, d1, hC]
        exact ⟨by decide, by rw [show Int.natAbs 0 = 0 from rfl, dig_zero]; rfl⟩
theorem whole_times (x y : Int) (hx : (dig x.natAbs).length ≤ 90000) (hy : (dig y.natAbs).length ≤ 90000) : cL Tryd.prog 54 [zA x, zA y] S tk k = some (zA (x * y), S, tk, k) := by
  refine call_pure Tryd.func54 rfl rfl (by decide +kernel) (by decide +kernel) Tryd.ntmps54 rfl rfl _ _ _ (rfl) ?_; rw [RK_KX]
  have hP := fun S tk k => told (E := E1) (rat_product S tk k x.natAbs y.natAbs (by omega) (by omega))
  have hz := sg_mulZ x y
  have hp := dlen_pos (x.natAbs * y.natAbs)
  simp only [digA] at hP
  rw [← hz]
  have hbn : (decide (x < 0) != decide (y < 0)) = !(decide (x < 0) == decide (y < 0)) := rfl
  rw [hbn]
  cases d1 : decide (x < 0) == decide (y < 0) with
  | true => simp (maxSteps := 1000000) +contextual (disch := first | with_reducible assumption | exact ⟨rfl⟩ | exact ⟨rfl, rfl⟩ | (refine _root_.id ?_; kernel_rfl) | omega) only [evs, ext_mv, nth, put, putT, getT, binInt, binStr, binBool, aUn, outA, resA, mapO, resA1, oneOf, w1, w2, w3, bots, cond_true, cond_false, if_true, if_false, ite_true, ite_false, reduceIte, reduceCtorEq, implies_true, Nat.reduceAdd, Nat.reduceSub, AV.int, AV.bool, AV.str, Nat.reduceBEq, Nat.reduceEqDiff, Nat.reduceMul, Nat.reduceLT, Nat.reduceLeDiff, Int.reduceNeg, BEq.rfl, beq_self_eq_true, tabl, cellsOf, fldA, ldA, stA, entAt, partA, takeN, over, leafOk, Value.oneCell', idxA, nilA, cellsEq, fillA, elemsA, pure1, pure2, reps, chkA, tys, Tryd.results54, KX_draw, KX_drawQ, KX_tail, lastO_one, lastO_more, dropL_one, dropL_more, callP_eq, callM_true, ext_mv1, iq1, iq2, iq3, iq4, iq5, zA, bigA, digA, d1, hbn, hp, hP, Bool.not_true, Bool.not_false, Bool.true_and, Bool.false_and]
  | false => simp (maxSteps := 1000000) +contextual (disch := first | with_reducible assumption | exact ⟨rfl⟩ | exact ⟨rfl, rfl⟩ | (refine _root_.id ?_; kernel_rfl) | omega) only [evs, ext_mv, nth, put, putT, getT, binInt, binStr, binBool, aUn, outA, resA, mapO, resA1, oneOf, w1, w2, w3, bots, cond_true, cond_false, if_true, if_false, ite_true, ite_false, reduceIte, reduceCtorEq, implies_true, Nat.reduceAdd, Nat.reduceSub, AV.int, AV.bool, AV.str, Nat.reduceBEq, Nat.reduceEqDiff, Nat.reduceMul, Nat.reduceLT, Nat.reduceLeDiff, Int.reduceNeg, BEq.rfl, beq_self_eq_true, tabl, cellsOf, fldA, ldA, stA, entAt, partA, takeN, over, leafOk, Value.oneCell', idxA, nilA, cellsEq, fillA, elemsA, pure1, pure2, reps, chkA, tys, Tryd.results54, KX_draw, KX_drawQ, KX_tail, lastO_one, lastO_more, dropL_one, dropL_more, callP_eq, callM_true, ext_mv1, iq1, iq2, iq3, iq4, iq5, zA, bigA, digA, d1, hbn, hp, hP, Bool.not_true, Bool.not_false, Bool.true_and, Bool.false_and]
theorem whole_minus (x y : Int) (hx : (dig x.natAbs).length ≤ 90000) (hy : (dig y.natAbs).length ≤ 90000) : cL Tryd.prog 56 [zA x, zA y] S tk k = some (zA (x - y), S, tk, k) := by
  refine call_pure Tryd.func56 rfl rfl (by decide +kernel) (by decide +kernel) Tryd.ntmps56 rfl rfl _ _ _ (rfl) ?_; rw [RK_KX]
  have hO := fun S tk k => whole_opposite S tk k y
  have hP := fun S tk k => whole_plus S tk k x (-y) hx (by rw [show (-y).natAbs = y.natAbs by omega]; exact hy)
  rw [show x + -y = x - y by omega] at hP
  simp only [zA, bigA, digA] at hO hP
  simp (maxSteps := 1000000) +contextual (disch := first | with_reducible assumption | exact ⟨rfl⟩ | exact ⟨rfl, rfl⟩ | (refine _root_.id ?_; kernel_rfl) | omega) only [evs, ext_mv, nth, put, putT, getT, binInt, binStr, binBool, aUn, outA, resA, mapO, resA1, oneOf, w1, w2, w3, bots, cond_true, cond_false, if_true, if_false, ite_true, ite_false, reduceIte, reduceCtorEq, implies_true, Nat.reduceAdd, Nat.reduceSub, AV.int, AV.bool, AV.str, Nat.reduceBEq, Nat.reduceEqDiff, Nat.reduceMul, Nat.reduceLT, Nat.reduceLeDiff, Int.reduceNeg, BEq.rfl, beq_self_eq_true, tabl, cellsOf, fldA, ldA, stA, entAt, partA, takeN, over, leafOk, Value.oneCell', idxA, nilA, cellsEq, fillA, elemsA, pure1, pure2, reps, chkA, tys, Tryd.results56, KX_draw, KX_drawQ, KX_tail, lastO_one, lastO_more, dropL_one, dropL_more, callP_eq, callM_true, ext_mv1, iq1, iq2, iq3, iq4, iq5, zA, bigA, digA, hO, hP]
theorem zA_eq {x y : Int} : (decide (decide (x < 0) = decide (y < 0)) && decide (((dig x.natAbs).length : Int) = ((dig y.natAbs).length : Int)) && decide (cmpN x.natAbs y.natAbs = 0)) = decide (x = y) := by
  by_cases h : x = y
  · subst h
    simp [cmpN]
  · simp only [h, decide_false, Bool.and_eq_false_imp, Bool.and_eq_true, decide_eq_true_eq, decide_eq_false_iff_not]
    rintro ⟨h1, -⟩ h2
    have h1' : (x < 0) ↔ (y < 0) := by simpa using h1
    unfold cmpN at h2
    split at h2
    · omega
    · split at h2 <;> omega
theorem slices_CloneN (l : List Int) (c : Cap) (hlen : l.length ≤ 1048576) : cL Tryd.prog 62 [.frz (l.map digC) c] S tk k = some (digA l, S, tk, k) := by
  have hr := fun cs => rowsOk_map (f := digC) (sz := 1) (fun _ => rfl) cs
  cases l with
  | nil =>
    simp only [List.map_nil]
    refine call_nil_nil Tryd.func62 rfl rfl (by decide +kernel) (by decide +kernel) Tryd.ntmps62 rfl rfl _ _ _ ?_ ?_ <;> rw [RK_KX]
    · simp (maxSteps := 1000000) +contextual (disch := first | with_reducible assumption | exact ⟨rfl⟩ | exact ⟨rfl, rfl⟩ | (refine _root_.id ?_; kernel_rfl) | omega) only [evs, ext_mv, nth, put, putT, getT, binInt, binStr, binBool, aUn, outA, resA, mapO, resA1, oneOf, w1, w2, w3, bots, cond_true, cond_false, if_true, if_false, ite_true, ite_false, reduceIte, reduceCtorEq, implies_true, Nat.reduceAdd, Nat.reduceSub, AV.int, AV.bool, AV.str, Nat.reduceBEq, Nat.reduceEqDiff, Nat.reduceMul, Nat.reduceLT, Nat.reduceLeDiff, Int.reduceNeg, BEq.rfl, beq_self_eq_true, tabl, cellsOf, fldA, ldA, stA, entAt, partA, takeN, over, leafOk, Value.oneCell', idxA, nilA, cellsEq, fillA, elemsA, pure1, pure2, reps, chkA, tys, Tryd.results62, KX_draw, KX_drawQ, KX_tail, lastO_one, lastO_more, dropL_one, dropL_more, callP_eq, callM_true, ext_mv1, iq1, iq2, iq3, iq4, iq5, litA_nil, digA]
    · simp (maxSteps := 1000000) +contextual (disch := first | with_reducible assumption | exact ⟨rfl⟩ | exact ⟨rfl, rfl⟩ | (refine _root_.id ?_; kernel_rfl) | omega) only [evs, ext_mv, nth, put, putT, getT, binInt, binStr, binBool, aUn, outA, resA, mapO, resA1, oneOf, w1, w2, w3, bots, cond_true, cond_false, if_true, if_false, ite_true, ite_false, reduceIte, reduceCtorEq, implies_true, Nat.reduceAdd, Nat.reduceSub, AV.int, AV.bool, AV.str, Nat.reduceBEq, Nat.reduceEqDiff, Nat.reduceMul, Nat.reduceLT, Nat.reduceLeDiff, Int.reduceNeg, BEq.rfl, beq_self_eq_true, tabl, cellsOf, fldA, ldA, stA, entAt, partA, takeN, over, leafOk, Value.oneCell', idxA, nilA, cellsEq, fillA, elemsA, pure1, pure2, reps, chkA, tys, Tryd.results62, KX_draw, KX_drawQ, KX_tail, lastO_one, lastO_more, dropL_one, dropL_more, callP_eq, callM_true, ext_mv1, iq1, iq2, iq3, iq4, iq5, litA_nil, digA]
  | cons x l =>
    simp only [List.map_cons]
    refine call_nil_cons Tryd.func62 rfl rfl (by decide +kernel) (by decide +kernel) Tryd.ntmps62 rfl rfl _ _ _ rfl ?_; rw [RK_KX]
    have hr' := hr (x :: l)
    simp only [List.map_cons] at hr'
    have hl : ([] : List (List AV)).length + (digC x :: l.map digC).length ≤ 1048576 := by simp at hlen ⊢; omega
    simp (maxSteps := 1000000) +contextual (disch := first | with_reducible assumption | exact ⟨rfl⟩ | exact ⟨rfl, rfl⟩ | (refine _root_.id ?_; kernel_rfl) | omega) only [evs, ext_mv, nth, put, putT, getT, binInt, binStr, binBool, aUn, outA, resA, mapO, resA1, oneOf, w1, w2, w3, bots, cond_true, cond_false, if_true, if_false, ite_true, ite_false, reduceIte, reduceCtorEq, implies_true, Nat.reduceAdd, Nat.reduceSub, AV.int, AV.bool, AV.str, Nat.reduceBEq, Nat.reduceEqDiff, Nat.reduceMul, Nat.reduceLT, Nat.reduceLeDiff, Int.reduceNeg, BEq.rfl, beq_self_eq_true, tabl, cellsOf, fldA, ldA, stA, entAt, partA, takeN, over, leafOk, Value.oneCell', idxA, nilA, cellsEq, fillA, elemsA, pure1, pure2, reps, chkA, tys, Tryd.results62, KX_draw, KX_drawQ, KX_tail, lastO_one, lastO_more, dropL_one, dropL_more, callP_eq, callM_true, ext_mv1, iq1, iq2, iq3, iq4, iq5, litA_nil, digA, hr']
end
end Go.Proofs.YtgadegdhfjnoaaaDoor
/-
  Numbers from ints and back; the law BigMakes.
-/

namespace Go.Proofs.YtgadegdhfjnoaaaDoor
open Go

theorem uwrap_of {n : Int} (h0 : 0 ≤ n) (h1 : n < 18446744073709551616) : IntKind.u64.wrap n = n := by
  have e : (n.toNat : Int) = n := by omega
  rw [← e]
  exact Go.IntWalk.u64_in _ (by omega)
theorem tmod_abs (u : Int) : (u.tmod 10000).natAbs = u.natAbs % 10000 := by
  rw [Int.natAbs_tmod]; rfl
theorem tdiv_abs (u : Int) : (u.tdiv 10000).natAbs = u.natAbs / 10000 := by
  rw [Int.natAbs_tdiv]; rfl
theorem drop_small {N : Nat} (h : (dig N).length ≤ 4) (m : Nat) : 0 ≤ val ((dig N).drop m) ∧ val ((dig N).drop m) < 10000000000000000 := by
  have hk : okD ((dig N).drop m) := fun d hd => okD_dig N d (List.mem_of_mem_drop hd)
  refine ⟨val_nonneg hk, ?_⟩
  have h1 := val_lt hk
  have h2 : (10000 : Int) ^ ((dig N).drop m).length ≤ 10000 ^ 4 := by
    have : ((dig N).drop m).length ≤ 4 := by simp; omega
    have h3 : (10000 : Nat) ^ ((dig N).drop m).length ≤ 10000 ^ 4 := Nat.pow_le_pow_right (by decide) this
    have e1 : ((10000 ^ ((dig N).drop m).length : Nat) : Int) ≤ ((10000 ^ 4 : Nat) : Int) := Int.ofNat_le.2 h3
    rw [Int.natCast_pow, Int.natCast_pow] at e1
    exact e1
  have e : (10000 : Int) ^ 4 = 10000000000000000 := by decide
  omega
theorem uwrap (n : Int) : IntKind.u64.wrap n = n % 18446744073709551616 := by
  simp [IntKind.wrap, IntKind.bits, IntKind.signed]
theorem dig_short {n : Nat} (h : n < 10000000000000000000) : (dig n).length ≤ 5 := dig_len.2 (Nat.lt_of_lt_of_le h (by decide))
theorem of_step {u N : Nat} {out : List Int} (he : out ++ dig u = dig N) (h : u ≠ 0) : (out ++ [((u % 10000 : Nat) : Int)]) ++ dig (u / 10000) = dig N := by
  rw [← he, dig_step h]; simp
theorem of_len {u N : Nat} {out : List Int} (he : out ++ dig u = dig N) (hN : N < 10000000000000000000) : out.length ≤ 5 := by
  have := dig_short hN
  rw [← he] at this; simp at this; omega
theorem of_done {N : Nat} {out : List Int} (he : out ++ dig 0 = dig N) : out = dig N := by rw [← he, dig_zero, List.append_nil]

section
variable (S : List Ent) (tk : List Nat) (k : Nat)
set_option maxRecDepth 100000 in
theorem big_Of (n : Int) (hn : i64 n) : cL Tryd.prog 37 [.int n] S tk k = some (zA n, S, tk, k) := by
  refine call_pure Tryd.func37 rfl rfl (by decide +kernel) (by decide +kernel) Tryd.ntmps37 rfl rfl _ _ _ (rfl) ?_; rw [RK_KX]
  have hn' := hn
  unfold i64 at hn'
  have hN : n.natAbs < 10000000000000000000 := by omega
  cases d0 : decide (n < 0) with
  | true =>
    simp only [decide_eq_true_eq] at d0
    have d0' : decide (n < 0) = true := by simpa using d0
    have q0 : IntKind.u64.wrap (0 - IntKind.u64.wrap n) = ((n.natAbs : Nat) : Int) := by rw [uwrap, uwrap]; omega
    simp (maxSteps := 1000000) +contextual (disch := first | with_reducible assumption | exact ⟨rfl⟩ | exact ⟨rfl, rfl⟩ | (refine _root_.id ?_; kernel_rfl) | omega) only [evs, ext_mv, nth, put, putT, getT, binInt, binStr, binBool, aUn, outA, resA, mapO, resA1, oneOf, w1, w2, w3, bots, cond_true, cond_false, if_true, if_false, ite_true, ite_false, reduceIte, reduceCtorEq, implies_true, Nat.reduceAdd, Nat.reduceSub, AV.int, AV.bool, AV.str, Nat.reduceBEq, Nat.reduceEqDiff, Nat.reduceMul, Nat.reduceLT, Nat.reduceLeDiff, Int.reduceNeg, BEq.rfl, beq_self_eq_true, tabl, cellsOf, fldA, ldA, stA, entAt, partA, takeN, over, leafOk, Value.oneCell', idxA, nilA, cellsEq, fillA, elemsA, pure1, pure2, reps, chkA, tys, Tryd.results37, KX_draw, KX_drawQ, KX_tail, lastO_one, lastO_more, dropL_one, dropL_more, callP_eq, callM_true, d0', q0]
    refine loop1 (fun x st => st.T.length = 25 ∧ (x.1 ≤ n.natAbs) ∧ (x.2.1 ++ dig x.1 = dig n.natAbs) ∧ (okCap st.tk x.2.2 1 = true) ∧ getT st.T 0 = .int n ∧ getT st.T 2 = .ref 0 0 0 ∧ getT st.T 3 = .prim (.int .u64 (x.1 : Nat)) ∧ getT st.T 4 = .frz (x.2.1.map digC) x.2.2 ∧ st.S = [⟨0, [.bool false, .frz [] .nilc]⟩]) (fun x => x.1) (fun x => zA n) (n.natAbs, [], .nilc) ?_ ?_
    case refine_2 => exact ⟨rfl, Nat.le_refl _, rfl, rfl, rfl, rfl, rfl, rfl, rfl⟩
    rintro ⟨u, out, c⟩ ⟨T, S', tk', n'⟩ ⟨hl, hu, he, hok, e0, e2, e3, e4, eS⟩ IH
    simp only at hu he hok e0 e2 e3 e4 eS
    subst eS
    obtain ⟨g, hg, hT⟩ := tab_of hl
    rw [hg] at e0 e2 e3 e4
    subst hT
    clear hg hl
    have hlen := of_len he hN
    have hr := rowsOk_dig out
    have hok' := okCap_new hok
    by_cases h0 : u = 0
    · have d1 : decide ((u : Int) > 0) = false := by simp; omega
      subst h0
      have hd := of_done he
      subst hd
      cases d2 : decide (n < 0) with
      | true =>
        simp (maxSteps := 1000000) +contextual (disch := first | with_reducible assumption | exact ⟨rfl⟩ | exact ⟨rfl, rfl⟩ | (refine _root_.id ?_; kernel_rfl) | omega) only [evs, ext_mv, nth, put, putT, getT, binInt, binStr, binBool, aUn, outA, resA, mapO, resA1, oneOf, w1, w2, w3, bots, cond_true, cond_false, if_true, if_false, ite_true, ite_false, reduceIte, reduceCtorEq, implies_true, Nat.reduceAdd, Nat.reduceSub, AV.int, AV.bool, AV.str, Nat.reduceBEq, Nat.reduceEqDiff, Nat.reduceMul, Nat.reduceLT, Nat.reduceLeDiff, Int.reduceNeg, BEq.rfl, beq_self_eq_true, tabl, cellsOf, fldA, ldA, stA, entAt, partA, takeN, over, leafOk, Value.oneCell', idxA, nilA, cellsEq, fillA, elemsA, pure1, pure2, reps, chkA, tys, Tryd.results37, KX_draw, KX_drawQ, KX_tail, lastO_one, lastO_more, dropL_one, dropL_more, callP_eq, callM_true, e0, e2, e3, e4, d1, d2]
        simp [zA, bigA, digA, d2]
      | false =>
        simp (maxSteps := 1000000) +contextual (disch := first | with_reducible assumption | exact ⟨rfl⟩ | exact ⟨rfl, rfl⟩ | (refine _root_.id ?_; kernel_rfl) | omega) only [evs, ext_mv, nth, put, putT, getT, binInt, binStr, binBool, aUn, outA, resA, mapO, resA1, oneOf, w1, w2, w3, bots, cond_true, cond_false, if_true, if_false, ite_true, ite_false, reduceIte, reduceCtorEq, implies_true, Nat.reduceAdd, Nat.reduceSub, AV.int, AV.bool, AV.str, Nat.reduceBEq, Nat.reduceEqDiff, Nat.reduceMul, Nat.reduceLT, Nat.reduceLeDiff, Int.reduceNeg, BEq.rfl, beq_self_eq_true, tabl, cellsOf, fldA, ldA, stA, entAt, partA, takeN, over, leafOk, Value.oneCell', idxA, nilA, cellsEq, fillA, elemsA, pure1, pure2, reps, chkA, tys, Tryd.results37, KX_draw, KX_drawQ, KX_tail, lastO_one, lastO_more, dropL_one, dropL_more, callP_eq, callM_true, e0, e2, e3, e4, d1, d2]
        simp [zA, bigA, digA, d2]
    · have d1 : decide ((u : Int) > 0) = true := by simp; omega
      have hz' : ¬ ((10000 : Int) = 0) := by omega
      have hn1 : (out.map digC).length + 1 ≤ 1048576 := by simp; omega
      have q1 : (u : Int).tmod 10000 = ((u % 10000 : Nat) : Int) := by
        rw [Int.tmod_eq_emod_of_nonneg (by omega)]; omega
      have q2 : IntKind.i64.wrap ((u % 10000 : Nat) : Int) = ((u % 10000 : Nat) : Int) := wrap_of (by unfold i64; omega)
      have q3 : IntKind.u64.wrap ((u : Int).tdiv 10000) = ((u / 10000 : Nat) : Int) := by
        rw [Int.tdiv_eq_ediv_of_nonneg (by omega), uwrap_of (by omega) (by omega)]; omega
      have hs := of_step he h0
      simp (maxSteps := 1000000) +contextual (disch := first | with_reducible assumption | exact ⟨rfl⟩ | exact ⟨rfl, rfl⟩ | (refine _root_.id ?_; kernel_rfl) | omega) only [evs, ext_mv, nth, put, putT, getT, binInt, binStr, binBool, aUn, outA, resA, mapO, resA1, oneOf, w1, w2, w3, bots, cond_true, cond_false, if_true, if_false, ite_true, ite_false, reduceIte, reduceCtorEq, implies_true, Nat.reduceAdd, Nat.reduceSub, AV.int, AV.bool, AV.str, Nat.reduceBEq, Nat.reduceEqDiff, Nat.reduceMul, Nat.reduceLT, Nat.reduceLeDiff, Int.reduceNeg, BEq.rfl, beq_self_eq_true, tabl, cellsOf, fldA, ldA, stA, entAt, partA, takeN, over, leafOk, Value.oneCell', idxA, nilA, cellsEq, fillA, elemsA, pure1, pure2, reps, chkA, tys, Tryd.results37, KX_draw, KX_drawQ, KX_tail, lastO_one, lastO_more, dropL_one, dropL_more, callP_eq, callM_true, e0, e2, e3, e4, d1, hz', q1, q2, q3, hr]
      exact IH (u / 10000, out ++ [((u % 10000 : Nat) : Int)], capNew tk' c 1) _ (by first | omega | (simp only; omega)) ⟨rfl, by first | omega | (dsimp only; omega), hs, hok', (by first | rfl | simp only [getT, List.map_append, List.map_cons, List.map_nil, digC, digA]), (by first | rfl | simp only [getT, List.map_append, List.map_cons, List.map_nil, digC, digA]), (by first | rfl | simp only [getT, List.map_append, List.map_cons, List.map_nil, digC, digA]), (by first | rfl | simp only [getT, List.map_append, List.map_cons, List.map_nil, digC, digA]), (by first | rfl | simp only [getT, List.map_append, List.map_cons, List.map_nil, digC, digA])⟩
  | false =>
    simp only [decide_eq_false_iff_not] at d0
    have d0' : decide (n < 0) = false := by simpa using d0
    have q0 : IntKind.u64.wrap n = ((n.natAbs : Nat) : Int) := by rw [uwrap_of (by omega) (by omega)]; omega
    simp (maxSteps := 1000000) +contextual (disch := first | with_reducible assumption | exact ⟨rfl⟩ | exact ⟨rfl, rfl⟩ | (refine _root_.id ?_; kernel_rfl) | omega) only [evs, ext_mv, nth, put, putT, getT, binInt, binStr, binBool, aUn, outA, resA, mapO, resA1, oneOf, w1, w2, w3, bots, cond_true, cond_false, if_true, if_false, ite_true, ite_false, reduceIte, reduceCtorEq, implies_true, Nat.reduceAdd, Nat.reduceSub, AV.int, AV.bool, AV.str, Nat.reduceBEq, Nat.reduceEqDiff, Nat.reduceMul, Nat.reduceLT, Nat.reduceLeDiff, Int.reduceNeg, BEq.rfl, beq_self_eq_true, tabl, cellsOf, fldA, ldA, stA, entAt, partA, takeN, over, leafOk, Value.oneCell', idxA, nilA, cellsEq, fillA, elemsA, pure1, pure2, reps, chkA, tys, Tryd.results37, KX_draw, KX_drawQ, KX_tail, lastO_one, lastO_more, dropL_one, dropL_more, callP_eq, callM_true, d0', q0]
    refine loop1 (fun x st => st.T.length = 25 ∧ (x.1 ≤ n.natAbs) ∧ (x.2.1 ++ dig x.1 = dig n.natAbs) ∧ (okCap st.tk x.2.2 1 = true) ∧ getT st.T 0 = .int n ∧ getT st.T 2 = .ref 0 0 0 ∧ getT st.T 3 = .prim (.int .u64 (x.1 : Nat)) ∧ getT st.T 4 = .frz (x.2.1.map digC) x.2.2 ∧ st.S = [⟨0, [.bool false, .frz [] .nilc]⟩]) (fun x => x.1) (fun x => zA n) (n.natAbs, [], .nilc) ?_ ?_
    case refine_2 => exact ⟨rfl, Nat.le_refl _, rfl, rfl, rfl, rfl, rfl, rfl, rfl⟩
    rintro ⟨u, out, c⟩ ⟨T, S', tk', n'⟩ ⟨hl, hu, he, hok, e0, e2, e3, e4, eS⟩ IH
    simp only at hu he hok e0 e2 e3 e4 eS
    subst eS
    obtain ⟨g, hg, hT⟩ := tab_of hl
    rw [hg] at e0 e2 e3 e4
    subst hT
    clear hg hl
    have hlen := of_len he hN
    have hr := rowsOk_dig out
    have hok' := okCap_new hok
    by_cases h0 : u = 0
    · have d1 : decide ((u : Int) > 0) = false := by simp; omega
      subst h0
      have hd := of_done he
      subst hd
      cases d2 : decide (n < 0) with
      | true =>
        simp (maxSteps := 1000000) +contextual (disch := first | with_reducible assumption | exact ⟨rfl⟩ | exact ⟨rfl, rfl⟩ | (refine _root_.id ?_; kernel_rfl) | omega) only [evs, ext_mv, nth, put, putT, getT, binInt, binStr, binBool, aUn, outA, resA, mapO, resA1, oneOf, w1, w2, w3, bots, cond_true, cond_false, if_true, if_false, ite_true, ite_false, reduceIte, reduceCtorEq, implies_true, Nat.reduceAdd, Nat.reduceSub, AV.int, AV.bool, AV.str, Nat.reduceBEq, Nat.reduceEqDiff, Nat.reduceMul, Nat.reduceLT, Nat.reduceLeDiff, Int.reduceNeg, BEq.rfl, beq_self_eq_true, tabl, cellsOf, fldA, ldA, stA, entAt, partA, takeN, over, leafOk, Value.oneCell', idxA, nilA, cellsEq, fillA, elemsA, pure1, pure2, reps, chkA, tys, Tryd.results37, KX_draw, KX_drawQ, KX_tail, lastO_one, lastO_more, dropL_one, dropL_more, callP_eq, callM_true, e0, e2, e3, e4, d1, d2]
        simp [zA, bigA, digA, d2]
      | false =>
        simp (maxSteps := 1000000) +contextual (disch := first | with_reducible assumption | exact ⟨rfl⟩ | exact ⟨rfl, rfl⟩ | (refine _root_.id ?_; kernel_rfl) | omega) only [evs, ext_mv, nth, put, putT, getT, binInt, binStr, binBool, aUn, outA, resA, mapO, resA1, oneOf, w1, w2, w3, bots, cond_true, cond_false, if_true, if_false, ite_true, ite_false, reduceIte, reduceCtorEq, implies_true, Nat.reduceAdd, Nat.reduceSub, AV.int, AV.bool, AV.str, Nat.reduceBEq, Nat.reduceEqDiff, Nat.reduceMul, Nat.reduceLT, Nat.reduceLeDiff, Int.reduceNeg, BEq.rfl, beq_self_eq_true, tabl, cellsOf, fldA, ldA, stA, entAt, partA, takeN, over, leafOk, Value.oneCell', idxA, nilA, cellsEq, fillA, elemsA, pure1, pure2, reps, chkA, tys, Tryd.results37, KX_draw, KX_drawQ, KX_tail, lastO_one, lastO_more, dropL_one, dropL_more, callP_eq, callM_true, e0, e2, e3, e4, d1, d2]
        simp [zA, bigA, digA, d2]
    · have d1 : decide ((u : Int) > 0) = true := by simp; omega
      have hz' : ¬ ((10000 : Int) = 0) := by omega
      have hn1 : (out.map digC).length + 1 ≤ 1048576 := by simp; omega
      have q1 : (u : Int).tmod 10000 = ((u % 10000 : Nat) : Int) := by
        rw [Int.tmod_eq_emod_of_nonneg (by omega)]; omega
      have q2 : IntKind.i64.wrap ((u % 10000 : Nat) : Int) = ((u % 10000 : Nat) : Int) := wrap_of (by unfold i64; omega)
      have q3 : IntKind.u64.wrap ((u : Int).tdiv 10000) = ((u / 10000 : Nat) : Int) := by
        rw [Int.tdiv_eq_ediv_of_nonneg (by omega), uwrap_of (by omega) (by omega)]; omega
      have hs := of_step he h0
      simp (maxSteps := 1000000) +contextual (disch := first | with_reducible assumption | exact ⟨rfl⟩ | exact ⟨rfl, rfl⟩ | (refine _root_.id ?_; kernel_rfl) | omega) only [evs, ext_mv, nth, put, putT, getT, binInt, binStr, binBool, aUn, outA, resA, mapO, resA1, oneOf, w1, w2, w3, bots, cond_true, cond_false, if_true, if_false, ite_true, ite_false, reduceIte, reduceCtorEq, implies_true, Nat.reduceAdd, Nat.reduceSub, AV.int, AV.bool, AV.str, Nat.reduceBEq, Nat.reduceEqDiff, Nat.reduceMul, Nat.reduceLT, Nat.reduceLeDiff, Int.reduceNeg, BEq.rfl, beq_self_eq_true, tabl, cellsOf, fldA, ldA, stA, entAt, partA, takeN, over, leafOk, Value.oneCell', idxA, nilA, cellsEq, fillA, elemsA, pure1, pure2, reps, chkA, tys, Tryd.results37, KX_draw, KX_drawQ, KX_tail, lastO_one, lastO_more, dropL_one, dropL_more, callP_eq, callM_true, e0, e2, e3, e4, d1, hz', q1, q2, q3, hr]
      exact IH (u / 10000, out ++ [((u % 10000 : Nat) : Int)], capNew tk' c 1) _ (by first | omega | (simp only; omega)) ⟨rfl, by first | omega | (dsimp only; omega), hs, hok', (by first | rfl | simp only [getT, List.map_append, List.map_cons, List.map_nil, digC, digA]), (by first | rfl | simp only [getT, List.map_append, List.map_cons, List.map_nil, digC, digA]), (by first | rfl | simp only [getT, List.map_append, List.map_cons, List.map_nil, digC, digA]), (by first | rfl | simp only [getT, List.map_append, List.map_cons, List.map_nil, digC, digA]), (by first | rfl | simp only [getT, List.map_append, List.map_cons, List.map_nil, digC, digA])⟩
set_option maxRecDepth 100000 in
theorem R02_Of (n : Int) (hn : i64 n) : cL Tryd.prog 50 [.int n] S tk k = some (zA n, S, tk, k) := by
  refine call_pure Tryd.func50 rfl rfl (by decide +kernel) (by decide +kernel) Tryd.ntmps50 rfl rfl _ _ _ (rfl) ?_; rw [RK_KX]
  have hn' := hn
  unfold i64 at hn'
  have hN : n.natAbs < 10000000000000000000 := by omega
  simp (maxSteps := 1000000) +contextual (disch := first | with_reducible assumption | exact ⟨rfl⟩ | exact ⟨rfl, rfl⟩ | (refine _root_.id ?_; kernel_rfl) | omega) only [evs, ext_mv, nth, put, putT, getT, binInt, binStr, binBool, aUn, outA, resA, mapO, resA1, oneOf, w1, w2, w3, bots, cond_true, cond_false, if_true, if_false, ite_true, ite_false, reduceIte, reduceCtorEq, implies_true, Nat.reduceAdd, Nat.reduceSub, AV.int, AV.bool, AV.str, Nat.reduceBEq, Nat.reduceEqDiff, Nat.reduceMul, Nat.reduceLT, Nat.reduceLeDiff, Int.reduceNeg, BEq.rfl, beq_self_eq_true, tabl, cellsOf, fldA, ldA, stA, entAt, partA, takeN, over, leafOk, Value.oneCell', idxA, nilA, cellsEq, fillA, elemsA, pure1, pure2, reps, chkA, tys, Tryd.results50, KX_draw, KX_drawQ, KX_tail, lastO_one, lastO_more, dropL_one, dropL_more, callP_eq, callM_true]
  refine loop1 (fun x st => st.T.length = 25 ∧ (i64 x.1) ∧ (x.2.1 ++ dig x.1.natAbs = dig n.natAbs) ∧ (okCap st.tk x.2.2 1 = true) ∧ getT st.T 0 = .int x.1 ∧ getT st.T 2 = .ref 0 0 0 ∧ getT st.T 3 = .frz (x.2.1.map digC) x.2.2 ∧ getT st.T 4 = .bool (decide (n < 0)) ∧ st.S = [⟨0, [.bool false, .frz [] .nilc]⟩]) (fun x => x.1.natAbs) (fun x => zA n) (n, [], .nilc) ?_ ?_
  case refine_2 => exact ⟨rfl, hn, rfl, rfl, rfl, rfl, rfl, rfl, rfl⟩
  rintro ⟨u, out, c⟩ ⟨T, S', tk', n'⟩ ⟨hl, hu, he, hok, e0, e2, e3, e4, eS⟩ IH
  simp only at hu he hok e0 e2 e3 e4 eS
  subst eS
  obtain ⟨g, hg, hT⟩ := tab_of hl
  rw [hg] at e0 e2 e3 e4
  subst hT
  clear hg hl
  have hlen := of_len he hN
  have hr := rowsOk_dig out
  have hok' := okCap_new hok
  unfold i64 at hu
  by_cases h0 : u = 0
  · have d1 : (u != 0) = false := by simp; omega
    subst h0
    have hd := of_done he
    subst hd
    simp (maxSteps := 1000000) +contextual (disch := first | with_reducible assumption | exact ⟨rfl⟩ | exact ⟨rfl, rfl⟩ | (refine _root_.id ?_; kernel_rfl) | omega) only [evs, ext_mv, nth, put, putT, getT, binInt, binStr, binBool, aUn, outA, resA, mapO, resA1, oneOf, w1, w2, w3, bots, cond_true, cond_false, if_true, if_false, ite_true, ite_false, reduceIte, reduceCtorEq, implies_true, Nat.reduceAdd, Nat.reduceSub, AV.int, AV.bool, AV.str, Nat.reduceBEq, Nat.reduceEqDiff, Nat.reduceMul, Nat.reduceLT, Nat.reduceLeDiff, Int.reduceNeg, BEq.rfl, beq_self_eq_true, tabl, cellsOf, fldA, ldA, stA, entAt, partA, takeN, over, leafOk, Value.oneCell', idxA, nilA, cellsEq, fillA, elemsA, pure1, pure2, reps, chkA, tys, Tryd.results50, KX_draw, KX_drawQ, KX_tail, lastO_one, lastO_more, dropL_one, dropL_more, callP_eq, callM_true, e0, e2, e3, e4, d1]
    simp [zA, bigA, digA]
  · have d1 : (u != 0) = true := by simp; omega
    have hz' : ¬ ((10000 : Int) = 0) := by omega
    have hn1 : (out.map digC).length + 1 ≤ 1048576 := by simp; omega
    have t1 := tmod_abs u
    have t2 := tdiv_abs u
    have q1 : IntKind.i64.wrap (u.tmod 10000) = u.tmod 10000 := wrap_of (by unfold i64; omega)
    have q3 : IntKind.i64.wrap (u.tdiv 10000) = u.tdiv 10000 := wrap_of (by unfold i64; omega)
    have hs := of_step he (u := u.natAbs) (by omega)
    cases d2 : decide (u.tmod 10000 < 0) with
    | true =>
      simp only [decide_eq_true_eq] at d2
      have d2' : decide (u.tmod 10000 < 0) = true := by simpa using d2
      have q4 : IntKind.i64.wrap (0 - u.tmod 10000) = ((u.natAbs % 10000 : Nat) : Int) := by rw [wrap_of (by unfold i64; omega)]; omega
      simp (maxSteps := 1000000) +contextual (disch := first | with_reducible assumption | exact ⟨rfl⟩ | exact ⟨rfl, rfl⟩ | (refine _root_.id ?_; kernel_rfl) | omega) only [evs, ext_mv, nth, put, putT, getT, binInt, binStr, binBool, aUn, outA, resA, mapO, resA1, oneOf, w1, w2, w3, bots, cond_true, cond_false, if_true, if_false, ite_true, ite_false, reduceIte, reduceCtorEq, implies_true, Nat.reduceAdd, Nat.reduceSub, AV.int, AV.bool, AV.str, Nat.reduceBEq, Nat.reduceEqDiff, Nat.reduceMul, Nat.reduceLT, Nat.reduceLeDiff, Int.reduceNeg, BEq.rfl, beq_self_eq_true, tabl, cellsOf, fldA, ldA, stA, entAt, partA, takeN, over, leafOk, Value.oneCell', idxA, nilA, cellsEq, fillA, elemsA, pure1, pure2, reps, chkA, tys, Tryd.results50, KX_draw, KX_drawQ, KX_tail, lastO_one, lastO_more, dropL_one, dropL_more, callP_eq, callM_true, e0, e2, e3, e4, d1, hz', q1, q3, d2', q4, hr]
      exact IH (u.tdiv 10000, out ++ [((u.natAbs % 10000 : Nat) : Int)], capNew tk' c 1) _ (by first | omega | (simp only; omega)) ⟨rfl, by unfold i64; omega, by rw [t2]; exact hs, hok', (by first | rfl | simp only [getT, List.map_append, List.map_cons, List.map_nil, digC, digA]), (by first | rfl | simp only [getT, List.map_append, List.map_cons, List.map_nil, digC, digA]), (by first | rfl | simp only [getT, List.map_append, List.map_cons, List.map_nil, digC, digA]), (by first | rfl | simp only [getT, List.map_append, List.map_cons, List.map_nil, digC, digA]), (by first | rfl | simp only [getT, List.map_append, List.map_cons, List.map_nil, digC, digA])⟩
    | false =>
      simp only [decide_eq_false_iff_not] at d2
      have d2' : decide (u.tmod 10000 < 0) = false := by simpa using d2
      have q4 : u.tmod 10000 = ((u.natAbs % 10000 : Nat) : Int) := by omega
      rw [q4] at d2' q1
      simp (maxSteps := 1000000) +contextual (disch := first | with_reducible assumption | exact ⟨rfl⟩ | exact ⟨rfl, rfl⟩ | (refine _root_.id ?_; kernel_rfl) | omega) only [evs, ext_mv, nth, put, putT, getT, binInt, binStr, binBool, aUn, outA, resA, mapO, resA1, oneOf, w1, w2, w3, bots, cond_true, cond_false, if_true, if_false, ite_true, ite_false, reduceIte, reduceCtorEq, implies_true, Nat.reduceAdd, Nat.reduceSub, AV.int, AV.bool, AV.str, Nat.reduceBEq, Nat.reduceEqDiff, Nat.reduceMul, Nat.reduceLT, Nat.reduceLeDiff, Int.reduceNeg, BEq.rfl, beq_self_eq_true, tabl, cellsOf, fldA, ldA, stA, entAt, partA, takeN, over, leafOk, Value.oneCell', idxA, nilA, cellsEq, fillA, elemsA, pure1, pure2, reps, chkA, tys, Tryd.results50, KX_draw, KX_drawQ, KX_tail, lastO_one, lastO_more, dropL_one, dropL_more, callP_eq, callM_true, e0, e2, e3, e4, d1, hz', q4, q1, q3, d2', hr]
      exact IH (u.tdiv 10000, out ++ [((u.natAbs % 10000 : Nat) : Int)], capNew tk' c 1) _ (by first | omega | (simp only; omega)) ⟨rfl, by unfold i64; omega, by rw [t2]; exact hs, hok', (by first | rfl | simp only [getT, List.map_append, List.map_cons, List.map_nil, digC, digA]), (by first | rfl | simp only [getT, List.map_append, List.map_cons, List.map_nil, digC, digA]), (by first | rfl | simp only [getT, List.map_append, List.map_cons, List.map_nil, digC, digA]), (by first | rfl | simp only [getT, List.map_append, List.map_cons, List.map_nil, digC, digA]), (by first | rfl | simp only [getT, List.map_append, List.map_cons, List.map_nil, digC, digA])⟩
end
end Go.Proofs.YtgadegdhfjnoaaaDoor
/-
  What the functions of the fractions compute: small fractions, lowest terms.
-/

namespace Go.Proofs.YtgadegdhfjnoaaaDoor
open Go
/-- a fraction -/
def ratA (p : Bool) (l : List Int) (q : Bool) (r : List Int) : AV := .agg [.prim (.bool p), digA l, .prim (.bool q), digA r]
def qA (n d : Int) : AV := ratA (decide (n < 0)) (dig n.natAbs) (decide (d < 0)) (dig d.natAbs)
/-- the parts of a fraction in lowest terms -/
def lowN (n d : Int) : Int := (if d < 0 then -n else n).tdiv ((n.natAbs.gcd d.natAbs : Nat) : Int)
def lowD (n d : Int) : Int := ((d.natAbs / n.natAbs.gcd d.natAbs : Nat) : Int)
section
variable (S : List Ent) (tk : List Nat) (k : Nat)
theorem rat_Int (n : Int) (hn : i64 n) : cL Tryd.prog 16 [.int n] S tk k = some (qA n 1, S, tk, k) := by
  refine call_pure Tryd.func16 rfl rfl (by decide +kernel) (by decide +kernel) Tryd.ntmps16 rfl rfl _ _ _ (rfl) ?_; rw [RK_KX]
  have h1 := fun S tk k => big_Of S tk k n hn
  have h2 := fun S tk k => big_Of S tk k 1 (by unfold i64; omega)
  simp only [zA, bigA, digA] at h1 h2
  simp (maxSteps := 1000000) +contextual (disch := first | with_reducible assumption | exact ⟨rfl⟩ | exact ⟨rfl, rfl⟩ | (refine _root_.id ?_; kernel_rfl) | omega) only [evs, ext_mv, nth, put, putT, getT, binInt, binStr, binBool, aUn, outA, resA, mapO, resA1, oneOf, w1, w2, w3, bots, cond_true, cond_false, if_true, if_false, ite_true, ite_false, reduceIte, reduceCtorEq, implies_true, Nat.reduceAdd, Nat.reduceSub, AV.int, AV.bool, AV.str, Nat.reduceBEq, Nat.reduceEqDiff, Nat.reduceMul, Nat.reduceLT, Nat.reduceLeDiff, Int.reduceNeg, BEq.rfl, beq_self_eq_true, tabl, cellsOf, fldA, ldA, stA, entAt, partA, takeN, over, leafOk, Value.oneCell', idxA, nilA, cellsEq, fillA, elemsA, pure1, pure2, reps, chkA, tys, Tryd.results16, KX_draw, KX_drawQ, KX_tail, lastO_one, lastO_more, dropL_one, dropL_more, callP_eq, callM_true, ext_mv1, qA, ratA, digA, h1, h2]
theorem rat_zero : cL Tryd.prog 74 [] S tk k = some (qA 0 1, S, tk, k) := by
  refine call_pure Tryd.func74 rfl rfl (by decide +kernel) (by decide +kernel) Tryd.ntmps74 rfl rfl _ _ _ (rfl) ?_; rw [RK_KX]
  have h1 := fun S tk k => rat_Int S tk k 0 (by unfold i64; omega)
  simp only [qA, ratA, digA] at h1
  simp (maxSteps := 1000000) +contextual (disch := first | with_reducible assumption | exact ⟨rfl⟩ | exact ⟨rfl, rfl⟩ | (refine _root_.id ?_; kernel_rfl) | omega) only [evs, ext_mv, nth, put, putT, getT, binInt, binStr, binBool, aUn, outA, resA, mapO, resA1, oneOf, w1, w2, w3, bots, cond_true, cond_false, if_true, if_false, ite_true, ite_false, reduceIte, reduceCtorEq, implies_true, Nat.reduceAdd, Nat.reduceSub, AV.int, AV.bool, AV.str, Nat.reduceBEq, Nat.reduceEqDiff, Nat.reduceMul, Nat.reduceLT, Nat.reduceLeDiff, Int.reduceNeg, BEq.rfl, beq_self_eq_true, tabl, cellsOf, fldA, ldA, stA, entAt, partA, takeN, over, leafOk, Value.oneCell', idxA, nilA, cellsEq, fillA, elemsA, pure1, pure2, reps, chkA, tys, Tryd.results74, KX_draw, KX_drawQ, KX_tail, lastO_one, lastO_more, dropL_one, dropL_more, callP_eq, callM_true, ext_mv1, qA, ratA, digA, h1]
theorem rat_quick (a b c d : Int) : cL Tryd.prog 53 [qA a b, qA c d] S tk k = some (.tup [.agg [.int (smN a), .int (smN b), .int (smN c), .int (smN d)], .bool (smB a && smB b && smB c && smB d)], S, tk, k) := by
  refine call_pure Tryd.func53 rfl rfl (by decide +kernel) (by decide +kernel) Tryd.ntmps53 rfl rfl _ _ _ (rfl) ?_; rw [RK_KX]
  have h := fun z S tk k => rat_small S tk k z
  simp only [zA, bigA, digA] at h
  cases d1 : smB a with
  | false => simp (maxSteps := 1000000) +contextual (disch := first | with_reducible assumption | exact ⟨rfl⟩ | exact ⟨rfl, rfl⟩ | (refine _root_.id ?_; kernel_rfl) | omega) only [evs, ext_mv, nth, put, putT, getT, binInt, binStr, binBool, aUn, outA, resA, mapO, resA1, oneOf, w1, w2, w3, bots, cond_true, cond_false, if_true, if_false, ite_true, ite_false, reduceIte, reduceCtorEq, implies_true, Nat.reduceAdd, Nat.reduceSub, AV.int, AV.bool, AV.str, Nat.reduceBEq, Nat.reduceEqDiff, Nat.reduceMul, Nat.reduceLT, Nat.reduceLeDiff, Int.reduceNeg, BEq.rfl, beq_self_eq_true, tabl, cellsOf, fldA, ldA, stA, entAt, partA, takeN, over, leafOk, Value.oneCell', idxA, nilA, cellsEq, fillA, elemsA, pure1, pure2, reps, chkA, tys, Tryd.results53, KX_draw, KX_drawQ, KX_tail, lastO_one, lastO_more, dropL_one, dropL_more, callP_eq, callM_true, ext_mv1, qA, ratA, digA, h, d1, Bool.false_and]
  | true =>
    cases d2 : smB b with
    | false => simp (maxSteps := 1000000) +contextual (disch := first | with_reducible assumption | exact ⟨rfl⟩ | exact ⟨rfl, rfl⟩ | (refine _root_.id ?_; kernel_rfl) | omega) only [evs, ext_mv, nth, put, putT, getT, binInt, binStr, binBool, aUn, outA, resA, mapO, resA1, oneOf, w1, w2, w3, bots, cond_true, cond_false, if_true, if_false, ite_true, ite_false, reduceIte, reduceCtorEq, implies_true, Nat.reduceAdd, Nat.reduceSub, AV.int, AV.bool, AV.str, Nat.reduceBEq, Nat.reduceEqDiff, Nat.reduceMul, Nat.reduceLT, Nat.reduceLeDiff, Int.reduceNeg, BEq.rfl, beq_self_eq_true, tabl, cellsOf, fldA, ldA, stA, entAt, partA, takeN, over, leafOk, Value.oneCell', idxA, nilA, cellsEq, fillA, elemsA, pure1, pure2, reps, chkA, tys, Tryd.results53, KX_draw, KX_drawQ, KX_tail, lastO_one, lastO_more, dropL_one, dropL_more, callP_eq, callM_true, ext_mv1, qA, ratA, digA, h, d1, d2, Bool.false_and, Bool.true_and]
    | true =>
      cases d3 : smB c with
      | false => simp (maxSteps := 1000000) +contextual (disch := first | with_reducible assumption | exact ⟨rfl⟩ | exact ⟨rfl, rfl⟩ | (refine _root_.id ?_; kernel_rfl) | omega) only [evs, ext_mv, nth, put, putT, getT, binInt, binStr, binBool, aUn, outA, resA, mapO, resA1, oneOf, w1, w2, w3, bots, cond_true, cond_false, if_true, if_false, ite_true, ite_false, reduceIte, reduceCtorEq, implies_true, Nat.reduceAdd, Nat.reduceSub, AV.int, AV.bool, AV.str, Nat.reduceBEq, Nat.reduceEqDiff, Nat.reduceMul, Nat.reduceLT, Nat.reduceLeDiff, Int.reduceNeg, BEq.rfl, beq_self_eq_true, tabl, cellsOf, fldA, ldA, stA, entAt, partA, takeN, over, leafOk, Value.oneCell', idxA, nilA, cellsEq, fillA, elemsA, pure1, pure2, reps, chkA, tys, Tryd.results53, KX_draw, KX_drawQ, KX_tail, lastO_one, lastO_more, dropL_one, dropL_more, callP_eq, callM_true, ext_mv1, qA, ratA, digA, h, d1, d2, d3, Bool.false_and, Bool.true_and]
      | true => simp (maxSteps := 1000000) +contextual (disch := first | with_reducible assumption | exact ⟨rfl⟩ | exact ⟨rfl, rfl⟩ | (refine _root_.id ?_; kernel_rfl) | omega) only [evs, ext_mv, nth, put, putT, getT, binInt, binStr, binBool, aUn, outA, resA, mapO, resA1, oneOf, w1, w2, w3, bots, cond_true, cond_false, if_true, if_false, ite_true, ite_false, reduceIte, reduceCtorEq, implies_true, Nat.reduceAdd, Nat.reduceSub, AV.int, AV.bool, AV.str, Nat.reduceBEq, Nat.reduceEqDiff, Nat.reduceMul, Nat.reduceLT, Nat.reduceLeDiff, Int.reduceNeg, BEq.rfl, beq_self_eq_true, tabl, cellsOf, fldA, ldA, stA, entAt, partA, takeN, over, leafOk, Value.oneCell', idxA, nilA, cellsEq, fillA, elemsA, pure1, pure2, reps, chkA, tys, Tryd.results53, KX_draw, KX_drawQ, KX_tail, lastO_one, lastO_more, dropL_one, dropL_more, callP_eq, callM_true, ext_mv1, qA, ratA, digA, h, d1, d2, d3, Bool.false_and, Bool.true_and]
theorem rat_fraction (n d : Int) (hn : n.natAbs ≤ 100000000000000000) (hd : d.natAbs ≤ 100000000000000000) (hd0 : d ≠ 0) : cL Tryd.prog 68 [.int n, .int d] S tk k = some (qA (lowN n d) (lowD n d), S, tk, k) := by
  refine call_pure Tryd.func68 rfl rfl (by decide +kernel) (by decide +kernel) Tryd.ntmps68 rfl rfl _ _ _ (rfl) ?_; rw [RK_KX]
  have hC := fun S tk k => told (E := E1) (rat_common S tk k n.natAbs d.natAbs (by omega) (by omega))
  have hg0 : 0 < n.natAbs.gcd d.natAbs := Nat.gcd_pos_of_pos_right _ (by omega)
  have hgz : ¬ (((n.natAbs.gcd d.natAbs : Nat) : Int) = 0) := by omega
  have hm : ∀ x : Int, x.natAbs = n.natAbs → (if -x > x then -x else x) = (n.natAbs : Int) := fun x hx => by split <;> omega
  have hwn : ∀ x : Int, x.natAbs = n.natAbs → IntKind.i64.wrap (0 - x) = -x := fun x hx => by rw [wrap_of (by unfold i64; omega)]; omega
  have hwd : IntKind.i64.wrap (0 - d) = -d := by rw [wrap_of (by unfold i64; omega)]; omega
  have hq : ∀ x : Int, x.natAbs = n.natAbs → i64 (x.tdiv ((n.natAbs.gcd d.natAbs : Nat) : Int)) := fun x hx => by
    have h1 : (x.tdiv ((n.natAbs.gcd d.natAbs : Nat) : Int)).natAbs ≤ x.natAbs := by
      rw [Int.natAbs_tdiv]; exact Nat.div_le_self _ _
    unfold i64; omega
  have hld : i64 (lowD n d) := by
    have := Nat.div_le_self d.natAbs (n.natAbs.gcd d.natAbs)
    unfold i64 lowD
    generalize d.natAbs / n.natAbs.gcd d.natAbs = z at *
    omega
  have hdq : ∀ x : Int, x = (d.natAbs : Int) → x.tdiv ((n.natAbs.gcd d.natAbs : Nat) : Int) = lowD n d := fun x hx => by
    subst hx
    rw [Int.tdiv_eq_ediv_of_nonneg (by omega)]; rfl
  have hB := fun S tk k => big_Of S tk k (lowD n d) hld
  by_cases h : d < 0
  · have d1 : decide (d < 0) = true := by simpa using h
    have hN : lowN n d = (-n).tdiv ((n.natAbs.gcd d.natAbs : Nat) : Int) := by unfold lowN; rw [if_pos h]
    have hA := fun S tk k => big_Of S tk k (lowN n d) (by rw [hN]; exact hq _ (by omega))
    have hm' := hm (-n) (by omega)
    have hw1 := hwn n rfl
    have hw2 := hwn (-n) (by omega)
    have hw3 : IntKind.i64.wrap ((-n).tdiv ((n.natAbs.gcd d.natAbs : Nat) : Int)) = lowN n d := by
      rw [hN]; have := hq (-n) (by omega); exact wrap_of this
    have hw4 : IntKind.i64.wrap ((-d).tdiv ((n.natAbs.gcd d.natAbs : Nat) : Int)) = lowD n d := by
      rw [hdq (-d) (by omega)]; exact wrap_of hld
    have hda : (-d) = (d.natAbs : Int) := by omega
    have hC' : ∀ S tk k, cL Tryd.prog 47 [.int (n.natAbs : Int), .int (-d)] S tk k = some (.int ((n.natAbs.gcd d.natAbs : Nat) : Int), S, tk, k) := fun S tk k => by
      have := hC S tk k
      rwa [← hda] at this
    simp only [zA, bigA, digA] at hA hB
    simp (maxSteps := 1000000) +contextual (disch := first | with_reducible assumption | exact ⟨rfl⟩ | exact ⟨rfl, rfl⟩ | (refine _root_.id ?_; kernel_rfl) | omega) only [evs, ext_mv, nth, put, putT, getT, binInt, binStr, binBool, aUn, outA, resA, mapO, resA1, oneOf, w1, w2, w3, bots, cond_true, cond_false, if_true, if_false, ite_true, ite_false, reduceIte, reduceCtorEq, implies_true, Nat.reduceAdd, Nat.reduceSub, AV.int, AV.bool, AV.str, Nat.reduceBEq, Nat.reduceEqDiff, Nat.reduceMul, Nat.reduceLT, Nat.reduceLeDiff, Int.reduceNeg, BEq.rfl, beq_self_eq_true, tabl, cellsOf, fldA, ldA, stA, entAt, partA, takeN, over, leafOk, Value.oneCell', idxA, nilA, cellsEq, fillA, elemsA, pure1, pure2, reps, chkA, tys, Tryd.results68, KX_draw, KX_drawQ, KX_tail, lastO_one, lastO_more, dropL_one, dropL_more, callP_eq, callM_true, ext_mv1, maxA_int, qA, ratA, digA, d1, hw1, hw2, hwd, hm', hC', hgz, hw3, hw4, hA, hB]
  · have d1 : decide (d < 0) = false := by simpa using h
    have hN : lowN n d = n.tdiv ((n.natAbs.gcd d.natAbs : Nat) : Int) := by unfold lowN; rw [if_neg h]
    have hA := fun S tk k => big_Of S tk k (lowN n d) (by rw [hN]; exact hq _ (by omega))
    have hm' := hm n (by omega)
    have hw1 := hwn n rfl
    have hw3 : IntKind.i64.wrap (n.tdiv ((n.natAbs.gcd d.natAbs : Nat) : Int)) = lowN n d := by
      rw [hN]; have := hq n (by omega); exact wrap_of this
    have hw4 : IntKind.i64.wrap (d.tdiv ((n.natAbs.gcd d.natAbs : Nat) : Int)) = lowD n d := by
      rw [hdq d (by omega)]; exact wrap_of hld
    have hda : d = (d.natAbs : Int) := by omega
    have hC2 : ∀ S tk k, cL Tryd.prog 47 [.int (n.natAbs : Int), .int d] S tk k = some (.int ((n.natAbs.gcd d.natAbs : Nat) : Int), S, tk, k) := fun S tk k => by
      have := hC S tk k
      rwa [← hda] at this
    simp only [zA, bigA, digA] at hA hB
    simp (maxSteps := 1000000) +contextual (disch := first | with_reducible assumption | exact ⟨rfl⟩ | exact ⟨rfl, rfl⟩ | (refine _root_.id ?_; kernel_rfl) | omega) only [evs, ext_mv, nth, put, putT, getT, binInt, binStr, binBool, aUn, outA, resA, mapO, resA1, oneOf, w1, w2, w3, bots, cond_true, cond_false, if_true, if_false, ite_true, ite_false, reduceIte, reduceCtorEq, implies_true, Nat.reduceAdd, Nat.reduceSub, AV.int, AV.bool, AV.str, Nat.reduceBEq, Nat.reduceEqDiff, Nat.reduceMul, Nat.reduceLT, Nat.reduceLeDiff, Int.reduceNeg, BEq.rfl, beq_self_eq_true, tabl, cellsOf, fldA, ldA, stA, entAt, partA, takeN, over, leafOk, Value.oneCell', idxA, nilA, cellsEq, fillA, elemsA, pure1, pure2, reps, chkA, tys, Tryd.results68, KX_draw, KX_drawQ, KX_tail, lastO_one, lastO_more, dropL_one, dropL_more, callP_eq, callM_true, ext_mv1, maxA_int, qA, ratA, digA, d1, hw1, hm', hC2, hgz, hw3, hw4, hA, hB]
end
end Go.Proofs.YtgadegdhfjnoaaaDoor
/-
  What the functions of the fractions compute: which are right; results in lowest terms.
-/

namespace Go.Proofs.YtgadegdhfjnoaaaDoor
open Go
theorem valid_sign {p : Bool} {l : List Int} (h : validF p l = true) : p = decide (V p l < 0) ∧ l = dig (V p l).natAbs := by
  have ha := V_abs p l
  rw [if_pos h] at ha
  refine ⟨?_, ha.symm⟩
  have hs := V_sg p l
  cases p with
  | false =>
    have : ¬ V false l < 0 := by rw [hs]; simp [sg]
    simp [this]
  | true =>
    have hl : l ≠ [] := fun e => by subst e; simp [validF] at h
    have h0 : (V true l).natAbs ≠ 0 := fun e => by rw [e, dig_zero] at ha; exact hl ha.symm
    have : V true l < 0 := by rw [hs]; simp only [sg, if_true]; omega
    simp [this]
/-- which fractions are right -/
def goodQ (n d : Int) : Bool := decide (0 < d) && decide (n.natAbs.gcd d.natAbs = 1)
def validQ (p : Bool) (l : List Int) (q : Bool) (r : List Int) : Bool := validF p l && validF q r && goodQ (V p l) (V q r)
def nQ (p : Bool) (l : List Int) (q : Bool) (r : List Int) : Int := if validQ p l q r = true then V p l else 0
def dQ (p : Bool) (l : List Int) (q : Bool) (r : List Int) : Int := if validQ p l q r = true then V q r else 1
theorem cmp_one (g : Nat) : decide (cmpN g 1 = 0) = decide (g = 1) := by
  rw [decide_eq_decide]
  unfold cmpN
  split
  · omega
  · split <;> omega
section
variable (S : List Ent) (tk : List Nat) (k : Nat)
theorem rat_order_one (a : Nat) (ha : (dig a).length ≤ 1000000) : cL Tryd.prog 48 [digA (dig a), .frz [[.prim (.int .i64 1)]] .tight] S tk k = some (.int (cmpN a 1), S, tk, k) := by
  have h1' : dig 1 = [(1 : Int)] := dig_one (d := (1 : Int)) (by omega) (by omega)
  have h2 := told (E := E1) (rat_order S tk k a 1 ha (by rw [h1']; simp))
  rw [h1'] at h2
  exact (cL_w2 (args := [digA (dig a), .frz [[.prim (.int .i64 1)]] .tight]) (args' := [digA (dig a), digA [(1 : Int)]]) rfl rfl rfl).trans h2
theorem rat_Valid (p : Bool) (l : List Int) (q : Bool) (r : List Int) (hl : l.length ≤ 1000000) (hr : r.length ≤ 1000000) : cL Tryd.prog 15 [ratA p l q r] S tk k = some (.bool (validQ p l q r), S, tk, k) := by
  have hV1 := fun S tk k => told (E := E1) (big_Valid S tk k p l .unk hl)
  have hV2 := fun S tk k => told (E := E1) (big_Valid S tk k q r .unk hr)
  refine call_pure Tryd.func15 rfl rfl (by decide +kernel) (by decide +kernel) Tryd.ntmps15 rfl rfl _ _ _ (rfl) ?_; rw [RK_KX]
  unfold validQ
  cases h1 : validF p l with
  | false =>
    rw [h1] at hV1
    simp (maxSteps := 1000000) +contextual (disch := first | with_reducible assumption | exact ⟨rfl⟩ | exact ⟨rfl, rfl⟩ | (refine _root_.id ?_; kernel_rfl) | omega) only [evs, ext_mv, nth, put, putT, getT, binInt, binStr, binBool, aUn, outA, resA, mapO, resA1, oneOf, w1, w2, w3, bots, cond_true, cond_false, if_true, if_false, ite_true, ite_false, reduceIte, reduceCtorEq, implies_true, Nat.reduceAdd, Nat.reduceSub, AV.int, AV.bool, AV.str, Nat.reduceBEq, Nat.reduceEqDiff, Nat.reduceMul, Nat.reduceLT, Nat.reduceLeDiff, Int.reduceNeg, BEq.rfl, beq_self_eq_true, tabl, cellsOf, fldA, ldA, stA, entAt, partA, takeN, over, leafOk, Value.oneCell', idxA, nilA, cellsEq, fillA, elemsA, pure1, pure2, reps, chkA, tys, Tryd.results15, KX_draw, KX_drawQ, KX_tail, lastO_one, lastO_more, dropL_one, dropL_more, callP_eq, callM_true, ext_mv1, ratA, digA, hV1, Bool.false_and]
  | true =>
  rw [h1] at hV1
  cases h2 : validF q r with
  | false =>
    rw [h2] at hV2
    simp (maxSteps := 1000000) +contextual (disch := first | with_reducible assumption | exact ⟨rfl⟩ | exact ⟨rfl, rfl⟩ | (refine _root_.id ?_; kernel_rfl) | omega) only [evs, ext_mv, nth, put, putT, getT, binInt, binStr, binBool, aUn, outA, resA, mapO, resA1, oneOf, w1, w2, w3, bots, cond_true, cond_false, if_true, if_false, ite_true, ite_false, reduceIte, reduceCtorEq, implies_true, Nat.reduceAdd, Nat.reduceSub, AV.int, AV.bool, AV.str, Nat.reduceBEq, Nat.reduceEqDiff, Nat.reduceMul, Nat.reduceLT, Nat.reduceLeDiff, Int.reduceNeg, BEq.rfl, beq_self_eq_true, tabl, cellsOf, fldA, ldA, stA, entAt, partA, takeN, over, leafOk, Value.oneCell', idxA, nilA, cellsEq, fillA, elemsA, pure1, pure2, reps, chkA, tys, Tryd.results15, KX_draw, KX_drawQ, KX_tail, lastO_one, lastO_more, dropL_one, dropL_more, callP_eq, callM_true, ext_mv1, ratA, digA, hV1, hV2, Bool.false_and, Bool.true_and]
  | true =>
  rw [h2] at hV2
  obtain ⟨hp, hpl⟩ := valid_sign h1
  obtain ⟨hq, hqr⟩ := valid_sign h2
  have hll := (valid_dig h1).2.2
  have hrl := (valid_dig h2).2.2
  by_cases hq0 : q = true
  · subst hq0
    have hg : goodQ (V p l) (V true r) = false := by
      have : V true r < 0 := by simpa using hq.symm
      have h3 : ¬ 0 < V true r := by omega
      simp [goodQ, h3]
    rw [hg]
    simp (maxSteps := 1000000) +contextual (disch := first | with_reducible assumption | exact ⟨rfl⟩ | exact ⟨rfl, rfl⟩ | (refine _root_.id ?_; kernel_rfl) | omega) only [evs, ext_mv, nth, put, putT, getT, binInt, binStr, binBool, aUn, outA, resA, mapO, resA1, oneOf, w1, w2, w3, bots, cond_true, cond_false, if_true, if_false, ite_true, ite_false, reduceIte, reduceCtorEq, implies_true, Nat.reduceAdd, Nat.reduceSub, AV.int, AV.bool, AV.str, Nat.reduceBEq, Nat.reduceEqDiff, Nat.reduceMul, Nat.reduceLT, Nat.reduceLeDiff, Int.reduceNeg, BEq.rfl, beq_self_eq_true, tabl, cellsOf, fldA, ldA, stA, entAt, partA, takeN, over, leafOk, Value.oneCell', idxA, nilA, cellsEq, fillA, elemsA, pure1, pure2, reps, chkA, tys, Tryd.results15, KX_draw, KX_drawQ, KX_tail, lastO_one, lastO_more, dropL_one, dropL_more, callP_eq, callM_true, ext_mv1, ratA, digA, hV1, hV2, Bool.true_and]
  · have hqf : q = false := by simpa using hq0
    subst hqf
    have hd0 : 0 ≤ V false r := by
      have : ¬ V false r < 0 := by simpa using hq.symm
      omega
    by_cases hr0 : r = []
    · subst hr0
      have hg : goodQ (V p l) (V false []) = false := by
        have : V false [] = 0 := by have := dig_nil.1 hqr.symm; omega
        simp [goodQ, this]
      rw [hg]
      simp only [List.map_nil] at hV2
      have iz : (((0 : Nat) : Int) == 0) = true := rfl
      simp (maxSteps := 1000000) +contextual (disch := first | with_reducible assumption | exact ⟨rfl⟩ | exact ⟨rfl, rfl⟩ | (refine _root_.id ?_; kernel_rfl) | omega) only [evs, ext_mv, nth, put, putT, getT, binInt, binStr, binBool, aUn, outA, resA, mapO, resA1, oneOf, w1, w2, w3, bots, cond_true, cond_false, if_true, if_false, ite_true, ite_false, reduceIte, reduceCtorEq, implies_true, Nat.reduceAdd, Nat.reduceSub, AV.int, AV.bool, AV.str, Nat.reduceBEq, Nat.reduceEqDiff, Nat.reduceMul, Nat.reduceLT, Nat.reduceLeDiff, Int.reduceNeg, BEq.rfl, beq_self_eq_true, tabl, cellsOf, fldA, ldA, stA, entAt, partA, takeN, over, leafOk, Value.oneCell', idxA, nilA, cellsEq, fillA, elemsA, pure1, pure2, reps, chkA, tys, Tryd.results15, KX_draw, KX_drawQ, KX_tail, lastO_one, lastO_more, dropL_one, dropL_more, callP_eq, callM_true, ext_mv1, ratA, digA, hV1, hV2, iz, Bool.true_and]
    · have hrl0 : (((r.length : Nat) : Int) == 0) = false := by
        have := List.length_pos_iff.2 hr0
        simp; omega
      have hd1 : 0 < V false r := by
        have : (V false r).natAbs ≠ 0 := fun e => hr0 (by rw [hqr, e, dig_zero])
        omega
      have hgd : goodQ (V p l) (V false r) = decide ((V p l).natAbs.gcd (V false r).natAbs = 1) := by simp [goodQ, hd1]
      rw [hgd]
      have hS1 := fun S tk k => rat_small S tk k (V p l)
      have hS2 := fun S tk k => rat_small S tk k (V false r)
      simp only [zA, bigA, digA, ← hp, ← hpl, ← hq, ← hqr] at hS1 hS2
      by_cases hs : smB (V p l) = true ∧ smB (V false r) = true
      · obtain ⟨s1, s2⟩ := hs
        have e1 : smN (V p l) = V p l := by simp [smN, s1]
        have e2 : smN (V false r) = V false r := by simp [smN, s2]
        have b1 := smB_lt s1
        have b2 := smB_lt s2
        rw [e1, s1] at hS1
        rw [e2, s2] at hS2
        have hw : IntKind.i64.wrap (0 - V p l) = - V p l := by rw [wrap_of (by unfold i64; omega)]; omega
        have hm : (if - V p l > V p l then - V p l else V p l) = ((V p l).natAbs : Int) := by split <;> omega
        have hC := fun S tk k => told (E := E1) (rat_common S tk k (V p l).natAbs (V false r).natAbs (by omega) (by omega))
        have hda : ((V false r).natAbs : Int) = V false r := by omega
        rw [hda] at hC
        have hge : ((((V p l).natAbs.gcd (V false r).natAbs : Nat) : Int) == 1) = decide ((V p l).natAbs.gcd (V false r).natAbs = 1) := by
          rw [Bool.eq_iff_iff]; simp; omega
        simp (maxSteps := 1000000) +contextual (disch := first | with_reducible assumption | exact ⟨rfl⟩ | exact ⟨rfl, rfl⟩ | (refine _root_.id ?_; kernel_rfl) | omega) only [evs, ext_mv, nth, put, putT, getT, binInt, binStr, binBool, aUn, outA, resA, mapO, resA1, oneOf, w1, w2, w3, bots, cond_true, cond_false, if_true, if_false, ite_true, ite_false, reduceIte, reduceCtorEq, implies_true, Nat.reduceAdd, Nat.reduceSub, AV.int, AV.bool, AV.str, Nat.reduceBEq, Nat.reduceEqDiff, Nat.reduceMul, Nat.reduceLT, Nat.reduceLeDiff, Int.reduceNeg, BEq.rfl, beq_self_eq_true, tabl, cellsOf, fldA, ldA, stA, entAt, partA, takeN, over, leafOk, Value.oneCell', idxA, nilA, cellsEq, fillA, elemsA, pure1, pure2, reps, chkA, tys, Tryd.results15, KX_draw, KX_drawQ, KX_tail, lastO_one, lastO_more, dropL_one, dropL_more, callP_eq, callM_true, ext_mv1, maxA_int, ratA, digA, hV1, hV2, hrl0, hS1, hS2, hw, hm, hC, hge, Bool.true_and]
      · have hD := fun S tk k => rat_divisor S tk k (V p l).natAbs (V false r).natAbs (by rw [← hpl]; omega) (by rw [← hqr]; omega)
        rw [← hpl, ← hqr] at hD
        have hgl : (dig ((V p l).natAbs.gcd (V false r).natAbs)).length ≤ 200 := by
          have h3 : (V p l).natAbs.gcd (V false r).natAbs ≤ (V false r).natAbs := Nat.gcd_le_right _ (by omega)
          have h4 : (dig (V false r).natAbs).length ≤ 200 := by rw [← hqr]; exact hrl
          exact dig_len.2 (Nat.lt_of_le_of_lt h3 (dig_len.1 h4))
        have hO := fun S tk k => rat_order_one S tk k ((V p l).natAbs.gcd (V false r).natAbs) (by omega)
        have hc1 : (cmpN ((V p l).natAbs.gcd (V false r).natAbs) 1 == 0) = decide ((V p l).natAbs.gcd (V false r).natAbs = 1) := by
          rw [← cmp_one]; rfl
        simp only [digA] at hD hO
        cases s1 : smB (V p l) with
        | false =>
          rw [s1] at hS1
          simp (maxSteps := 1000000) +contextual (disch := first | with_reducible assumption | exact ⟨rfl⟩ | exact ⟨rfl, rfl⟩ | (refine _root_.id ?_; kernel_rfl) | omega) only [evs, ext_mv, nth, put, putT, getT, binInt, binStr, binBool, aUn, outA, resA, mapO, resA1, oneOf, w1, w2, w3, bots, cond_true, cond_false, if_true, if_false, ite_true, ite_false, reduceIte, reduceCtorEq, implies_true, Nat.reduceAdd, Nat.reduceSub, AV.int, AV.bool, AV.str, Nat.reduceBEq, Nat.reduceEqDiff, Nat.reduceMul, Nat.reduceLT, Nat.reduceLeDiff, Int.reduceNeg, BEq.rfl, beq_self_eq_true, tabl, cellsOf, fldA, ldA, stA, entAt, partA, takeN, over, leafOk, Value.oneCell', idxA, nilA, cellsEq, fillA, elemsA, pure1, pure2, reps, chkA, tys, Tryd.results15, KX_draw, KX_drawQ, KX_tail, lastO_one, lastO_more, dropL_one, dropL_more, callP_eq, callM_true, ext_mv1, ratA, digA, hV1, hV2, hrl0, hS1, hS2, hD, hO, hc1, Bool.true_and, Bool.false_and]
        | true =>
          have s2 : smB (V false r) = false := by simpa [s1] using hs
          rw [s1] at hS1
          rw [s2] at hS2
          simp (maxSteps := 1000000) +contextual (disch := first | with_reducible assumption | exact ⟨rfl⟩ | exact ⟨rfl, rfl⟩ | (refine _root_.id ?_; kernel_rfl) | omega) only [evs, ext_mv, nth, put, putT, getT, binInt, binStr, binBool, aUn, outA, resA, mapO, resA1, oneOf, w1, w2, w3, bots, cond_true, cond_false, if_true, if_false, ite_true, ite_false, reduceIte, reduceCtorEq, implies_true, Nat.reduceAdd, Nat.reduceSub, AV.int, AV.bool, AV.str, Nat.reduceBEq, Nat.reduceEqDiff, Nat.reduceMul, Nat.reduceLT, Nat.reduceLeDiff, Int.reduceNeg, BEq.rfl, beq_self_eq_true, tabl, cellsOf, fldA, ldA, stA, entAt, partA, takeN, over, leafOk, Value.oneCell', idxA, nilA, cellsEq, fillA, elemsA, pure1, pure2, reps, chkA, tys, Tryd.results15, KX_draw, KX_drawQ, KX_tail, lastO_one, lastO_more, dropL_one, dropL_more, callP_eq, callM_true, ext_mv1, ratA, digA, hV1, hV2, hrl0, hS1, hS2, hD, hO, hc1, Bool.true_and, Bool.false_and]
end
end Go.Proofs.YtgadegdhfjnoaaaDoor
/-
  What the functions of the fractions compute: what is no fraction counts as 0; results in lowest terms.
-/

namespace Go.Proofs.YtgadegdhfjnoaaaDoor
open Go
theorem valid_parts {p : Bool} {l : List Int} {q : Bool} {r : List Int} (h : validQ p l q r = true) : validF p l = true ∧ validF q r = true ∧ goodQ (V p l) (V q r) = true := by
  unfold validQ at h
  simp only [Bool.and_eq_true] at h
  exact ⟨h.1.1, h.1.2, h.2⟩
theorem ratA_valid {p : Bool} {l : List Int} {q : Bool} {r : List Int} (h : validQ p l q r = true) : ratA p l q r = qA (V p l) (V q r) := by
  obtain ⟨h1, h2, -⟩ := valid_parts h
  obtain ⟨a1, a2⟩ := valid_sign h1
  obtain ⟨b1, b2⟩ := valid_sign h2
  unfold qA
  rw [← a1, ← a2, ← b1, ← b2]
/-- two coprime parts that fit, the second one positive -/
structure GoodQ (n d : Int) : Prop where
  pos : 0 < d
  cop : n.natAbs.gcd d.natAbs = 1
  ln : (dig n.natAbs).length ≤ 200
  ld : (dig d.natAbs).length ≤ 200
theorem good_of (p : Bool) (l : List Int) (q : Bool) (r : List Int) : GoodQ (nQ p l q r) (dQ p l q r) := by
  unfold nQ dQ
  cases h : validQ p l q r with
  | false =>
    simp only [Bool.false_eq_true, if_false]
    exact ⟨by omega, rfl, by decide +kernel, by decide +kernel⟩
  | true =>
    obtain ⟨h1, h2, h3⟩ := valid_parts h
    simp only [goodQ, Bool.and_eq_true, decide_eq_true_eq] at h3
    exact ⟨h3.1, h3.2, V_len p l, V_len q r⟩
def fitsQ (n d : Int) : Bool := !decide (d = 0) && okZ (lowN n d) && okZ (lowD n d)
/-- the fraction in lowest terms, if it fits -/
def resN (n d : Int) : Int := if fitsQ n d = true then lowN n d else 0
def resD (n d : Int) : Int := if fitsQ n d = true then lowD n d else 0
def resQ (n d : Int) : AV := .tup [qA (resN n d) (resD n d), .bool (fitsQ n d)]
theorem low_abs (n d : Int) : (lowN n d).natAbs = n.natAbs / n.natAbs.gcd d.natAbs := by
  unfold lowN
  rw [Int.natAbs_tdiv]
  split <;> simp <;> rfl
theorem low_sign (n d : Int) (hd : d ≠ 0) : (decide (n < 0) != decide (d < 0) && !decide (dig (n.natAbs / n.natAbs.gcd d.natAbs) = [])) = decide (lowN n d < 0) := by
  have ha := low_abs n d
  have hg0 : 0 < n.natAbs.gcd d.natAbs := Nat.gcd_pos_of_pos_right _ (by omega)
  have hz : dig (n.natAbs / n.natAbs.gcd d.natAbs) = [] ↔ lowN n d = 0 := by rw [dig_nil, ← ha]; omega
  have hsg : ∀ x : Int, 0 ≤ x → 0 ≤ x.tdiv ((n.natAbs.gcd d.natAbs : Nat) : Int) := fun x hx => Int.tdiv_nonneg hx (by omega)
  have hneg : ∀ x : Int, x ≤ 0 → x.tdiv ((n.natAbs.gcd d.natAbs : Nat) : Int) ≤ 0 := fun x hx => by
    have h1 := hsg (-x) (by omega)
    rw [Int.neg_tdiv] at h1
    omega
  rw [Bool.eq_iff_iff]
  simp only [Bool.and_eq_true, bne_iff_ne, ne_eq, decide_eq_decide, Bool.not_eq_true', decide_eq_false_iff_not, decide_eq_true_eq, hz]
  by_cases h : d < 0
  · have e : lowN n d = (-n).tdiv ((n.natAbs.gcd d.natAbs : Nat) : Int) := by unfold lowN; rw [if_pos h]
    have h1 := hsg (-n)
    have h2 := hneg (-n)
    rw [← e] at h1 h2
    constructor
    · rintro ⟨h3, h4⟩; have : 0 ≤ n := by omega
      have := h2 (by omega); omega
    · intro h3
      have : ¬ 0 ≤ -n := fun h4 => by have := h1 h4; omega
      omega
  · have e : lowN n d = n.tdiv ((n.natAbs.gcd d.natAbs : Nat) : Int) := by unfold lowN; rw [if_neg h]
    have h1 := hsg n
    have h2 := hneg n
    rw [← e] at h1 h2
    constructor
    · rintro ⟨h3, h4⟩; have : n < 0 := by omega
      have := h2 (by omega); omega
    · intro h3
      have : ¬ 0 ≤ n := fun h4 => by have := h1 h4; omega
      omega
section
variable (S : List Ent) (tk : List Nat) (k : Nat)
theorem rat_right (p : Bool) (l : List Int) (q : Bool) (r : List Int) (hl : l.length ≤ 1000000) (hr : r.length ≤ 1000000) : cL Tryd.prog 52 [ratA p l q r] S tk k = some (qA (nQ p l q r) (dQ p l q r), S, tk, k) := by
  have hV := fun S tk k => rat_Valid S tk k p l q r hl hr
  have hZ := fun S tk k => rat_zero S tk k
  refine call_pure Tryd.func52 rfl rfl (by decide +kernel) (by decide +kernel) Tryd.ntmps52 rfl rfl _ _ _ (rfl) ?_; rw [RK_KX]
  unfold nQ dQ
  cases h : validQ p l q r with
  | true =>
    rw [h] at hV
    have e := ratA_valid h
    simp only [if_true]
    rw [← e]
    simp only [ratA, digA] at hV
    simp (maxSteps := 1000000) +contextual (disch := first | with_reducible assumption | exact ⟨rfl⟩ | exact ⟨rfl, rfl⟩ | (refine _root_.id ?_; kernel_rfl) | omega) only [evs, ext_mv, nth, put, putT, getT, binInt, binStr, binBool, aUn, outA, resA, mapO, resA1, oneOf, w1, w2, w3, bots, cond_true, cond_false, if_true, if_false, ite_true, ite_false, reduceIte, reduceCtorEq, implies_true, Nat.reduceAdd, Nat.reduceSub, AV.int, AV.bool, AV.str, Nat.reduceBEq, Nat.reduceEqDiff, Nat.reduceMul, Nat.reduceLT, Nat.reduceLeDiff, Int.reduceNeg, BEq.rfl, beq_self_eq_true, tabl, cellsOf, fldA, ldA, stA, entAt, partA, takeN, over, leafOk, Value.oneCell', idxA, nilA, cellsEq, fillA, elemsA, pure1, pure2, reps, chkA, tys, Tryd.results52, KX_draw, KX_drawQ, KX_tail, lastO_one, lastO_more, dropL_one, dropL_more, callP_eq, callM_true, ext_mv1, ratA, digA, hV]
  | false =>
    rw [h] at hV
    simp only [Bool.false_eq_true, if_false]
    simp only [ratA, qA, digA] at hV hZ
    simp (maxSteps := 1000000) +contextual (disch := first | with_reducible assumption | exact ⟨rfl⟩ | exact ⟨rfl, rfl⟩ | (refine _root_.id ?_; kernel_rfl) | omega) only [evs, ext_mv, nth, put, putT, getT, binInt, binStr, binBool, aUn, outA, resA, mapO, resA1, oneOf, w1, w2, w3, bots, cond_true, cond_false, if_true, if_false, ite_true, ite_false, reduceIte, reduceCtorEq, implies_true, Nat.reduceAdd, Nat.reduceSub, AV.int, AV.bool, AV.str, Nat.reduceBEq, Nat.reduceEqDiff, Nat.reduceMul, Nat.reduceLT, Nat.reduceLeDiff, Int.reduceNeg, BEq.rfl, beq_self_eq_true, tabl, cellsOf, fldA, ldA, stA, entAt, partA, takeN, over, leafOk, Value.oneCell', idxA, nilA, cellsEq, fillA, elemsA, pure1, pure2, reps, chkA, tys, Tryd.results52, KX_draw, KX_drawQ, KX_tail, lastO_one, lastO_more, dropL_one, dropL_more, callP_eq, callM_true, ext_mv1, ratA, qA, digA, hV, hZ]
theorem rat_result (n d : Int) (hn : (dig n.natAbs).length ≤ 90000) (hd : (dig d.natAbs).length ≤ 90000) (hd0 : d ≠ 0) : cL Tryd.prog 42 [zA n, zA d] S tk k = some (resQ n d, S, tk, k) := by
  refine call_pure Tryd.func42 rfl rfl (by decide +kernel) (by decide +kernel) Tryd.ntmps42 rfl rfl _ _ _ (rfl) ?_; rw [RK_KX]
  have hg0 : 0 < n.natAbs.gcd d.natAbs := Nat.gcd_pos_of_pos_right _ (by omega)
  have hD := fun S tk k => rat_divisor S tk k n.natAbs d.natAbs hn hd
  have hgl : (dig (n.natAbs.gcd d.natAbs)).length ≤ 90000 := by
    have h3 : n.natAbs.gcd d.natAbs ≤ d.natAbs := Nat.gcd_le_right _ (by omega)
    exact Nat.le_trans (dig_len.2 (Nat.lt_of_le_of_lt h3 (dig_len.1 (Nat.le_refl _)))) hd
  have hQ1 := fun S tk k => rat_quotient S tk k n.natAbs (n.natAbs.gcd d.natAbs) .unk .unk hg0 hn hgl
  have hQ2 := fun S tk k => rat_quotient S tk k d.natAbs (n.natAbs.gcd d.natAbs) .unk .unk hg0 hd hgl
  have hla := low_abs n d
  have hlb : (lowD n d).natAbs = d.natAbs / n.natAbs.gcd d.natAbs := rfl
  have hs := low_sign n d hd0
  have hp := dlen_pos (n.natAbs / n.natAbs.gcd d.natAbs)
  have hdn : decide (lowD n d < 0) = false := by
    have : ¬ lowD n d < 0 := by unfold lowD; omega
    simp [this]
  have hC := fun (m : Nat) (h : (dig m).length ≤ 200) S tk k => slices_CloneN S tk k (dig m) .unk (by omega)
  unfold resQ resN resD
  simp only [digA] at hD hQ1 hQ2 hC
  by_cases h1 : (dig (n.natAbs / n.natAbs.gcd d.natAbs)).length ≤ 200
  · have d1 : decide (((dig (n.natAbs / n.natAbs.gcd d.natAbs)).length : Int) > 200) = false := by simp; omega
    by_cases h2 : (dig (d.natAbs / n.natAbs.gcd d.natAbs)).length ≤ 200
    · have d2 : decide (((dig (d.natAbs / n.natAbs.gcd d.natAbs)).length : Int) > 200) = false := by simp; omega
      have hf : fitsQ n d = true := by simp only [fitsQ, okZ, hla, hlb]; simp [hd0]; omega
      have hC1 := hC _ h1
      have hC2 := hC _ h2
      rw [hf]
      simp only [if_true, qA, hla, hlb, ← hs, hdn]
      have hbn : (decide (n < 0) != decide (d < 0)) = !(decide (n < 0) == decide (d < 0)) := rfl
      rw [hbn]
      cases d3 : decide (n < 0) == decide (d < 0) with
      | true => simp (maxSteps := 1000000) +contextual (disch := first | with_reducible assumption | exact ⟨rfl⟩ | exact ⟨rfl, rfl⟩ | (refine _root_.id ?_; kernel_rfl) | omega) only [evs, ext_mv, nth, put, putT, getT, binInt, binStr, binBool, aUn, outA, resA, mapO, resA1, oneOf, w1, w2, w3, bots, cond_true, cond_false, if_true, if_false, ite_true, ite_false, reduceIte, reduceCtorEq, implies_true, Nat.reduceAdd, Nat.reduceSub, AV.int, AV.bool, AV.str, Nat.reduceBEq, Nat.reduceEqDiff, Nat.reduceMul, Nat.reduceLT, Nat.reduceLeDiff, Int.reduceNeg, BEq.rfl, beq_self_eq_true, tabl, cellsOf, fldA, ldA, stA, entAt, partA, takeN, over, leafOk, Value.oneCell', idxA, nilA, cellsEq, fillA, elemsA, pure1, pure2, reps, chkA, tys, Tryd.results42, KX_draw, KX_drawQ, KX_tail, lastO_one, lastO_more, dropL_one, dropL_more, callP_eq, callM_true, ext_mv1, zA, bigA, ratA, digA, hD, hQ1, hQ2, d1, d2, d3, hbn, hp, hC1, hC2, Bool.not_true, Bool.not_false, Bool.true_and, Bool.false_and]
      | false => simp (maxSteps := 1000000) +contextual (disch := first | with_reducible assumption | exact ⟨rfl⟩ | exact ⟨rfl, rfl⟩ | (refine _root_.id ?_; kernel_rfl) | omega) only [evs, ext_mv, nth, put, putT, getT, binInt, binStr, binBool, aUn, outA, resA, mapO, resA1, oneOf, w1, w2, w3, bots, cond_true, cond_false, if_true, if_false, ite_true, ite_false, reduceIte, reduceCtorEq, implies_true, Nat.reduceAdd, Nat.reduceSub, AV.int, AV.bool, AV.str, Nat.reduceBEq, Nat.reduceEqDiff, Nat.reduceMul, Nat.reduceLT, Nat.reduceLeDiff, Int.reduceNeg, BEq.rfl, beq_self_eq_true, tabl, cellsOf, fldA, ldA, stA, entAt, partA, takeN, over, leafOk, Value.oneCell', idxA, nilA, cellsEq, fillA, elemsA, pure1, pure2, reps, chkA, tys, Tryd.results42, KX_draw, KX_drawQ, KX_tail, lastO_one, lastO_more, dropL_one, dropL_more, callP_eq, callM_true, ext_mv1, zA, bigA, ratA, digA, hD, hQ1, hQ2, d1, d2, d3, hbn, hp, hC1, hC2, Bool.not_true, Bool.not_false, Bool.true_and, Bool.false_and]
    · have d2 : decide (((dig (d.natAbs / n.natAbs.gcd d.natAbs)).length : Int) > 200) = true := by simp; omega
      have hf : fitsQ n d = false := by simp only [fitsQ, okZ, hla, hlb]; simp [hd0]; omega
      rw [hf]
      simp only [Bool.false_eq_true, if_false]
      have hz : dig (Int.natAbs 0) = [] := rfl
      simp (maxSteps := 1000000) +contextual (disch := first | with_reducible assumption | exact ⟨rfl⟩ | exact ⟨rfl, rfl⟩ | (refine _root_.id ?_; kernel_rfl) | omega) only [evs, ext_mv, nth, put, putT, getT, binInt, binStr, binBool, aUn, outA, resA, mapO, resA1, oneOf, w1, w2, w3, bots, cond_true, cond_false, if_true, if_false, ite_true, ite_false, reduceIte, reduceCtorEq, implies_true, Nat.reduceAdd, Nat.reduceSub, AV.int, AV.bool, AV.str, Nat.reduceBEq, Nat.reduceEqDiff, Nat.reduceMul, Nat.reduceLT, Nat.reduceLeDiff, Int.reduceNeg, BEq.rfl, beq_self_eq_true, tabl, cellsOf, fldA, ldA, stA, entAt, partA, takeN, over, leafOk, Value.oneCell', idxA, nilA, cellsEq, fillA, elemsA, pure1, pure2, reps, chkA, tys, Tryd.results42, KX_draw, KX_drawQ, KX_tail, lastO_one, lastO_more, dropL_one, dropL_more, callP_eq, callM_true, ext_mv1, zA, bigA, qA, ratA, digA, hz, hD, hQ1, hQ2, d1, d2]
      exact ⟨by decide, by decide⟩
  · have d1 : decide (((dig (n.natAbs / n.natAbs.gcd d.natAbs)).length : Int) > 200) = true := by simp; omega
    have hf : fitsQ n d = false := by simp only [fitsQ, okZ, hla, hlb]; simp [hd0]; omega
    rw [hf]
    simp only [Bool.false_eq_true, if_false]
    have hz : dig (Int.natAbs 0) = [] := rfl
    simp (maxSteps := 1000000) +contextual (disch := first | with_reducible assumption | exact ⟨rfl⟩ | exact ⟨rfl, rfl⟩ | (refine _root_.id ?_; kernel_rfl) | omega) only [evs, ext_mv, nth, put, putT, getT, binInt, binStr, binBool, aUn, outA, resA, mapO, resA1, oneOf, w1, w2, w3, bots, cond_true, cond_false, if_true, if_false, ite_true, ite_false, reduceIte, reduceCtorEq, implies_true, Nat.reduceAdd, Nat.reduceSub, AV.int, AV.bool, AV.str, Nat.reduceBEq, Nat.reduceEqDiff, Nat.reduceMul, Nat.reduceLT, Nat.reduceLeDiff, Int.reduceNeg, BEq.rfl, beq_self_eq_true, tabl, cellsOf, fldA, ldA, stA, entAt, partA, takeN, over, leafOk, Value.oneCell', idxA, nilA, cellsEq, fillA, elemsA, pure1, pure2, reps, chkA, tys, Tryd.results42, KX_draw, KX_drawQ, KX_tail, lastO_one, lastO_more, dropL_one, dropL_more, callP_eq, callM_true, ext_mv1, zA, bigA, qA, ratA, digA, hz, hD, hQ1, hQ2, d1]
    exact ⟨by decide, by decide⟩
end
end Go.Proofs.YtgadegdhfjnoaaaDoor
