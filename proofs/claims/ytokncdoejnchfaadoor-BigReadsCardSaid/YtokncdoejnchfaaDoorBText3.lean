/-
  The text of a number: what big.Text does in the model; so it may be told from outside.
-/
import Derived.Test.YtokncdoejnchfaaDoorB1
import Derived.Test.YtokncdoejnchfaaDoorBText1
import Derived.Test.YtokncdoejnchfaaDoorBText2
import Derived.Test.YtokncdoejnchfaaDoorShelf
namespace Go.Proofs.YtokncdoejnchfaaDoor
open Go Go.RowKit

theorem decF_dec : ∀ (f u : Nat), u < 10 ^ (f + 1) → decF (f + 1) u = Lib.decDigits u
  | 0, u, h => by
    have h' : u < 10 := by simpa using h
    rw [Lib.decDigits, dif_pos h', decF, if_pos h']
  | f + 1, u, h => by
    rw [Lib.decDigits, decF]
    by_cases h' : u < 10
    · rw [if_pos h', dif_pos h']
    · rw [if_neg h', dif_neg h', decF_dec f (u / 10) (by rw [Nat.pow_succ] at h; omega)]
theorem itoa_top {d : Int} (h0 : 0 ≤ d) (h1 : d < 10000) : Lib.itoa d = decF 20 d.toNat := by
  rw [decF_dec 19 d.toNat (by have : (10000 : Nat) ≤ 10 ^ (19 + 1) := by decide
                              omega), Lib.itoa, if_neg (by omega)]
theorem dec_step {u : Nat} (h : ¬ u < 10) : Lib.decDigits u = Lib.decDigits (u / 10) ++ [UInt8.ofNat (48 + u % 10)] := by
  rw [Lib.decDigits, dif_neg h]
theorem itoa_four {d : Int} (h0 : 0 ≤ d) (h1 : d < 10000) : Lib.itoa (10000 + d) = 49 :: fourF d.toNat := by
  obtain ⟨n, rfl⟩ := Int.eq_ofNat_of_zero_le h0
  have e : ((10000 : Int) + (n : Int)).toNat = 10000 + n := by omega
  rw [Lib.itoa, if_neg (by omega), e, dec_step (by omega), dec_step (by omega), dec_step (by omega), dec_step (by omega)]
  have e1 : (10000 + n) / 10 / 10 / 10 / 10 = 1 := by omega
  rw [e1, Lib.decDigits, dif_pos (by omega)]
  simp only [fourF, List.cons_append, List.nil_append, Int.toNat_natCast]
  have a1 : (10000 + n) / 10 / 10 / 10 % 10 = n / 1000 % 10 := by omega
  have a2 : (10000 + n) / 10 / 10 % 10 = n / 100 % 10 := by omega
  have a3 : (10000 + n) / 10 % 10 = n / 10 % 10 := by omega
  have a4 : (10000 + n) % 10 = n % 10 := by omega
  rw [a1, a2, a3, a4]
  rfl
theorem strCells_of (l : List UInt8) : Lib.strCells ⟨l.toArray⟩ = Lib.byteCells l := by simp [Lib.strCells, Lib.byteCells]
theorem byteCells_append (a b : List UInt8) : Lib.byteCells (a ++ b) = Lib.byteCells a ++ Lib.byteCells b := by simp [Lib.byteCells]

theorem tab_of_SR {C : Cx} (hs : SR C) : Lib.TabIs Tryd.prog C.w "internal/strconv.uint64pow10" .u64 Lib.pow10Tab := by
  obtain ⟨⟨t, fz, h⟩, -⟩ := hs.glob 0 _ (by simp [Globs.gl]; rfl)
  have e : Tryd.prog.globalNamed "internal/strconv.uint64pow10" = some 0 := by kernel_rfl
  simp only [Lib.TabIs, World.var?, e, Option.bind_some, h]

/-- a builder of one's own stays as it is where nothing below the heap's end turns -/
theorem builder_below {T e : TypeId} {B b : Nat} {bs : List Value} {w w' : World} {p : Value} (h : Lib.BuilderAt T e B b p bs w) (hb : Below w.heap.size w w') : Lib.BuilderAt T e B b p bs w' := by
  have hlt := h.lt
  obtain ⟨hB, v, h1, h2, h3⟩ := h
  refine ⟨hB, v, by rw [hb.block b hlt]; exact h1, ⟨h2.1, ?_⟩, h3⟩
  rcases h2.2 with hn | ⟨g, cap, cur, hv, hg, hgg, rest⟩
  · exact .inl hn
  · exact .inr ⟨g, cap, cur, hv, hg, by rw [hb.block g (Array.getElem?_eq_some_iff.1 hgg).1]; exact hgg, rest⟩
theorem isBuilder_below {T e : TypeId} {B b : Nat} {bs : List Value} {w w' : World} (h : Lib.IsBuilder T e B b bs w) (hb : Below w.heap.size w w') : Lib.IsBuilder T e B b bs w' := h.imp (fun h => builder_below h hb) (fun h => builder_below h hb)
theorem rows_at {w : World} {A : Nat → Nat → Prop} {b : Nat} : ∀ {l : List Int} {o i : Nat} {x : Int}, PRows w A b 1 o (l.map digC) → nth l i = some x → w.cell? ⟨b, o + i, none⟩ = some (.int .i64 x)
  | y :: l, o, 0, x, h, hx => by
    simp only [nth, Option.some.injEq] at hx
    subst hx
    simp only [List.map_cons, PRows, digC] at h
    obtain ⟨-, ⟨vs, h1, h2⟩, -⟩ := h
    match vs, h1, h2 with
    | [v], h1, h2 =>
      simp only [PRs, PR, and_true] at h2
      rw [← h2.1]
      exact h1.1
    | [], _, h2 => simp [PRs] at h2
    | _ :: _ :: _, _, h2 => simp [PRs] at h2
  | _ :: l, o, i + 1, x, h, hx => by
    simp only [List.map_cons, PRows] at h
    have := rows_at (i := i) h.2.2 hx
    rwa [show o + (i + 1) = o + 1 + i by omega]
theorem no_mut {C : Cx} (hs : SR C) {o : Nat} : ¬ C.Mut C.w.heap.size o := by
  rintro (⟨i, hi, he⟩ | ⟨i, hi, h1, h2, h3⟩)
  · obtain ⟨e, h⟩ := nth_some hi
    obtain ⟨-, cs, t, hh, -⟩ := hs.ent i e h
    have := (Array.getElem?_eq_some_iff.1 hh).1
    omega
  · have := hs.tlt i o hi h2 h3
    omega
theorem textF_no {neg : Bool} {l : List Int} (h : validF neg l = false) : textF neg l = ⟨#[48]⟩ := by simp [textF, h]
theorem textF_nil {neg : Bool} (h : validF neg [] = true) : textF neg [] = ⟨#[48]⟩ := by
  cases neg with
  | true => simp [validF] at h
  | false => simp [textF, h, topF]
def outK (neg : Bool) (t : Int) (l : List Int) (k : Nat) : List UInt8 := (if neg = true then [45] else []) ++ (decF 20 t.toNat ++ ((l.drop k).reverse.map fun x => fourF x.toNat).flatten)
theorem outK_step {neg : Bool} {t x : Int} {l : List Int} {k : Nat} (h : nth l k = some x) : outK neg t l k = outK neg t l (k + 1) ++ fourF x.toNat := by
  simp [outK, nth_drop h]
theorem outK_start (neg : Bool) (t : Int) (l : List Int) : outK neg t l l.length = (if neg = true then [45] else []) ++ decF 20 t.toNat := by simp [outK]
theorem outK_end {neg : Bool} {t : Int} {l : List Int} (h : validF neg (l ++ [t]) = true) : textF neg (l ++ [t]) = ⟨(outK neg t l 0).toArray⟩ := by
  cases neg <;> simp [textF, h, outK, topF]
theorem four_len (n : Nat) : (fourF n).length = 4 := rfl
theorem decF_len : ∀ f n, (decF f n).length ≤ f
  | 0, _ => by simp [decF]
  | f + 1, n => by
    rw [decF]; split
    · simp
    · have := decF_len f (n / 10); simp; omega
theorem four_flat_len : ∀ l : List Int, ((l.map fun x => fourF x.toNat).flatten).length = 4 * l.length
  | [] => rfl
  | x :: l => by simp [four_flat_len l, four_len]; omega
theorem outK_len (neg : Bool) (t : Int) (l : List Int) (k : Nat) : (outK neg t l k).length ≤ 21 + 4 * l.length := by
  have h1 := decF_len 20 t.toNat
  have h2 := four_flat_len (l.drop k).reverse
  simp only [List.length_reverse, List.length_drop] at h2
  unfold outK
  simp only [List.length_append, h2]
  split
  · simp; omega
  · simp; omega
/-- what Itoa gives of 10000 and more -/
def fiveS (d : Int) : ByteArray := ⟨(49 :: fourF d.toNat).toArray⟩
theorem fiveS_size (d : Int) : (fiveS d).size = 5 := rfl
theorem fiveS_tail (d : Int) : (fiveS d).extract 1 5 = ⟨(fourF d.toNat).toArray⟩ := rfl
theorem tab_below {w w' : World} (h : Lib.TabIs Tryd.prog w "internal/strconv.uint64pow10" .u64 Lib.pow10Tab) (hb : Below w.heap.size w w') : Lib.TabIs Tryd.prog w' "internal/strconv.uint64pow10" .u64 Lib.pow10Tab := by
  have e : Tryd.prog.globalNamed "internal/strconv.uint64pow10" = some 0 := by kernel_rfl
  simp only [Lib.TabIs, World.var?, e, Option.bind_some] at h ⊢
  split at h
  · rename_i hh
    rw [hb.block 0 (Array.getElem?_eq_some_iff.1 hh).1, hh]; exact h
  · simp at h
theorem grow_below (w : World) (k : Nat) (os : Array Obj) : Below w.heap.size w (Sort.grow (w.drewN k) os) :=
  ⟨rfl, rfl, rfl, by show _ ≤ (w.heap ++ os).size; simp, fun j hj => by show (w.heap ++ os)[j]? = _; rw [Array.getElem?_append_left hj]⟩
theorem Itoa_top {d : Int} (h0 : 0 ≤ d) (h1 : d < 10000) (w : World) (ht : Lib.TabIs Tryd.prog w "internal/strconv.uint64pow10" .u64 Lib.pow10Tab) :
    Calls Tryd.prog 54 #[.int .i64 d] w fun e w' => e = .returned (.string ⟨(decF 20 d.toNat).toArray⟩) ∧ Below w.heap.size w w' := by
  refine (Tryd.strconv_Itoa d (by omega) (by omega) w ht).mono ?_
  rintro e w' ⟨rfl, k, os, rfl⟩
  exact ⟨by rw [itoa_top h0 h1], grow_below _ _ _⟩
theorem Itoa_five {d : Int} (h0 : 0 ≤ d) (h1 : d < 10000) (w : World) (ht : Lib.TabIs Tryd.prog w "internal/strconv.uint64pow10" .u64 Lib.pow10Tab) :
    Calls Tryd.prog 54 #[.int .i64 (10000 + d)] w fun e w' => e = .returned (.string (fiveS d)) ∧ Below w.heap.size w w' := by
  refine (Tryd.strconv_Itoa (10000 + d) (by omega) (by omega) w ht).mono ?_
  rintro e w' ⟨rfl, k, os, rfl⟩
  exact ⟨by rw [itoa_four h0 h1]; rfl, grow_below _ _ _⟩

set_option maxHeartbeats 2000000 in
set_option maxRecDepth 100000 in
theorem Text_run {C : Cx} {vs : Array Value} (hs : SR C) (neg : Bool) (l : List Int) (c : Cap) (hlen : l.length ≤ 1000000) (hv : VRs C [.agg [.prim (.bool neg), .frz (l.map digC) c]] vs.toList) :
    Calls Tryd.prog 22 vs C.w fun e w' => ∃ v C', e = .returned v ∧ C'.w = w' ∧ Le C C' ∧ SR C' ∧ C'.S = C.S ∧ C'.tk = C.tk ∧ C'.n = C.n ∧ VR C' (.prim (.string (textF neg l))) v := by
  obtain ⟨vl⟩ := vs
  match vl, hv with
  | [x], hv =>
  simp only [VRs, VR, and_true] at hv
  obtain ⟨⟨xs⟩, rfl, hx⟩ := hv
  match xs, hx with
  | [y, z], hx =>
  simp only [VRs, and_true] at hx
  obtain ⟨hy, hz⟩ := hx
  simp only [VR] at hy
  subst hy
  have hz0 := hz
  simp only [VR] at hz
  obtain ⟨a, n, cap, rfl, -⟩ := hz
  have hbel : Below C.w.heap.size C.w (C.w.alloc (Obj.cells #[.bool neg, .slice a n cap] 24)) := (Below.refl _ _).alloc (Nat.le_refl _) _
  have hv1 : VRs (C.at (C.w.alloc (Obj.cells #[.bool neg, .slice a n cap] 24))) [.agg [.prim (.bool neg), .frz (l.map digC) c]] #[.agg #[.bool neg, .slice a n cap]].toList :=
    VRs.mono (Le.of_below hbel) _ _ (by simp only [VRs, and_true]; unfold VR; exact ⟨_, rfl, by simp only [VRs, and_true]; exact ⟨by simp only [VR], hz0⟩⟩)
  have HD := Lib.hid (T0.digits_run (SR.of_below hs hbel) neg l c hlen hv1)
  clear hv1 hz0
  go_enter Tryd.func22, Tryd.ntmps22
  go_wp2_with (go_at_call 38; refine HD.out.mono ?_)
  rintro e w2 v rfl C2 rfl hle2 hs2 hS2 htk2 hn2 hvr
  have hle := (Le.of_below hbel).trans hle2
  have hblk : C2.w.heap[C.w.heap.size]? = some (.cells #[.bool neg, .slice a n cap] 24 (0, 0)) := by
    rw [hle2.keep C.w.heap.size (by show _ < (C.w.alloc _).heap.size; simp) (fun o h => no_mut hs h)]
    exact heap_alloc_new _ _
  clear hbel HD hle2
  rw [V_abs] at hvr
  by_cases hval : validF neg l = true
  rotate_left
  · rw [if_neg hval] at hvr
    have hT := textF_no (by simpa using hval)
    simp only [digA, VR, List.map_nil] at hvr
    obtain ⟨a2, len2, cap2, rfl, h0, -⟩ := hvr
    have h0 : len2 = 0 := by simpa using h0.symm
    subst h0
    go_wp2
    go_ret
    exact ⟨_, C2, rfl, rfl, hle, hs2, hS2, htk2, hn2, by rw [hT]; simp only [VR]; rfl⟩
  rw [if_pos hval] at hvr
  by_cases hnil : l = []
  · subst hnil
    have hT := textF_nil hval
    simp only [digA, VR, List.map_nil] at hvr
    obtain ⟨a2, len2, cap2, rfl, h0, -⟩ := hvr
    have h0 : len2 = 0 := by simpa using h0.symm
    subst h0
    go_wp2
    go_ret
    exact ⟨_, C2, rfl, rfl, hle, hs2, hS2, htk2, hn2, by rw [hT]; simp only [VR]; rfl⟩
  simp only [digA, VR] at hvr
  obtain ⟨a2, len2, cap2, rfl, h0, hcap, -, hrows⟩ := hvr
  have h0 : l.length = len2 := by simpa using h0
  subst h0
  obtain ⟨b2, o2, sz2, rfl, hr2⟩ := hrows.resolve_left (by simpa using hnil)
  have hsz : sz2 = 1 := by
    clear hrows hv hx hlen hval hcap hle hs2 hS2 htk2 hn2 hblk
    cases l with
    | nil => exact absurd rfl hnil
    | cons x r => simp only [List.map_cons, PRows, digC] at hr2; exact hr2.1.symm
  subst hsz
  have HC : Hid (∀ i x, nth l i = some x → C2.w.cell? ⟨b2, o2 + i, none⟩ = some (.int .i64 x)) := Lib.hid fun i x h => rows_at hr2 h
  clear hrows hr2 hv hx
  have hpos : 0 < l.length := List.length_pos_iff.2 hnil
  obtain ⟨-, hok, hl200⟩ := valid_dig hval
  obtain ⟨l', t, rfl⟩ : ∃ l' t, l = l' ++ [t] := ⟨l.dropLast, l.getLast hnil, (List.dropLast_concat_getLast hnil).symm⟩
  have hT := Lib.hid (outK_end hval)
  have HB := Lib.hid hblk
  have HTb := Lib.hid (tab_of_SR hs2)
  have HK := Lib.hid (And.intro hle (And.intro hs2 (And.intro hS2 (And.intro htk2 hn2))))
  have HO := Lib.hid hok
  clear hval hblk hle hs2 hS2 htk2 hn2 hok hs hnil hpos
  have hN : (l' ++ [t]).length = l'.length + 1 := by simp
  generalize (l' ++ [t]).length = N at *
  have hw1 : IntKind.i64.wrap ((N : Int) - 1) = (l'.length : Int) := by rw [T0.wrap_of (by unfold T0.i64; omega)]; omega
  have ht0 : 0 ≤ t ∧ t < 10000 := HO.out t (by simp)
  have HW : Hid (∀ w, Below C2.w.heap.size C2.w w → w.cell? ⟨C.w.heap.size, 0, none⟩ = some (.bool neg) ∧ w.cell? ⟨b2, o2 + l'.length, none⟩ = some (.int .i64 t) ∧ (∀ k x, nth l' k = some x → w.cell? ⟨b2, o2 + k, none⟩ = some (.int .i64 x)) ∧ Lib.TabIs Tryd.prog w "internal/strconv.uint64pow10" .u64 Lib.pow10Tab) := Lib.hid (by
    intro w hb
    have hcl : ∀ b o v, C2.w.cell? ⟨b, o, none⟩ = some v → w.cell? ⟨b, o, none⟩ = some v := fun b o v h => by
      rw [← h]; exact hb.cell (show b < C2.w.heap.size from cell_lt h)
    refine ⟨hcl _ _ _ (by rw [Lib.cell_of_heap HB.out]; rfl), hcl _ _ _ (HC.out _ _ (by rw [nth_get]; simp)), fun k x hk => hcl _ _ _ (HC.out _ _ ?_), tab_below HTb.out hb⟩
    have := nth_lt hk
    rw [nth_get] at hk ⊢
    rw [List.getElem?_append_left this]; exact hk)
  clear HB HTb HC
  obtain ⟨c1, ct, -, htab⟩ := HW.out _ ((Below.refl C2.w.heap.size C2.w).alloc (Nat.le_refl _) (Obj.cells #[.pointer none, .slice none 0 0] 55))
  have HT0 := Lib.hid htab
  have HB0 := Lib.hid (show Lib.IsBuilder 55 5 C2.w.heap.size C2.w.heap.size (Lib.byteCells []) _ from Lib.fresh_isBuilder 55 5 C2.w)
  have HL0 := Lib.hid ((Below.refl C2.w.heap.size C2.w).alloc (Nat.le_refl _) (Obj.cells #[.pointer none, .slice none 0 0] 55))
  have hw2 : IntKind.i64.wrap ((N : Int) - 2) = (l'.length : Int) - 1 := by rw [T0.wrap_of (by unfold T0.i64; omega)]; omega
  clear htab
  cases neg with
  | true =>
    go_wp2_with (go_at_call 52; refine (WriteByte C2.w.heap.size C2.w.heap.size _ _ _ HB0.out (by simp [Lib.byteCells]) HL0.out.size).mono ?_)
    rintro e w3 ⟨rfl, hB3, hl3⟩
    have hB3 := Lib.hid (show Lib.IsBuilder 55 5 C2.w.heap.size C2.w.heap.size (Lib.byteCells [45]) _ from .inr hB3)
    have hl3 := Lib.hid (HL0.out.trans hl3)
    clear HB0 HL0 HT0 ct c1
    have HB0 := hB3
    have HL0 := hl3
    clear hB3 hl3
    obtain ⟨-, ct, -, htab⟩ := HW.out _ HL0.out
    have HT0 := Lib.hid htab
    clear htab
    go_wp2_with (go_at_call 54; refine (Itoa_top ht0.1 ht0.2 _ HT0.out).mono ?_)
    rintro e w4 ⟨rfl, hb4⟩
    have hl4 := HL0.out.trans (hb4.mono HL0.out.size)
    have hB4 := isBuilder_below HB0.out hb4
    clear hb4
    go_wp2_with (go_at_call 53; refine (WriteString C2.w.heap.size C2.w.heap.size _ _ _ hB4 (by have := decF_len 20 t.toNat; simp [Lib.byteCells, ByteArray.size]; omega) hl4.size).mono ?_)
    rintro e w5 ⟨rfl, hB5, hl5⟩
    have hl5 := Lib.hid (hl4.trans hl5)
    rw [strCells_of, ← byteCells_append] at hB5
    have HB5 := Lib.hid hB5
    clear hB5 hl4 hB4
    go_wp2
    go_loopw [5] (fun i wr => ∃ k : Nat, i = .int .i64 ((k : Int) - 1) ∧ k ≤ l'.length ∧ Below C2.w.heap.size C2.w wr ∧ Hid (Lib.IsBuilder 55 5 C2.w.heap.size C2.w.heap.size (Lib.byteCells (outK true t l' k)) wr)) (fun i _ => (intOf i + 1).toNat)
    case atStart => exact ⟨l'.length, congrArg (Value.int .i64) (by omega), Nat.le_refl _, hl5.out, Lib.hid (.inr (by rw [outK_start]; exact HB5.out))⟩
    case round =>
      obtain ⟨k, rfl, hk, hbl, HBk⟩ := hrel
      have HBL := Lib.hid hbl
      clear hbl
      cases k with
      | zero =>
        go_wp2_with (go_at_call 55; refine (Tryd.Builder_String_any _ _ _ _ HBk.out HBL.out.size).mono ?_)
        rintro e w6 ⟨rfl, hb6⟩
        have HL6 := Lib.hid (HBL.out.trans hb6)
        clear hb6
        go_wp2
        go_ret
        exact ⟨_, C2.at w6, rfl, rfl, HK.out.1.trans (Le.of_below HL6.out), SR.of_below HK.out.2.1 HL6.out, HK.out.2.2.1, HK.out.2.2.2.1, HK.out.2.2.2.2, by rw [hT.out]; simp only [VR]; rfl⟩
      | succ k =>
        obtain ⟨x, hx⟩ := nth_some (show k < l'.length by omega)
        have hi : (((k + 1 : Nat) : Int) - 1) = (k : Int) := by omega
        rw [hi]
        obtain ⟨-, -, hcx, htw⟩ := HW.out _ HBL.out
        have hcx := hcx k x hx
        have HTW := Lib.hid htw
        have HX := Lib.hid hx
        have hx0 : 0 ≤ x ∧ x < 10000 := HO.out x (by rw [nth_get] at hx; exact List.mem_append_left _ (List.mem_of_getElem? hx))
        have hwx : IntKind.i64.wrap (10000 + x) = 10000 + x := T0.wrap_of (by unfold T0.i64; omega)
        clear htw hx hi
        go_wp2_with (go_at_call 54; refine (Itoa_five hx0.1 hx0.2 _ HTW.out).mono ?_)
        rintro e w6 ⟨rfl, hb6⟩
        have hf5 := fiveS_size x
        have HL6 := Lib.hid (HBL.out.trans (hb6.mono HBL.out.size))
        have HB6 := Lib.hid (isBuilder_below HBk.out hb6)
        clear hb6
        go_wp2_with (go_at_call 53; refine (WriteString C2.w.heap.size C2.w.heap.size _ _ _ HB6.out (by have := outK_len true t l' (k + 1); rw [fiveS_tail]; simp [Lib.byteCells, ByteArray.size, four_len]; omega) HL6.out.size).mono ?_)
        rintro e w7 ⟨rfl, hB7, hl7⟩
        rw [fiveS_tail, strCells_of, ← byteCells_append, ← outK_step HX.out] at hB7
        have HB7 := Lib.hid hB7
        have HL7 := Lib.hid (HL6.out.trans hl7)
        clear hB7 hl7
        go_wp2
        exact ⟨⟨k, rfl, by omega, HL7.out, Lib.hid (.inr HB7.out)⟩, by simp [intOf]⟩
  | false =>
    go_wp2_with (go_at_call 54; refine (Itoa_top ht0.1 ht0.2 _ HT0.out).mono ?_)
    rintro e w4 ⟨rfl, hb4⟩
    have hl4 := HL0.out.trans (hb4.mono HL0.out.size)
    have hB4 := isBuilder_below HB0.out hb4
    clear hb4
    go_wp2_with (go_at_call 53; refine (WriteString C2.w.heap.size C2.w.heap.size _ _ _ hB4 (by have := decF_len 20 t.toNat; simp [Lib.byteCells, ByteArray.size]; omega) hl4.size).mono ?_)
    rintro e w5 ⟨rfl, hB5, hl5⟩
    have hl5 := Lib.hid (hl4.trans hl5)
    rw [strCells_of, ← byteCells_append] at hB5
    have HB5 := Lib.hid hB5
    clear hB5 hl4 hB4
    go_wp2
    go_loopw [5] (fun i wr => ∃ k : Nat, i = .int .i64 ((k : Int) - 1) ∧ k ≤ l'.length ∧ Below C2.w.heap.size C2.w wr ∧ Hid (Lib.IsBuilder 55 5 C2.w.heap.size C2.w.heap.size (Lib.byteCells (outK false t l' k)) wr)) (fun i _ => (intOf i + 1).toNat)
    case atStart => exact ⟨l'.length, congrArg (Value.int .i64) (by omega), Nat.le_refl _, hl5.out, Lib.hid (.inr (by rw [outK_start]; exact HB5.out))⟩
    case round =>
      obtain ⟨k, rfl, hk, hbl, HBk⟩ := hrel
      have HBL := Lib.hid hbl
      clear hbl
      cases k with
      | zero =>
        go_wp2_with (go_at_call 55; refine (Tryd.Builder_String_any _ _ _ _ HBk.out HBL.out.size).mono ?_)
        rintro e w6 ⟨rfl, hb6⟩
        have HL6 := Lib.hid (HBL.out.trans hb6)
        clear hb6
        go_wp2
        go_ret
        exact ⟨_, C2.at w6, rfl, rfl, HK.out.1.trans (Le.of_below HL6.out), SR.of_below HK.out.2.1 HL6.out, HK.out.2.2.1, HK.out.2.2.2.1, HK.out.2.2.2.2, by rw [hT.out]; simp only [VR]; rfl⟩
      | succ k =>
        obtain ⟨x, hx⟩ := nth_some (show k < l'.length by omega)
        have hi : (((k + 1 : Nat) : Int) - 1) = (k : Int) := by omega
        rw [hi]
        obtain ⟨-, -, hcx, htw⟩ := HW.out _ HBL.out
        have hcx := hcx k x hx
        have HTW := Lib.hid htw
        have HX := Lib.hid hx
        have hx0 : 0 ≤ x ∧ x < 10000 := HO.out x (by rw [nth_get] at hx; exact List.mem_append_left _ (List.mem_of_getElem? hx))
        have hwx : IntKind.i64.wrap (10000 + x) = 10000 + x := T0.wrap_of (by unfold T0.i64; omega)
        clear htw hx hi
        go_wp2_with (go_at_call 54; refine (Itoa_five hx0.1 hx0.2 _ HTW.out).mono ?_)
        rintro e w6 ⟨rfl, hb6⟩
        have hf5 := fiveS_size x
        have HL6 := Lib.hid (HBL.out.trans (hb6.mono HBL.out.size))
        have HB6 := Lib.hid (isBuilder_below HBk.out hb6)
        clear hb6
        go_wp2_with (go_at_call 53; refine (WriteString C2.w.heap.size C2.w.heap.size _ _ _ HB6.out (by have := outK_len false t l' (k + 1); rw [fiveS_tail]; simp [Lib.byteCells, ByteArray.size, four_len]; omega) HL6.out.size).mono ?_)
        rintro e w7 ⟨rfl, hB7, hl7⟩
        rw [fiveS_tail, strCells_of, ← byteCells_append, ← outK_step HX.out] at hB7
        have HB7 := Lib.hid hB7
        have HL7 := Lib.hid (HL6.out.trans hl7)
        clear hB7 hl7
        go_wp2
        exact ⟨⟨k, rfl, by omega, HL7.out, Lib.hid (.inr HB7.out)⟩, by simp [intOf]⟩

theorem intsOf_some : ∀ {es : List (List AV)} {l : List Int}, intsOf es = some l → es = l.map digC
  | [], l, h => by simp only [intsOf, Option.some.injEq] at h; subst h; rfl
  | e :: es, l, h => by
    unfold intsOf at h
    split at h
    · rename_i he; simp at he
    · rename_i x r he
      simp only [List.cons.injEq] at he
      obtain ⟨rfl, rfl⟩ := he
      simp only [Option.map_eq_some_iff] at h
      obtain ⟨l', h1, rfl⟩ := h
      rw [intsOf_some h1]; rfl
    · simp at h
theorem ext_some {f : FuncId} {args : List AV} {S : List Ent} {tk : List Nat} {n : Nat} {r : AV} {S' : List Ent} {tk' : List Nat} {n' : Nat} (h : extC Tryd.prog f args S tk n = some (r, S', tk', n')) :
    f = 22 ∧ ∃ neg l c, args = [.agg [.prim (.bool neg), .frz (l.map digC) c]] ∧ l.length ≤ 1000000 ∧ r = .prim (.string (textF neg l)) ∧ S' = S ∧ tk' = tk ∧ n' = n := by
  unfold extC at h
  split at h
  · rename_i hon
    have hf : f = 22 := by simpa [Ext.on] using hon
    subst hf
    refine ⟨rfl, ?_⟩
    simp only [Ext.call, beq_self_eq_true, if_true] at h
    split at h
    · rename_i neg es c
      split at h
      · rename_i l hl
        split at h
        · rename_i hlen
          simp only [Option.some.injEq, Prod.mk.injEq] at h
          obtain ⟨rfl, rfl, rfl, rfl⟩ := h
          exact ⟨neg, l, c, by rw [intsOf_some hl], hlen, rfl, rfl, rfl, rfl⟩
        · simp at h
      · simp at h
    · simp at h
  · simp at h
theorem ext_of {neg : Bool} {l : List Int} {c : Cap} (hlen : l.length ≤ 1000000) (S : List Ent) (tk : List Nat) (n : Nat) : extC Tryd.prog 22 [.agg [.prim (.bool neg), .frz (l.map digC) c]] S tk n = some (.prim (.string (textF neg l)), S, tk, n) := by
  simp [extC, Ext.on, Ext.call, intsOf_map, hlen]
instance : ExtOk Tryd.prog := {
  ok := fun f args S tk n r S' tk' n' h => by
    obtain ⟨rfl, neg, l, c, rfl, hlen, rfl, rfl, rfl, rfl⟩ := ext_some h
    refine ⟨⟨_, Tryd.func22, by decide +kernel, by decide +kernel⟩, fun C vs h1 h2 h3 hs hv => ?_⟩
    subst h1 h2 h3
    exact Text_run hs neg l c hlen hv
  indep := fun M f args S tk n r S' tk' n' h => by
    unfold callP at h
    split at h
    · rename_i hp
      obtain ⟨rfl, neg, l, c, rfl, hlen, rfl, rfl, rfl, rfl⟩ := ext_some h
      refine ⟨rfl, rfl, .inr ⟨rfl, fun S2 tk2 n2 => ?_⟩⟩
      unfold callP
      rw [if_pos hp]
      exact ext_of hlen S2 tk2 n2
    · simp at h }
end Go.Proofs.YtokncdoejnchfaaDoor
