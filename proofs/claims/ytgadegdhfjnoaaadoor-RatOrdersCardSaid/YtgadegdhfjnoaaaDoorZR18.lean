/-
  Texts laid together: BLift, BMain0, BTxt, B20, J1, S7, S8.
-/
import Derived.Test.YtgadegdhfjnoaaaDoorZR17
import Derived.Test.YtgadegdhfjnoaaaDoorRows
import Derived.Test.YtgadegdhfjnoaaaDoorTie
import Derived.Test.YtgadegdhfjnoaaaDoorCards
import Derived.ProofKit
import Derived.Below
import Derived.Carry
import Derived.ChangeSame
import Derived.ChangeSlices
import Derived.Lib.SmallJoins
import Derived.Lib.LaidTab
import Derived.Stop.LaidErr
import Derived.SevenTiedAt
/-
  From the evaluator to the statements of the numbers' laws: what the arguments hold is read as lists; the library's table is where it was laid.
-/













namespace Go.Proofs.YtgadegdhfjnoaaaDoor
open Go Go.ChangeShapes Go.WideShapes Go.ChangeAt Go.RowKit Go.Deep

abbrev Tab (W : World) : Prop := Lib.TabIs Tryd.prog W "internal/strconv.uint64pow10" .u64 Lib.pow10Tab
theorem g0 : Tryd.prog.globalNamed "internal/strconv.uint64pow10" = some 0 := by kernel_rfl
theorem tab_heap {W : World} (h : Tab W) : ∃ t fz, W.heap[0]? = some (.cells (Lib.pow10Tab.map fun z => Value.int .u64 z).toArray t fz) := by
  simp only [Tab, Lib.TabIs, World.var?, g0, Option.bind_some] at h
  split at h
  · rename_i cs t fz hh
    simp only [Option.some.injEq] at h
    rw [h] at hh
    exact ⟨t, fz, hh⟩
  · simp at h
theorem law_of {f : FuncId} {args : List AV} {W : World} {vs : Array Value} (ht : Tab W) (h : cL Tryd.prog f args [] [] 0 = some (.bool true, [], [], 0)) (hv : VRs (C0 W) args vs.toList) :
    Calls Tryd.prog f vs W fun e w' => e = .returned (.bool true) ∧ Below W.heap.size W w' := by
  refine (calls_of mixed h (C := C0 W) rfl rfl rfl (C0_SR (tab_heap ht)) hv).mono ?_
  rintro e w' ⟨v, C', rfl, rfl, hle, -, -, -, -, hr⟩
  simp only [VR] at hr
  refine ⟨by rw [hr], ⟨hle.os, hle.tape, hle.output, hle.size, fun b hb => hle.keep b hb fun o hm => C0_mut hm⟩⟩

theorem spot_none {w : World} {a : Addr} {v : Value} (h : w.cell? a = some v) : a.spot = none ∧ a.block < w.heap.size := by
  unfold World.cell? at h
  split at h
  · rename_i hh
    refine ⟨?_, (Array.getElem?_eq_some_iff.1 hh).1⟩
    split at h
    · cases h
    · rename_i hs; simpa using hs
  · cases h
theorem PRows_digs {w : World} {A : Nat → Nat → Prop} {b : Nat} (hA : ∀ o, ¬ A b o) : ∀ (l : List Int) (o : Nat), (∀ i x, nth l i = some x → w.cell? ⟨b, o + i, none⟩ = some (.int .i64 x)) → PRows w A b 1 o (l.map digC)
  | [], _, _ => by simp only [List.map_nil, PRows]
  | x :: l, o, h => by
    simp only [List.map_cons, PRows]
    have h1 := h 0 x rfl
    refine ⟨rfl, ⟨[.int .i64 x], ⟨h1, hA _, trivial⟩, ?_⟩, PRows_digs hA l (o + 1) fun i d hd => ?_⟩
    · simp [PRs, PR, digC, Value.oneCell']
    · have := h (i + 1) d hd
      rwa [show o + (i + 1) = o + 1 + i from by omega] at this
theorem not_tab {W : World} (ht : Tab W) {b o : Nat} {x : Int} (h : W.cell? ⟨b, o, none⟩ = some (.int .i64 x)) : b ≠ 0 := by
  rintro rfl
  obtain ⟨t, fz, hh⟩ := tab_heap ht
  rw [Lib.cell_of_heap hh] at h
  rw [List.getElem?_toArray, List.getElem?_map, Option.map_eq_some_iff] at h
  obtain ⟨z, -, hz⟩ := h
  cases hz
set_option maxRecDepth 100000 in
theorem open_digits {H : Type} {enc : TypeId × Value → H} {w : World} {sp : Nat → Bool} {held : Bool} {fuel : Nat} {v : Value} {x : DataW H × List MemPlace} (htab : Tab w) (h : DataW.trod enc Tryd.prog w 0 sp held fuel 22 [v] = some x) :
    ∃ l, VR (C0 w) (digA l) v := by
  rcases open_ints Tryd.underlying22 Tryd.underlying3 (by kernel_rfl) h with ⟨hv, -⟩ | ⟨a, len, cap, zs, hv, -, hl, -, hz, -, hi, -⟩
  · have : v = .slice none 0 0 := by simpa using hv
    subst this
    exact ⟨[], by simp only [digA, List.map_nil, VR]; exact ⟨none, 0, 0, rfl, rfl, Nat.le_refl _, trivial, .inl trivial⟩⟩
  · have hv : v = .slice (some a) len cap := by simpa using hv
    subst hv
    have hlz : len ≤ zs.length := by rw [hz]; split <;> omega
    refine ⟨zs.take len, ?_⟩
    simp only [digA, VR]
    refine ⟨some a, len, cap, rfl, by simp; omega, hl, trivial, ?_⟩
    by_cases h0 : len = 0
    · left; subst h0; rfl
    right
    have z0 := hi 0 (by omega)
    obtain ⟨s0, -⟩ := spot_none z0
    obtain ⟨b, off, sp'⟩ := a
    have e0 : sp' = none := by simpa [Addr.add] using s0
    subst e0
    rw [add_none] at z0
    refine ⟨b, off, 1, rfl, PRows_digs (fun _ => C0_avoid (not_tab htab z0)) _ _ fun i c hc => ?_⟩
    have hlt := nth_lt hc
    rw [List.length_take] at hlt
    rw [nth_get, List.getElem?_take, if_pos (by omega)] at hc
    have hx := hi i (by omega)
    rw [add_none] at hx
    show w.cell? _ = _
    rw [hx]
    simp [List.getD, hc]
set_option maxRecDepth 100000 in
theorem open_big {H : Type} {enc : TypeId × Value → H} {w : World} {r : Reach} {b0 : Nat} {sp : Nat → Bool} {held : Bool} {v : Value} {d : DataW H} {p : List MemPlace} (htab : Tab w) (hv : Value.okWide Tryd.prog w r b0 24 v) (h : DataW.Trod enc Tryd.prog w 0 sp held 24 v d p) :
    ∃ neg l, VR (C0 w) (bigA neg l) v := by
  obtain ⟨xs, rfl, hsz⟩ := okWide_struct Tryd.underlying24 hv
  obtain ⟨c0, c1, rfl⟩ := Go.Joins.array2 (hsz.trans (by kernel_rfl : Tryd.prog.cellsOf 24 = 2))
  obtain ⟨fuel, hf⟩ := h
  obtain ⟨z0, z1, n', -, -, g0, g1⟩ := trod_struct2 Tryd.underlying24 hf
  have k22 : Tryd.prog.cellsOf 22 = 1 := by kernel_rfl
  have k4 : Tryd.prog.cellsOf 4 = 1 := by kernel_rfl
  have g0' : DataW.trod enc Tryd.prog w 0 sp held n' 4 [c0] = some z0 := by simpa [k4, Value.cells] using g0
  have g1' : DataW.trod enc Tryd.prog w 0 sp held n' 22 [c1] = some z1 := by simpa [k22, Value.cells] using g1
  obtain ⟨l, hl⟩ := open_digits htab g1'
  obtain ⟨q, hq, -⟩ := DataW.trod_bool Tryd.underlying4 g0'
  have hq' : c0 = .bool q := by simpa using hq
  refine ⟨q, l, ?_⟩
  simp only [bigA, VR]
  exact ⟨_, rfl, by simp only [VRs, VR]; exact ⟨hq', hl, trivial⟩⟩
theorem VRs_cut {C : Cx} : ∀ {xs ys : List AV} {us vs : List Value}, VRs C xs us → VRs C ys vs → VRs C (xs ++ ys) (us ++ vs)
  | [], _, [], _, _, h => h
  | _ :: _, _, _ :: _, _, h, h' => by simp only [VRs] at h; simp only [List.cons_append, VRs]; exact ⟨h.1, VRs_cut h.2 h'⟩
  | [], _, _ :: _, _, h, _ => by simp [VRs] at h
  | _ :: _, _, [], _, h, _ => by simp [VRs] at h
set_option maxRecDepth 100000 in
theorem open_big' {H : Type} {enc : TypeId × Value → H} {w : World} {sp : Nat → Bool} {held : Bool} {n : Nat} {c0 c1 : Value} {d : DataW H × List MemPlace} (htab : Tab w) (h : DataW.trod enc Tryd.prog w 0 sp held n 24 [c0, c1] = some d) :
    ∃ neg l, VRs (C0 w) [.prim (.bool neg), digA l] [c0, c1] := by
  obtain ⟨z0, z1, n', -, -, g0, g1⟩ := trod_struct2 Tryd.underlying24 h
  have k22 : Tryd.prog.cellsOf 22 = 1 := by kernel_rfl
  have k4 : Tryd.prog.cellsOf 4 = 1 := by kernel_rfl
  have g0' : DataW.trod enc Tryd.prog w 0 sp held n' 4 [c0] = some z0 := by simpa [k4, Value.cells] using g0
  have g1' : DataW.trod enc Tryd.prog w 0 sp held n' 22 [c1] = some z1 := by simpa [k22, Value.cells] using g1
  obtain ⟨l, hl⟩ := open_digits htab g1'
  obtain ⟨q, hq, -⟩ := DataW.trod_bool Tryd.underlying4 g0'
  have hq' : c0 = .bool q := by simpa using hq
  exact ⟨q, l, by simp only [VRs, VR]; exact ⟨hq', hl, trivial⟩⟩
theorem array4 {xs : Array Value} (h : xs.size = 4) : ∃ a b c d, xs = #[a, b, c, d] := by
  obtain ⟨l⟩ := xs
  match l, h with
  | [a, b, c, d], _ => exact ⟨a, b, c, d, rfl⟩
set_option maxRecDepth 100000 in
theorem open_rat {H : Type} {enc : TypeId × Value → H} {w : World} {r : Reach} {b0 : Nat} {sp : Nat → Bool} {held : Bool} {v : Value} {d : DataW H} {p : List MemPlace} (htab : Tab w) (hv : Value.okWide Tryd.prog w r b0 28 v) (h : DataW.Trod enc Tryd.prog w 0 sp held 28 v d p) :
    ∃ x : RQ, VR (C0 w) (ratA x.p x.l x.q x.r) v := by
  obtain ⟨xs, rfl, hsz⟩ := okWide_struct Tryd.underlying28 hv
  obtain ⟨c0, c1, c2, c3, rfl⟩ := array4 (hsz.trans (by kernel_rfl : Tryd.prog.cellsOf 28 = 4))
  obtain ⟨fuel, hf⟩ := h
  obtain ⟨z0, z1, n', -, -, g0, g1⟩ := trod_struct2 Tryd.underlying28 hf
  have k24 : Tryd.prog.cellsOf 24 = 2 := by kernel_rfl
  have g0' : DataW.trod enc Tryd.prog w 0 sp held n' 24 [c0, c1] = some z0 := by simpa [k24, Value.cells] using g0
  have g1' : DataW.trod enc Tryd.prog w 0 sp held n' 24 [c2, c3] = some z1 := by simpa [k24, Value.cells] using g1
  obtain ⟨p1, l1, h1⟩ := open_big' htab g0'
  obtain ⟨p2, l2, h2⟩ := open_big' htab g1'
  refine ⟨⟨p1, l1, p2, l2⟩, ?_⟩
  simp only [ratA, VR]
  exact ⟨_, rfl, VRs_cut h1 h2⟩
set_option maxRecDepth 100000 in
theorem open_i64 {H : Type} {enc : TypeId × Value → H} {w : World} {r : Reach} {b0 : Nat} {sp : Nat → Bool} {held : Bool} {v : Value} {d : DataW H} {p : List MemPlace} (hv : Value.okWide Tryd.prog w r b0 3 v) (h : DataW.Trod enc Tryd.prog w 0 sp held 3 v d p) :
    ∃ k : Int, VR (C0 w) (.prim (.int .i64 k)) v ∧ i64 k := by
  obtain ⟨k, rfl⟩ := okWide_int Tryd.underlying3 hv
  obtain ⟨fuel, hf⟩ := h
  obtain ⟨k', hk, -, hw⟩ := DataW.trod_int Tryd.underlying3 hf
  have e : k = k' := by simpa [Value.cells] using hk
  subst e
  simp only [Lit.wf, Bool.and_eq_true, decide_eq_true_eq] at hw
  exact ⟨k, by simp only [VR], hw.1, hw.2⟩
set_option maxRecDepth 100000 in
theorem open_str {H : Type} {enc : TypeId × Value → H} {w : World} {r : Reach} {b0 : Nat} {sp : Nat → Bool} {held : Bool} {v : Value} {d : DataW H} {p : List MemPlace} (hv : Value.okWide Tryd.prog w r b0 9 v) (h : DataW.Trod enc Tryd.prog w 0 sp held 9 v d p) :
    ∃ s : ByteArray, VR (C0 w) (.prim (.string s)) v := by
  obtain ⟨s, rfl⟩ := okWide_string Tryd.underlying9 hv
  exact ⟨s, by simp only [VR]⟩
set_option maxRecDepth 100000 in
theorem open_int {H : Type} {enc : TypeId × Value → H} {w : World} {r : Reach} {b0 : Nat} {sp : Nat → Bool} {held : Bool} {v : Value} {d : DataW H} {p : List MemPlace} (hv : Value.okWide Tryd.prog w r b0 3 v) (h : DataW.Trod enc Tryd.prog w 0 sp held 3 v d p) :
    ∃ k : Int, VR (C0 w) (.prim (.int .i64 k)) v := by
  obtain ⟨k, rfl⟩ := okWide_int Tryd.underlying3 hv
  exact ⟨k, by simp only [VR]⟩
section
variable {H : Type} {enc : TypeId × Value → H} {P : Program}
theorem post_of_below {f : Func} {s : ChangeSpec} {apart fresh handsOn again : Bool} {W W' : World} {args : Array Value} {v : Value} {ds gs : List (DataW H)} {before pa pv : List MemPlace}
    (hW : DataW.Whole enc P f.params.toList s.vars apart W args.toList ds gs before)
    (hres : ∀ (b : Nat) (sp : Nat → Bool) (hd : Bool), DataW.TrodAll enc P W' b sp hd f.resultTypes.toList (v.resultList f.resultTypes.size) (s.fn H (ds ++ gs)).results [])
    (hargs : ∀ sp : Nat → Bool, (∀ p ∈ before, sp p.block = true) → DataW.TrodAll enc P W' 0 sp true f.params.toList args.toList (s.fn H (ds ++ gs)).args pa)
    (hvars : ∀ sp : Nat → Bool, (∀ p ∈ before, sp p.block = true) → DataW.TrodVars enc P W' sp s.vars (s.fn H (ds ++ gs)).vars pv)
    (hps : before = pa ++ pv) (hb : Below W.heap.size W W')
    (hok : ∀ (j : Nat) (t : TypeId) (r : Value), f.resultTypes[j]? = some t → (v.resultList f.resultTypes.size)[j]? = some r → Value.okWide P W' .any 0 t r) :
    s.post enc P f apart fresh handsOn again W args v W' := by
  have hlt : ∀ p ∈ before, p.block < W.heap.size := fun p hp => hW.lt p hp
  have hold : ∀ p ∈ before, (fun b => decide (b < W.heap.size)) p.block = true := fun p hp => by simpa using hlt p hp
  refine ⟨ds, gs, before, [], pa, pv, hW, hres _ _ _, hargs _ hold, hvars _ hold, World.keptBut_mono (fun p hp => ⟨hp, ?_⟩) (hb.frame (· ∈ before)), fun _ => ?_⟩
  · rw [hps, List.mem_append] at hp
    exact Or.inr hp
  · obtain ⟨_, _, _, _, _, hz, hn⟩ := hW
    refine ⟨hok, _, _, ([] ++ pa) ++ pv, ⟨[] ++ pa, pv, trodAll_append (hargs _ (fun _ _ => rfl)) (hres _ _ _), hvars _ (fun _ _ => rfl), rfl, ?_, ?_⟩, ?_⟩
    · intro b off hp
      have hin : MemPlace.cell b off ∈ before := by rw [hps]; simpa using hp
      rw [hb.frozen (hlt _ hin)]
      exact hz b off hin
    · intro ha
      have := hn ha
      rw [hps] at this
      simpa using this
    · intro p hp _
      rw [hps]
      simpa using hp
end
set_option maxRecDepth 100000 in
theorem shut_Bool {H : Type} {enc : TypeId × Value → H} {W : World} {base : Nat} {sp : Nat → Bool} {held : Bool} (b : Bool) : DataW.Trod enc Tryd.prog W base sp held 4 (.bool b) (.lit (.bool b)) [] := ⟨1, by simp [DataW.trod, Value.cells, Tryd.underlying4]⟩
set_option maxRecDepth 100000 in
theorem okWide_Bool {W : World} (c : Bool) : Value.okWide Tryd.prog W .any 0 4 (.bool c) := by simp [Value.okWide, Tryd.underlying4, Cell.okWide, Cell.ok]
theorem Try.own : ownKnob Tryd.prog.godebug = none := by kernel_rfl
theorem Try.laidOut : laidOutB Tryd.prog = true := by kernel_rfl
end Go.Proofs.YtgadegdhfjnoaaaDoor
/-
  What the given statements ask beside the walks: the tables that the rows list.
-/

namespace Go.Proofs.YtgadegdhfjnoaaaDoor
open Go Go.ChangeShapes Go.WideShapes Go.ChangeAt Go.RowKit Go.Deep

abbrev laid3 : List (String × DataW Unit) := [("math/bits.deBruijn32tab", Rows.laid_math_bits_deBruijn32tab), ("math/bits.deBruijn64tab", Rows.laid_math_bits_deBruijn64tab), ("internal/strconv.uint64pow10", Rows.laid_internal_strconv_uint64pow10)]
theorem g0Type : (Tryd.prog.globals[0]?).map (·.type) = some 109 := by kernel_rfl
theorem tab_of_laid {W : World} (h : laidMet Tryd.prog laid3 W) : Tab W :=
  Lib.tabIs_of_head (rest := []) g0 g0Type Tryd.underlying109 Tryd.underlying72 (by kernel_rfl) (by kernel_rfl) h.tail.tail
def cellD : DataW Unit → Value | .lit (.int k n) => .int k n | _ => undef
def cellsD : DataW Unit → Array Value | .agg ds => (ds.map cellD).toArray | _ => #[]
def putCells (cs : Array Value) : Obj → Obj | .cells _ t fz => .cells cs t fz | o => o
noncomputable def laidWorld (os : Os) : World :=
  { World.holding Tryd.prog os ⟨#[], #[], []⟩ with heap := (((World.holding Tryd.prog os ⟨#[], #[], []⟩).heap.modify 0 (putCells (cellsD Rows.laid_internal_strconv_uint64pow10))).modify 1 (putCells (cellsD Rows.laid_math_bits_deBruijn32tab))).modify 2 (putCells (cellsD Rows.laid_math_bits_deBruijn64tab)) }
theorem laid_met (os : Os) (args : Array Value) : laidMet Tryd.prog laid3 ((laidWorld os).forCall (fun _ _ => 0) ⟨#[], args, []⟩).memory :=
  laidMet_of_run' 8 (by kernel_rfl) (by kernel_rfl)
end Go.Proofs.YtgadegdhfjnoaaaDoor
/-
  Texts of numbers: plain lists of bytes.
-/

namespace Go.Proofs.YtgadegdhfjnoaaaDoor
open Go

/-- a text, byte by byte -/
def B (l : List UInt8) : ByteArray := ⟨l.toArray⟩
theorem B_of (s : ByteArray) : B s.data.toList = s := by cases s; simp [B]
theorem B_ex (s : ByteArray) : ∃ l, s = B l := ⟨_, (B_of s).symm⟩
theorem B_size (l : List UInt8) : (B l).size = l.length := rfl
theorem B_data (l : List UInt8) : (B l).data.toList = l := rfl
theorem B_app (l r : List UInt8) : B l ++ B r = B (l ++ r) := by
  apply ByteArray.ext
  simp [B, ByteArray.data_append]
theorem B_extract (l : List UInt8) (a b : Nat) : (B l).extract a b = B ((l.take b).drop a) := by
  apply ByteArray.ext
  rw [ByteArray.data_extract]
  apply Array.ext'
  simp [B]
  rw [List.drop_take]
theorem B_get (l : List UInt8) (k : Nat) : (B l)[k]? = nth l k := by
  rw [nth_get]
  by_cases h : k < l.length
  · have h' : k < (B l).size := h
    rw [getElem?_pos (B l) k h', List.getElem?_eq_getElem h, ByteArray.getElem_eq_getElem_data]
    simp [B]
  · have h' : ¬ k < (B l).size := h
    rw [getElem?_neg (B l) k h', List.getElem?_eq_none (by omega)]
theorem B_inj {l r : List UInt8} (h : B l = B r) : l = r := by
  have : (B l).data.toList = (B r).data.toList := by rw [h]
  exact this
theorem bloop_eq (s : ByteArray) : ∀ (n i : Nat) (r : List UInt8), s.size - i = n → ByteArray.toList.loop s i r = r.reverse ++ s.data.toList.drop i := by
  intro n
  induction n with
  | zero =>
    intro i r h
    rw [ByteArray.toList.loop, if_neg (by omega), List.drop_eq_nil_of_le (by simp; omega), List.append_nil]
  | succ n ih =>
    intro i r h
    have hi : i < s.data.size := by simp; omega
    rw [ByteArray.toList.loop, if_pos (by omega), ih (i + 1) _ (by omega), List.reverse_cons, List.append_assoc]
    congr 1
    have e : s.data.toList.drop i = s.data[i] :: s.data.toList.drop (i + 1) := by
      rw [← Array.getElem_toList hi, List.getElem_cons_drop]
    rw [e, List.singleton_append]
    congr 1
    show s.data[i]! = _
    rw [getElem!_pos s.data i hi]
theorem B_list (l : List UInt8) : (B l).toList = l := by
  rw [ByteArray.toList, bloop_eq (B l) _ 0 [] rfl]; simp [B_data]
theorem B_eq (l r : List UInt8) : sEq (B l) (B r) = decide (l = r) := by
  unfold sEq
  rw [B_list, B_list]
  by_cases h : l = r
  · simp [h]
  · simp [h]

/- decimal digits, the greatest first -/
def isD (b : UInt8) : Prop := 48 ≤ b.toNat ∧ b.toNat ≤ 57
def allT (l : List UInt8) : Prop := ∀ b ∈ l, isD b
def dv (b : UInt8) : Nat := b.toNat - 48
def valT : List UInt8 → Nat
  | [] => 0
  | b :: l => dv b * 10 ^ l.length + valT l
theorem valT_app (l r : List UInt8) : valT (l ++ r) = valT l * 10 ^ r.length + valT r := by
  induction l with
  | nil => simp [valT]
  | cons b l ih =>
    simp only [List.cons_append, valT, ih, List.length_append, Nat.pow_add, Nat.add_mul, Nat.mul_assoc, Nat.add_assoc]
theorem valT_snoc (l : List UInt8) (b : UInt8) : valT (l ++ [b]) = 10 * valT l + dv b := by
  rw [valT_app]; simp [valT]; omega
theorem valT_lt {l : List UInt8} (h : allT l) : valT l < 10 ^ l.length := by
  induction l with
  | nil => simp [valT]
  | cons b l ih =>
    have h1 := h b (by simp)
    have h2 := ih fun x hx => h x (by simp [hx])
    have h3 : dv b ≤ 9 := by unfold dv; unfold isD at h1; omega
    simp only [valT, List.length_cons, Nat.pow_succ]
    have := Nat.mul_le_mul_right (10 ^ l.length) h3
    omega
theorem dv_inj {a b : UInt8} (ha : isD a) (hb : isD b) (h : dv a = dv b) : a = b := by
  unfold dv at h; unfold isD at ha hb
  exact UInt8.toNat_inj.1 (by omega)
theorem valT_eq : ∀ {l r : List UInt8}, allT l → allT r → l.length = r.length → valT l = valT r → l = r
  | [], [], _, _, _, _ => rfl
  | a :: l, b :: r, h1, h2, hl, hv => by
    have hl' : l.length = r.length := by simpa using hl
    have g1 := valT_lt (l := l) fun x hx => h1 x (by simp [hx])
    have g2 := valT_lt (l := r) fun x hx => h2 x (by simp [hx])
    simp only [valT] at hv
    rw [hl'] at hv g1
    have hp : 0 < 10 ^ r.length := Nat.pow_pos (by decide)
    have hd : dv a = dv b := by
      have e1 : (dv a * 10 ^ r.length + valT l) / 10 ^ r.length = dv a := by
        rw [Nat.mul_comm, Nat.mul_add_div hp, Nat.div_eq_of_lt g1]; rfl
      have e2 : (dv b * 10 ^ r.length + valT r) / 10 ^ r.length = dv b := by
        rw [Nat.mul_comm, Nat.mul_add_div hp, Nat.div_eq_of_lt g2]; rfl
      rw [← e1, ← e2, hv]
    have hab := dv_inj (h1 a (by simp)) (h2 b (by simp)) hd
    rw [hd] at hv
    have ih := valT_eq (l := l) (r := r) (fun x hx => h1 x (by simp [hx])) (fun x hx => h2 x (by simp [hx])) hl' (by omega)
    rw [hab, ih]
  | [], _ :: _, _, _, hl, _ => by simp at hl
  | _ :: _, [], _, _, hl, _ => by simp at hl
/-- no zeros in front -/
def can (l : List UInt8) : Prop := allT l ∧ l ≠ [] ∧ (nth l 0 = some 48 → l = [48])
theorem can_ge {l : List UInt8} (h : can l) (h0 : l ≠ [48]) : 10 ^ (l.length - 1) ≤ valT l := by
  obtain ⟨h1, h2, h3⟩ := h
  cases l with
  | nil => exact absurd rfl h2
  | cons b l =>
    have hb : b ≠ 48 := fun e => h0 (h3 (by rw [e]; rfl))
    have hd := h1 b (by simp)
    have : 1 ≤ dv b := by
      unfold dv; unfold isD at hd
      have : b.toNat ≠ 48 := fun e => hb (UInt8.toNat_inj.1 e)
      omega
    simp only [valT, List.length_cons, Nat.add_sub_cancel]
    have := Nat.mul_le_mul_right (10 ^ l.length) this
    omega
theorem pow10_lt {a b v : Nat} (h1 : 10 ^ (a - 1) ≤ v) (h2 : v < 10 ^ b) (h0 : 0 < a) : a ≤ b := by
  rcases Nat.lt_or_ge b a with h | h
  · have : 10 ^ b ≤ 10 ^ (a - 1) := Nat.pow_le_pow_right (by decide) (by omega)
    omega
  · exact h
theorem can_eq {l r : List UInt8} (hl : can l) (hr : can r) (h : valT l = valT r) : l = r := by
  have pl : 0 < l.length := List.length_pos_iff.2 hl.2.1
  have pr : 0 < r.length := List.length_pos_iff.2 hr.2.1
  by_cases h1 : l = [48]
  · by_cases h2 : r = [48]
    · rw [h1, h2]
    · have := can_ge hr h2
      have hp : 0 < 10 ^ (r.length - 1) := Nat.pow_pos (by decide)
      rw [← h, h1] at this
      have e : valT [48] = 0 := rfl
      omega
  · by_cases h2 : r = [48]
    · have := can_ge hl h1
      have hp : 0 < 10 ^ (l.length - 1) := Nat.pow_pos (by decide)
      rw [h, h2] at this
      have e : valT [48] = 0 := rfl
      omega
    · have g1 := can_ge hl h1
      have g2 := can_ge hr h2
      have k1 := valT_lt hl.1
      have k2 := valT_lt hr.1
      exact valT_eq hl.1 hr.1 (Nat.le_antisymm (pow10_lt g1 (by omega) pl) (pow10_lt g2 (by omega) pr)) h
theorem toNat_d {n : Nat} (h : n < 10) : (UInt8.ofNat (48 + n)).toNat = 48 + n := by
  rw [UInt8.toNat_ofNat']; omega
theorem isD_d {n : Nat} (h : n < 10) : isD (UInt8.ofNat (48 + n)) := by
  unfold isD; rw [toNat_d h]; omega
theorem dv_d {n : Nat} (h : n < 10) : dv (UInt8.ofNat (48 + n)) = n := by
  unfold dv; rw [toNat_d h]; omega
theorem d_zero {n : Nat} (h : n < 10) (e : UInt8.ofNat (48 + n) = 48) : n = 0 := by
  have := dv_d h
  rw [e] at this
  exact this.symm
theorem allT_app {l r : List UInt8} (h1 : allT l) (h2 : allT r) : allT (l ++ r) := fun b hb => by
  rcases List.mem_append.1 hb with h | h
  · exact h1 b h
  · exact h2 b h
theorem four_all {n : Nat} : allT (fourF n) := fun b hb => by
  simp only [fourF, List.mem_cons, List.not_mem_nil, or_false] at hb
  rcases hb with rfl | rfl | rfl | rfl <;> exact isD_d (Nat.mod_lt _ (by decide))
theorem four_val {n : Nat} (h : n < 10000) : valT (fourF n) = n := by
  simp only [fourF, valT, List.length_cons, List.length_nil]
  rw [dv_d (Nat.mod_lt _ (by decide)), dv_d (Nat.mod_lt _ (by decide)), dv_d (Nat.mod_lt _ (by decide)), dv_d (Nat.mod_lt _ (by decide))]
  omega
theorem four_len2 (n : Nat) : (fourF n).length = 4 := rfl
/-- the digits, the greatest first, four decimal ones each -/
def foursT (l : List Int) : List UInt8 := (l.reverse.map fun x => fourF x.toNat).flatten
theorem fours_cons (d : Int) (l : List Int) : foursT (d :: l) = foursT l ++ fourF d.toNat := by
  simp [foursT]
theorem fours_snoc (d : Int) (l : List Int) : foursT (l ++ [d]) = fourF d.toNat ++ foursT l := by
  simp [foursT]
theorem fours_len (l : List Int) : (foursT l).length = 4 * l.length := by
  induction l with
  | nil => rfl
  | cons d l ih => rw [fours_cons, List.length_append, ih, four_len2, List.length_cons]; omega
theorem fours_all (l : List Int) : allT (foursT l) := by
  induction l with
  | nil => intro b hb; simp [foursT] at hb
  | cons d l ih => rw [fours_cons]; exact allT_app ih four_all
theorem fours_val {l : List Int} (h : okD l) : ((valT (foursT l) : Nat) : Int) = val l := by
  induction l with
  | nil => rfl
  | cons d l ih =>
    have h1 := h d (by simp)
    have h2 := ih fun x hx => h x (by simp [hx])
    rw [fours_cons, valT_app, four_len2, four_val (by omega), val, ← h2]
    omega
theorem decF_facts : ∀ (f n : Nat), n < 10 ^ f → 0 < f → allT (decF f n) ∧ valT (decF f n) = n ∧ decF f n ≠ [] ∧ (nth (decF f n) 0 = some 48 → n = 0 ∧ decF f n = [48])
  | 0, _, _, h => absurd h (by decide)
  | f + 1, n, hn, _ => by
    rw [decF]
    by_cases h : n < 10
    · rw [if_pos h]
      refine ⟨fun b hb => by rw [List.mem_singleton] at hb; subst hb; exact isD_d h, by show dv _ * 10 ^ 0 + 0 = n; rw [dv_d h]; omega, by simp, fun e => ?_⟩
      simp only [nth, Option.some.injEq] at e
      have := d_zero h e
      subst this; exact ⟨rfl, rfl⟩
    · rw [if_neg h]
      have hf : 0 < f := by
        rcases Nat.eq_zero_or_pos f with h0 | h0
        · subst h0; simp at hn; omega
        · exact h0
      obtain ⟨h1, h2, h3, h4⟩ := decF_facts f (n / 10) (by rw [Nat.pow_succ] at hn; omega) hf
      have hm : n % 10 < 10 := Nat.mod_lt _ (by decide)
      refine ⟨allT_app h1 fun b hb => by rw [List.mem_singleton] at hb; subst hb; exact isD_d hm, ?_, by simp, fun e => ?_⟩
      · rw [valT_snoc, h2, dv_d hm]; omega
      · exfalso
        have : nth (decF f (n / 10)) 0 = some 48 := by
          cases hd : decF f (n / 10) with
          | nil => exact absurd hd h3
          | cons a l => rw [hd] at e; exact e
        have := (h4 this).1
        omega
theorem dig_last {N : Nat} {l : List Int} {d : Int} (h : dig N = l ++ [d]) : d ≠ 0 := fun h0 => by
  subst h0
  have hk := okD_dig N
  rw [h] at hk
  have hkl : okD l := fun x hx => hk x (by simp [hx])
  have hv := val_dig N
  rw [h, val_append] at hv
  simp only [val, Int.mul_zero, Int.add_zero] at hv
  have hlt := val_lt hkl
  rw [hv] at hlt
  have h1 : N < 10000 ^ l.length := by
    have e : ((10000 ^ l.length : Nat) : Int) = (10000 : Int) ^ l.length := Int.natCast_pow ..
    rw [← e] at hlt; omega
  have h2 := dig_len.2 h1
  rw [h] at h2
  have h3 : (l ++ [(0 : Int)]).length = l.length + 1 := by simp
  omega
/-- a number in decimal -/
def dec (N : Nat) : List UInt8 := topF (dig N).reverse
theorem dec_zero : dec 0 = [48] := rfl
theorem dec_facts (N : Nat) : can (dec N) ∧ valT (dec N) = N := by
  by_cases h0 : N = 0
  · subst h0
    exact ⟨⟨fun b hb => by simp [dec_zero] at hb; subst hb; exact ⟨by decide, by decide⟩, by simp [dec_zero], fun _ => rfl⟩, rfl⟩
  · have hne : dig N ≠ [] := fun h => h0 (dig_nil.1 h)
    obtain ⟨l, d, hl⟩ : ∃ l d, dig N = l ++ [d] := ⟨_, _, (List.dropLast_concat_getLast hne).symm⟩
    have hd := dig_last hl
    have hk := okD_dig N
    rw [hl] at hk
    have hdk := hk d (by simp)
    have hkl : okD l := fun x hx => hk x (by simp [hx])
    have e : dec N = decF 20 d.toNat ++ foursT l := by
      unfold dec; rw [hl, List.reverse_append]; simp [topF, foursT]
    obtain ⟨h1, h2, h3, h4⟩ := decF_facts 20 d.toNat (Nat.lt_of_lt_of_le (m := 10000) (by omega) (by decide)) (by decide)
    rw [e]
    refine ⟨⟨allT_app h1 (fours_all l), by simp [h3], fun e0 => ?_⟩, ?_⟩
    · exfalso
      have : nth (decF 20 d.toNat) 0 = some 48 := by
        cases hd : decF 20 d.toNat with
        | nil => exact absurd hd h3
        | cons a l => rw [hd] at e0; exact e0
      have := (h4 this).1
      omega
    · have hv := val_dig N
      rw [hl, val_snoc, ← fours_val hkl] at hv
      have e1 : (10 : Nat) ^ (foursT l).length = 10000 ^ l.length := by
        rw [fours_len, Nat.pow_mul]
      rw [valT_app, h2, e1]
      have e2 : ((10000 ^ l.length : Nat) : Int) = (10000 : Int) ^ l.length := Int.natCast_pow ..
      rw [← e2] at hv
      have e3 : d = ((d.toNat : Nat) : Int) := by omega
      rw [e3, ← Int.natCast_mul, ← Int.natCast_add] at hv
      have := Int.ofNat.inj hv
      rw [Nat.mul_comm]
      omega
/-- the text of a number -/
def txt (z : Int) : List UInt8 := if z < 0 then 45 :: dec z.natAbs else dec z.natAbs
theorem text_V (p : Bool) (l : List Int) : textF p l = B (txt (V p l)) := by
  unfold textF
  have ha := V_abs p l
  by_cases h : validF p l = true
  · rw [if_pos h] at ha ⊢
    have ht : topF l.reverse = dec (V p l).natAbs := by rw [dec, ha]
    have hng := V_neg p l
    rw [h] at hng
    cases p with
    | true =>
      simp only [Bool.and_true, if_true] at hng ⊢
      rw [ht, txt, if_pos (by omega)]; rfl
    | false =>
      simp only [Bool.and_false, Bool.false_eq_true, if_false] at hng ⊢
      rw [ht, txt, if_neg (by omega)]; rfl
  · rw [if_neg h] at ha ⊢
    have hz : V p l = 0 := V_bad (by simpa using h)
    rw [hz]; rfl
/-- a text without its sign -/
def spT (s : List UInt8) : Bool × List UInt8 := match s with | [] => (false, []) | b :: l => if b = 45 then (true, l) else (false, b :: l)
def goodT (s : List UInt8) : Prop := (spT s).2 ≠ [] ∧ (spT s).2.length ≤ 800 ∧ allT (spT s).2 ∧ (nth (spT s).2 0 = some 48 → s = [48])
def valS (s : List UInt8) : Int := sg (spT s).1 (valT (spT s).2)
theorem pow4 (n : Nat) : 10000 ^ n = 10 ^ (4 * n) := by rw [Nat.pow_mul]
theorem text_fits {t : List UInt8} {n : Nat} (h : allT t) (hl : t.length ≤ 4 * n) : valT t < 10000 ^ n := by
  rw [pow4]; exact Nat.lt_of_lt_of_le (valT_lt h) (Nat.pow_le_pow_right (by decide) hl)
theorem dec_short {N n : Nat} (h : N < 10000 ^ n) (hn : 0 < n) : (dec N).length ≤ 4 * n := by
  obtain ⟨hc, hv⟩ := dec_facts N
  by_cases h1 : dec N = [48]
  · rw [h1]; simp; omega
  · have h2 := can_ge hc h1
    rw [hv] at h2
    rw [pow4] at h
    exact pow10_lt h2 h (List.length_pos_iff.2 hc.2.1)
theorem okZ_text {n : Bool} {t : List UInt8} (h : allT t) (hl : t.length ≤ 800) : okZ (sg n (valT t)) = true := by
  have h3 := text_fits (n := 200) h (by omega)
  have := dig_len.2 h3
  unfold okZ; rw [sg_abs]; simp; omega
theorem good_txt {s : List UInt8} (h : goodT s) : txt (valS s) = s := by
  obtain ⟨h1, h2, h3, h4⟩ := h
  cases s with
  | nil => simp [spT] at h1
  | cons b l =>
    by_cases hb : b = 45
    · subst hb
      simp only [spT, if_true] at h1 h2 h3 h4
      have hne : l ≠ [48] := fun e => by subst e; have := h4 rfl; simp at this
      have hc : can l := ⟨h3, h1, fun e => by have := h4 e; simp at this⟩
      have hge := can_ge hc hne
      have hp : 0 < 10 ^ (l.length - 1) := Nat.pow_pos (by decide)
      have hv : valS (45 :: l) = -((valT l : Nat) : Int) := by simp [valS, spT, sg]
      rw [hv, txt, if_pos (by omega)]
      congr 1
      have e : (-((valT l : Nat) : Int)).natAbs = valT l := by omega
      rw [e]
      exact can_eq (dec_facts _).1 hc (dec_facts _).2
    · simp only [spT, hb, if_false] at h1 h2 h3 h4
      have hc : can (b :: l) := ⟨h3, h1, h4⟩
      have hv : valS (b :: l) = ((valT (b :: l) : Nat) : Int) := by simp [valS, spT, sg, hb]
      rw [hv, txt, if_neg (by omega)]
      have e : (((valT (b :: l) : Nat) : Int)).natAbs = valT (b :: l) := by omega
      rw [e]
      exact can_eq (dec_facts _).1 hc (dec_facts _).2
theorem txt_good {z : Int} (h : okZ z = true) : goodT (txt z) ∧ valS (txt z) = z := by
  obtain ⟨hc, hv⟩ := dec_facts z.natAbs
  have hlen : (dec z.natAbs).length ≤ 800 := dec_short (n := 200) (dig_len.1 (zA_len h)) (by decide)
  have hz0 : dec z.natAbs = [48] → z = 0 := fun e => by
    rw [e] at hv
    have : valT [48] = 0 := rfl
    omega
  unfold txt
  by_cases hz : z < 0
  · rw [if_pos hz]
    have hs : spT (45 :: dec z.natAbs) = (true, dec z.natAbs) := rfl
    refine ⟨⟨?_, ?_, ?_, ?_⟩, ?_⟩
    · rw [hs]; exact hc.2.1
    · rw [hs]; exact hlen
    · rw [hs]; exact hc.1
    · rw [hs]; intro e
      have := hz0 (hc.2.2 e); omega
    · rw [valS, hs, hv, sg, if_pos rfl]; omega
  · rw [if_neg hz]
    have hs : spT (dec z.natAbs) = (false, dec z.natAbs) := by
      cases hd : dec z.natAbs with
      | nil => rfl
      | cons b l =>
        have hb := hc.1 b (by rw [hd]; simp)
        have : b ≠ 45 := fun e => by subst e; unfold isD at hb; simp at hb
        simp [spT, this]
    refine ⟨⟨?_, ?_, ?_, ?_⟩, ?_⟩
    · rw [hs]; exact hc.2.1
    · rw [hs]; exact hlen
    · rw [hs]; exact hc.1
    · rw [hs]; exact hc.2.2
    · rw [valS, hs, hv, sg]; simp; omega
end Go.Proofs.YtgadegdhfjnoaaaDoor
/-
  Texts of numbers, walked.
-/

namespace Go.Proofs.YtgadegdhfjnoaaaDoor
open Go

abbrev AV.B (l : List UInt8) : AV := .prim (.string (Go.Proofs.YtgadegdhfjnoaaaDoor.B l))
theorem c_nil : (⟨#[]⟩ : ByteArray) = B [] := rfl
theorem c_45 : (⟨#[45]⟩ : ByteArray) = B [45] := rfl
theorem c_48 : (⟨#[48]⟩ : ByteArray) = B [48] := rfl
theorem dig_slice {P : Program} {t : TypeId} (ht : isStr P t = true) {a : Nat} (h : a < 10) : sliceA P t (.prim (.string ⟨#[48, 49, 50, 51, 52, 53, 54, 55, 56, 57]⟩)) (some (.prim (.int .i64 (a : Nat)))) (some (.prim (.int .i64 ((a + 1 : Nat) : Int)))) none = some (.str (B [UInt8.ofNat (48 + a)])) := by
  unfold sliceA
  simp only [ht, if_true]
  match a, h with
  | 0, _ => rfl
  | 1, _ => rfl
  | 2, _ => rfl
  | 3, _ => rfl
  | 4, _ => rfl
  | 5, _ => rfl
  | 6, _ => rfl
  | 7, _ => rfl
  | 8, _ => rfl
  | 9, _ => rfl
theorem bound_at {len k d : Nat} (h : k ≤ len) : bound len (some (.prim (.int .i64 (k : Nat)))) d = some k := by
  unfold bound; simp only [intN_cast]; rw [if_pos h]
theorem sl_from {P : Program} {t : TypeId} (ht : isStr P t = true) {s : List UInt8} {k : Nat} (h : k ≤ s.length) : sliceA P t (.prim (.string (B s))) (some (.prim (.int .i64 (k : Nat)))) none none = some (.str (B (s.drop k))) := by
  have e : (B s).extract k (B s).size = B (s.drop k) := by rw [B_extract, B_size, List.take_of_length_le (Nat.le_refl _)]
  have h' : k ≤ (B s).size := h
  have e1 : bound (B s).size none (B s).size = some (B s).size := rfl
  simp only [sliceA, ht, if_true, e1, bound_at h', e]
theorem sl_one {P : Program} {t : TypeId} (ht : isStr P t = true) {b : UInt8} {s : List UInt8} : sliceA P t (.prim (.string (B (b :: s)))) (some (.prim (.int .i64 1))) none none = some (.str (B s)) := sl_from ht (s := b :: s) (k := 1) (by simp)
theorem sl_to {P : Program} {t : TypeId} (ht : isStr P t = true) {s : List UInt8} {k : Nat} (h : k ≤ s.length) : sliceA P t (.prim (.string (B s))) none (some (.prim (.int .i64 (k : Nat)))) none = some (.str (B (s.take k))) := by
  have h' : k ≤ (B s).size := h
  have e1 : bound k none 0 = some 0 := rfl
  simp only [sliceA, ht, if_true, bound_at h', e1, B_extract, List.drop_zero]
theorem sl_both {P : Program} {t : TypeId} (ht : isStr P t = true) {s : List UInt8} {k e : Nat} (h : k ≤ e) (he : e ≤ s.length) : sliceA P t (.prim (.string (B s))) (some (.prim (.int .i64 (k : Nat)))) (some (.prim (.int .i64 (e : Nat)))) none = some (.str (B ((s.take e).drop k))) := by
  have h' : e ≤ (B s).size := he
  simp only [sliceA, ht, if_true, bound_at h', bound_at h, B_extract]
theorem strIdx_B (s : List UInt8) (k : Nat) : strIdx true (.prim (.string (B s))) (some k) = (nth s k).map fun b => .prim (.int .u8 b.toNat) := by
  unfold strIdx; simp only [if_true]; rw [B_get]
theorem u8_add {n : Nat} {i : Int} (h0 : 0 ≤ i) (h1 : i < 10) : IntKind.i64.wrap (i + 1) = ((i.toNat + 1 : Nat) : Int) := by rw [wrap_of (by unfold i64; omega)]; omega
section
variable (S : List Ent) (tk : List Nat) (k : Nat)
theorem isStr9 : isStr Tryd.prog 9 = true := by kernel_rfl
set_option maxRecDepth 100000 in
theorem R02_four (n : Nat) (hn : n < 10000) : cL Tryd.prog 92 [.int (n : Nat)] S tk k = some (.B (fourF n), S, tk, k) := by
  have q1 : IntKind.i64.wrap ((n : Int).tdiv 1000) = ((n / 1000 % 10 : Nat) : Int) := by
    rw [Int.tdiv_eq_ediv_of_nonneg (by omega), wrap_of (by unfold i64; omega)]; omega
  have q2 : IntKind.i64.wrap ((n : Int).tdiv 100) = ((n / 100 : Nat) : Int) := by
    rw [Int.tdiv_eq_ediv_of_nonneg (by omega), wrap_of (by unfold i64; omega)]; omega
  have q3 : IntKind.i64.wrap ((n : Int).tdiv 10) = ((n / 10 : Nat) : Int) := by
    rw [Int.tdiv_eq_ediv_of_nonneg (by omega), wrap_of (by unfold i64; omega)]; omega
  have m2 : ((n / 100 : Nat) : Int).tmod 10 = ((n / 100 % 10 : Nat) : Int) := by rw [Int.tmod_eq_emod_of_nonneg (by omega)]; omega
  have m3 : ((n / 10 : Nat) : Int).tmod 10 = ((n / 10 % 10 : Nat) : Int) := by rw [Int.tmod_eq_emod_of_nonneg (by omega)]; omega
  have m4 : ((n : Nat) : Int).tmod 10 = ((n % 10 : Nat) : Int) := by rw [Int.tmod_eq_emod_of_nonneg (by omega)]; omega
  have k1 : n / 1000 % 10 < 10 := Nat.mod_lt _ (by decide)
  have k2 : n / 100 % 10 < 10 := Nat.mod_lt _ (by decide)
  have k3 : n / 10 % 10 < 10 := Nat.mod_lt _ (by decide)
  have k4 : n % 10 < 10 := Nat.mod_lt _ (by decide)
  have hF : fourF n = [UInt8.ofNat (48 + n / 1000 % 10), UInt8.ofNat (48 + n / 100 % 10), UInt8.ofNat (48 + n / 10 % 10), UInt8.ofNat (48 + n % 10)] := rfl
  rw [hF]
  generalize n / 1000 % 10 = a1 at *
  generalize n / 100 % 10 = a2 at *
  generalize n / 10 % 10 = a3 at *
  generalize n % 10 = a4 at *
  have p1 := wrap_add (i := a1) (by omega)
  have p2 := wrap_add (i := a2) (by omega)
  have p3 := wrap_add (i := a3) (by omega)
  have p4 := wrap_add (i := a4) (by omega)
  have s1 := dig_slice isStr9 k1
  have s2 := dig_slice isStr9 k2
  have s3 := dig_slice isStr9 k3
  have s4 := dig_slice isStr9 k4
  generalize UInt8.ofNat (48 + a1) = b1 at *
  generalize UInt8.ofNat (48 + a2) = b2 at *
  generalize UInt8.ofNat (48 + a3) = b3 at *
  generalize UInt8.ofNat (48 + a4) = b4 at *
  have z1 : (B [b1]).size + (B [b2]).size ≤ 2 ^ 62 := by show 1 + 1 ≤ 2 ^ 62; decide
  have z2 : (B [b1, b2]).size + (B [b3]).size ≤ 2 ^ 62 := by show 2 + 1 ≤ 2 ^ 62; decide
  have z3 : (B [b1, b2, b3]).size + (B [b4]).size ≤ 2 ^ 62 := by show 3 + 1 ≤ 2 ^ 62; decide
  have h1 : ¬ ((1000 : Int) = 0) := by decide
  have h2 : ¬ ((100 : Int) = 0) := by decide
  have h3 : ¬ ((10 : Int) = 0) := by decide
  refine call_pure Tryd.func92 rfl rfl (by decide +kernel) (by decide +kernel) Tryd.ntmps92 rfl rfl _ _ _ rfl ?_; rw [RK_KX]
  simp (maxSteps := 1000000) +contextual (disch := first | with_reducible assumption | exact ⟨rfl⟩ | exact ⟨rfl, rfl⟩ | (refine _root_.id ?_; kernel_rfl) | omega) only [evs, ext_mv, nth, put, putT, getT, binInt, binStr, binBool, aUn, outA, resA, mapO, resA1, oneOf, w1, w2, w3, bots, cond_true, cond_false, if_true, if_false, ite_true, ite_false, reduceIte, reduceCtorEq, implies_true, Nat.reduceAdd, Nat.reduceSub, AV.int, AV.bool, AV.str, Nat.reduceBEq, Nat.reduceEqDiff, Nat.reduceMul, Nat.reduceLT, Nat.reduceLeDiff, Int.reduceNeg, BEq.rfl, beq_self_eq_true, tabl, cellsOf, fldA, ldA, stA, entAt, partA, takeN, over, leafOk, Value.oneCell', idxA, nilA, cellsEq, fillA, elemsA, pure1, pure2, reps, chkA, tys, Tryd.results92, KX_draw, KX_drawQ, KX_tail, lastO_one, lastO_more, dropL_one, dropL_more, callP_eq, callM_true, ext_mv1, q1, q2, q3, m2, m3, m4, p1, p2, p3, p4, s1, s2, s3, s4, z1, z2, z3, h1, h2, h3, B_app]
/-- what is left when zeros in front are cut off -/
theorem strip_done {s : List UInt8} {N : Nat} (ha : allT s) (hv : valT s = N) (hs : s ≠ []) (h : s.length ≤ 1 ∨ nth s 0 ≠ some 48) : s = dec N := by
  refine can_eq ⟨ha, hs, fun e => ?_⟩ (dec_facts N).1 (by rw [(dec_facts N).2, hv])
  rcases h with h | h
  · cases s with
    | nil => exact absurd rfl hs
    | cons b l =>
      have : l = [] := List.eq_nil_of_length_eq_zero (by simpa using h)
      subst this
      simp only [nth, Option.some.injEq] at e
      rw [e]
  · exact absurd e h
theorem u8_is {b : UInt8} {n : Nat} (hn : n < 256) : (((b.toNat : Nat) : Int) == ((n : Nat) : Int)) = decide (b = UInt8.ofNat n) := by
  have h : (UInt8.ofNat n).toNat = n := by rw [UInt8.toNat_ofNat']; omega
  by_cases e : b = UInt8.ofNat n
  · rw [e, h]; simp
  · have : b.toNat ≠ n := fun h' => e (UInt8.toNat_inj.1 (by rw [h, h']))
    simp [e, this]
    omega
set_option maxRecDepth 100000 in
theorem R02_Text (p : Bool) (l : List Int) (hl : l.length ≤ 1000000) : cL Tryd.prog 66 [bigA p l] S tk k = some (.B (txt (V p l)), S, tk, k) := by
  have hD := fun S tk k => told (E := E1) (R02_digits S tk k p l .unk hl)
  have hN1 := fun S tk k => told (E := E1) (R02_negative S tk k p l .unk hl)
  have ha := V_len p l
  have hng := V_neg p l
  generalize V p l = z at *
  generalize (validF p l && p) = neg at *
  obtain ⟨N, hN⟩ : ∃ N, N = z.natAbs := ⟨_, rfl⟩
  rw [← hN] at hD ha
  simp only [digA] at hD hN1
  have hz : txt z = if neg = true then 45 :: dec N else dec N := by
    unfold txt
    rw [← hN]
    cases neg with
    | true => simp only [if_true] at hng ⊢; rw [if_pos (by omega)]
    | false => simp only [Bool.false_eq_true, if_false] at hng ⊢; rw [if_neg (by omega)]
  rw [hz]
  have d3 := top_idx (n := (dig N).length) (by omega)
  refine call_pure Tryd.func66 rfl rfl (by decide +kernel) (by decide +kernel) Tryd.ntmps66 rfl rfl _ _ _ rfl ?_; rw [RK_KX]
  simp (maxSteps := 1000000) +contextual (disch := first | with_reducible assumption | exact ⟨rfl⟩ | exact ⟨rfl, rfl⟩ | (refine _root_.id ?_; kernel_rfl) | omega) only [evs, ext_mv, nth, put, putT, getT, binInt, binStr, binBool, aUn, outA, resA, mapO, resA1, oneOf, w1, w2, w3, bots, cond_true, cond_false, if_true, if_false, ite_true, ite_false, reduceIte, reduceCtorEq, implies_true, Nat.reduceAdd, Nat.reduceSub, AV.int, AV.bool, AV.str, Nat.reduceBEq, Nat.reduceEqDiff, Nat.reduceMul, Nat.reduceLT, Nat.reduceLeDiff, Int.reduceNeg, BEq.rfl, beq_self_eq_true, tabl, cellsOf, fldA, ldA, stA, entAt, partA, takeN, over, leafOk, Value.oneCell', idxA, nilA, cellsEq, fillA, elemsA, pure1, pure2, reps, chkA, tys, Tryd.results66, KX_draw, KX_drawQ, KX_tail, lastO_one, lastO_more, dropL_one, dropL_more, callP_eq, callM_true, ext_mv1, bigA, digA, hD, d3, c_nil]
  refine loop1 (fun x st => st.T.length = 39 ∧ (x.1 ≤ (dig N).length) ∧ (x.2 = foursT ((dig N).drop x.1)) ∧ getT st.T 1 = .ref 0 0 0 ∧ getT st.T 3 = digA (dig N) ∧ getT st.T 4 = .B x.2 ∧ getT st.T 5 = .int ((x.1 : Int) - 1) ∧ st.S = [⟨0, [.bool p, digA l]⟩]) (fun x => x.1) (fun x => .B (if neg = true then 45 :: dec N else dec N)) ((dig N).length, []) ?_ ?_
  case refine_2 => exact ⟨rfl, Nat.le_refl _, by rw [List.drop_length]; rfl, rfl, rfl, rfl, rfl, rfl⟩
  rintro ⟨m, s⟩ ⟨T, S', tk', n'⟩ ⟨hl, hm, hs, e1, e3, e4, e5, eS⟩ IH
  simp only at hm hs e1 e3 e4 e5 eS
  subst eS
  obtain ⟨g, hg, hT⟩ := tab_of hl
  rw [hg] at e1 e3 e4 e5
  subst hT
  clear hg hl
  by_cases h0 : m = 0
  · have d2 : decide ((m : Int) - 1 ≥ 0) = false := by simp; omega
    subst h0
    rw [List.drop_zero] at hs
    subst hs
    have hfl := fours_len (dig N)
    have hfa := fours_all (dig N)
    have hfv := fours_val (okD_dig N)
    rw [val_dig] at hfv
    have hfn : foursT (dig N) = [] → N = 0 := fun h => by
      rw [h] at hfl
      exact dig_nil.1 (List.length_eq_zero_iff.1 (by simp at hfl; omega))
    simp (maxSteps := 1000000) +contextual (disch := first | with_reducible assumption | exact ⟨rfl⟩ | exact ⟨rfl, rfl⟩ | (refine _root_.id ?_; kernel_rfl) | omega) only [evs, ext_mv, nth, put, putT, getT, binInt, binStr, binBool, aUn, outA, resA, mapO, resA1, oneOf, w1, w2, w3, bots, cond_true, cond_false, if_true, if_false, ite_true, ite_false, reduceIte, reduceCtorEq, implies_true, Nat.reduceAdd, Nat.reduceSub, AV.int, AV.bool, AV.str, Nat.reduceBEq, Nat.reduceEqDiff, Nat.reduceMul, Nat.reduceLT, Nat.reduceLeDiff, Int.reduceNeg, BEq.rfl, beq_self_eq_true, tabl, cellsOf, fldA, ldA, stA, entAt, partA, takeN, over, leafOk, Value.oneCell', idxA, nilA, cellsEq, fillA, elemsA, pure1, pure2, reps, chkA, tys, Tryd.results66, KX_draw, KX_drawQ, KX_tail, lastO_one, lastO_more, dropL_one, dropL_more, callP_eq, callM_true, ext_mv1, e1, e3, e4, e5, d2, digA]
    clear IH
    refine loop1 (fun x st => st.T.length = 39 ∧ (x.length ≤ 800) ∧ (allT x) ∧ (valT x = N) ∧ (x = [] → N = 0) ∧ getT st.T 1 = .ref 0 0 0 ∧ getT st.T 4 = .B x ∧ st.S = [⟨0, [.bool p, digA l]⟩]) (fun x => x.length) (fun x => .B (if neg = true then 45 :: dec N else dec N)) (foursT (dig N)) ?_ ?_
    case refine_2 => exact ⟨rfl, by omega, hfa, by exact Int.ofNat.inj hfv, hfn, rfl, rfl, rfl⟩
    rintro s ⟨T, S', tk', n'⟩ ⟨hl, h1, h2, h3, h4, e1, e4, eS⟩ IH
    subst eS
    obtain ⟨g, hg, hT⟩ := tab_of hl
    rw [hg] at e1 e4
    subst hT
    clear hg hl
    cases s with
    | nil =>
      have hN0 := h4 rfl
      have hneg : neg = false := by
        cases neg with
        | false => rfl
        | true => simp only [if_true] at hng; omega
      rw [hneg, hN0, dec_zero]
      have d5 : decide (((B []).size : Int) > 1) = false := rfl
      have d6 : sEq (B []) (B []) = true := by rw [B_eq]; rfl
      simp (maxSteps := 1000000) +contextual (disch := first | with_reducible assumption | exact ⟨rfl⟩ | exact ⟨rfl, rfl⟩ | (refine _root_.id ?_; kernel_rfl) | omega) only [evs, ext_mv, nth, put, putT, getT, binInt, binStr, binBool, aUn, outA, resA, mapO, resA1, oneOf, w1, w2, w3, bots, cond_true, cond_false, if_true, if_false, ite_true, ite_false, reduceIte, reduceCtorEq, implies_true, Nat.reduceAdd, Nat.reduceSub, AV.int, AV.bool, AV.str, Nat.reduceBEq, Nat.reduceEqDiff, Nat.reduceMul, Nat.reduceLT, Nat.reduceLeDiff, Int.reduceNeg, BEq.rfl, beq_self_eq_true, tabl, cellsOf, fldA, ldA, stA, entAt, partA, takeN, over, leafOk, Value.oneCell', idxA, nilA, cellsEq, fillA, elemsA, pure1, pure2, reps, chkA, tys, Tryd.results66, KX_draw, KX_drawQ, KX_tail, lastO_one, lastO_more, dropL_one, dropL_more, callP_eq, callM_true, ext_mv1, e1, e4, d5, d6, c_nil, c_48]
    | cons b t =>
      have d6 : sEq (B (b :: t)) (B []) = false := by rw [B_eq]; simp
      have hz0 : (45 :: (b :: t)).length ≤ 900 := by simp at h1 ⊢; omega
      have z1 : (B [45]).size + (B (b :: t)).size ≤ 2 ^ 62 := by
        show 1 + (b :: t).length ≤ 2 ^ 62
        omega
      have hg : (B (b :: t))[0]? = some b := B_get _ _
      have hb48 := u8_is (b := b) (n := 48) (by decide)
      have e48 : (UInt8.ofNat 48) = 48 := rfl
      rw [e48] at hb48
      have hfin : (t = [] ∨ b ≠ 48) → b :: t = dec N := fun h => by
        refine strip_done h2 h3 (by simp) ?_
        rcases h with h | h
        · left; simp [h]
        · right; simpa [nth] using h
      by_cases ht : t = []
      · have d5 : decide (((B (b :: t)).size : Int) > 1) = false := by rw [B_size, ht]; rfl
        have hf := hfin (.inl ht)
        cases neg with
        | true =>
          simp (maxSteps := 1000000) +contextual (disch := first | with_reducible assumption | exact ⟨rfl⟩ | exact ⟨rfl, rfl⟩ | (refine _root_.id ?_; kernel_rfl) | omega) only [evs, ext_mv, nth, put, putT, getT, binInt, binStr, binBool, aUn, outA, resA, mapO, resA1, oneOf, w1, w2, w3, bots, cond_true, cond_false, if_true, if_false, ite_true, ite_false, reduceIte, reduceCtorEq, implies_true, Nat.reduceAdd, Nat.reduceSub, AV.int, AV.bool, AV.str, Nat.reduceBEq, Nat.reduceEqDiff, Nat.reduceMul, Nat.reduceLT, Nat.reduceLeDiff, Int.reduceNeg, BEq.rfl, beq_self_eq_true, tabl, cellsOf, fldA, ldA, stA, entAt, partA, takeN, over, leafOk, Value.oneCell', idxA, nilA, cellsEq, fillA, elemsA, pure1, pure2, reps, chkA, tys, Tryd.results66, KX_draw, KX_drawQ, KX_tail, lastO_one, lastO_more, dropL_one, dropL_more, callP_eq, callM_true, ext_mv1, e1, e4, d5, d6, c_nil, c_45, hN1, z1, B_app, digA]
          rw [hf]
        | false =>
          simp (maxSteps := 1000000) +contextual (disch := first | with_reducible assumption | exact ⟨rfl⟩ | exact ⟨rfl, rfl⟩ | (refine _root_.id ?_; kernel_rfl) | omega) only [evs, ext_mv, nth, put, putT, getT, binInt, binStr, binBool, aUn, outA, resA, mapO, resA1, oneOf, w1, w2, w3, bots, cond_true, cond_false, if_true, if_false, ite_true, ite_false, reduceIte, reduceCtorEq, implies_true, Nat.reduceAdd, Nat.reduceSub, AV.int, AV.bool, AV.str, Nat.reduceBEq, Nat.reduceEqDiff, Nat.reduceMul, Nat.reduceLT, Nat.reduceLeDiff, Int.reduceNeg, BEq.rfl, beq_self_eq_true, tabl, cellsOf, fldA, ldA, stA, entAt, partA, takeN, over, leafOk, Value.oneCell', idxA, nilA, cellsEq, fillA, elemsA, pure1, pure2, reps, chkA, tys, Tryd.results66, KX_draw, KX_drawQ, KX_tail, lastO_one, lastO_more, dropL_one, dropL_more, callP_eq, callM_true, ext_mv1, e1, e4, d5, d6, c_nil, c_45, hN1, z1, B_app, digA]
          rw [hf]
      · have d5 : decide (((B (b :: t)).size : Int) > 1) = true := by
          rw [B_size]
          have : t.length ≠ 0 := fun h => ht (List.length_eq_zero_iff.1 h)
          simp; omega
        by_cases hb : b = 48
        · have d7 : (((b.toNat : Nat) : Int) == 48) = true := by rw [hb]; rfl
          have hsl := sl_one (P := Tryd.prog) isStr9 (b := b) (s := t)
          have hmu : t.length < (b :: t).length := by simp
          have hv2 : valT t = N := by
            rw [← h3, hb, valT]
            have : dv 48 = 0 := rfl
            rw [this]; omega
          simp (maxSteps := 1000000) +contextual (disch := first | with_reducible assumption | exact ⟨rfl⟩ | exact ⟨rfl, rfl⟩ | (refine _root_.id ?_; kernel_rfl) | omega) only [evs, ext_mv, nth, put, putT, getT, binInt, binStr, binBool, aUn, outA, resA, mapO, resA1, oneOf, w1, w2, w3, bots, cond_true, cond_false, if_true, if_false, ite_true, ite_false, reduceIte, reduceCtorEq, implies_true, Nat.reduceAdd, Nat.reduceSub, AV.int, AV.bool, AV.str, Nat.reduceBEq, Nat.reduceEqDiff, Nat.reduceMul, Nat.reduceLT, Nat.reduceLeDiff, Int.reduceNeg, BEq.rfl, beq_self_eq_true, tabl, cellsOf, fldA, ldA, stA, entAt, partA, takeN, over, leafOk, Value.oneCell', idxA, nilA, cellsEq, fillA, elemsA, pure1, pure2, reps, chkA, tys, Tryd.results66, KX_draw, KX_drawQ, KX_tail, lastO_one, lastO_more, dropL_one, dropL_more, callP_eq, callM_true, ext_mv1, e1, e4, d5, d7, strIdx_B, hsl, isStr9]
          exact IH (t) _ (by first | omega | (simp only; omega)) ⟨rfl, by simp at h1; omega, fun x hx => h2 x (by simp [hx]), hv2, fun h => absurd h ht, (by first | rfl | simp only [getT, List.map_append, List.map_cons, List.map_nil, digC, digA, and_self]), (by first | rfl | simp only [getT, List.map_append, List.map_cons, List.map_nil, digC, digA, and_self]), (by first | rfl | simp only [getT, List.map_append, List.map_cons, List.map_nil, digC, digA, and_self])⟩
        · have d7 : (((b.toNat : Nat) : Int) == 48) = false := hb48.trans (by simp [hb])
          have hf := hfin (.inr hb)
          cases neg with
          | true =>
            simp (maxSteps := 1000000) +contextual (disch := first | with_reducible assumption | exact ⟨rfl⟩ | exact ⟨rfl, rfl⟩ | (refine _root_.id ?_; kernel_rfl) | omega) only [evs, ext_mv, nth, put, putT, getT, binInt, binStr, binBool, aUn, outA, resA, mapO, resA1, oneOf, w1, w2, w3, bots, cond_true, cond_false, if_true, if_false, ite_true, ite_false, reduceIte, reduceCtorEq, implies_true, Nat.reduceAdd, Nat.reduceSub, AV.int, AV.bool, AV.str, Nat.reduceBEq, Nat.reduceEqDiff, Nat.reduceMul, Nat.reduceLT, Nat.reduceLeDiff, Int.reduceNeg, BEq.rfl, beq_self_eq_true, tabl, cellsOf, fldA, ldA, stA, entAt, partA, takeN, over, leafOk, Value.oneCell', idxA, nilA, cellsEq, fillA, elemsA, pure1, pure2, reps, chkA, tys, Tryd.results66, KX_draw, KX_drawQ, KX_tail, lastO_one, lastO_more, dropL_one, dropL_more, callP_eq, callM_true, ext_mv1, e1, e4, d5, d6, d7, strIdx_B, isStr9, c_nil, c_45, hN1, z1, B_app, digA]
            rw [hf]
          | false =>
            simp (maxSteps := 1000000) +contextual (disch := first | with_reducible assumption | exact ⟨rfl⟩ | exact ⟨rfl, rfl⟩ | (refine _root_.id ?_; kernel_rfl) | omega) only [evs, ext_mv, nth, put, putT, getT, binInt, binStr, binBool, aUn, outA, resA, mapO, resA1, oneOf, w1, w2, w3, bots, cond_true, cond_false, if_true, if_false, ite_true, ite_false, reduceIte, reduceCtorEq, implies_true, Nat.reduceAdd, Nat.reduceSub, AV.int, AV.bool, AV.str, Nat.reduceBEq, Nat.reduceEqDiff, Nat.reduceMul, Nat.reduceLT, Nat.reduceLeDiff, Int.reduceNeg, BEq.rfl, beq_self_eq_true, tabl, cellsOf, fldA, ldA, stA, entAt, partA, takeN, over, leafOk, Value.oneCell', idxA, nilA, cellsEq, fillA, elemsA, pure1, pure2, reps, chkA, tys, Tryd.results66, KX_draw, KX_drawQ, KX_tail, lastO_one, lastO_more, dropL_one, dropL_more, callP_eq, callM_true, ext_mv1, e1, e4, d5, d6, d7, strIdx_B, isStr9, c_nil, c_45, hN1, z1, B_app, digA]
            rw [hf]
  · have d2 : decide ((m : Int) - 1 ≥ 0) = true := by simp; omega
    have hi : (m : Int) - 1 = ((m - 1 : Nat) : Int) := by omega
    obtain ⟨x, hx⟩ := nth_some (show m - 1 < (dig N).length by omega)
    have hx' := nth_dig hx
    have hxk := of_okD (okD_dig N) hx
    have hxn : x = ((x.toNat : Nat) : Int) := by omega
    have hp := top_idx (n := m - 1) (by omega)
    have hdr := nth_drop hx
    have hm1 : m - 1 + 1 = m := by omega
    rw [hm1] at hdr
    have hF := fun S tk k => R02_four S tk k x.toNat (by omega)
    rw [← hxn] at hF
    have hfc := fours_cons x ((dig N).drop m)
    have hfl := fours_len ((dig N).drop m)
    rw [List.length_drop] at hfl
    have z1 : (B (foursT ((dig N).drop m))).size + (B (fourF x.toNat)).size ≤ 2 ^ 62 := by
      rw [B_size, B_size, four_len2]
      omega
    rw [hi] at e5 d2
    subst hs
    simp (maxSteps := 1000000) +contextual (disch := first | with_reducible assumption | exact ⟨rfl⟩ | exact ⟨rfl, rfl⟩ | (refine _root_.id ?_; kernel_rfl) | omega) only [evs, ext_mv, nth, put, putT, getT, binInt, binStr, binBool, aUn, outA, resA, mapO, resA1, oneOf, w1, w2, w3, bots, cond_true, cond_false, if_true, if_false, ite_true, ite_false, reduceIte, reduceCtorEq, implies_true, Nat.reduceAdd, Nat.reduceSub, AV.int, AV.bool, AV.str, Nat.reduceBEq, Nat.reduceEqDiff, Nat.reduceMul, Nat.reduceLT, Nat.reduceLeDiff, Int.reduceNeg, BEq.rfl, beq_self_eq_true, tabl, cellsOf, fldA, ldA, stA, entAt, partA, takeN, over, leafOk, Value.oneCell', idxA, nilA, cellsEq, fillA, elemsA, pure1, pure2, reps, chkA, tys, Tryd.results66, KX_draw, KX_drawQ, KX_tail, lastO_one, lastO_more, dropL_one, dropL_more, callP_eq, callM_true, ext_mv1, e1, e3, e4, e5, d2, digA, hx', hp, hF, z1, B_app]
    exact IH (m - 1, foursT ((dig N).drop m) ++ fourF x.toNat) _ (by first | omega | (simp only; omega)) ⟨rfl, by first | omega | (dsimp only; omega), by rw [hdr, hfc], (by first | rfl | simp only [getT, List.map_append, List.map_cons, List.map_nil, digC, digA, and_self]), (by first | rfl | simp only [getT, List.map_append, List.map_cons, List.map_nil, digC, digA, and_self]), (by first | rfl | simp only [getT, List.map_append, List.map_cons, List.map_nil, digC, digA, and_self])⟩
end
end Go.Proofs.YtgadegdhfjnoaaaDoor
/-
  What the functions of the fractions compute: sums, differences.
-/

namespace Go.Proofs.YtgadegdhfjnoaaaDoor
open Go
theorem neg_small {a : Int} (ha : smB a = true) : smB (-a) = true := by
  simp only [smB, Int.natAbs_neg] at ha ⊢; exact ha
section
variable (S : List Ent) (tk : List Nat) (k : Nat)
set_option maxHeartbeats 1000000 in
theorem rat_Add (p1 : Bool) (l1 : List Int) (q1 : Bool) (r1 : List Int) (p2 : Bool) (l2 : List Int) (q2 : Bool) (r2 : List Int) (h1 : l1.length ≤ 1000000) (h2 : r1.length ≤ 1000000) (h3 : l2.length ≤ 1000000) (h4 : r2.length ≤ 1000000) :
    cL Tryd.prog 67 [ratA p1 l1 q1 r1, ratA p2 l2 q2 r2, .bool false] S tk k = some (resQ (nQ p1 l1 q1 r1 * dQ p2 l2 q2 r2 + nQ p2 l2 q2 r2 * dQ p1 l1 q1 r1) (dQ p1 l1 q1 r1 * dQ p2 l2 q2 r2), S, tk, k) := by
  have hA := fun S tk k => rat_right S tk k p1 l1 q1 r1 h1 h2
  have hB := fun S tk k => rat_right S tk k p2 l2 q2 r2 h3 h4
  have gA := good_of p1 l1 q1 r1
  have gB := good_of p2 l2 q2 r2
  generalize nQ p1 l1 q1 r1 = a at *
  generalize dQ p1 l1 q1 r1 = b at *
  generalize nQ p2 l2 q2 r2 = c at *
  generalize dQ p2 l2 q2 r2 = d at *
  have hbd : b * d ≠ 0 := Int.mul_ne_zero (by have := gA.pos; omega) (by have := gB.pos; omega)
  refine call_pure Tryd.func67 rfl rfl (by decide +kernel) (by decide +kernel) Tryd.ntmps67 rfl rfl _ _ _ (rfl) ?_; rw [RK_KX]
  have hK := fun S tk k => rat_quick S tk k a b c d
  cases hs : smB a && smB b && smB c && smB d with
  | true =>
    rw [hs] at hK
    simp only [Bool.and_eq_true] at hs
    obtain ⟨⟨⟨s1, s2⟩, s3⟩, s4⟩ := hs
    rw [sm_of s1, sm_of s2, sm_of s3, sm_of s4] at hK
    have b1 := mul_small s1 s4
    have b2 := mul_small s3 s2
    have b3 := mul_small s2 s4
    have hw1 : IntKind.i64.wrap (a * d) = a * d := wrap_of (by unfold i64; omega)
    have hw2 : IntKind.i64.wrap (c * b) = c * b := wrap_of (by unfold i64; omega)
    have hw3 : IntKind.i64.wrap (b * d) = b * d := wrap_of (by unfold i64; omega)
    have hw4 : IntKind.i64.wrap (a * d + c * b) = a * d + c * b := wrap_of (by unfold i64; omega)
    have hF := fun S tk k => rat_fraction S tk k (a * d + c * b) (b * d) (by omega) (by omega) hbd
    rw [res_small (by omega) (by omega) hbd]
    simp only [qA, ratA, digA] at hA hB hK hF ⊢
    simp (maxSteps := 1000000) +contextual (disch := first | with_reducible assumption | exact ⟨rfl⟩ | exact ⟨rfl, rfl⟩ | (refine _root_.id ?_; kernel_rfl) | omega) only [evs, ext_mv, nth, put, putT, getT, binInt, binStr, binBool, aUn, outA, resA, mapO, resA1, oneOf, w1, w2, w3, bots, cond_true, cond_false, if_true, if_false, ite_true, ite_false, reduceIte, reduceCtorEq, implies_true, Nat.reduceAdd, Nat.reduceSub, AV.int, AV.bool, AV.str, Nat.reduceBEq, Nat.reduceEqDiff, Nat.reduceMul, Nat.reduceLT, Nat.reduceLeDiff, Int.reduceNeg, BEq.rfl, beq_self_eq_true, tabl, cellsOf, fldA, ldA, stA, entAt, partA, takeN, over, leafOk, Value.oneCell', idxA, nilA, cellsEq, fillA, elemsA, pure1, pure2, reps, chkA, tys, Tryd.results67, KX_draw, KX_drawQ, KX_tail, lastO_one, lastO_more, dropL_one, dropL_more, callP_eq, callM_true, ext_mv1, ratA, digA, hA, hB, hK, hF, hw1, hw2, hw3, hw4]
  | false =>
    rw [hs] at hK
    have hO1 := fun S tk k => rat_of S tk k a
    have hO2 := fun S tk k => rat_of S tk k b
    have hO3 := fun S tk k => rat_of S tk k c
    have hO4 := fun S tk k => rat_of S tk k d
    have l1 := gA.ln
    have l2 := gA.ld
    have l3 := gB.ln
    have l4 := gB.ld
    have hT1 := fun S tk k => whole_times S tk k a d (by omega) (by omega)
    have hT2 := fun S tk k => whole_times S tk k b d (by omega) (by omega)
    have hT3 := fun S tk k => whole_times S tk k c b (by omega) (by omega)
    have m1 := len_mulZ l1 l4
    have m2 := len_mulZ l2 l4
    have m3 := len_mulZ l3 l2
    have hP := fun S tk k => whole_plus S tk k (a * d) (c * b) (by omega) (by omega)
    have m4 := len_addZ (x := a * d) (y := c * b) (a := 45000) (by omega) (by omega)
    have hR := fun S tk k => rat_result S tk k (a * d + c * b) (b * d) (by omega) (by omega) hbd
    simp only [zA, bigA, digA] at hO1 hO2 hO3 hO4 hT1 hT2 hT3 hP hR
    simp only [resQ, qA, ratA, digA] at hA hB hK hR ⊢
    simp (maxSteps := 1000000) +contextual (disch := first | with_reducible assumption | exact ⟨rfl⟩ | exact ⟨rfl, rfl⟩ | (refine _root_.id ?_; kernel_rfl) | omega) only [evs, ext_mv, nth, put, putT, getT, binInt, binStr, binBool, aUn, outA, resA, mapO, resA1, oneOf, w1, w2, w3, bots, cond_true, cond_false, if_true, if_false, ite_true, ite_false, reduceIte, reduceCtorEq, implies_true, Nat.reduceAdd, Nat.reduceSub, AV.int, AV.bool, AV.str, Nat.reduceBEq, Nat.reduceEqDiff, Nat.reduceMul, Nat.reduceLT, Nat.reduceLeDiff, Int.reduceNeg, BEq.rfl, beq_self_eq_true, tabl, cellsOf, fldA, ldA, stA, entAt, partA, takeN, over, leafOk, Value.oneCell', idxA, nilA, cellsEq, fillA, elemsA, pure1, pure2, reps, chkA, tys, Tryd.results67, KX_draw, KX_drawQ, KX_tail, lastO_one, lastO_more, dropL_one, dropL_more, callP_eq, callM_true, ext_mv1, ratA, digA, hA, hB, hK, hO1, hO2, hO3, hO4, hT1, hT2, hT3, hP, hR]
set_option maxHeartbeats 1000000 in
theorem rat_Sub (p1 : Bool) (l1 : List Int) (q1 : Bool) (r1 : List Int) (p2 : Bool) (l2 : List Int) (q2 : Bool) (r2 : List Int) (h1 : l1.length ≤ 1000000) (h2 : r1.length ≤ 1000000) (h3 : l2.length ≤ 1000000) (h4 : r2.length ≤ 1000000) :
    cL Tryd.prog 67 [ratA p1 l1 q1 r1, ratA p2 l2 q2 r2, .bool true] S tk k = some (resQ (nQ p1 l1 q1 r1 * dQ p2 l2 q2 r2 + -nQ p2 l2 q2 r2 * dQ p1 l1 q1 r1) (dQ p1 l1 q1 r1 * dQ p2 l2 q2 r2), S, tk, k) := by
  have hA := fun S tk k => rat_right S tk k p1 l1 q1 r1 h1 h2
  have hB := fun S tk k => rat_right S tk k p2 l2 q2 r2 h3 h4
  have gA := good_of p1 l1 q1 r1
  have gB := good_of p2 l2 q2 r2
  generalize nQ p1 l1 q1 r1 = a at *
  generalize dQ p1 l1 q1 r1 = b at *
  generalize nQ p2 l2 q2 r2 = c at *
  generalize dQ p2 l2 q2 r2 = d at *
  have hbd : b * d ≠ 0 := Int.mul_ne_zero (by have := gA.pos; omega) (by have := gB.pos; omega)
  refine call_pure Tryd.func67 rfl rfl (by decide +kernel) (by decide +kernel) Tryd.ntmps67 rfl rfl _ _ _ (rfl) ?_; rw [RK_KX]
  have hK := fun S tk k => rat_quick S tk k a b c d
  cases hs : smB a && smB b && smB c && smB d with
  | true =>
    rw [hs] at hK
    simp only [Bool.and_eq_true] at hs
    obtain ⟨⟨⟨s1, s2⟩, s3⟩, s4⟩ := hs
    rw [sm_of s1, sm_of s2, sm_of s3, sm_of s4] at hK
    have b0 := smB_lt s3
    have b1 := mul_small s1 s4
    have b2 := mul_small (neg_small s3) s2
    have b3 := mul_small s2 s4
    have hw0 : IntKind.i64.wrap (0 - c) = -c := by rw [wrap_of (by unfold i64; omega)]; omega
    have hw1 : IntKind.i64.wrap (a * d) = a * d := wrap_of (by unfold i64; omega)
    have hw2 : IntKind.i64.wrap (-c * b) = -c * b := wrap_of (by unfold i64; omega)
    have hw3 : IntKind.i64.wrap (b * d) = b * d := wrap_of (by unfold i64; omega)
    have hw4 : IntKind.i64.wrap (a * d + -c * b) = a * d + -c * b := wrap_of (by unfold i64; omega)
    have hF := fun S tk k => rat_fraction S tk k (a * d + -c * b) (b * d) (by omega) (by omega) hbd
    rw [res_small (by omega) (by omega) hbd]
    simp only [qA, ratA, digA] at hA hB hK hF ⊢
    simp (maxSteps := 1000000) +contextual (disch := first | with_reducible assumption | exact ⟨rfl⟩ | exact ⟨rfl, rfl⟩ | (refine _root_.id ?_; kernel_rfl) | omega) only [evs, ext_mv, nth, put, putT, getT, binInt, binStr, binBool, aUn, outA, resA, mapO, resA1, oneOf, w1, w2, w3, bots, cond_true, cond_false, if_true, if_false, ite_true, ite_false, reduceIte, reduceCtorEq, implies_true, Nat.reduceAdd, Nat.reduceSub, AV.int, AV.bool, AV.str, Nat.reduceBEq, Nat.reduceEqDiff, Nat.reduceMul, Nat.reduceLT, Nat.reduceLeDiff, Int.reduceNeg, BEq.rfl, beq_self_eq_true, tabl, cellsOf, fldA, ldA, stA, entAt, partA, takeN, over, leafOk, Value.oneCell', idxA, nilA, cellsEq, fillA, elemsA, pure1, pure2, reps, chkA, tys, Tryd.results67, KX_draw, KX_drawQ, KX_tail, lastO_one, lastO_more, dropL_one, dropL_more, callP_eq, callM_true, ext_mv1, ratA, digA, hA, hB, hK, hF, hw0, hw1, hw2, hw3, hw4]
  | false =>
    rw [hs] at hK
    have hO1 := fun S tk k => rat_of S tk k a
    have hO2 := fun S tk k => rat_of S tk k b
    have hO3 := fun S tk k => rat_of S tk k c
    have hO4 := fun S tk k => rat_of S tk k d
    have l1 := gA.ln
    have l2 := gA.ld
    have l3 := gB.ln
    have l4 := gB.ld
    have hT1 := fun S tk k => whole_times S tk k a d (by omega) (by omega)
    have hT2 := fun S tk k => whole_times S tk k b d (by omega) (by omega)
    have hT3 := fun S tk k => whole_times S tk k c b (by omega) (by omega)
    have m1 := len_mulZ l1 l4
    have m2 := len_mulZ l2 l4
    have m3 := len_mulZ l3 l2
    have m5 := len_negZ m3
    have hP := fun S tk k => whole_minus S tk k (a * d) (c * b) (by omega) (by omega)
    have e1 : a * d - c * b = a * d + -c * b := by rw [Int.neg_mul]; omega
    rw [e1] at hP
    rw [← Int.neg_mul] at m5
    have m4 := len_addZ (x := a * d) (y := -c * b) (a := 45000) (by omega) (by omega)
    have hR := fun S tk k => rat_result S tk k (a * d + -c * b) (b * d) (by omega) (by omega) hbd
    simp only [zA, bigA, digA] at hO1 hO2 hO3 hO4 hT1 hT2 hT3 hP hR
    simp only [resQ, qA, ratA, digA] at hA hB hK hR ⊢
    simp (maxSteps := 1000000) +contextual (disch := first | with_reducible assumption | exact ⟨rfl⟩ | exact ⟨rfl, rfl⟩ | (refine _root_.id ?_; kernel_rfl) | omega) only [evs, ext_mv, nth, put, putT, getT, binInt, binStr, binBool, aUn, outA, resA, mapO, resA1, oneOf, w1, w2, w3, bots, cond_true, cond_false, if_true, if_false, ite_true, ite_false, reduceIte, reduceCtorEq, implies_true, Nat.reduceAdd, Nat.reduceSub, AV.int, AV.bool, AV.str, Nat.reduceBEq, Nat.reduceEqDiff, Nat.reduceMul, Nat.reduceLT, Nat.reduceLeDiff, Int.reduceNeg, BEq.rfl, beq_self_eq_true, tabl, cellsOf, fldA, ldA, stA, entAt, partA, takeN, over, leafOk, Value.oneCell', idxA, nilA, cellsEq, fillA, elemsA, pure1, pure2, reps, chkA, tys, Tryd.results67, KX_draw, KX_drawQ, KX_tail, lastO_one, lastO_more, dropL_one, dropL_more, callP_eq, callM_true, ext_mv1, ratA, digA, hA, hB, hK, hO1, hO2, hO3, hO4, hT1, hT2, hT3, hP, hR]
theorem rat_Add1 (p1 : Bool) (l1 : List Int) (q1 : Bool) (r1 : List Int) (p2 : Bool) (l2 : List Int) (q2 : Bool) (r2 : List Int) (h1 : l1.length ≤ 1000000) (h2 : r1.length ≤ 1000000) (h3 : l2.length ≤ 1000000) (h4 : r2.length ≤ 1000000) :
    cL Tryd.prog 29 [ratA p1 l1 q1 r1, ratA p2 l2 q2 r2] S tk k = some (resQ (nQ p1 l1 q1 r1 * dQ p2 l2 q2 r2 + nQ p2 l2 q2 r2 * dQ p1 l1 q1 r1) (dQ p1 l1 q1 r1 * dQ p2 l2 q2 r2), S, tk, k) := by
  have hJ := fun S tk k => rat_Add S tk k p1 l1 q1 r1 p2 l2 q2 r2 h1 h2 h3 h4
  refine call_pure Tryd.func29 rfl rfl (by decide +kernel) (by decide +kernel) Tryd.ntmps29 rfl rfl _ _ _ (rfl) ?_; rw [RK_KX]
  simp only [resQ, qA, ratA, digA] at hJ ⊢
  simp (maxSteps := 1000000) +contextual (disch := first | with_reducible assumption | exact ⟨rfl⟩ | exact ⟨rfl, rfl⟩ | (refine _root_.id ?_; kernel_rfl) | omega) only [evs, ext_mv, nth, put, putT, getT, binInt, binStr, binBool, aUn, outA, resA, mapO, resA1, oneOf, w1, w2, w3, bots, cond_true, cond_false, if_true, if_false, ite_true, ite_false, reduceIte, reduceCtorEq, implies_true, Nat.reduceAdd, Nat.reduceSub, AV.int, AV.bool, AV.str, Nat.reduceBEq, Nat.reduceEqDiff, Nat.reduceMul, Nat.reduceLT, Nat.reduceLeDiff, Int.reduceNeg, BEq.rfl, beq_self_eq_true, tabl, cellsOf, fldA, ldA, stA, entAt, partA, takeN, over, leafOk, Value.oneCell', idxA, nilA, cellsEq, fillA, elemsA, pure1, pure2, reps, chkA, tys, Tryd.results29, KX_draw, KX_drawQ, KX_tail, lastO_one, lastO_more, dropL_one, dropL_more, callP_eq, callM_true, ext_mv1, ratA, digA, hJ]
theorem rat_Sub1 (p1 : Bool) (l1 : List Int) (q1 : Bool) (r1 : List Int) (p2 : Bool) (l2 : List Int) (q2 : Bool) (r2 : List Int) (h1 : l1.length ≤ 1000000) (h2 : r1.length ≤ 1000000) (h3 : l2.length ≤ 1000000) (h4 : r2.length ≤ 1000000) :
    cL Tryd.prog 31 [ratA p1 l1 q1 r1, ratA p2 l2 q2 r2] S tk k = some (resQ (nQ p1 l1 q1 r1 * dQ p2 l2 q2 r2 + -nQ p2 l2 q2 r2 * dQ p1 l1 q1 r1) (dQ p1 l1 q1 r1 * dQ p2 l2 q2 r2), S, tk, k) := by
  have hJ := fun S tk k => rat_Sub S tk k p1 l1 q1 r1 p2 l2 q2 r2 h1 h2 h3 h4
  refine call_pure Tryd.func31 rfl rfl (by decide +kernel) (by decide +kernel) Tryd.ntmps31 rfl rfl _ _ _ (rfl) ?_; rw [RK_KX]
  simp only [resQ, qA, ratA, digA] at hJ ⊢
  simp (maxSteps := 1000000) +contextual (disch := first | with_reducible assumption | exact ⟨rfl⟩ | exact ⟨rfl, rfl⟩ | (refine _root_.id ?_; kernel_rfl) | omega) only [evs, ext_mv, nth, put, putT, getT, binInt, binStr, binBool, aUn, outA, resA, mapO, resA1, oneOf, w1, w2, w3, bots, cond_true, cond_false, if_true, if_false, ite_true, ite_false, reduceIte, reduceCtorEq, implies_true, Nat.reduceAdd, Nat.reduceSub, AV.int, AV.bool, AV.str, Nat.reduceBEq, Nat.reduceEqDiff, Nat.reduceMul, Nat.reduceLT, Nat.reduceLeDiff, Int.reduceNeg, BEq.rfl, beq_self_eq_true, tabl, cellsOf, fldA, ldA, stA, entAt, partA, takeN, over, leafOk, Value.oneCell', idxA, nilA, cellsEq, fillA, elemsA, pure1, pure2, reps, chkA, tys, Tryd.results31, KX_draw, KX_drawQ, KX_tail, lastO_one, lastO_more, dropL_one, dropL_more, callP_eq, callM_true, ext_mv1, ratA, digA, hJ]
end
end Go.Proofs.YtgadegdhfjnoaaaDoor
/-
  What the functions of the reference of the fractions compute: products.
-/

namespace Go.Proofs.YtgadegdhfjnoaaaDoor
open Go
theorem drop_set_same {l : List Int} {i : Nat} {x : Int} (h : i < l.length) : (l.set i x).drop i = x :: l.drop (i + 1) := by
  rw [nth_drop (nth_set_same h)]
  congr 1
  rw [List.drop_set]; simp
theorem drop_set_later {l : List Int} {i : Nat} {x : Int} : (l.set i x).drop (i + 1) = l.drop (i + 1) := by
  rw [List.drop_set]; simp
theorem okD_zeros (n : Nat) : okD (List.replicate n 0) := fun d hd => by
  have := (List.mem_replicate.1 hd).2; omega
structure Short (A : Nat) (b : Int) (m : Nat) (r : Int) (out : List Int) : Prop where
  len : out.length = (dig A).length
  ok : okD out
  r0 : 0 ≤ r ∧ r < b
  eqv : val ((dig A).drop m) = val (out.drop m) * b + r
theorem Short.start {A : Nat} {b : Int} (h : 0 < b) : Short A b (dig A).length 0 (List.replicate (dig A).length 0) := by
  refine ⟨by simp, okD_zeros _, by omega, ?_⟩
  rw [List.drop_length, List.drop_eq_nil_of_le (by simp)]; simp [val]
theorem Short.step {A : Nat} {b : Int} {m : Nat} {r x : Int} {out : List Int} (h : Short A b m r out) (hm : m ≠ 0) (hml : m ≤ (dig A).length) (hx : nth (dig A) (m - 1) = some x) :
    Short A b (m - 1) ((r * 10000 + x).tmod b) (out.set (m - 1) ((r * 10000 + x).tdiv b)) ∧ 0 ≤ (r * 10000 + x).tdiv b ∧ (r * 10000 + x).tdiv b < 10000 ∧ 0 ≤ (r * 10000 + x).tmod b ∧ (r * 10000 + x).tmod b < b := by
  have hr := h.r0
  have hxk := of_okD (okD_dig A) hx
  have hn : 0 ≤ r * 10000 + x := by omega
  have e1 : (r * 10000 + x).tdiv b = (r * 10000 + x) / b := Int.tdiv_eq_ediv_of_nonneg hn
  have e2 : (r * 10000 + x).tmod b = (r * 10000 + x) % b := Int.tmod_eq_emod_of_nonneg hn
  have m0 := Int.emod_nonneg (r * 10000 + x) (show b ≠ 0 by omega)
  have m1 := Int.emod_lt_of_pos (r * 10000 + x) (show 0 < b by omega)
  have q0 : 0 ≤ (r * 10000 + x) / b := Int.ediv_nonneg hn (by omega)
  have q1 : (r * 10000 + x) / b < 10000 := Int.ediv_lt_of_lt_mul (by omega) (by omega)
  have hm1 : m - 1 + 1 = m := by omega
  have hlen : m - 1 < out.length := by have := h.len; omega
  rw [e1, e2]
  refine ⟨⟨by rw [List.length_set]; exact h.len, okD_set h.ok q0 q1, ⟨m0, m1⟩, ?_⟩, q0, q1, m0, m1⟩
  have hv := h.eqv
  rw [nth_drop hx, drop_set_same hlen, val, val, hm1, hv]
  have hd := Int.emod_add_mul_ediv (r * 10000 + x) b
  rw [Int.add_mul, Int.mul_add, ← Int.mul_assoc, Int.mul_comm ((r * 10000 + x) / b)]
  generalize b * ((r * 10000 + x) / b) = t at *
  generalize (r * 10000 + x) % b = u at *
  rw [Int.mul_assoc]
  generalize val (out.drop m) * b = w at *
  omega
theorem div_of {A B Q R : Int} (h : A = Q * B + R) (h0 : 0 ≤ R) (h1 : R < B) : A / B = Q ∧ A % B = R := by
  have hb : 0 < B := by omega
  subst h
  constructor
  · rw [Int.add_comm, Int.add_mul_ediv_right _ _ (by omega), Int.ediv_eq_zero_of_lt h0 h1]; omega
  · rw [Int.add_comm, Int.add_mul_emod_self_right, Int.emod_eq_of_lt h0 h1]
theorem div_nat {A B : Nat} {Q R : Int} (h : (A : Int) = Q * B + R) (h0 : 0 ≤ R) (h1 : R < B) : Q = ((A / B : Nat) : Int) ∧ R = ((A % B : Nat) : Int) := by
  obtain ⟨e1, e2⟩ := div_of h h0 h1
  rw [← e1, ← e2]; exact ⟨rfl, rfl⟩
theorem Short.done {A B : Nat} {r : Int} {out : List Int} (h : Short A B 0 r out) : trimL out = dig (A / B) ∧ r.toNat = A % B := by
  have hv := h.eqv
  rw [List.drop_zero, List.drop_zero, val_dig] at hv
  obtain ⟨e1, e2⟩ := div_nat hv h.r0.1 h.r0.2
  rw [trim_dig h.ok, e1]
  exact ⟨by congr 1, by omega⟩
theorem pow_cast (n : Nat) : ((10000 ^ n : Nat) : Int) = (10000 : Int) ^ n := Int.natCast_pow ..
/-- the reference's product with one digit, digit by digit -/
structure Dg (a d z i : Nat) (c : Int) (out : List Int) : Prop where
  len : out.length = z + i
  ok : okD out
  c0 : 0 ≤ c ∧ c ≤ 9999
  eqv : val out + 10000 ^ (z + i) * (c + d * val ((dig a).drop i)) = (a * d * 10000 ^ z : Nat)
theorem Dg.start (a d z : Nat) : Dg a d z 0 0 (List.replicate z 0) := by
  refine ⟨by simp, okD_zeros _, by omega, ?_⟩
  rw [val_replicate, List.drop_zero, val_dig, Int.natCast_mul, Int.natCast_mul, pow_cast, Nat.add_zero, Int.zero_add, Int.zero_add, Int.mul_comm, Int.mul_comm (a : Int)]
theorem mul_dig {x d : Int} (h0 : 0 ≤ x) (h1 : x < 10000) (h2 : 0 ≤ d) (h3 : d < 10000) : 0 ≤ x * d ∧ x * d ≤ 99980001 := by
  have a := Int.mul_nonneg h0 h2
  have b := Int.mul_le_mul (a := x) (b := d) (c := 9999) (d := 9999) (by omega) (by omega) h2 (by omega)
  omega
theorem Dg.step {a d z i : Nat} {c x n : Int} {out : List Int} (h : Dg a d z i c out) (hd : d < 10000) (hx : nth (dig a) i = some x) (hn : n = c + x * d) :
    Dg a d z (i + 1) (n.tdiv 10000) (out ++ [n.tmod 10000]) ∧ 0 ≤ n ∧ n ≤ 99990000 := by
  have hxk := of_okD (okD_dig a) hx
  have hm := mul_dig hxk.1 hxk.2 (Int.natCast_nonneg d) (by omega)
  have h3 := h.c0
  have e1 : n.tdiv 10000 = n / 10000 := Int.tdiv_eq_ediv_of_nonneg (by omega)
  have e2 : n.tmod 10000 = n % 10000 := Int.tmod_eq_emod_of_nonneg (by omega)
  refine ⟨⟨by simp [h.len]; omega, okD_snoc h.ok (by omega) (by omega), by omega, ?_⟩, by omega, by omega⟩
  have hv := h.eqv
  rw [nth_drop hx, val] at hv
  have e3 : (d : Int) * (x + 10000 * val ((dig a).drop (i + 1))) = x * d + 10000 * (d * val ((dig a).drop (i + 1))) := by
    rw [Int.mul_add, Int.mul_comm (d : Int) x, ← Int.mul_assoc, Int.mul_comm (d : Int) 10000, Int.mul_assoc]
  rw [e3] at hv
  have : n.tmod 10000 + 10000 * (n.tdiv 10000 + d * val ((dig a).drop (i + 1))) = c + (x * d + 10000 * (d * val ((dig a).drop (i + 1)))) := by omega
  rw [val_snoc, h.len, Int.add_assoc, ← Nat.add_assoc, pow_step, this]
  exact hv
theorem Dg.last {a d z i : Nat} {c : Int} {out : List Int} (h : Dg a d z i c out) (hi : (dig a).length ≤ i) :
    Dg a d z (i + 1) (c.tdiv 10000) (out ++ [c.tmod 10000]) ∧ c.tdiv 10000 = 0 := by
  have h3 := h.c0
  have e1 : c.tdiv 10000 = c / 10000 := Int.tdiv_eq_ediv_of_nonneg (by omega)
  have e2 : c.tmod 10000 = c % 10000 := Int.tmod_eq_emod_of_nonneg (by omega)
  refine ⟨⟨by simp [h.len]; omega, okD_snoc h.ok (by omega) (by omega), by omega, ?_⟩, by omega⟩
  have hv := h.eqv
  rw [List.drop_eq_nil_of_le hi, val] at hv
  rw [List.drop_eq_nil_of_le (by omega), val, val_snoc, h.len, Int.add_assoc, ← Nat.add_assoc, pow_step]
  rw [show c.tmod 10000 + 10000 * (c.tdiv 10000 + d * 0) = c + d * 0 by omega]
  exact hv
theorem Dg.done {a d z i : Nat} {c : Int} {out : List Int} (h : Dg a d z i c out) (hi : (dig a).length ≤ i) (hc : c = 0) : trimL out = dig (a * d * 10000 ^ z) := by
  have hv := h.eqv
  rw [List.drop_eq_nil_of_le hi, val, hc] at hv
  rw [trim_dig h.ok]
  congr 1
  have e : (10000 : Int) ^ (z + i) * (0 + d * 0) = 0 := by rw [Int.mul_zero, Int.add_zero, Int.mul_zero]
  rw [e] at hv
  omega
theorem zerosF (id z : Nat) : tokA id 1 (rowsFz (rowsAt 1 z (zeroC z))) = .frz ((List.replicate z (0 : Int)).map digC) (.tok id 0 1) := by
  unfold zeroC
  rw [rowsAt_num (by simp), List.take_of_length_le (by simp), rowsFz_num]
  rfl
/-- the value of the lower digits -/
def lowV (b i : Nat) : Nat := (val ((dig b).take i)).toNat
theorem lowV_cast (b i : Nat) : ((lowV b i : Nat) : Int) = val ((dig b).take i) := by
  have := val_nonneg (l := (dig b).take i) fun d hd => okD_dig b d (List.mem_of_mem_take hd)
  unfold lowV; omega
theorem lowV_zero (b : Nat) : lowV b 0 = 0 := rfl
theorem lowV_step {b i : Nat} {x : Int} (hx : nth (dig b) i = some x) : lowV b (i + 1) = lowV b i + x.toNat * 10000 ^ i := by
  have hxk := of_okD (okD_dig b) hx
  have hl : i < (dig b).length := nth_lt hx
  have h1 := lowV_cast b (i + 1)
  rw [List.take_add_one, show (dig b)[i]? = some x by rw [← nth_get]; exact hx, Option.toList_some, val_snoc, List.length_take, Nat.min_eq_left (by omega), ← lowV_cast b i] at h1
  have h2 : ((x.toNat * 10000 ^ i : Nat) : Int) = 10000 ^ i * x := by
    rw [Int.natCast_mul, pow_cast, Int.mul_comm, Int.toNat_of_nonneg hxk.1]
  omega
theorem lowV_end (b : Nat) : lowV b (dig b).length = b := by
  unfold lowV; rw [List.take_length, val_dig]; rfl
theorem lowV_le (b i : Nat) : lowV b i ≤ b := by
  have h1 : val ((dig b).take i) + 10000 ^ ((dig b).take i).length * val ((dig b).drop i) = b := by
    rw [← val_append, List.take_append_drop, val_dig]
  have h3 := val_nonneg (l := (dig b).drop i) fun d hd => okD_dig b d (List.mem_of_mem_drop hd)
  have h4 := Int.mul_nonneg (Int.le_of_lt (pow_pos4 ((dig b).take i).length)) h3
  have := lowV_cast b i
  omega
section
variable (S : List Ent) (tk : List Nat) (k : Nat)
set_option maxRecDepth 100000 in
theorem R03_digit (a d z : Nat) (hd : d < 10000) (ha : (dig a).length ≤ 100000) (hz : z ≤ 100000) : cL Tryd.prog 86 [digA (dig a), .int (d : Nat), .int (z : Nat)] S tk k = some (digA (dig (a * d * 10000 ^ z)), S, tk, k) := by
  refine call_pure Tryd.func86 rfl rfl (by decide +kernel) (by decide +kernel) Tryd.ntmps86 rfl rfl _ _ _ rfl ?_; rw [RK_KX]
  have hbo : (elemOf Tryd.prog 22).bind (bytesOf Tryd.prog) = some 8 := by kernel_rfl
  have hmk := mk_num (P := Tryd.prog) (t := 22) (n := z) (by simp only [tys, Option.bind_some]) (by simp only [tys, Option.bind_some]) hbo (by omega)
  have hzf := zerosF 0 z
  simp (maxSteps := 1000000) +contextual (disch := first | with_reducible assumption | exact ⟨rfl⟩ | exact ⟨rfl, rfl⟩ | (refine _root_.id ?_; kernel_rfl) | omega) only [evs, ext_mv, nth, put, putT, getT, binInt, binStr, binBool, aUn, outA, resA, mapO, resA1, oneOf, w1, w2, w3, bots, cond_true, cond_false, if_true, if_false, ite_true, ite_false, reduceIte, reduceCtorEq, implies_true, Nat.reduceAdd, Nat.reduceSub, AV.int, AV.bool, AV.str, Nat.reduceBEq, Nat.reduceEqDiff, Nat.reduceMul, Nat.reduceLT, Nat.reduceLeDiff, Int.reduceNeg, BEq.rfl, beq_self_eq_true, tabl, cellsOf, fldA, ldA, stA, entAt, partA, takeN, over, leafOk, Value.oneCell', idxA, nilA, cellsEq, fillA, elemsA, pure1, pure2, reps, chkA, tys, Tryd.results86, KX_draw, KX_drawQ, KX_tail, lastO_one, lastO_more, dropL_one, dropL_more, callP_eq, callM_true, ↓RX_makeSliceF, ext_mv1, digA, hmk, hzf]
  refine loop1 (fun x st => st.T.length = 43 ∧ (Dg a d z x.1 x.2.1 x.2.2.1) ∧ (x.1 ≤ (dig a).length + 1) ∧ (okCap st.tk x.2.2.2 1 = true) ∧ (x.1 = (dig a).length + 1 → x.2.1 = 0) ∧ getT st.T 0 = digA (dig a) ∧ getT st.T 1 = .int (d : Nat) ∧ getT st.T 7 = .frz (x.2.2.1.map digC) x.2.2.2 ∧ getT st.T 8 = .int x.2.1 ∧ getT st.T 9 = .int (x.1 : Nat) ∧ st.S = []) (fun x => (dig a).length + 1 - x.1) (fun x => digA (dig (a * d * 10000 ^ z))) (0, 0, List.replicate z 0, .tok 0 0 1) ?_ ?_
  case refine_2 => exact ⟨rfl, Dg.start a d z, by omega, rfl, fun _ => rfl, rfl, rfl, rfl, rfl, rfl, rfl⟩
  rintro ⟨i, w, out, c⟩ ⟨T, S', tk', n'⟩ ⟨hl, hp, hi, hok, hib, e0, e1, e7, e8, e9, eS⟩ IH
  simp only at hp hi hok hib e0 e1 e7 e8 e9 eS
  subst eS
  obtain ⟨g, hg, hT⟩ := tab_of hl
  rw [hg] at e0 e1 e7 e8 e9
  subst hT
  clear hg hl
  have hlen := hp.len
  have hr := rowsOk_dig out
  have hn : (out.map digC).length + 1 ≤ 1048576 := by simp; omega
  have hok' := okCap_new hok
  have hiw := wrap_add (i := i) (by omega)
  have hw0 := hp.c0
  have hz' : ¬ ((10000 : Int) = 0) := by omega
  by_cases ca : i < (dig a).length
  · have d1 : decide ((i : Int) < ((dig a).length : Int)) = true := by simpa using ca
    obtain ⟨x, hx⟩ := nth_some ca
    have hx' := nth_dig hx
    have hxk := of_okD (okD_dig a) hx
    have hm := mul_dig hxk.1 hxk.2 (Int.natCast_nonneg d) (by omega)
    obtain ⟨n, hn0⟩ : ∃ n, n = w + x * d := ⟨_, rfl⟩
    obtain ⟨hst, hn1, hn2⟩ := hp.step hd hx hn0
    have hw1 : IntKind.i64.wrap (x * d) = x * d := wrap_of (by unfold i64; omega)
    have hw2 : IntKind.i64.wrap (w + x * d) = n := by rw [wrap_of (by unfold i64; omega)]; exact hn0.symm
    have hwq : IntKind.i64.wrap (n.tdiv 10000) = n.tdiv 10000 := by
      have e1 : n.tdiv 10000 = n / 10000 := Int.tdiv_eq_ediv_of_nonneg (by omega)
      rw [e1, wrap_of (by unfold i64; omega)]
    simp (maxSteps := 1000000) +contextual (disch := first | with_reducible assumption | exact ⟨rfl⟩ | exact ⟨rfl, rfl⟩ | (refine _root_.id ?_; kernel_rfl) | omega) only [evs, ext_mv, nth, put, putT, getT, binInt, binStr, binBool, aUn, outA, resA, mapO, resA1, oneOf, w1, w2, w3, bots, cond_true, cond_false, if_true, if_false, ite_true, ite_false, reduceIte, reduceCtorEq, implies_true, Nat.reduceAdd, Nat.reduceSub, AV.int, AV.bool, AV.str, Nat.reduceBEq, Nat.reduceEqDiff, Nat.reduceMul, Nat.reduceLT, Nat.reduceLeDiff, Int.reduceNeg, BEq.rfl, beq_self_eq_true, tabl, cellsOf, fldA, ldA, stA, entAt, partA, takeN, over, leafOk, Value.oneCell', idxA, nilA, cellsEq, fillA, elemsA, pure1, pure2, reps, chkA, tys, Tryd.results86, KX_draw, KX_drawQ, KX_tail, lastO_one, lastO_more, dropL_one, dropL_more, callP_eq, callM_true, ext_mv1, digA, e0, e1, e7, e8, e9, d1, hx', hw1, hw2, hwq, hr, hiw, hz']
    exact IH (i + 1, n.tdiv 10000, out ++ [n.tmod 10000], capNew tk' c 1) _ (by first | omega | (simp only; omega)) ⟨rfl, hst, by first | omega | (dsimp only; omega), hok', by first | omega | (dsimp only; omega), (by first | rfl | simp only [getT, List.map_append, List.map_cons, List.map_nil, digC, digA]), (by first | rfl | simp only [getT, List.map_append, List.map_cons, List.map_nil, digC, digA]), (by first | rfl | simp only [getT, List.map_append, List.map_cons, List.map_nil, digC, digA]), (by first | rfl | simp only [getT, List.map_append, List.map_cons, List.map_nil, digC, digA]), (by first | rfl | simp only [getT, List.map_append, List.map_cons, List.map_nil, digC, digA]), (by first | rfl | simp only [getT, List.map_append, List.map_cons, List.map_nil, digC, digA])⟩
  · have d1 : decide ((i : Int) < ((dig a).length : Int)) = false := by simpa using ca
    by_cases cw : w > 0
    · have d3 : decide (w > 0) = true := by simpa using cw
      obtain ⟨hst, hq0⟩ := hp.last (by omega)
      have hwq : IntKind.i64.wrap (w.tdiv 10000) = w.tdiv 10000 := by
        rw [hq0, wrap_of (by unfold i64; omega)]
      simp (maxSteps := 1000000) +contextual (disch := first | with_reducible assumption | exact ⟨rfl⟩ | exact ⟨rfl, rfl⟩ | (refine _root_.id ?_; kernel_rfl) | omega) only [evs, ext_mv, nth, put, putT, getT, binInt, binStr, binBool, aUn, outA, resA, mapO, resA1, oneOf, w1, w2, w3, bots, cond_true, cond_false, if_true, if_false, ite_true, ite_false, reduceIte, reduceCtorEq, implies_true, Nat.reduceAdd, Nat.reduceSub, AV.int, AV.bool, AV.str, Nat.reduceBEq, Nat.reduceEqDiff, Nat.reduceMul, Nat.reduceLT, Nat.reduceLeDiff, Int.reduceNeg, BEq.rfl, beq_self_eq_true, tabl, cellsOf, fldA, ldA, stA, entAt, partA, takeN, over, leafOk, Value.oneCell', idxA, nilA, cellsEq, fillA, elemsA, pure1, pure2, reps, chkA, tys, Tryd.results86, KX_draw, KX_drawQ, KX_tail, lastO_one, lastO_more, dropL_one, dropL_more, callP_eq, callM_true, ext_mv1, digA, e0, e1, e7, e8, e9, d1, d3, hwq, hr, hiw, hz']
      exact IH (i + 1, w.tdiv 10000, out ++ [w.tmod 10000], capNew tk' c 1) _ (by first | omega | (simp only; omega)) ⟨rfl, hst, by first | omega | (dsimp only; omega), hok', fun _ => hq0, (by first | rfl | simp only [getT, List.map_append, List.map_cons, List.map_nil, digC, digA]), (by first | rfl | simp only [getT, List.map_append, List.map_cons, List.map_nil, digC, digA]), (by first | rfl | simp only [getT, List.map_append, List.map_cons, List.map_nil, digC, digA]), (by first | rfl | simp only [getT, List.map_append, List.map_cons, List.map_nil, digC, digA]), (by first | rfl | simp only [getT, List.map_append, List.map_cons, List.map_nil, digC, digA]), (by first | rfl | simp only [getT, List.map_append, List.map_cons, List.map_nil, digC, digA])⟩
    · have d3 : decide (w > 0) = false := by simpa using cw
      have hdone := hp.done (by omega) (by omega)
      have hT := fun S tk k => R03_trim S tk k out c (by omega)
      simp only [digA, hdone] at hT
      simp (maxSteps := 1000000) +contextual (disch := first | with_reducible assumption | exact ⟨rfl⟩ | exact ⟨rfl, rfl⟩ | (refine _root_.id ?_; kernel_rfl) | omega) only [evs, ext_mv, nth, put, putT, getT, binInt, binStr, binBool, aUn, outA, resA, mapO, resA1, oneOf, w1, w2, w3, bots, cond_true, cond_false, if_true, if_false, ite_true, ite_false, reduceIte, reduceCtorEq, implies_true, Nat.reduceAdd, Nat.reduceSub, AV.int, AV.bool, AV.str, Nat.reduceBEq, Nat.reduceEqDiff, Nat.reduceMul, Nat.reduceLT, Nat.reduceLeDiff, Int.reduceNeg, BEq.rfl, beq_self_eq_true, tabl, cellsOf, fldA, ldA, stA, entAt, partA, takeN, over, leafOk, Value.oneCell', idxA, nilA, cellsEq, fillA, elemsA, pure1, pure2, reps, chkA, tys, Tryd.results86, KX_draw, KX_drawQ, KX_tail, lastO_one, lastO_more, dropL_one, dropL_more, callP_eq, callM_true, ext_mv1, digA, e0, e1, e7, e8, e9, d1, d3, hT]
theorem R03_digit0 (a d : Nat) (hd : d < 10000) (ha : (dig a).length ≤ 100000) : cL Tryd.prog 86 [digA (dig a), .int (d : Nat), .int 0] S tk k = some (digA (dig (a * d)), S, tk, k) := by
  have := R03_digit S tk k a d 0 hd ha (by omega)
  rw [Nat.pow_zero, Nat.mul_one] at this
  exact this
theorem R03_plus_c (a b : Nat) (ca : Cap) (ha : (dig a).length ≤ 100000) (hb : (dig b).length ≤ 100000) : cL Tryd.prog 64 [.frz ((dig a).map digC) ca, digA (dig b)] S tk k = some (digA (dig (a + b)), S, tk, k) :=
  (cL_w2 (args := [.frz ((dig a).map digC) ca, digA (dig b)]) (args' := [digA (dig a), digA (dig b)]) rfl rfl rfl).trans (R03_plus S tk k a b ha hb)
set_option maxRecDepth 100000 in
theorem R03_times (a b : Nat) (ha : (dig a).length ≤ 45000) (hb : (dig b).length ≤ 45000) : cL Tryd.prog 81 [digA (dig a), digA (dig b)] S tk k = some (digA (dig (a * b)), S, tk, k) := by
  refine call_pure Tryd.func81 rfl rfl (by decide +kernel) (by decide +kernel) Tryd.ntmps81 rfl rfl _ _ _ rfl ?_; rw [RK_KX]
  simp (maxSteps := 1000000) +contextual (disch := first | with_reducible assumption | exact ⟨rfl⟩ | exact ⟨rfl, rfl⟩ | (refine _root_.id ?_; kernel_rfl) | omega) only [evs, ext_mv, nth, put, putT, getT, binInt, binStr, binBool, aUn, outA, resA, mapO, resA1, oneOf, w1, w2, w3, bots, cond_true, cond_false, if_true, if_false, ite_true, ite_false, reduceIte, reduceCtorEq, implies_true, Nat.reduceAdd, Nat.reduceSub, AV.int, AV.bool, AV.str, Nat.reduceBEq, Nat.reduceEqDiff, Nat.reduceMul, Nat.reduceLT, Nat.reduceLeDiff, Int.reduceNeg, BEq.rfl, beq_self_eq_true, tabl, cellsOf, fldA, ldA, stA, entAt, partA, takeN, over, leafOk, Value.oneCell', idxA, nilA, cellsEq, fillA, elemsA, pure1, pure2, reps, chkA, tys, Tryd.results81, KX_draw, KX_drawQ, KX_tail, lastO_one, lastO_more, dropL_one, dropL_more, callP_eq, callM_true, ext_mv1, digA]
  refine loop1 (fun x st => st.T.length = 23 ∧ (x.1 ≤ (dig b).length) ∧ (x.2.1 = a * lowV b x.1) ∧ getT st.T 0 = digA (dig a) ∧ getT st.T 1 = digA (dig b) ∧ getT st.T 5 = .frz ((dig x.2.1).map digC) x.2.2 ∧ getT st.T 6 = .int (x.1 : Nat) ∧ st.S = []) (fun x => (dig b).length - x.1) (fun x => digA (dig (a * b))) (0, 0, .nilc) ?_ ?_
  case refine_2 => exact ⟨rfl, Nat.zero_le _, by rw [lowV_zero, Nat.mul_zero], rfl, rfl, rfl, rfl, rfl⟩
  rintro ⟨i, v, c⟩ ⟨T, S', tk', n'⟩ ⟨hl, hi, hv, e0, e1, e5, e6, eS⟩ IH
  simp only at hi hv e0 e1 e5 e6 eS
  subst eS
  obtain ⟨g, hg, hT⟩ := tab_of hl
  rw [hg] at e0 e1 e5 e6
  subst hT
  clear hg hl
  subst hv
  by_cases hlt : i < (dig b).length
  · have d1 : decide ((i : Int) < ((dig b).length : Int)) = true := by simpa using hlt
    obtain ⟨x, hx⟩ := nth_some hlt
    have hx' := nth_dig hx
    have hxk := of_okD (okD_dig b) hx
    have hiw := wrap_add (i := i) (by omega)
    have hD := fun S tk k => R03_digit S tk k a x.toNat i (by omega) (by omega) (by omega)
    rw [Int.toNat_of_nonneg hxk.1] at hD
    have e : a * lowV b i + a * x.toNat * 10000 ^ i = a * lowV b (i + 1) := by rw [lowV_step hx, Nat.mul_add, Nat.mul_assoc]
    have m1 : (dig (a * lowV b i)).length ≤ 90000 := Nat.le_trans (len_mono (Nat.mul_le_mul_left a (lowV_le b i))) (dig_mul_len ha hb)
    have m2 : (dig (a * lowV b (i + 1))).length ≤ 90000 := Nat.le_trans (len_mono (Nat.mul_le_mul_left a (lowV_le b (i + 1)))) (dig_mul_len ha hb)
    have m3 : (dig (a * x.toNat * 10000 ^ i)).length ≤ 90000 := Nat.le_trans (len_mono (by omega)) m2
    have hP := fun S tk k => R03_plus_c S tk k (a * lowV b i) (a * x.toNat * 10000 ^ i) c (by omega) (by omega)
    rw [e] at hP
    simp only [digA] at hD hP
    simp (maxSteps := 1000000) +contextual (disch := first | with_reducible assumption | exact ⟨rfl⟩ | exact ⟨rfl, rfl⟩ | (refine _root_.id ?_; kernel_rfl) | omega) only [evs, ext_mv, nth, put, putT, getT, binInt, binStr, binBool, aUn, outA, resA, mapO, resA1, oneOf, w1, w2, w3, bots, cond_true, cond_false, if_true, if_false, ite_true, ite_false, reduceIte, reduceCtorEq, implies_true, Nat.reduceAdd, Nat.reduceSub, AV.int, AV.bool, AV.str, Nat.reduceBEq, Nat.reduceEqDiff, Nat.reduceMul, Nat.reduceLT, Nat.reduceLeDiff, Int.reduceNeg, BEq.rfl, beq_self_eq_true, tabl, cellsOf, fldA, ldA, stA, entAt, partA, takeN, over, leafOk, Value.oneCell', idxA, nilA, cellsEq, fillA, elemsA, pure1, pure2, reps, chkA, tys, Tryd.results81, KX_draw, KX_drawQ, KX_tail, lastO_one, lastO_more, dropL_one, dropL_more, callP_eq, callM_true, ext_mv1, digA, e0, e1, e5, e6, d1, hx', hD, hP, hiw]
    exact IH (i + 1, a * lowV b (i + 1), .unk) _ (by first | omega | (simp only; omega)) ⟨rfl, by first | omega | (dsimp only; omega), rfl, (by first | rfl | simp only [getT, List.map_append, List.map_cons, List.map_nil, digC, digA]), (by first | rfl | simp only [getT, List.map_append, List.map_cons, List.map_nil, digC, digA]), (by first | rfl | simp only [getT, List.map_append, List.map_cons, List.map_nil, digC, digA]), (by first | rfl | simp only [getT, List.map_append, List.map_cons, List.map_nil, digC, digA]), (by first | rfl | simp only [getT, List.map_append, List.map_cons, List.map_nil, digC, digA])⟩
  · have d1 : decide ((i : Int) < ((dig b).length : Int)) = false := by simpa using hlt
    have hie : i = (dig b).length := by omega
    subst hie
    rw [lowV_end] at e5
    simp (maxSteps := 1000000) +contextual (disch := first | with_reducible assumption | exact ⟨rfl⟩ | exact ⟨rfl, rfl⟩ | (refine _root_.id ?_; kernel_rfl) | omega) only [evs, ext_mv, nth, put, putT, getT, binInt, binStr, binBool, aUn, outA, resA, mapO, resA1, oneOf, w1, w2, w3, bots, cond_true, cond_false, if_true, if_false, ite_true, ite_false, reduceIte, reduceCtorEq, implies_true, Nat.reduceAdd, Nat.reduceSub, AV.int, AV.bool, AV.str, Nat.reduceBEq, Nat.reduceEqDiff, Nat.reduceMul, Nat.reduceLT, Nat.reduceLeDiff, Int.reduceNeg, BEq.rfl, beq_self_eq_true, tabl, cellsOf, fldA, ldA, stA, entAt, partA, takeN, over, leafOk, Value.oneCell', idxA, nilA, cellsEq, fillA, elemsA, pure1, pure2, reps, chkA, tys, Tryd.results81, KX_draw, KX_drawQ, KX_tail, lastO_one, lastO_more, dropL_one, dropL_more, callP_eq, callM_true, ext_mv1, digA, e0, e1, e5, e6, d1]
end
end Go.Proofs.YtgadegdhfjnoaaaDoor
/-
  What the functions of the reference of the fractions compute: quotients, the greatest common divisor.
-/

namespace Go.Proofs.YtgadegdhfjnoaaaDoor
open Go
theorem set_nth : ∀ {l : List Int} {i : Nat} {x : Int}, nth l i = some x → l.set i x = l
  | _ :: _, 0, _, h => by simp only [nth, Option.some.injEq] at h; subst h; rfl
  | _ :: l, i + 1, _, h => by simp only [nth] at h; simp only [List.set_cons_succ, set_nth h]
  | [], _, _, h => by simp [nth] at h
section
variable (S : List Ent) (tk : List Nat) (k : Nat)
theorem R03_trim_own (l : List Int) (id ep : Nat) (hlen : l.length ≤ 1000000) (h : entAt S id ep = some (l.map numC)) : cL Tryd.prog 85 [.sref id ep 0 l.length 1] S tk k = some (.sref id ep 0 (trimL l).length 1, S, tk, k) := by
  refine call_shared Tryd.func85 rfl rfl (by decide +kernel) Tryd.ntmps85 rfl ?_; rw [RK_KX]
  have hid : id < S.length := by
    obtain ⟨e, h1, -⟩ := entAt_some h
    exact nth_lt h1
  simp (maxSteps := 1000000) +contextual (disch := first | with_reducible assumption | exact ⟨rfl⟩ | exact ⟨rfl, rfl⟩ | (refine _root_.id ?_; kernel_rfl) | omega) only [evs, ext_mv, nth, put, putT, getT, binInt, binStr, binBool, aUn, outA, resA, mapO, resA1, oneOf, w1, w2, w3, bots, cond_true, cond_false, if_true, if_false, ite_true, ite_false, reduceIte, reduceCtorEq, implies_true, Nat.reduceAdd, Nat.reduceSub, AV.int, AV.bool, AV.str, Nat.reduceBEq, Nat.reduceEqDiff, Nat.reduceMul, Nat.reduceLT, Nat.reduceLeDiff, Int.reduceNeg, BEq.rfl, beq_self_eq_true, tabl, cellsOf, fldA, ldA, stA, entAt_new, entAt_old, entAt_old2, List.take_left, List.take_length, partA, takeN, over, leafOk, Value.oneCell', idxA, nilA, cellsEq, fillA, elemsA, pure1, pure2, reps, chkA, tys, Tryd.results85, KX_draw, KX_drawQ, KX_tail, lastO_one, lastO_more, dropL_one, dropL_more, callP_eq, callM_true, ext_mv1, w2, w1]
  refine loopS (fun x st => st.T.length = 22 ∧ (x ≤ l.length) ∧ (∀ j, x ≤ j → ∀ x, nth l j = some x → x = 0) ∧ getT st.T 0 = .sref id ep 0 l.length 1 ∧ getT st.T 3 = .int (x : Nat) ∧ st.S = S ∧ st.tk = tk ∧ st.n = k) (fun x => x) (fun x => (.sref id ep 0 (trimL l).length 1, S, tk, k)) (l.length) ?_ ?_
  case refine_2 => exact ⟨rfl, Nat.le_refl _, hz_start l, rfl, rfl, rfl, rfl, rfl⟩
  rintro n ⟨T, S', tk', n'⟩ ⟨hl, hn, hz, e0, e3, eS, eT, eN⟩ IH
  subst eS eT eN
  obtain ⟨g, hg, hT⟩ := tab_of hl
  rw [hg] at e0 e3
  subst hT
  clear hg hl
  by_cases h0 : n = 0
  · have d1 : decide ((n : Int) > 0) = false := by simp; omega
    have ht := trim_stop hn hz (.inl h0)
    simp (maxSteps := 1000000) +contextual (disch := first | with_reducible assumption | exact ⟨rfl⟩ | exact ⟨rfl, rfl⟩ | (refine _root_.id ?_; kernel_rfl) | omega) only [evs, ext_mv, nth, put, putT, getT, binInt, binStr, binBool, aUn, outA, resA, mapO, resA1, oneOf, w1, w2, w3, bots, cond_true, cond_false, if_true, if_false, ite_true, ite_false, reduceIte, reduceCtorEq, implies_true, Nat.reduceAdd, Nat.reduceSub, AV.int, AV.bool, AV.str, Nat.reduceBEq, Nat.reduceEqDiff, Nat.reduceMul, Nat.reduceLT, Nat.reduceLeDiff, Int.reduceNeg, BEq.rfl, beq_self_eq_true, tabl, cellsOf, fldA, ldA, stA, entAt_new, entAt_old, entAt_old2, List.take_left, List.take_length, partA, takeN, over, leafOk, Value.oneCell', idxA, nilA, cellsEq, fillA, elemsA, pure1, pure2, reps, chkA, tys, Tryd.results85, KX_draw, KX_drawQ, KX_tail, lastO_one, lastO_more, dropL_one, dropL_more, callP_eq, callM_true, ext_mv1, e0, e3, d1, sliceA, bound, intN_cast, hn, Nat.le_refl, Nat.zero_le, Nat.zero_mul, Nat.sub_zero, Nat.add_zero]
    rw [ht]; simp [h0]
  · have d1 : decide ((n : Int) > 0) = true := by simp; omega
    have hp := pred_idx h0 (by omega)
    have hn1 : n - 1 < l.length := by omega
    obtain ⟨x, hx⟩ := nth_some hn1
    have hx' := nth_num hx
    by_cases hx0 : x = 0
    · have d2 : (x == 0) = true := by simpa using hx0
      simp (maxSteps := 1000000) +contextual (disch := first | with_reducible assumption | exact ⟨rfl⟩ | exact ⟨rfl, rfl⟩ | (refine _root_.id ?_; kernel_rfl) | omega) only [evs, ext_mv, nth, put, putT, getT, binInt, binStr, binBool, aUn, outA, resA, mapO, resA1, oneOf, w1, w2, w3, bots, cond_true, cond_false, if_true, if_false, ite_true, ite_false, reduceIte, reduceCtorEq, implies_true, Nat.reduceAdd, Nat.reduceSub, AV.int, AV.bool, AV.str, Nat.reduceBEq, Nat.reduceEqDiff, Nat.reduceMul, Nat.reduceLT, Nat.reduceLeDiff, Int.reduceNeg, BEq.rfl, beq_self_eq_true, tabl, cellsOf, fldA, ldA, stA, entAt_new, entAt_old, entAt_old2, List.take_left, List.take_length, partA, takeN, over, leafOk, Value.oneCell', idxA, nilA, cellsEq, fillA, elemsA, pure1, pure2, reps, chkA, tys, Tryd.results85, KX_draw, KX_drawQ, KX_tail, lastO_one, lastO_more, dropL_one, dropL_more, callP_eq, callM_true, ext_mv1, e0, e3, d1, d2, hp, hx', h, hn1, Nat.mul_one, Nat.zero_add]
      exact IH (n - 1) _ (by first | omega | (simp only; omega)) ⟨rfl, by first | omega | (dsimp only; omega), hz_pred hz hx hx0, (by first | rfl | simp only [getT, List.map_append, List.map_cons, List.map_nil, digC, digA]), (by first | rfl | simp only [getT, List.map_append, List.map_cons, List.map_nil, digC, digA]), (by first | rfl | simp only [getT, List.map_append, List.map_cons, List.map_nil, digC, digA]), rfl, rfl⟩
    · have d2 : (x == 0) = false := by simpa using hx0
      have ht := trim_stop hn hz (.inr ⟨x, hx, hx0⟩)
      simp (maxSteps := 1000000) +contextual (disch := first | with_reducible assumption | exact ⟨rfl⟩ | exact ⟨rfl, rfl⟩ | (refine _root_.id ?_; kernel_rfl) | omega) only [evs, ext_mv, nth, put, putT, getT, binInt, binStr, binBool, aUn, outA, resA, mapO, resA1, oneOf, w1, w2, w3, bots, cond_true, cond_false, if_true, if_false, ite_true, ite_false, reduceIte, reduceCtorEq, implies_true, Nat.reduceAdd, Nat.reduceSub, AV.int, AV.bool, AV.str, Nat.reduceBEq, Nat.reduceEqDiff, Nat.reduceMul, Nat.reduceLT, Nat.reduceLeDiff, Int.reduceNeg, BEq.rfl, beq_self_eq_true, tabl, cellsOf, fldA, ldA, stA, entAt_new, entAt_old, entAt_old2, List.take_left, List.take_length, partA, takeN, over, leafOk, Value.oneCell', idxA, nilA, cellsEq, fillA, elemsA, pure1, pure2, reps, chkA, tys, Tryd.results85, KX_draw, KX_drawQ, KX_tail, lastO_one, lastO_more, dropL_one, dropL_more, callP_eq, callM_true, ext_mv1, e0, e3, d1, d2, hp, hx', h, hn1, Nat.mul_one, Nat.zero_add, sliceA, bound, intN_cast, hn, Nat.le_refl, Nat.zero_le, Nat.zero_mul, Nat.sub_zero, Nat.add_zero]
      rw [ht]; simp; omega
theorem len_lb' {B : Nat} (hB : 0 < B) : 10000 ^ ((dig B).length - 1) ≤ B := by
  have h0 : (dig B).length ≠ 0 := fun h => by
    have := dig_nil.1 (List.length_eq_zero_iff.1 h); omega
  rcases Nat.lt_or_ge B (10000 ^ ((dig B).length - 1)) with h | h
  · have := (dig_len (n := B) (k := (dig B).length - 1)).2 h; omega
  · exact h
theorem stepX {r X n : Nat} (hr : (dig r).length ≤ n) (hX : X < 10000 * r + 10000) : (dig X).length ≤ n + 1 := by
  rw [dig_len] at hr ⊢
  rw [Nat.pow_succ]; omega
theorem mid_fact {lo hi : Nat} (h : lo < hi) (hh : hi < 10000) : (((lo : Int) + (hi : Int)) + 1).tdiv 2 = (((lo + hi + 1) / 2 : Nat) : Int) := by
  rw [Int.tdiv_eq_ediv_of_nonneg (by omega)]; omega
set_option maxRecDepth 100000 in
set_option maxHeartbeats 1000000 in
theorem R03_over (A B : Nat) (ha : (dig A).length ≤ 90000) (hbl0 : (dig B).length ≤ 90000) (hB : 0 < B) : cL Tryd.prog 63 [digA (dig A), digA (dig B)] S tk k = some (.tup [digA (dig (A / B)), digA (dig (A % B))], S, tk, k) := by
  refine call_pure Tryd.func63 rfl rfl (by decide +kernel) (by decide +kernel) Tryd.ntmps63 rfl rfl _ _ _ (rfl) ?_; rw [RK_KX]
  have hbo : (elemOf Tryd.prog 22).bind (bytesOf Tryd.prog) = some 8 := by kernel_rfl
  have hmk := mk_num (P := Tryd.prog) (t := 22) (n := (dig A).length) (by simp only [tys, Option.bind_some]) (by simp only [tys, Option.bind_some]) hbo (by omega)
  have d3 := top_idx (n := (dig A).length) (by omega)
  have hst := Short.start (A := A) (b := (B : Int)) (by omega)
  simp (maxSteps := 1000000) +contextual (disch := first | with_reducible assumption | exact ⟨rfl⟩ | exact ⟨rfl, rfl⟩ | (refine _root_.id ?_; kernel_rfl) | omega) only [evs, ext_mv, nth, put, putT, getT, binInt, binStr, binBool, aUn, outA, resA, mapO, resA1, oneOf, w1, w2, w3, bots, cond_true, cond_false, if_true, if_false, ite_true, ite_false, reduceIte, reduceCtorEq, implies_true, Nat.reduceAdd, Nat.reduceSub, AV.int, AV.bool, AV.str, Nat.reduceBEq, Nat.reduceEqDiff, Nat.reduceMul, Nat.reduceLT, Nat.reduceLeDiff, Int.reduceNeg, BEq.rfl, beq_self_eq_true, tabl, cellsOf, fldA, ldA, stA, entAt, partA, takeN, over, leafOk, Value.oneCell', idxA, nilA, cellsEq, fillA, elemsA, pure1, pure2, reps, chkA, tys, Tryd.results63, KX_draw, KX_drawQ, KX_tail, lastO_one, lastO_more, dropL_one, dropL_more, callP_eq, callM_true, ext_mv1, digA, hmk, d3]
  refine loop1 (fun x st => st.T.length = 61 ∧ (x.1 ≤ (dig A).length) ∧ (Short A B x.1 ((x.2.1 : Nat) : Int) x.2.2.1) ∧ (∀ j, j < x.1 → nth x.2.2.1 j = some 0) ∧ getT st.T 0 = digA (dig A) ∧ getT st.T 1 = digA (dig B) ∧ getT st.T 6 = .sref 0 0 0 (dig A).length 1 ∧ getT st.T 7 = .frz ((dig x.2.1).map digC) x.2.2.2 ∧ getT st.T 8 = .int ((x.1 : Int) - 1) ∧ st.S = [⟨0, x.2.2.1.map numC⟩]) (fun x => x.1) (fun x => .tup [digA (dig (A / B)), digA (dig (A % B))]) ((dig A).length, 0, List.replicate (dig A).length 0, .nilc) ?_ ?_
  case refine_2 => exact ⟨rfl, Nat.le_refl _, hst, fun j hj => by rw [nth_get, List.getElem?_replicate, if_pos hj], rfl, rfl, rfl, rfl, rfl, rfl⟩
  rintro ⟨m, r, out, c⟩ ⟨T, S', tk', n'⟩ ⟨hl, hm, hp, hz, e0, e1, e6, e7, e8, eS⟩ IH
  simp only at hm hp hz e0 e1 e6 e7 e8 eS
  subst eS
  obtain ⟨g, hg, hT⟩ := tab_of hl
  rw [hg] at e0 e1 e6 e7 e8
  subst hT
  clear hg hl
  have OUT := IH
  clear IH
  have hlen := hp.len
  by_cases h0 : m = 0
  · have d2 : decide ((m : Int) - 1 ≥ 0) = false := by simp; omega
    subst h0
    obtain ⟨q1, q2⟩ := hp.done
    have hT := fun tk k => R03_trim_own [⟨0, out.map numC⟩] tk k out 0 0 (by omega) rfl
    have hfz := fz_num (m := 0) (id := 0) (ep := 0) (S := [⟨0, out.map numC⟩]) (Nat.zero_le _) rfl (trim_len out)
    rw [← trim_is_take, q1] at hfz
    rw [hlen, q1] at hT
    have q3 : r = A % B := by simpa using q2
    rw [q3] at e7
    simp (maxSteps := 1000000) +contextual (disch := first | with_reducible assumption | exact ⟨rfl⟩ | exact ⟨rfl, rfl⟩ | (refine _root_.id ?_; kernel_rfl) | omega) only [evs, ext_mv, nth, put, putT, getT, binInt, binStr, binBool, aUn, outA, resA, mapO, resA1, oneOf, w1, w2, w3, bots, cond_true, cond_false, if_true, if_false, ite_true, ite_false, reduceIte, reduceCtorEq, implies_true, Nat.reduceAdd, Nat.reduceSub, AV.int, AV.bool, AV.str, Nat.reduceBEq, Nat.reduceEqDiff, Nat.reduceMul, Nat.reduceLT, Nat.reduceLeDiff, Int.reduceNeg, BEq.rfl, beq_self_eq_true, tabl, cellsOf, fldA, ldA, stA, entAt, partA, takeN, over, leafOk, Value.oneCell', idxA, nilA, cellsEq, fillA, elemsA, pure1, pure2, reps, chkA, tys, Tryd.results63, KX_draw, KX_drawQ, KX_tail, lastO_one, lastO_more, dropL_one, dropL_more, callP_eq, callM_true, ext_mv1, digA, e0, e1, e6, e7, e8, d2, hT, hfz]
  have d2 : decide ((m : Int) - 1 ≥ 0) = true := by simp; omega
  have hi : (m : Int) - 1 = ((m - 1 : Nat) : Int) := by omega
  obtain ⟨x, hx⟩ := nth_some (show m - 1 < (dig A).length by omega)
  have hx' := nth_dig hx
  have hxk := of_okD (okD_dig A) hx
  have ho := hz (m - 1) (by omega)
  have hrB : r < B := by have := hp.r0; omega
  have hrl : (dig r).length ≤ 90000 := Nat.le_trans (len_mono (Nat.le_of_lt hrB)) hbl0
  obtain ⟨hq, g1, g2, g3, g4⟩ := hp.step h0 hm hx
  obtain ⟨X, hX⟩ : ∃ X : Nat, X = r * 10000 + x.toNat := ⟨_, rfl⟩
  have hXi : ((r : Nat) : Int) * 10000 + x = (X : Int) := by omega
  rw [hXi] at hq g1 g2 g3 g4
  have hQ1 : ((X : Nat) : Int).tdiv (B : Int) = ((X / B : Nat) : Int) := by
    rw [Int.tdiv_eq_ediv_of_nonneg (Int.natCast_nonneg _), ← Int.natCast_ediv]
  have hQ2 : ((X : Nat) : Int).tmod (B : Int) = ((X % B : Nat) : Int) := by
    rw [Int.tmod_eq_emod_of_nonneg (Int.natCast_nonneg _), ← Int.natCast_emod]
  rw [hQ1, hQ2] at hq
  rw [hQ1] at g1 g2
  have hQ9 : X / B < 10000 := by have := Int.ofNat_lt.1 g2; exact this
  clear g1 g2 g3 g4 hQ1 hQ2
  have hmodeq : X - B * (X / B) = X % B := by have := Nat.div_add_mod X B; omega
  have hXl : (dig X).length ≤ 90000 + 1 := stepX hrl (by omega)
  obtain ⟨Q, hQd⟩ : ∃ Q, Q = X / B := ⟨_, rfl⟩
  rw [← hQd] at hq hQ9 hmodeq
  have htr : trimL (x :: dig r) = dig X := by
    have hk : okD (x :: dig r) := fun d hd => by
      rcases List.mem_cons.1 hd with rfl | hd
      · exact hxk
      · exact okD_dig r d hd
    rw [trim_dig hk, val, val_dig]
    congr 1; omega
  have hT := fun c S tk k => R03_trim S tk k (x :: dig r) c (by simp; omega)
  rw [htr] at hT
  simp only [List.map_cons, digC, digA] at hT
  have hr1 : rowsOk 1 ((dig r).map digC) = true := rowsOk_dig _
  have hr2 : ([[(.prim (.int .i64 x) : AV)]]).length + ((dig r).map digC).length ≤ 1048576 := by simp; omega
  have hok1 : okCap tk' .tight 1 = true := rfl
  have hpw := top_idx (n := m - 1) (by omega)
  have hL := fun S tk k => R03_less S tk k X B (by omega) (by omega)
  have hz' : ∀ (v : Int) j, j < m - 1 → nth (out.set (m - 1) v) j = some 0 := fun v j hj => by
    have := hz j (by omega)
    rw [nth_get] at this ⊢
    rw [List.getElem?_set_ne (by omega)]; exact this
  simp only [digA] at hL
  rw [hi] at e8 d2
  by_cases hlt0 : X < B
  · have hl0 : decide (X < B) = true := by simpa using hlt0
    rw [hl0] at hL
    have hQ0 : Q = 0 := by rw [hQd, Nat.div_eq_of_lt hlt0]
    subst hQ0
    have hXm : X % B = X := Nat.mod_eq_of_lt hlt0
    have hz0 := hz' 0
    rw [show ((0 : Nat) : Int) = 0 from rfl, set_nth ho, hXm] at hq
    rw [set_nth ho] at hz0
    simp (maxSteps := 1000000) +contextual (disch := first | with_reducible assumption | exact ⟨rfl⟩ | exact ⟨rfl, rfl⟩ | (refine _root_.id ?_; kernel_rfl) | omega) only [evs, ext_mv, nth, put, putT, getT, binInt, binStr, binBool, aUn, outA, resA, mapO, resA1, oneOf, w1, w2, w3, bots, cond_true, cond_false, if_true, if_false, ite_true, ite_false, reduceIte, reduceCtorEq, implies_true, Nat.reduceAdd, Nat.reduceSub, AV.int, AV.bool, AV.str, Nat.reduceBEq, Nat.reduceEqDiff, Nat.reduceMul, Nat.reduceLT, Nat.reduceLeDiff, Int.reduceNeg, BEq.rfl, beq_self_eq_true, tabl, cellsOf, fldA, ldA, stA, entAt, partA, takeN, over, leafOk, Value.oneCell', idxA, nilA, cellsEq, fillA, elemsA, pure1, pure2, reps, chkA, tys, Tryd.results63, KX_draw, KX_drawQ, KX_tail, lastO_one, lastO_more, dropL_one, dropL_more, callP_eq, callM_true, ext_mv1, digA, e0, e1, e6, e7, e8, d2, hx', hT, hr1, hL, hpw, litA_nil]
    exact OUT (m - 1, X, out, .unk) _ (by first | omega | (simp only; omega)) ⟨rfl, by first | omega | (dsimp only; omega), hq, hz0, (by first | rfl | simp only [getT, List.map_append, List.map_cons, List.map_nil, digC, digA]), (by first | rfl | simp only [getT, List.map_append, List.map_cons, List.map_nil, digC, digA]), (by first | rfl | simp only [getT, List.map_append, List.map_cons, List.map_nil, digC, digA]), (by first | rfl | simp only [getT, List.map_append, List.map_cons, List.map_nil, digC, digA]), (by first | rfl | simp only [getT, List.map_append, List.map_cons, List.map_nil, digC, digA]), (by first | rfl | simp only [getT, List.map_append, List.map_cons, List.map_nil, digC, digA])⟩
  have hl0 : decide (X < B) = false := by simpa using hlt0
  rw [hl0] at hL
  simp (maxSteps := 1000000) +contextual (disch := first | with_reducible assumption | exact ⟨rfl⟩ | exact ⟨rfl, rfl⟩ | (refine _root_.id ?_; kernel_rfl) | omega) only [evs, ext_mv, nth, put, putT, getT, binInt, binStr, binBool, aUn, outA, resA, mapO, resA1, oneOf, w1, w2, w3, bots, cond_true, cond_false, if_true, if_false, ite_true, ite_false, reduceIte, reduceCtorEq, implies_true, Nat.reduceAdd, Nat.reduceSub, AV.int, AV.bool, AV.str, Nat.reduceBEq, Nat.reduceEqDiff, Nat.reduceMul, Nat.reduceLT, Nat.reduceLeDiff, Int.reduceNeg, BEq.rfl, beq_self_eq_true, tabl, cellsOf, fldA, ldA, stA, entAt, partA, takeN, over, leafOk, Value.oneCell', idxA, nilA, cellsEq, fillA, elemsA, pure1, pure2, reps, chkA, tys, Tryd.results63, KX_draw, KX_drawQ, KX_tail, lastO_one, lastO_more, dropL_one, dropL_more, callP_eq, callM_true, ext_mv1, digA, e0, e1, e6, e7, e8, d2, hx', hT, hr1, hL, litA_nil]
  clear hT hr1 hr2 d3 htr hst
  refine loop1 (fun x st => st.T.length = 61 ∧ (x.1 ≤ Q) ∧ (Q ≤ x.2) ∧ (x.2 < 10000) ∧ getT st.T 0 = digA (dig A) ∧ getT st.T 1 = digA (dig B) ∧ getT st.T 6 = .sref 0 0 0 (dig A).length 1 ∧ getT st.T 7 = digA (dig X) ∧ getT st.T 8 = .int ((m - 1 : Nat) : Int) ∧ getT st.T 9 = .int ((x.1 : Nat) : Int) ∧ getT st.T 10 = .int ((x.2 : Nat) : Int) ∧ st.S = [⟨0, out.map numC⟩]) (fun x => x.2 - x.1) (fun x => .tup [digA (dig (A / B)), digA (dig (A % B))]) (0, 9999) ?_ ?_
  case refine_2 => exact ⟨rfl, Nat.zero_le _, by omega, by omega, rfl, rfl, rfl, rfl, rfl, rfl, rfl, rfl⟩
  rintro ⟨lo, hi⟩ ⟨T, S', tk', n'⟩ ⟨hl, hlo, hhi, h9, e0, e1, e6, e7, e8, e9, e10, eS⟩ IH
  simp only at hlo hhi h9 e0 e1 e6 e7 e8 e9 e10 eS
  subst eS
  obtain ⟨g, hg, hT⟩ := tab_of hl
  rw [hg] at e0 e1 e6 e7 e8 e9 e10
  subst hT
  clear hg hl
  have hBl1 : (dig B).length ≤ 100000 := by omega
  by_cases hlt : lo < hi
  · have d3 : decide (((lo : Nat) : Int) < ((hi : Nat) : Int)) = true := by simpa using hlt
    have f1 : IntKind.i64.wrap ((lo : Int) + (hi : Int)) = (lo : Int) + (hi : Int) := wrap_of (by unfold i64; omega)
    have f2 : IntKind.i64.wrap ((lo : Int) + (hi : Int) + 1) = (lo : Int) + (hi : Int) + 1 := wrap_of (by unfold i64; omega)
    have f3 := mid_fact hlt h9
    obtain ⟨mid, hmid⟩ : ∃ mid, mid = (lo + hi + 1) / 2 := ⟨_, rfl⟩
    rw [← hmid] at f3
    have f4 : IntKind.i64.wrap ((mid : Nat) : Int) = (mid : Int) := wrap_of (by unfold i64; omega)
    have f5 : IntKind.i64.wrap ((mid : Int) - 1) = ((mid - 1 : Nat) : Int) := by rw [wrap_of (by unfold i64; omega)]; omega
    have hz' : ¬ ((2 : Int) = 0) := by omega
    have hTm := fun S tk k => R03_digit0 S tk k B mid (by omega) hBl1
    have hBm : (dig (B * mid)).length ≤ 100000 := by
      have h9 := dig_mul_len (X := B) (Y := mid) hbl0 (n := 1) (dig_len.2 (by omega)); omega
    have hC := fun S tk k => R03_less S tk k X (B * mid) (by omega) (by omega)
    simp only [digA] at hTm hC
    by_cases hle : B * mid ≤ X
    · have d4 : decide (X < B * mid) = false := by simp; omega
      rw [d4] at hC
      have hmQ : mid ≤ Q := by rw [hQd, Nat.le_div_iff_mul_le hB, Nat.mul_comm]; exact hle
      simp (maxSteps := 1000000) +contextual (disch := first | with_reducible assumption | exact ⟨rfl⟩ | exact ⟨rfl, rfl⟩ | (refine _root_.id ?_; kernel_rfl) | omega) only [evs, ext_mv, nth, put, putT, getT, binInt, binStr, binBool, aUn, outA, resA, mapO, resA1, oneOf, w1, w2, w3, bots, cond_true, cond_false, if_true, if_false, ite_true, ite_false, reduceIte, reduceCtorEq, implies_true, Nat.reduceAdd, Nat.reduceSub, AV.int, AV.bool, AV.str, Nat.reduceBEq, Nat.reduceEqDiff, Nat.reduceMul, Nat.reduceLT, Nat.reduceLeDiff, Int.reduceNeg, BEq.rfl, beq_self_eq_true, tabl, cellsOf, fldA, ldA, stA, entAt, partA, takeN, over, leafOk, Value.oneCell', idxA, nilA, cellsEq, fillA, elemsA, pure1, pure2, reps, chkA, tys, Tryd.results63, KX_draw, KX_drawQ, KX_tail, lastO_one, lastO_more, dropL_one, dropL_more, callP_eq, callM_true, ext_mv1, digA, e0, e1, e6, e7, e8, e9, e10, d3, f1, f2, f3, f4, hz', hTm, hC]
      exact IH (mid, hi) _ (by first | omega | (simp only; omega)) ⟨rfl, hmQ, hhi, h9, (by first | rfl | simp only [getT, List.map_append, List.map_cons, List.map_nil, digC, digA]), (by first | rfl | simp only [getT, List.map_append, List.map_cons, List.map_nil, digC, digA]), (by first | rfl | simp only [getT, List.map_append, List.map_cons, List.map_nil, digC, digA]), (by first | rfl | simp only [getT, List.map_append, List.map_cons, List.map_nil, digC, digA]), (by first | rfl | simp only [getT, List.map_append, List.map_cons, List.map_nil, digC, digA]), (by first | rfl | simp only [getT, List.map_append, List.map_cons, List.map_nil, digC, digA]), (by first | rfl | simp only [getT, List.map_append, List.map_cons, List.map_nil, digC, digA]), (by first | rfl | simp only [getT, List.map_append, List.map_cons, List.map_nil, digC, digA])⟩
    · have d4 : decide (X < B * mid) = true := by simp; omega
      rw [d4] at hC
      have hmQ : Q < mid := by
        rw [hQd, Nat.div_lt_iff_lt_mul hB, Nat.mul_comm]; omega
      simp (maxSteps := 1000000) +contextual (disch := first | with_reducible assumption | exact ⟨rfl⟩ | exact ⟨rfl, rfl⟩ | (refine _root_.id ?_; kernel_rfl) | omega) only [evs, ext_mv, nth, put, putT, getT, binInt, binStr, binBool, aUn, outA, resA, mapO, resA1, oneOf, w1, w2, w3, bots, cond_true, cond_false, if_true, if_false, ite_true, ite_false, reduceIte, reduceCtorEq, implies_true, Nat.reduceAdd, Nat.reduceSub, AV.int, AV.bool, AV.str, Nat.reduceBEq, Nat.reduceEqDiff, Nat.reduceMul, Nat.reduceLT, Nat.reduceLeDiff, Int.reduceNeg, BEq.rfl, beq_self_eq_true, tabl, cellsOf, fldA, ldA, stA, entAt, partA, takeN, over, leafOk, Value.oneCell', idxA, nilA, cellsEq, fillA, elemsA, pure1, pure2, reps, chkA, tys, Tryd.results63, KX_draw, KX_drawQ, KX_tail, lastO_one, lastO_more, dropL_one, dropL_more, callP_eq, callM_true, ext_mv1, digA, e0, e1, e6, e7, e8, e9, e10, d3, f1, f2, f3, f4, f5, hz', hTm, hC]
      exact IH (lo, mid - 1) _ (by first | omega | (simp only; omega)) ⟨rfl, hlo, by first | omega | (dsimp only; omega), by first | omega | (dsimp only; omega), (by first | rfl | simp only [getT, List.map_append, List.map_cons, List.map_nil, digC, digA]), (by first | rfl | simp only [getT, List.map_append, List.map_cons, List.map_nil, digC, digA]), (by first | rfl | simp only [getT, List.map_append, List.map_cons, List.map_nil, digC, digA]), (by first | rfl | simp only [getT, List.map_append, List.map_cons, List.map_nil, digC, digA]), (by first | rfl | simp only [getT, List.map_append, List.map_cons, List.map_nil, digC, digA]), (by first | rfl | simp only [getT, List.map_append, List.map_cons, List.map_nil, digC, digA]), (by first | rfl | simp only [getT, List.map_append, List.map_cons, List.map_nil, digC, digA]), (by first | rfl | simp only [getT, List.map_append, List.map_cons, List.map_nil, digC, digA])⟩
  · have d3 : decide (((lo : Nat) : Int) < ((hi : Nat) : Int)) = false := by simpa using hlt
    have hloQ : lo = Q := by omega
    subst hloQ
    have hTm := fun S tk k => R03_digit0 S tk k B lo (by omega) hBl1
    have hBQ : B * lo ≤ X := by rw [hQd]; exact Nat.mul_div_le _ _
    have hM := fun S tk k => R03_minus S tk k X (B * lo) hBQ (by omega)
    rw [hmodeq] at hM
    simp only [digA] at hTm hM
    have hov := over_num (v := (lo : Int)) ho
    have hin : m - 1 < (dig A).length := by omega
    simp (maxSteps := 1000000) +contextual (disch := first | with_reducible assumption | exact ⟨rfl⟩ | exact ⟨rfl, rfl⟩ | (refine _root_.id ?_; kernel_rfl) | omega) only [evs, ext_mv, nth, put, putT, getT, binInt, binStr, binBool, aUn, outA, resA, mapO, resA1, oneOf, w1, w2, w3, bots, cond_true, cond_false, if_true, if_false, ite_true, ite_false, reduceIte, reduceCtorEq, implies_true, Nat.reduceAdd, Nat.reduceSub, AV.int, AV.bool, AV.str, Nat.reduceBEq, Nat.reduceEqDiff, Nat.reduceMul, Nat.reduceLT, Nat.reduceLeDiff, Int.reduceNeg, BEq.rfl, beq_self_eq_true, tabl, cellsOf, fldA, ldA, stA, entAt, partA, takeN, over, leafOk, Value.oneCell', idxA, nilA, cellsEq, fillA, elemsA, pure1, pure2, reps, chkA, tys, Tryd.results63, KX_draw, KX_drawQ, KX_tail, lastO_one, lastO_more, dropL_one, dropL_more, callP_eq, callM_true, ext_mv1, digA, e0, e1, e6, e7, e8, e9, e10, d3, hTm, hM, hov, hin, hpw, Nat.mul_one]
    exact OUT (m - 1, X % B, out.set (m - 1) (lo : Int), .unk) _ (by first | omega | (simp only; omega)) ⟨rfl, by first | omega | (dsimp only; omega), hq, hz' (lo : Int), (by first | rfl | simp only [getT, List.map_append, List.map_cons, List.map_nil, digC, digA]), (by first | rfl | simp only [getT, List.map_append, List.map_cons, List.map_nil, digC, digA]), (by first | rfl | simp only [getT, List.map_append, List.map_cons, List.map_nil, digC, digA]), (by first | rfl | simp only [getT, List.map_append, List.map_cons, List.map_nil, digC, digA]), (by first | rfl | simp only [getT, List.map_append, List.map_cons, List.map_nil, digC, digA]), (by first | rfl | simp only [getT, List.map_append, List.map_cons, List.map_nil, digC, digA])⟩
set_option maxRecDepth 100000 in
theorem R03_common (a b : Nat) (ha : (dig a).length ≤ 90000) (hb : (dig b).length ≤ 90000) : cL Tryd.prog 51 [digA (dig a), digA (dig b)] S tk k = some (digA (dig (a.gcd b)), S, tk, k) := by
  refine call_pure Tryd.func51 rfl rfl (by decide +kernel) (by decide +kernel) Tryd.ntmps51 rfl rfl _ _ _ rfl ?_; rw [RK_KX]
  simp (maxSteps := 1000000) +contextual (disch := first | with_reducible assumption | exact ⟨rfl⟩ | exact ⟨rfl, rfl⟩ | (refine _root_.id ?_; kernel_rfl) | omega) only [evs, ext_mv, nth, put, putT, getT, binInt, binStr, binBool, aUn, outA, resA, mapO, resA1, oneOf, w1, w2, w3, bots, cond_true, cond_false, if_true, if_false, ite_true, ite_false, reduceIte, reduceCtorEq, implies_true, Nat.reduceAdd, Nat.reduceSub, AV.int, AV.bool, AV.str, Nat.reduceBEq, Nat.reduceEqDiff, Nat.reduceMul, Nat.reduceLT, Nat.reduceLeDiff, Int.reduceNeg, BEq.rfl, beq_self_eq_true, tabl, cellsOf, fldA, ldA, stA, entAt, partA, takeN, over, leafOk, Value.oneCell', idxA, nilA, cellsEq, fillA, elemsA, pure1, pure2, reps, chkA, tys, Tryd.results51, KX_draw, KX_drawQ, KX_tail, lastO_one, lastO_more, dropL_one, dropL_more, callP_eq, callM_true, ext_mv1, digA]
  refine loop1 (fun x st => st.T.length = 19 ∧ (x.1.gcd x.2 = a.gcd b) ∧ ((dig x.1).length ≤ 90000) ∧ ((dig x.2).length ≤ 90000) ∧ getT st.T 0 = digA (dig x.1) ∧ getT st.T 1 = digA (dig x.2) ∧ st.S = []) (fun x => x.2) (fun x => digA (dig (a.gcd b))) (a, b) ?_ ?_
  case refine_2 => exact ⟨rfl, rfl, ha, hb, rfl, rfl, rfl⟩
  rintro ⟨x, y⟩ ⟨T, S', tk', n'⟩ ⟨hl, hg, hx, hy, e0, e1, eS⟩ IH
  simp only at hg hx hy e0 e1 eS
  subst eS
  obtain ⟨g, hg, hT⟩ := tab_of hl
  rw [hg] at e0 e1
  subst hT
  clear hg hl
  by_cases h0 : y = 0
  · subst h0
    have d1 : decide ((((dig 0).length : Nat) : Int) > 0) = false := rfl
    rw [Nat.gcd_zero_right] at hg
    simp (maxSteps := 1000000) +contextual (disch := first | with_reducible assumption | exact ⟨rfl⟩ | exact ⟨rfl, rfl⟩ | (refine _root_.id ?_; kernel_rfl) | omega) only [evs, ext_mv, nth, put, putT, getT, binInt, binStr, binBool, aUn, outA, resA, mapO, resA1, oneOf, w1, w2, w3, bots, cond_true, cond_false, if_true, if_false, ite_true, ite_false, reduceIte, reduceCtorEq, implies_true, Nat.reduceAdd, Nat.reduceSub, AV.int, AV.bool, AV.str, Nat.reduceBEq, Nat.reduceEqDiff, Nat.reduceMul, Nat.reduceLT, Nat.reduceLeDiff, Int.reduceNeg, BEq.rfl, beq_self_eq_true, tabl, cellsOf, fldA, ldA, stA, entAt, partA, takeN, over, leafOk, Value.oneCell', idxA, nilA, cellsEq, fillA, elemsA, pure1, pure2, reps, chkA, tys, Tryd.results51, KX_draw, KX_drawQ, KX_tail, lastO_one, lastO_more, dropL_one, dropL_more, callP_eq, callM_true, ext_mv1, e0, e1, d1, digA]
    rw [hg]
  · have hyl : 0 < (dig y).length := List.length_pos_iff.2 fun h => h0 (dig_nil.1 h)
    have d1 : decide (((dig y).length : Int) > 0) = true := by simp; omega
    have hQ := fun S tk k => R03_over S tk k x y hx hy (by omega)
    simp only [digA] at hQ
    have hlt := Nat.mod_lt x (by omega : 0 < y)
    have hym : (dig (x % y)).length ≤ 90000 := Nat.le_trans (dig_len.2 (Nat.lt_trans hlt (dig_len.1 (Nat.le_refl _)))) hy
    have hgn : y.gcd (x % y) = a.gcd b := by rw [← hg, Nat.gcd_comm x y]; exact (Nat.gcd_rec y x).symm ▸ Nat.gcd_comm y (x % y)
    simp (maxSteps := 1000000) +contextual (disch := first | with_reducible assumption | exact ⟨rfl⟩ | exact ⟨rfl, rfl⟩ | (refine _root_.id ?_; kernel_rfl) | omega) only [evs, ext_mv, nth, put, putT, getT, binInt, binStr, binBool, aUn, outA, resA, mapO, resA1, oneOf, w1, w2, w3, bots, cond_true, cond_false, if_true, if_false, ite_true, ite_false, reduceIte, reduceCtorEq, implies_true, Nat.reduceAdd, Nat.reduceSub, AV.int, AV.bool, AV.str, Nat.reduceBEq, Nat.reduceEqDiff, Nat.reduceMul, Nat.reduceLT, Nat.reduceLeDiff, Int.reduceNeg, BEq.rfl, beq_self_eq_true, tabl, cellsOf, fldA, ldA, stA, entAt, partA, takeN, over, leafOk, Value.oneCell', idxA, nilA, cellsEq, fillA, elemsA, pure1, pure2, reps, chkA, tys, Tryd.results51, KX_draw, KX_drawQ, KX_tail, lastO_one, lastO_more, dropL_one, dropL_more, callP_eq, callM_true, ext_mv1, e0, e1, d1, digA, hQ]
    exact IH (y, x % y) _ (by first | omega | (simp only; omega)) ⟨rfl, hgn, hy, hym, (by first | rfl | simp only [getT, List.map_append, List.map_cons, List.map_nil, digC, digA]), (by first | rfl | simp only [getT, List.map_append, List.map_cons, List.map_nil, digC, digA]), (by first | rfl | simp only [getT, List.map_append, List.map_cons, List.map_nil, digC, digA])⟩
end
end Go.Proofs.YtgadegdhfjnoaaaDoor
