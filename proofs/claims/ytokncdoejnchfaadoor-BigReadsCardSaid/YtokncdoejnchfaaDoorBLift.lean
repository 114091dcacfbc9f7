/-
  From the evaluator to the statements of the numbers' laws: what the arguments hold is read as lists; the library's table is where it was laid.
-/
import Derived.Test.YtokncdoejnchfaaDoorBText3
import Derived.Test.YtokncdoejnchfaaDoorRows
import Derived.Test.YtokncdoejnchfaaDoorTie
import Derived.Test.YtokncdoejnchfaaDoorCards
import Derived.ProofKit
import Derived.Below
import Derived.Carry
import Derived.ChangeSame
import Derived.ChangeSlices
import Derived.Lib.SmallJoins
import Derived.Lib.LaidTab
import Derived.Stop.LaidErr
import Derived.SevenTiedAt
namespace Go.Proofs.YtokncdoejnchfaaDoor
open Go Go.ChangeShapes Go.WideShapes Go.ChangeAt Go.RowKit Go.Deep

abbrev Tab (W : World) : Prop := Lib.TabIs Tryd.prog W "internal/strconv.uint64pow10" .u64 Lib.pow10Tab
theorem g0 : Tryd.prog.globalNamed "internal/strconv.uint64pow10" = some 0 := by kernel_rfl
theorem tab_heap {W : World} (h : Tab W) : ∃ t fz, W.heap[0]? = some (.cells (Lib.pow10Tab.map fun z => Value.int .u64 z).toArray t fz) := by
  simp only [Tab, Lib.TabIs, World.var?, g0, Option.bind_some] at h
  split at h
  · rename_i cs t fz hh
    simp only [Option.some.injEq] at h
    rw [h] at hh
    exact ⟨t, fz, hh⟩
  · simp at h
/-- a world in which nothing is anybody's own; the table is left alone -/
def C0 (W : World) : Cx := { w := W, av := fun b _ => b = 0, φ := fun _ => 0, ψ := fun _ => (0, 0, 0), S := [], tk := [], n := 0 }
theorem C0_mut {W : World} {b o : Nat} : ¬ (C0 W).Mut b o := by
  rintro (⟨i, hi, _⟩ | ⟨i, hi, _⟩)
  · simp [C0] at hi
  · simp [C0] at hi
theorem C0_avoid {W : World} {b o : Nat} (hb : b ≠ 0) : ¬ (C0 W).Avoid b o := by
  rintro (h | h)
  · exact hb h
  · exact C0_mut h
theorem C0_SR {W : World} (ht : Tab W) : SR (C0 W) := by
  obtain ⟨t, fz, hh⟩ := tab_heap ht
  refine ⟨fun i e h => by simp [C0, nth] at h, fun i j hi => by simp [C0] at hi, fun i j o hi => by simp [C0] at hi, fun i j o hi => by simp [C0] at hi, fun b o h => absurd h C0_mut, fun b o h => ?_, fun i o hi => by simp [C0] at hi, fun g a hg => ?_⟩
  · have h' : b = 0 := h
    subst h'
    exact (Array.getElem?_eq_some_iff.1 hh).1
  · simp only [Globs.gl, List.mem_singleton, Prod.mk.injEq] at hg
    obtain ⟨rfl, rfl⟩ := hg
    exact ⟨⟨t, fz, hh⟩, fun _ => rfl⟩
theorem law_of {f : FuncId} {args : List AV} {W : World} {vs : Array Value} (ht : Tab W) (h : cL Tryd.prog f args [] [] 0 = some (.bool true, [], [], 0)) (hv : VRs (C0 W) args vs.toList) :
    Calls Tryd.prog f vs W fun e w' => e = .returned (.bool true) ∧ Below W.heap.size W w' := by
  refine (calls_of mixed h (C := C0 W) rfl rfl rfl (C0_SR ht) hv).mono ?_
  rintro e w' ⟨v, C', rfl, rfl, hle, -, -, -, -, hr⟩
  simp only [VR] at hr
  refine ⟨by rw [hr], ⟨hle.os, hle.tape, hle.output, hle.size, fun b hb => hle.keep b hb fun o hm => C0_mut hm⟩⟩

theorem spot_none {w : World} {a : Addr} {v : Value} (h : w.cell? a = some v) : a.spot = none ∧ a.block < w.heap.size := by
  unfold World.cell? at h
  split at h
  · rename_i hh
    refine ⟨?_, (Array.getElem?_eq_some_iff.1 hh).1⟩
    split at h
    · cases h
    · rename_i hs; simpa using hs
  · cases h
theorem PRows_digs {w : World} {A : Nat → Nat → Prop} {b : Nat} (hA : ∀ o, ¬ A b o) : ∀ (l : List Int) (o : Nat), (∀ i x, nth l i = some x → w.cell? ⟨b, o + i, none⟩ = some (.int .i64 x)) → PRows w A b 1 o (l.map digC)
  | [], _, _ => by simp only [List.map_nil, PRows]
  | x :: l, o, h => by
    simp only [List.map_cons, PRows]
    have h1 := h 0 x rfl
    refine ⟨rfl, ⟨[.int .i64 x], ⟨h1, hA _, trivial⟩, ?_⟩, PRows_digs hA l (o + 1) fun i d hd => ?_⟩
    · simp [PRs, PR, digC, Value.oneCell']
    · have := h (i + 1) d hd
      rwa [show o + (i + 1) = o + 1 + i from by omega] at this
theorem not_tab {W : World} (ht : Tab W) {b o : Nat} {x : Int} (h : W.cell? ⟨b, o, none⟩ = some (.int .i64 x)) : b ≠ 0 := by
  rintro rfl
  obtain ⟨t, fz, hh⟩ := tab_heap ht
  rw [Lib.cell_of_heap hh] at h
  rw [List.getElem?_toArray, List.getElem?_map, Option.map_eq_some_iff] at h
  obtain ⟨z, -, hz⟩ := h
  cases hz
theorem open_digits {H : Type} {enc : TypeId × Value → H} {w : World} {sp : Nat → Bool} {held : Bool} {fuel : Nat} {v : Value} {x : DataW H × List MemPlace} (htab : Tab w) (h : DataW.trod enc Tryd.prog w 0 sp held fuel 22 [v] = some x) :
    ∃ l, VR (C0 w) (digA l) v := by
  rcases open_ints Tryd.underlying22 Tryd.underlying3 (by kernel_rfl) h with ⟨hv, -⟩ | ⟨a, len, cap, zs, hv, -, hl, -, hz, -, hi, -⟩
  · have : v = .slice none 0 0 := by simpa using hv
    subst this
    exact ⟨[], by simp only [digA, List.map_nil, VR]; exact ⟨none, 0, 0, rfl, rfl, Nat.le_refl _, trivial, .inl trivial⟩⟩
  · have hv : v = .slice (some a) len cap := by simpa using hv
    subst hv
    have hlz : len ≤ zs.length := by rw [hz]; split <;> omega
    refine ⟨zs.take len, ?_⟩
    simp only [digA, VR]
    refine ⟨some a, len, cap, rfl, by simp; omega, hl, trivial, ?_⟩
    by_cases h0 : len = 0
    · left; subst h0; rfl
    right
    have z0 := hi 0 (by omega)
    obtain ⟨s0, -⟩ := spot_none z0
    obtain ⟨b, off, sp'⟩ := a
    have e0 : sp' = none := by simpa [Addr.add] using s0
    subst e0
    rw [add_none] at z0
    refine ⟨b, off, 1, rfl, PRows_digs (fun _ => C0_avoid (not_tab htab z0)) _ _ fun i c hc => ?_⟩
    have hlt := nth_lt hc
    rw [List.length_take] at hlt
    rw [nth_get, List.getElem?_take, if_pos (by omega)] at hc
    have hx := hi i (by omega)
    rw [add_none] at hx
    show w.cell? _ = _
    rw [hx]
    simp [List.getD, hc]
theorem open_big {H : Type} {enc : TypeId × Value → H} {w : World} {r : Reach} {b0 : Nat} {sp : Nat → Bool} {held : Bool} {v : Value} {d : DataW H} {p : List MemPlace} (htab : Tab w) (hv : Value.okWide Tryd.prog w r b0 24 v) (h : DataW.Trod enc Tryd.prog w 0 sp held 24 v d p) :
    ∃ neg l, VR (C0 w) (bigA neg l) v := by
  obtain ⟨xs, rfl, hsz⟩ := okWide_struct Tryd.underlying24 hv
  obtain ⟨c0, c1, rfl⟩ := Go.Joins.array2 (hsz.trans (by kernel_rfl : Tryd.prog.cellsOf 24 = 2))
  obtain ⟨fuel, hf⟩ := h
  obtain ⟨z0, z1, n', -, -, g0, g1⟩ := trod_struct2 Tryd.underlying24 hf
  have k22 : Tryd.prog.cellsOf 22 = 1 := by kernel_rfl
  have k4 : Tryd.prog.cellsOf 4 = 1 := by kernel_rfl
  have g0' : DataW.trod enc Tryd.prog w 0 sp held n' 4 [c0] = some z0 := by simpa [k4, Value.cells] using g0
  have g1' : DataW.trod enc Tryd.prog w 0 sp held n' 22 [c1] = some z1 := by simpa [k22, Value.cells] using g1
  obtain ⟨l, hl⟩ := open_digits htab g1'
  obtain ⟨q, hq, -⟩ := DataW.trod_bool Tryd.underlying4 g0'
  have hq' : c0 = .bool q := by simpa using hq
  refine ⟨q, l, ?_⟩
  simp only [bigA, VR]
  exact ⟨_, rfl, by simp only [VRs, VR]; exact ⟨hq', hl, trivial⟩⟩
theorem open_str {H : Type} {enc : TypeId × Value → H} {w : World} {r : Reach} {b0 : Nat} {sp : Nat → Bool} {held : Bool} {v : Value} {d : DataW H} {p : List MemPlace} (hv : Value.okWide Tryd.prog w r b0 9 v) (h : DataW.Trod enc Tryd.prog w 0 sp held 9 v d p) :
    ∃ s : ByteArray, VR (C0 w) (.prim (.string s)) v := by
  obtain ⟨s, rfl⟩ := okWide_string Tryd.underlying9 hv
  exact ⟨s, by simp only [VR]⟩
theorem open_int {H : Type} {enc : TypeId × Value → H} {w : World} {r : Reach} {b0 : Nat} {sp : Nat → Bool} {held : Bool} {v : Value} {d : DataW H} {p : List MemPlace} (hv : Value.okWide Tryd.prog w r b0 3 v) (h : DataW.Trod enc Tryd.prog w 0 sp held 3 v d p) :
    ∃ k : Int, VR (C0 w) (.prim (.int .i64 k)) v := by
  obtain ⟨k, rfl⟩ := okWide_int Tryd.underlying3 hv
  exact ⟨k, by simp only [VR]⟩
section
variable {H : Type} {enc : TypeId × Value → H} {P : Program}
theorem post_of_below {f : Func} {s : ChangeSpec} {apart fresh handsOn again : Bool} {W W' : World} {args : Array Value} {v : Value} {ds gs : List (DataW H)} {before pa pv : List MemPlace}
    (hW : DataW.Whole enc P f.params.toList s.vars apart W args.toList ds gs before)
    (hres : ∀ (b : Nat) (sp : Nat → Bool) (hd : Bool), DataW.TrodAll enc P W' b sp hd f.resultTypes.toList (v.resultList f.resultTypes.size) (s.fn H (ds ++ gs)).results [])
    (hargs : ∀ sp : Nat → Bool, (∀ p ∈ before, sp p.block = true) → DataW.TrodAll enc P W' 0 sp true f.params.toList args.toList (s.fn H (ds ++ gs)).args pa)
    (hvars : ∀ sp : Nat → Bool, (∀ p ∈ before, sp p.block = true) → DataW.TrodVars enc P W' sp s.vars (s.fn H (ds ++ gs)).vars pv)
    (hps : before = pa ++ pv) (hb : Below W.heap.size W W')
    (hok : ∀ (j : Nat) (t : TypeId) (r : Value), f.resultTypes[j]? = some t → (v.resultList f.resultTypes.size)[j]? = some r → Value.okWide P W' .any 0 t r) :
    s.post enc P f apart fresh handsOn again W args v W' := by
  have hlt : ∀ p ∈ before, p.block < W.heap.size := fun p hp => hW.lt p hp
  have hold : ∀ p ∈ before, (fun b => decide (b < W.heap.size)) p.block = true := fun p hp => by simpa using hlt p hp
  refine ⟨ds, gs, before, [], pa, pv, hW, hres _ _ _, hargs _ hold, hvars _ hold, World.keptBut_mono (fun p hp => ⟨hp, ?_⟩) (hb.frame (· ∈ before)), fun _ => ?_⟩
  · rw [hps, List.mem_append] at hp
    exact Or.inr hp
  · obtain ⟨_, _, _, _, _, hz, hn⟩ := hW
    refine ⟨hok, _, _, ([] ++ pa) ++ pv, ⟨[] ++ pa, pv, trodAll_append (hargs _ (fun _ _ => rfl)) (hres _ _ _), hvars _ (fun _ _ => rfl), rfl, ?_, ?_⟩, ?_⟩
    · intro b off hp
      have hin : MemPlace.cell b off ∈ before := by rw [hps]; simpa using hp
      rw [hb.frozen (hlt _ hin)]
      exact hz b off hin
    · intro ha
      have := hn ha
      rw [hps] at this
      simpa using this
    · intro p hp _
      rw [hps]
      simpa using hp
end
theorem shut_Bool {H : Type} {enc : TypeId × Value → H} {W : World} {base : Nat} {sp : Nat → Bool} {held : Bool} (b : Bool) : DataW.Trod enc Tryd.prog W base sp held 4 (.bool b) (.lit (.bool b)) [] := ⟨1, by simp [DataW.trod, Value.cells, Tryd.underlying4]⟩
theorem okWide_Bool {W : World} (c : Bool) : Value.okWide Tryd.prog W .any 0 4 (.bool c) := by simp [Value.okWide, Tryd.underlying4, Cell.okWide, Cell.ok]
theorem Try.own : ownKnob Tryd.prog.godebug = none := by kernel_rfl
theorem Try.laidOut : laidOutB Tryd.prog = true := by kernel_rfl
end Go.Proofs.YtokncdoejnchfaaDoor
