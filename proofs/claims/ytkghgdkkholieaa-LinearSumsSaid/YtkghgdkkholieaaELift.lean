/-
  From the evaluator to the statements: what the arguments hold is read as lists.
-/
import Derived.Test.YtkghgdkkholieaaE2
import Derived.Test.YtkghgdkkholieaaRows
import Derived.ProofKit
import Derived.Deep.SlicePairs
import Derived.Below
import Derived.Carry
import Derived.ChangeSame
import Derived.Lib.SmallJoins
namespace Go.Proofs.Ytkghgdkkholieaa
open Go.ChangeShapes Go.WideShapes Go.ChangeAt Go.RowKit Go.Deep

/-- a world in which nothing is anybody's own -/
def C0 (W : World) : Cx := { w := W, av := fun _ _ => False, φ := fun _ => 0, ψ := fun _ => (0, 0, 0), S := [], tk := [], n := 0 }
theorem C0_avoid {W : World} {b o : Nat} : ¬ (C0 W).Avoid b o := by
  rintro (h | ⟨i, hi, _⟩ | ⟨i, hi, _⟩)
  · exact h
  · simp [C0] at hi
  · simp [C0] at hi
theorem C0_SR (W : World) : SR (C0 W) :=
  ⟨fun i e h => by simp [C0, nth] at h, fun i j hi => by simp [C0] at hi, fun i j o hi => by simp [C0] at hi, fun i j o hi => by simp [C0] at hi, fun b o h => absurd (Or.inr h) C0_avoid, fun b o h => h.elim, fun i o hi => by simp [C0] at hi⟩
theorem law_of {f : FuncId} {args : List AV} {W : World} {vs : Array Value} (h : cL Try.prog f args [] [] 0 = some (.bool true, [], [], 0)) (hv : VRs (C0 W) args vs.toList) :
    Calls Try.prog f vs W fun e w' => e = .returned (.bool true) ∧ Below W.heap.size W w' := by
  refine (calls_of mixed h (C := C0 W) rfl rfl rfl (C0_SR W) hv).mono ?_
  rintro e w' ⟨v, C', rfl, rfl, hle, -, -, -, -, hr⟩
  simp only [VR] at hr
  refine ⟨by rw [hr], ⟨hle.os, hle.tape, hle.output, hle.size, fun b hb => hle.keep b hb fun o hm => C0_avoid (.inr hm)⟩⟩

def strOf : Value → ByteArray | .string s => s | _ => ⟨#[]⟩
theorem spot_none {w : World} {a : Addr} {v : Value} (h : w.cell? a = some v) : a.spot = none ∧ a.block < w.heap.size := by
  unfold World.cell? at h
  split at h
  · rename_i hh
    refine ⟨?_, (Array.getElem?_eq_some_iff.1 hh).1⟩
    split at h
    · cases h
    · rename_i hs; simpa using hs
  · cases h
theorem PRows_pairs {w : World} {A : Nat → Nat → Prop} {b : Nat} (hA : ∀ o, ¬ A b o) : ∀ (cs : List (ByteArray × Int)) (o : Nat), (∀ i c, nth cs i = some c → w.cell? ⟨b, o + i * 2, none⟩ = some (.string c.1) ∧ w.cell? ⟨b, o + i * 2 + 1, none⟩ = some (.int .i64 c.2)) → PRows w A b 2 o (cs.map coefC)
  | [], _, _ => by simp only [List.map_nil, PRows]
  | c :: cs, o, h => by
    simp only [List.map_cons, PRows]
    obtain ⟨h1, h2⟩ := h 0 c rfl
    simp only [Nat.zero_mul, Nat.add_zero] at h1 h2
    refine ⟨rfl, ⟨[.string c.1, .int .i64 c.2], ⟨h1, hA _, h2, hA _, trivial⟩, ?_⟩, PRows_pairs hA cs (o + 2) fun i d hd => ?_⟩
    · simp [PRs, PR, coefC, Value.oneCell']
    · have := h (i + 1) d hd
      rwa [show o + (i + 1) * 2 = o + 2 + i * 2 from by omega] at this
theorem open_coefs {H : Type} {enc : TypeId × Value → H} {w : World} {sp : Nat → Bool} {held : Bool} {fuel : Nat} {v : Value} {t : TypeId} {x : DataW H × List MemPlace} (ht : Try.prog.underlying t = some (.slice 37)) (h : DataW.trod enc Try.prog w 0 sp held fuel t [v] = some x) :
    ∃ cs, VR (C0 w) (coefsA cs) v := by
  rcases Go.Deep.open_slice_pairs ht Try.underlying37 (by kernel_rfl) rfl rfl (by kernel_rfl) (by kernel_rfl) h with ⟨hv, -⟩ | ⟨a, len, cap, m, n, V0, V1, D0, D1, P0, P1, hv, -, hl, hcap, hm, -, hi⟩
  · have : v = .slice none 0 0 := by simpa using hv
    subst this
    exact ⟨[], by simp only [coefsA, List.map_nil, VR]; exact ⟨none, 0, 0, rfl, rfl, Nat.le_refl _, trivial, .inl trivial⟩⟩
  · have hv : v = .slice (some a) len cap := by simpa using hv
    subst hv
    refine ⟨(List.range len).map fun i => (strOf (V0 i), intOf (V1 i)), ?_⟩
    simp only [coefsA, VR]
    refine ⟨some a, len, cap, rfl, by simp, hl, trivial, ?_⟩
    by_cases h0 : len = 0
    · left; subst h0; rfl
    right
    have hmm : len ≤ m := by rw [hm]; split <;> omega
    obtain ⟨z0, -, -, -⟩ := hi 0 (by omega)
    obtain ⟨s0, s1⟩ := spot_none z0
    obtain ⟨b, off, sp'⟩ := a
    have e0 : sp' = none := by simpa [Addr.add] using s0
    subst e0
    refine ⟨b, off, 2, rfl, PRows_pairs (fun _ => C0_avoid) _ _ fun i c hc => ?_⟩
    rw [nth_map] at hc
    simp only [Option.map_eq_some_iff] at hc
    obtain ⟨j, hj, rfl⟩ := hc
    have hlt := nth_lt hj
    rw [nth_get, List.getElem?_range (by simpa using hlt)] at hj
    simp only [Option.some.injEq] at hj
    subst hj
    have hlt' : i < len := by simpa using hlt
    obtain ⟨c0, c1, t0, t1⟩ := hi i (by omega)
    obtain ⟨s, hs, -⟩ := DataW.trod_string Try.underlying9 t0
    obtain ⟨q, hq, -, -⟩ := DataW.trod_int Try.underlying3 t1
    rw [add_none] at c0 c1
    have hs' : V0 i = .string s := by simpa using hs
    have hq' : V1 i = .int .i64 q := by simpa using hq
    refine ⟨?_, ?_⟩
    · show w.cell? _ = _
      rw [c0]; simp [hs', strOf]
    · show w.cell? _ = _
      rw [show off + i * 2 + 1 = off + (i * 2 + 1) by omega, c1]; simp [hq', intOf]
theorem open_point {H : Type} {enc : TypeId × Value → H} {w : World} {sp : Nat → Bool} {held : Bool} {v : Value} {d : DataW H} {p : List MemPlace} (hv : ∃ a l c, v = .slice a l c) (h : DataW.Trod enc Try.prog w 0 sp held 35 v d p) : ∃ cs, VR (C0 w) (coefsA cs) v := by
  obtain ⟨fuel, hf⟩ := h
  obtain ⟨a, l, c, rfl⟩ := hv
  exact open_coefs Try.underlying35 (by simpa [Value.cells] using hf)
theorem open_lin {H : Type} {enc : TypeId × Value → H} {w : World} {r : Reach} {b0 : Nat} {sp : Nat → Bool} {held : Bool} {v : Value} {d : DataW H} {p : List MemPlace} (hv : Value.okWide Try.prog w r b0 24 v) (h : DataW.Trod enc Try.prog w 0 sp held 24 v d p) :
    ∃ cs k, VR (C0 w) (linA cs k) v := by
  obtain ⟨xs, rfl, hsz⟩ := okWide_struct Try.underlying24 hv
  obtain ⟨c0, c1, rfl⟩ := Go.Joins.array2 (hsz.trans (by kernel_rfl : Try.prog.cellsOf 24 = 2))
  obtain ⟨fuel, hf⟩ := h
  obtain ⟨z0, z1, n', -, -, g0, g1⟩ := trod_struct2 Try.underlying24 hf
  have k22 : Try.prog.cellsOf 22 = 1 := by kernel_rfl
  have k3 : Try.prog.cellsOf 3 = 1 := by kernel_rfl
  have g0' : DataW.trod enc Try.prog w 0 sp held n' 22 [c0] = some z0 := by simpa [k22, Value.cells] using g0
  have g1' : DataW.trod enc Try.prog w 0 sp held n' 3 [c1] = some z1 := by simpa [k3, Value.cells] using g1
  obtain ⟨cs, hc⟩ := open_coefs Try.underlying22 g0'
  obtain ⟨k, hk, -, -⟩ := DataW.trod_int Try.underlying3 g1'
  have hk' : c1 = .int .i64 k := by simpa using hk
  refine ⟨cs, k, ?_⟩
  simp only [linA, VR]
  exact ⟨_, rfl, by simp only [VRs, VR]; exact ⟨hc, hk', trivial⟩⟩

theorem open_row {H : Type} {enc : TypeId × Value → H} {w : World} {r : Reach} {b0 : Nat} {sp : Nat → Bool} {held : Bool} {v : Value} {d : DataW H} {p : List MemPlace} (hv : Value.okWide Try.prog w r b0 26 v) (h : DataW.Trod enc Try.prog w 0 sp held 26 v d p) :
    ∃ cs k eq, VR (C0 w) (rowA cs k eq) v := by
  obtain ⟨xs, rfl, hsz⟩ := okWide_struct Try.underlying26 hv
  obtain ⟨c0, c1, c2, rfl⟩ := Go.Joins.array3 (hsz.trans (by kernel_rfl : Try.prog.cellsOf 26 = 3))
  obtain ⟨fuel, hf⟩ := h
  obtain ⟨y0, y1, n, -, -, h0, h1⟩ := trod_struct2 Try.underlying26 hf
  have k24 : Try.prog.cellsOf 24 = 2 := by kernel_rfl
  have k22 : Try.prog.cellsOf 22 = 1 := by kernel_rfl
  have k3 : Try.prog.cellsOf 3 = 1 := by kernel_rfl
  have k4 : Try.prog.cellsOf 4 = 1 := by kernel_rfl
  have h0' : DataW.trod enc Try.prog w 0 sp held n 24 [c0, c1] = some y0 := by simpa [k24, Value.cells] using h0
  have h1' : DataW.trod enc Try.prog w 0 sp held n 4 [c2] = some y1 := by simpa [k4, Value.cells] using h1
  obtain ⟨z0, z1, n', -, -, g0, g1⟩ := trod_struct2 Try.underlying24 h0'
  have g0' : DataW.trod enc Try.prog w 0 sp held n' 22 [c0] = some z0 := by simpa [k22] using g0
  have g1' : DataW.trod enc Try.prog w 0 sp held n' 3 [c1] = some z1 := by simpa [k3] using g1
  obtain ⟨cs, hc⟩ := open_coefs Try.underlying22 g0'
  obtain ⟨k, hk, -, -⟩ := DataW.trod_int Try.underlying3 g1'
  obtain ⟨q, hq, -⟩ := DataW.trod_bool Try.underlying4 h1'
  have hk' : c1 = .int .i64 k := by simpa using hk
  have hq' : c2 = .bool q := by simpa using hq
  refine ⟨cs, k, q, ?_⟩
  simp only [rowA, VR]
  exact ⟨_, rfl, by simp only [VRs, VR]; exact ⟨hc, hk', hq', trivial⟩⟩
theorem open_i8 {H : Type} {enc : TypeId × Value → H} {w : World} {r : Reach} {b0 : Nat} {sp : Nat → Bool} {held : Bool} {v : Value} {d : DataW H} {p : List MemPlace} (hv : Value.okWide Try.prog w r b0 41 v) (h : DataW.Trod enc Try.prog w 0 sp held 41 v d p) :
    ∃ k : Int, VR (C0 w) (.prim (.int .i8 k)) v ∧ -128 ≤ k ∧ k ≤ 127 := by
  obtain ⟨k, rfl⟩ := okWide_int Try.underlying41 hv
  obtain ⟨fuel, hf⟩ := h
  obtain ⟨k', hk, -, hw⟩ := DataW.trod_int Try.underlying41 hf
  have e : k = k' := by simpa [Value.cells] using hk
  subst e
  simp only [Lit.wf, Bool.and_eq_true, decide_eq_true_eq] at hw
  exact ⟨k, by simp only [VR], hw.1, hw.2⟩
theorem open_int {H : Type} {enc : TypeId × Value → H} {w : World} {r : Reach} {b0 : Nat} {sp : Nat → Bool} {held : Bool} {v : Value} {d : DataW H} {p : List MemPlace} (hv : Value.okWide Try.prog w r b0 3 v) (h : DataW.Trod enc Try.prog w 0 sp held 3 v d p) :
    ∃ k : Int, VR (C0 w) (.prim (.int .i64 k)) v := by
  obtain ⟨k, rfl⟩ := okWide_int Try.underlying3 hv
  exact ⟨k, by simp only [VR]⟩
section
variable {H : Type} {enc : TypeId × Value → H} {P : Program}
theorem post_of_below {f : Func} {s : ChangeSpec} {apart fresh handsOn again : Bool} {W W' : World} {args : Array Value} {v : Value} {ds gs : List (DataW H)} {before pa pv : List MemPlace}
    (hW : DataW.Whole enc P f.params.toList s.vars apart W args.toList ds gs before)
    (hres : ∀ (b : Nat) (sp : Nat → Bool) (hd : Bool), DataW.TrodAll enc P W' b sp hd f.resultTypes.toList (v.resultList f.resultTypes.size) (s.fn H (ds ++ gs)).results [])
    (hargs : ∀ sp : Nat → Bool, (∀ p ∈ before, sp p.block = true) → DataW.TrodAll enc P W' 0 sp true f.params.toList args.toList (s.fn H (ds ++ gs)).args pa)
    (hvars : ∀ sp : Nat → Bool, (∀ p ∈ before, sp p.block = true) → DataW.TrodVars enc P W' sp s.vars (s.fn H (ds ++ gs)).vars pv)
    (hps : before = pa ++ pv) (hb : Below W.heap.size W W')
    (hok : ∀ (j : Nat) (t : TypeId) (r : Value), f.resultTypes[j]? = some t → (v.resultList f.resultTypes.size)[j]? = some r → Value.okWide P W' .any 0 t r) :
    s.post enc P f apart fresh handsOn again W args v W' := by
  have hlt : ∀ p ∈ before, p.block < W.heap.size := fun p hp => hW.lt p hp
  have hold : ∀ p ∈ before, (fun b => decide (b < W.heap.size)) p.block = true := fun p hp => by simpa using hlt p hp
  refine ⟨ds, gs, before, [], pa, pv, hW, hres _ _ _, hargs _ hold, hvars _ hold, World.keptBut_mono (fun p hp => ⟨hp, ?_⟩) (hb.frame (· ∈ before)), fun _ => ?_⟩
  · rw [hps, List.mem_append] at hp
    exact Or.inr hp
  · obtain ⟨_, _, _, _, _, hz, hn⟩ := hW
    refine ⟨hok, _, _, ([] ++ pa) ++ pv, ⟨[] ++ pa, pv, trodAll_append (hargs _ (fun _ _ => rfl)) (hres _ _ _), hvars _ (fun _ _ => rfl), rfl, ?_, ?_⟩, ?_⟩
    · intro b off hp
      have hin : MemPlace.cell b off ∈ before := by rw [hps]; simpa using hp
      rw [hb.frozen (hlt _ hin)]
      exact hz b off hin
    · intro ha
      have := hn ha
      rw [hps] at this
      simpa using this
    · intro p hp _
      rw [hps]
      simpa using hp
end
theorem shut_Bool {H : Type} {enc : TypeId × Value → H} {W : World} {base : Nat} {sp : Nat → Bool} {held : Bool} (b : Bool) : DataW.Trod enc Try.prog W base sp held 4 (.bool b) (.lit (.bool b)) [] := ⟨1, by simp [DataW.trod, Value.cells, Try.underlying4]⟩
theorem okWide_Bool {W : World} (c : Bool) : Value.okWide Try.prog W .any 0 4 (.bool c) := by simp [Value.okWide, Try.underlying4, Cell.okWide, Cell.ok]
theorem Try.own : ownKnob Try.prog.godebug = none := by kernel_rfl
theorem Try.laidOut : laidOutB Try.prog = true := by kernel_rfl
end Go.Proofs.Ytkghgdkkholieaa
