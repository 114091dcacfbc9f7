/-
  Texts laid together: DLift, DL1, DL2.
-/
import Derived.Test.YtkghgdkkholieaaDoorZA15
import Derived.Test.YtkghgdkkholieaaDoorZA17
import Derived.Test.YtkghgdkkholieaaDoorZA10
import Derived.Test.YtkghgdkkholieaaDoorRows
import Derived.Test.YtkghgdkkholieaaDoorTie
import Derived.Test.YtkghgdkkholieaaDoorCards
import Derived.ProofKit
import Derived.Deep.SlicePairs
import Derived.Below
import Derived.Carry
import Derived.ChangeSame
import Derived.ChangeSlices
import Derived.Lib.SmallJoins
import Derived.Lib.LaidTab
import Derived.Stop.LaidErr
import Derived.SevenTiedAt
import Derived.Test.YtkghgdkkholieaaDoorZA12
import Derived.Test.YtkghgdkkholieaaDoorZA13
import Derived.Test.YtkghgdkkholieaaDoorZA11
/-
  From the evaluator to the statements: what the arguments hold is read as trees and lists; the table is where it was laid.
-/
















namespace Go.Proofs.YtkghgdkkholieaaDoor
open Go Go.ChangeShapes Go.WideShapes Go.ChangeAt Go.RowKit Go.Deep

theorem law_of {f : FuncId} {args : List AV} {W : World} {vs : Array Value} (ht : Tab0 W) (h : cL Tryd.prog f args [] [] 0 = some (.bool true, [], [], 0)) (hv : VRs (C0 W) args vs.toList) :
    Calls Tryd.prog f vs W fun e w' => e = .returned (.bool true) ∧ Below W.heap.size W w' := by
  refine (calls_of mixed h (C := C0 W) rfl rfl rfl (C0_SR ht) hv).mono ?_
  rintro e w' ⟨v, C', rfl, rfl, hle, -, -, -, -, hr⟩
  simp only [VR] at hr
  refine ⟨by rw [hr], ⟨hle.os, hle.tape, hle.output, hle.size, fun b hb => hle.keep b hb fun o hm => C0_mut hm⟩⟩
abbrev Tab (W : World) : Prop := Tab0 W
def strOf : Value → ByteArray | .string s => s | _ => ⟨#[]⟩
theorem spot_none {w : World} {a : Addr} {v : Value} (h : w.cell? a = some v) : a.spot = none ∧ a.block < w.heap.size := by
  unfold World.cell? at h
  split at h
  · rename_i hh
    refine ⟨?_, (Array.getElem?_eq_some_iff.1 hh).1⟩
    split at h
    · cases h
    · rename_i hs; simpa using hs
  · cases h
set_option maxRecDepth 100000 in
theorem PRows_pairs {w : World} {A : Nat → Nat → Prop} {b : Nat} (hA : ∀ o, ¬ A b o) : ∀ (cs : List (ByteArray × Int)) (o : Nat), (∀ i c, nth cs i = some c → w.cell? ⟨b, o + i * 2, none⟩ = some (.string c.1) ∧ w.cell? ⟨b, o + i * 2 + 1, none⟩ = some (.int .i64 c.2)) → PRows w A b 2 o (cs.map coefC)
  | [], _, _ => by simp only [List.map_nil, PRows]
  | c :: cs, o, h => by
    simp only [List.map_cons, PRows]
    obtain ⟨h1, h2⟩ := h 0 c rfl
    simp only [Nat.zero_mul, Nat.add_zero] at h1 h2
    refine ⟨rfl, ⟨[.string c.1, .int .i64 c.2], ⟨h1, hA _, h2, hA _, trivial⟩, ?_⟩, PRows_pairs hA cs (o + 2) fun i d hd => ?_⟩
    · simp [PRs, PR, coefC, Value.oneCell']
    · have := h (i + 1) d hd
      rwa [show o + (i + 1) * 2 = o + 2 + i * 2 from by omega] at this
set_option maxRecDepth 100000 in
theorem open_coefs {H : Type} {enc : TypeId × Value → H} {w : World} {sp : Nat → Bool} {held : Bool} {fuel : Nat} {v : Value} {t : TypeId} {x : DataW H × List MemPlace} (htab : Tab0 w) (ht : Tryd.prog.underlying t = some (.slice 41)) (h : DataW.trod enc Tryd.prog w 0 sp held fuel t [v] = some x) :
    ∃ cs, VR (C0 w) (coefsA cs) v := by
  rcases Go.Deep.open_slice_pairs ht Tryd.underlying41 (by kernel_rfl) rfl rfl (by kernel_rfl) (by kernel_rfl) h with ⟨hv, -⟩ | ⟨a, len, cap, m, n, V0, V1, D0, D1, P0, P1, hv, -, hl, hcap, hm, -, hi⟩
  · have : v = .slice none 0 0 := by simpa using hv
    subst this
    exact ⟨[], by simp only [coefsA, List.map_nil, VR]; exact ⟨none, 0, 0, rfl, rfl, Nat.le_refl _, trivial, .inl trivial⟩⟩
  · have hv : v = .slice (some a) len cap := by simpa using hv
    subst hv
    refine ⟨(List.range len).map fun i => (strOf (V0 i), intOf (V1 i)), ?_⟩
    simp only [coefsA, VR]
    refine ⟨some a, len, cap, rfl, by simp, hl, trivial, ?_⟩
    by_cases h0 : len = 0
    · left; subst h0; rfl
    right
    have hmm : len ≤ m := by rw [hm]; split <;> omega
    obtain ⟨z0, -, -, -⟩ := hi 0 (by omega)
    obtain ⟨s0, s1⟩ := spot_none z0
    obtain ⟨b, off, sp'⟩ := a
    have e0 : sp' = none := by simpa [Addr.add] using s0
    subst e0
    have hb0 : b ≠ 0 := by
      rintro rfl
      obtain ⟨-, c1, -, t1⟩ := hi 0 (by omega)
      obtain ⟨q, hq, -, -⟩ := DataW.trod_int Tryd.underlying3 t1
      have hq' : V1 0 = .int .i64 q := by simpa using hq
      rw [add_none, hq'] at c1
      obtain ⟨s, hs⟩ := tab_str htab c1
      cases hs
    refine ⟨b, off, 2, rfl, PRows_pairs (fun _ => C0_avoid hb0) _ _ fun i c hc => ?_⟩
    rw [nth_map] at hc
    simp only [Option.map_eq_some_iff] at hc
    obtain ⟨j, hj, rfl⟩ := hc
    have hlt := nth_lt hj
    rw [nth_get, List.getElem?_range (by simpa using hlt)] at hj
    simp only [Option.some.injEq] at hj
    subst hj
    have hlt' : i < len := by simpa using hlt
    obtain ⟨c0, c1, t0, t1⟩ := hi i (by omega)
    obtain ⟨s, hs, -⟩ := DataW.trod_string Tryd.underlying9 t0
    obtain ⟨q, hq, -, -⟩ := DataW.trod_int Tryd.underlying3 t1
    rw [add_none] at c0 c1
    have hs' : V0 i = .string s := by simpa using hs
    have hq' : V1 i = .int .i64 q := by simpa using hq
    refine ⟨?_, ?_⟩
    · show w.cell? _ = _
      rw [c0]; simp [hs', strOf]
    · show w.cell? _ = _
      rw [show off + i * 2 + 1 = off + (i * 2 + 1) by omega, c1]; simp [hq', intOf]
set_option maxRecDepth 100000 in
theorem open_lin {H : Type} {enc : TypeId × Value → H} {w : World} {r : Reach} {b0 : Nat} {sp : Nat → Bool} {held : Bool} {v : Value} {d : DataW H} {p : List MemPlace} (htab : Tab0 w) (hv : Value.okWide Tryd.prog w r b0 28 v) (h : DataW.Trod enc Tryd.prog w 0 sp held 28 v d p) :
    ∃ cs k, VR (C0 w) (linA cs k) v := by
  obtain ⟨xs, rfl, hsz⟩ := okWide_struct Tryd.underlying28 hv
  obtain ⟨c0, c1, rfl⟩ := Go.Joins.array2 (hsz.trans (by kernel_rfl : Tryd.prog.cellsOf 28 = 2))
  obtain ⟨fuel, hf⟩ := h
  obtain ⟨z0, z1, n', -, -, g0, g1⟩ := trod_struct2 Tryd.underlying28 hf
  have k22 : Tryd.prog.cellsOf 26 = 1 := by kernel_rfl
  have k3 : Tryd.prog.cellsOf 3 = 1 := by kernel_rfl
  have g0' : DataW.trod enc Tryd.prog w 0 sp held n' 26 [c0] = some z0 := by simpa [k22, Value.cells] using g0
  have g1' : DataW.trod enc Tryd.prog w 0 sp held n' 3 [c1] = some z1 := by simpa [k3, Value.cells] using g1
  obtain ⟨cs, hc⟩ := open_coefs htab Tryd.underlying26 g0'
  obtain ⟨k, hk, -, -⟩ := DataW.trod_int Tryd.underlying3 g1'
  have hk' : c1 = .int .i64 k := by simpa using hk
  refine ⟨cs, k, ?_⟩
  simp only [linA, VR]
  exact ⟨_, rfl, by simp only [VRs, VR]; exact ⟨hc, hk', trivial⟩⟩

set_option maxRecDepth 100000 in
theorem open_pred {H : Type} {enc : TypeId × Value → H} {w : World} {r : Reach} {b0 : Nat} {sp : Nat → Bool} {held : Bool} {v : Value} {d : DataW H} {p : List MemPlace} (htab : Tab0 w) (hv : Value.okWide Tryd.prog w r b0 25 v) (h : DataW.Trod enc Tryd.prog w 0 sp held 25 v d p) :
    ∃ x : PT, VR (C0 w) (.agg (predC x)) v ∧ kidsMax x := by
  obtain ⟨xs, rfl, hsz⟩ := okWide_struct Tryd.underlying25 hv
  obtain ⟨fuel, hf⟩ := h
  obtain ⟨x, h1, h2⟩ := pred_Rd htab fuel _ _ hf
  exact ⟨x, agg_of (C := C0 w) h1, h2⟩
set_option maxRecDepth 100000 in
theorem open_i8 {H : Type} {enc : TypeId × Value → H} {w : World} {r : Reach} {b0 : Nat} {sp : Nat → Bool} {held : Bool} {v : Value} {d : DataW H} {p : List MemPlace} (hv : Value.okWide Tryd.prog w r b0 38 v) (h : DataW.Trod enc Tryd.prog w 0 sp held 38 v d p) :
    ∃ k : Int, VR (C0 w) (.prim (.int .i8 k)) v ∧ -128 ≤ k ∧ k ≤ 127 := by
  obtain ⟨k, rfl⟩ := okWide_int Tryd.underlying38 hv
  obtain ⟨fuel, hf⟩ := h
  obtain ⟨k', hk, -, hw⟩ := DataW.trod_int Tryd.underlying38 hf
  have e : k = k' := by simpa [Value.cells] using hk
  subst e
  simp only [Lit.wf, Bool.and_eq_true, decide_eq_true_eq] at hw
  exact ⟨k, by simp only [VR], hw.1, hw.2⟩
set_option maxRecDepth 100000 in
theorem open_i8x3 {H : Type} {enc : TypeId × Value → H} {w : World} {sp : Nat → Bool} {held : Bool} {v : Value} {d : DataW H} {p : List MemPlace} (h : DataW.Trod enc Tryd.prog w 0 sp held 39 v d p) :
    ∃ q x y : Int, VR (C0 w) (.agg [.prim (.int .i8 q), .prim (.int .i8 x), .prim (.int .i8 y)]) v ∧ (-128 ≤ q ∧ q ≤ 127) ∧ (-128 ≤ x ∧ x ≤ 127) ∧ (-128 ≤ y ∧ y ≤ 127) := by
  obtain ⟨fuel, hf⟩ := h
  obtain ⟨xs, m, -, -, hlen, hxl, hi⟩ := DataW.trod_array Tryd.underlying39 hf
  have k1 : Tryd.prog.cellsOf 38 = 1 := by kernel_rfl
  have k3 : Tryd.prog.cellsOf 39 = 3 := by kernel_rfl
  have hl : v.cells.toList.length = 3 := hlen.trans k3
  cases v
  case agg cs =>
    obtain ⟨l⟩ := cs
    match l, hl with
    | [c0, c1, c2], _ =>
    match xs, hxl with
    | [z0, z1, z2], _ =>
    have g0 := hi 0 (by omega)
    have g1 := hi 1 (by omega)
    have g2 := hi 2 (by omega)
    replace g0 : DataW.trod enc Tryd.prog w 0 sp held m 38 [c0] = some z0 := by simpa [k1, Value.cells] using g0
    replace g1 : DataW.trod enc Tryd.prog w 0 sp held m 38 [c1] = some z1 := by simpa [k1, Value.cells] using g1
    replace g2 : DataW.trod enc Tryd.prog w 0 sp held m 38 [c2] = some z2 := by simpa [k1, Value.cells] using g2
    obtain ⟨q, hq, -, wq⟩ := DataW.trod_int Tryd.underlying38 g0
    obtain ⟨x, hx, -, wx⟩ := DataW.trod_int Tryd.underlying38 g1
    obtain ⟨y, hy, -, wy⟩ := DataW.trod_int Tryd.underlying38 g2
    simp only [Lit.wf, Bool.and_eq_true, decide_eq_true_eq] at wq wx wy
    have hq : c0 = .int .i8 q := by simpa using hq
    have hx : c1 = .int .i8 x := by simpa using hx
    have hy : c2 = .int .i8 y := by simpa using hy
    subst hq hx hy
    refine ⟨q, x, y, ?_, wq, wx, wy⟩
    simp only [VR]
    exact ⟨_, rfl, by simp [VRs, VR]⟩
  all_goals simp [Value.cells] at hl
abbrev laid3 : List (String × DataW Unit) := [("liquidcheck/names.keywords", Rows.laid_liquidcheck_names_keywords)]
theorem g0 : Tryd.prog.globalNamed "liquidcheck/names.keywords" = some 0 := by kernel_rfl
theorem g0Type : (Tryd.prog.globals[0]?).map (·.type) = some 94 := by kernel_rfl
theorem kw_laid {H : Type} : (Rows.laid_liquidcheck_names_keywords : DataW H) = .agg (kwL.map fun s => .lit (.string s.data.toList)) := rfl
set_option maxRecDepth 100000 in
theorem tab_of_laid {W : World} (h : laidMet Tryd.prog laid3 W) : Tab0 W := by
  obtain ⟨ps, ⟨g', t', cs, fuel, p, q, hg', ht', hvar, hd, _, _⟩, _⟩ := h
  obtain rfl := Option.some.inj (g0.symm.trans hg')
  obtain rfl := Option.some.inj (g0Type.symm.trans ht')
  obtain ⟨xs, m, -, hx, hlen, hxl, hi⟩ := DataW.trod_array Tryd.underlying94 hd
  have hc1 : Tryd.prog.cellsOf 9 = 1 := by kernel_rfl
  have hc2 : Tryd.prog.cellsOf 94 = 42 := by kernel_rfl
  rw [hc2] at hlen
  rw [kw_laid] at hx
  have hxs : xs.map (·.1) = kwL.map fun s => (DataW.lit (.string s.data.toList) : DataW Unit) := by
    have := congrArg Prod.fst hx
    simpa using this.symm
  have hcs : cs = (kwL.map Value.string).toArray := by
    apply Array.ext'
    apply List.ext_getElem?
    intro i
    by_cases hi42 : i < 42
    · have h1 := hi i hi42
      rw [hc1, Nat.mul_one, List.getElem?_eq_getElem (by omega)] at h1
      obtain ⟨s, e1, e2, -⟩ := DataW.trod_string Tryd.underlying9 h1
      have h3 : cs.toList[i]? = some (.string s) := by
        have := congrArg (·[0]?) e1
        simpa [List.getElem?_take, List.getElem?_drop] using this
      have h4 : (xs.map (·.1))[i]? = some (DataW.lit (.string s.data.toList) : DataW Unit) := by
        rw [List.getElem?_map, List.getElem?_eq_getElem (by omega)]
        simp [e2]
      rw [hxs] at h4
      simp only [List.getElem?_map, Option.map_eq_some_iff, DataW.lit.injEq, Lit.string.injEq] at h4
      obtain ⟨z, hz, hzs⟩ := h4
      have hzz : z = s := by
        apply ByteArray.ext
        exact Array.toList_inj.1 hzs
      subst hzz
      rw [h3]
      simp [hz]
    · have hk : kwL.length = 42 := rfl
      rw [List.getElem?_eq_none (by omega), List.getElem?_eq_none (by simp; omega)]
  subst hcs
  simp only [World.var?, g0, Option.bind_some] at hvar
  split at hvar
  · rename_i cs' t fz hh
    simp only [Option.some.injEq] at hvar
    rw [hvar] at hh
    exact ⟨t, fz, hh⟩
  · simp at hvar
def cellD : DataW Unit → Value | .lit (.string s) => .string ⟨s.toArray⟩ | _ => undef
def cellsD : DataW Unit → Array Value | .agg ds => (ds.map cellD).toArray | _ => #[]
def putCells (cs : Array Value) : Obj → Obj | .cells _ t fz => .cells cs t fz | o => o
noncomputable def laidWorld (os : Os) : World :=
  { World.holding Tryd.prog os ⟨#[], #[], []⟩ with heap := (World.holding Tryd.prog os ⟨#[], #[], []⟩).heap.modify 0 (putCells (cellsD Rows.laid_liquidcheck_names_keywords)) }
theorem laid_met (os : Os) (args : Array Value) : laidMet Tryd.prog laid3 ((laidWorld os).forCall (fun _ _ => 0) ⟨#[], args, []⟩).memory :=
  laidMet_of_run' 8 (by kernel_rfl) (by kernel_rfl)
section
variable {H : Type} {enc : TypeId × Value → H} {P : Program}
theorem post_of_below {f : Func} {s : ChangeSpec} {apart fresh handsOn again : Bool} {W W' : World} {args : Array Value} {v : Value} {ds gs : List (DataW H)} {before pa pv : List MemPlace}
    (hW : DataW.Whole enc P f.params.toList s.vars apart W args.toList ds gs before)
    (hres : ∀ (b : Nat) (sp : Nat → Bool) (hd : Bool), DataW.TrodAll enc P W' b sp hd f.resultTypes.toList (v.resultList f.resultTypes.size) (s.fn H (ds ++ gs)).results [])
    (hargs : ∀ sp : Nat → Bool, (∀ p ∈ before, sp p.block = true) → DataW.TrodAll enc P W' 0 sp true f.params.toList args.toList (s.fn H (ds ++ gs)).args pa)
    (hvars : ∀ sp : Nat → Bool, (∀ p ∈ before, sp p.block = true) → DataW.TrodVars enc P W' sp s.vars (s.fn H (ds ++ gs)).vars pv)
    (hps : before = pa ++ pv) (hb : Below W.heap.size W W')
    (hok : ∀ (j : Nat) (t : TypeId) (r : Value), f.resultTypes[j]? = some t → (v.resultList f.resultTypes.size)[j]? = some r → Value.okWide P W' .any 0 t r) :
    s.post enc P f apart fresh handsOn again W args v W' := by
  have hlt : ∀ p ∈ before, p.block < W.heap.size := fun p hp => hW.lt p hp
  have hold : ∀ p ∈ before, (fun b => decide (b < W.heap.size)) p.block = true := fun p hp => by simpa using hlt p hp
  refine ⟨ds, gs, before, [], pa, pv, hW, hres _ _ _, hargs _ hold, hvars _ hold, World.keptBut_mono (fun p hp => ⟨hp, ?_⟩) (hb.frame (· ∈ before)), fun _ => ?_⟩
  · rw [hps, List.mem_append] at hp
    exact Or.inr hp
  · obtain ⟨_, _, _, _, _, hz, hn⟩ := hW
    refine ⟨hok, _, _, ([] ++ pa) ++ pv, ⟨[] ++ pa, pv, trodAll_append (hargs _ (fun _ _ => rfl)) (hres _ _ _), hvars _ (fun _ _ => rfl), rfl, ?_, ?_⟩, ?_⟩
    · intro b off hp
      have hin : MemPlace.cell b off ∈ before := by rw [hps]; simpa using hp
      rw [hb.frozen (hlt _ hin)]
      exact hz b off hin
    · intro ha
      have := hn ha
      rw [hps] at this
      simpa using this
    · intro p hp _
      rw [hps]
      simpa using hp
end
set_option maxRecDepth 100000 in
theorem shut_Bool {H : Type} {enc : TypeId × Value → H} {W : World} {base : Nat} {sp : Nat → Bool} {held : Bool} (b : Bool) : DataW.Trod enc Tryd.prog W base sp held 4 (.bool b) (.lit (.bool b)) [] := ⟨1, by simp [DataW.trod, Value.cells, Tryd.underlying4]⟩
set_option maxRecDepth 100000 in
theorem okWide_Bool {W : World} (c : Bool) : Value.okWide Tryd.prog W .any 0 4 (.bool c) := by simp [Value.okWide, Tryd.underlying4, Cell.okWide, Cell.ok]
theorem Try.own : ownKnob Tryd.prog.godebug = none := by kernel_rfl
theorem Try.laidOut : laidOutB Tryd.prog = true := by kernel_rfl
end Go.Proofs.YtkghgdkkholieaaDoor
/-
  LinearTerms, walked.
-/






namespace Go.Proofs.YtkghgdkkholieaaDoor
open Go
theorem sumF_nodes : ∀ (r : List PT) (x : PT), (∀ y ∈ r, nodesP y ≤ 3) → nodesP (sumF x r) ≤ nodesP x + 4 * r.length
  | [], x, _ => by simp [sumF]
  | y :: r, x, h => by
    have h1 := sumF_nodes r (.node 6 bE 0 [x, y]) (fun z hz => h z (List.mem_cons_of_mem _ hz))
    have h2 := h y (by simp)
    simp only [nodesP, nodesL] at h1
    simp only [sumF, List.length_cons]; omega
theorem partT_nodes (c : ByteArray × Int) : nodesP (partT c) ≤ 3 := by unfold partT; split <;> simp [nodesP, nodesL]
theorem partsF_nodes (cs : List (ByteArray × Int)) (n : Int) : ∀ y ∈ partsF cs n, nodesP y ≤ 3 := by
  intro y hy
  have hm : ∀ y ∈ cs.map partT, nodesP y ≤ 3 := fun y hy => by
    obtain ⟨c, -, rfl⟩ := List.mem_map.1 hy
    exact partT_nodes c
  unfold partsF at hy
  split at hy
  · rcases List.mem_append.1 hy with hy | hy
    · exact hm y hy
    · simp only [List.mem_singleton] at hy; subst hy; simp [nodesP, nodesL]
  · exact hm y hy
theorem termF_nodes (cs : List (ByteArray × Int)) (n : Int) (h : cs.length ≤ 100) : nodesP (termF cs n) ≤ 1000 := by
  unfold termF
  split
  · obtain ⟨x, r, hx⟩ := partsF_ne cs n
    have hl := partsF_len cs n
    have hn := partsF_nodes cs n
    rw [hx] at hl hn ⊢
    have h1 := sumF_nodes r x (fun y hy => hn y (List.mem_cons_of_mem _ hy))
    have h2 := hn x (by simp)
    simp only [sumL, List.length_cons] at h1 hl ⊢; omega
  · simp [nodesP, nodesL]
section
variable (S : List Ent) (tk : List Nat) (k : Nat)
theorem linear_Of (p : PT) (hn : kidsMax p) : cL Tryd.prog 8 [.agg (predC p)] S tk k = some (.tup [linA (OfF p).1.1 (OfF p).1.2, .bool (OfF p).2], S, tk, k) := by
  have c1 := fun S tk k => pred_Check S tk k p hn
  unfold OfF
  by_cases h : checkP p = 0
  · have c2 := fun S tk k => told1 (linear_of p (check_form h) S tk k)
    rw [predC_cells] at c1 c2 ⊢
    refine call_pure Tryd.func8 rfl rfl (by decide +kernel) (by decide +kernel) Tryd.ntmps8 rfl rfl _ _ _ rfl ?_; rw [RK_KX]
    have d : (checkP p != 0) = false := by simpa using h
    rw [if_pos h]
    simp (maxSteps := 1000000) +contextual (disch := first | with_reducible assumption | exact ⟨rfl⟩ | exact ⟨rfl, rfl⟩ | (refine _root_.id ?_; kernel_rfl) | omega) only [evs, ext_mv, nth, put, putT, getT, binInt, binStr, binBool, aUn, outA, resA, mapO, resA1, oneOf, w1, w2, w3, bots, cond_true, cond_false, if_true, if_false, ite_true, ite_false, reduceIte, reduceCtorEq, implies_true, Nat.reduceAdd, Nat.reduceSub, AV.int, AV.bool, AV.str, Nat.reduceBEq, Nat.reduceEqDiff, Nat.reduceMul, Nat.reduceLT, Nat.reduceLeDiff, Int.reduceNeg, BEq.rfl, beq_self_eq_true, tabl, cellsOf, fldA, ldA, stA, entAt, partA, takeN, over, leafOk, Value.oneCell', idxA, nilA, cellsEq, fillA, elemsA, pure1, pure2, reps, chkA, tys, Tryd.results8, KX_draw, KX_drawQ, KX_tail, lastO_one, lastO_more, dropL_one, dropL_more, callP_eq, callM_true, ext_mv1, c1, c2, d, linA, coefsA]
  · rw [predC_cells] at c1 ⊢
    refine call_pure Tryd.func8 rfl rfl (by decide +kernel) (by decide +kernel) Tryd.ntmps8 rfl rfl _ _ _ rfl ?_; rw [RK_KX]
    have d : (checkP p != 0) = true := by simpa using h
    rw [if_neg h]
    simp (maxSteps := 1000000) +contextual (disch := first | with_reducible assumption | exact ⟨rfl⟩ | exact ⟨rfl, rfl⟩ | (refine _root_.id ?_; kernel_rfl) | omega) only [evs, ext_mv, nth, put, putT, getT, binInt, binStr, binBool, aUn, outA, resA, mapO, resA1, oneOf, w1, w2, w3, bots, cond_true, cond_false, if_true, if_false, ite_true, ite_false, reduceIte, reduceCtorEq, implies_true, Nat.reduceAdd, Nat.reduceSub, AV.int, AV.bool, AV.str, Nat.reduceBEq, Nat.reduceEqDiff, Nat.reduceMul, Nat.reduceLT, Nat.reduceLeDiff, Int.reduceNeg, BEq.rfl, beq_self_eq_true, tabl, cellsOf, fldA, ldA, stA, entAt, partA, takeN, over, leafOk, Value.oneCell', idxA, nilA, cellsEq, fillA, elemsA, pure1, pure2, reps, chkA, tys, Tryd.results8, KX_draw, KX_drawQ, KX_tail, lastO_one, lastO_more, dropL_one, dropL_more, callP_eq, callM_true, ext_mv1, c1, d, linA, coefsA]
    simp [noR]
theorem small_le {l : List (ByteArray × Int)} (h : smallFrom 0 l = true) : l.length ≤ 40 := by
  rcases small_len h with h | h
  · omega
  · subst h; simp
set_option maxRecDepth 100000 in
set_option maxHeartbeats 4000000 in
theorem L11_LinearTerms (p : PT) (cs : List (ByteArray × Int)) (n : Int) (hp : kidsMax p) : cL Tryd.prog 3 [.agg (predC p), linA cs n] S tk k = some (.bool true, S, tk, k) := by
  have a0 := fun S tk k => told1 (L11_awake S tk k)
  have a1 := fun S tk k => told1 (L11_size p hp 2000 S tk k)
  have a2 := fun S tk k => told1 (L11_small S tk k cs n)
  generalize sizeG p 2000 = z at *
  rw [predC_cells] at a1 ⊢
  simp only [linA, coefsA] at a2
  refine call_pure Tryd.func3 rfl rfl (by decide +kernel) (by decide +kernel) Tryd.ntmps3 rfl rfl _ _ _ rfl ?_; rw [RK_KX]
  by_cases hz : z ≤ 2000
  case neg =>
    have d1 : decide (z > 2000) = true := by simpa using hz
    simp (maxSteps := 1000000) +contextual (disch := first | with_reducible assumption | exact ⟨rfl⟩ | exact ⟨rfl, rfl⟩ | (refine _root_.id ?_; kernel_rfl) | omega) only [evs, ext_mv, nth, put, putT, getT, binInt, binStr, binBool, aUn, outA, resA, mapO, resA1, oneOf, w1, w2, w3, bots, cond_true, cond_false, if_true, if_false, ite_true, ite_false, reduceIte, reduceCtorEq, implies_true, Nat.reduceAdd, Nat.reduceSub, AV.int, AV.bool, AV.str, Nat.reduceBEq, Nat.reduceEqDiff, Nat.reduceMul, Nat.reduceLT, Nat.reduceLeDiff, Int.reduceNeg, BEq.rfl, beq_self_eq_true, tabl, cellsOf, fldA, ldA, stA, entAt, partA, takeN, over, leafOk, Value.oneCell', idxA, nilA, cellsEq, fillA, elemsA, pure1, pure2, reps, chkA, tys, Tryd.results3, KX_draw, KX_drawQ, KX_tail, lastO_one, lastO_more, dropL_one, dropL_more, callP_eq, callM_true, ext_mv1, a0, a1, d1, linA, coefsA]
  have d1 : decide (z > 2000) = false := by simpa using hz
  cases hsm : smallFrom 0 cs with
  | false =>
    rw [hsm] at a2
    simp (maxSteps := 1000000) +contextual (disch := first | with_reducible assumption | exact ⟨rfl⟩ | exact ⟨rfl, rfl⟩ | (refine _root_.id ?_; kernel_rfl) | omega) only [evs, ext_mv, nth, put, putT, getT, binInt, binStr, binBool, aUn, outA, resA, mapO, resA1, oneOf, w1, w2, w3, bots, cond_true, cond_false, if_true, if_false, ite_true, ite_false, reduceIte, reduceCtorEq, implies_true, Nat.reduceAdd, Nat.reduceSub, AV.int, AV.bool, AV.str, Nat.reduceBEq, Nat.reduceEqDiff, Nat.reduceMul, Nat.reduceLT, Nat.reduceLeDiff, Int.reduceNeg, BEq.rfl, beq_self_eq_true, tabl, cellsOf, fldA, ldA, stA, entAt, partA, takeN, over, leafOk, Value.oneCell', idxA, nilA, cellsEq, fillA, elemsA, pure1, pure2, reps, chkA, tys, Tryd.results3, KX_draw, KX_drawQ, KX_tail, lastO_one, lastO_more, dropL_one, dropL_more, callP_eq, callM_true, ext_mv1, a0, a1, a2, d1, linA, coefsA]
  | true =>
    rw [hsm] at a2
    have hle := small_le hsm
    have c1 := fun S tk k => linear_Of S tk k p hp
    have c2 := fun S tk k => told1 (R11_Of S tk k p hp)
    have c3 := fun S tk k => told1 (linear_Pred S tk k cs n (by omega))
    have c4 := fun S tk k => told1 (R11_Pred S tk k cs n (by omega))
    have c5 := fun S tk k => told1 (R07_Same (termF cs n) (by have := termF_nodes cs n (by omega); omega) S tk k)
    have hol : (OfF p).1.1.length ≤ 24 := by
      unfold OfF; split
      · exact ofF_len p
      · exact noR_len
    have c6 := fun S tk k => told1 (R11_Same S tk k (OfF p).1.1 (OfF p).1.1 (OfF p).1.2 (OfF p).1.2 (by omega))
    simp only [sameF_self] at c6
    generalize OfF p = R at *
    obtain ⟨⟨rc, rn⟩, rb⟩ := R
    rw [predC_cells] at c1 c2
    rw [predC_cells] at c3 c4 c5
    simp only [linA, coefsA] at c1 c2 c3 c4 c6
    have hbb : (rb == rb) = true := by simp
    simp (maxSteps := 1000000) +contextual (disch := first | with_reducible assumption | exact ⟨rfl⟩ | exact ⟨rfl, rfl⟩ | (refine _root_.id ?_; kernel_rfl) | omega) only [evs, ext_mv, nth, put, putT, getT, binInt, binStr, binBool, aUn, outA, resA, mapO, resA1, oneOf, w1, w2, w3, bots, cond_true, cond_false, if_true, if_false, ite_true, ite_false, reduceIte, reduceCtorEq, implies_true, Nat.reduceAdd, Nat.reduceSub, AV.int, AV.bool, AV.str, Nat.reduceBEq, Nat.reduceEqDiff, Nat.reduceMul, Nat.reduceLT, Nat.reduceLeDiff, Int.reduceNeg, BEq.rfl, beq_self_eq_true, tabl, cellsOf, fldA, ldA, stA, entAt, partA, takeN, over, leafOk, Value.oneCell', idxA, nilA, cellsEq, fillA, elemsA, pure1, pure2, reps, chkA, tys, Tryd.results3, KX_draw, KX_drawQ, KX_tail, lastO_one, lastO_more, dropL_one, dropL_more, callP_eq, callM_true, ext_mv1, a0, a1, a2, d1, c1, c2, c3, c4, c5, c6, hbb, linA, coefsA]
end
end Go.Proofs.YtkghgdkkholieaaDoor
/-
  LinearAgrees, walked.
-/


namespace Go.Proofs.YtkghgdkkholieaaDoor
open Go
mutual
theorem kidsMax_nodes : ∀ p : PT, nodesP p ≤ 9223372036854775807 → kidsMax p
  | .node _ _ _ ks, h => by
    simp only [nodesP] at h
    have := nodes_kids ks
    simp only [kidsMax]
    exact ⟨by omega, kidsMax_nodesL ks (by omega)⟩
theorem kidsMax_nodesL : ∀ ks : List PT, nodesL ks ≤ 9223372036854775807 → kidsMaxL ks
  | [], _ => by simp [kidsMaxL]
  | k :: ks, h => by
    simp only [nodesL] at h
    simp only [kidsMaxL]
    exact ⟨kidsMax_nodes k (by omega), kidsMax_nodesL ks (by omega)⟩
end
theorem near_cf : ∀ {cs : List (ByteArray × Int)}, nearF cs = true → ∀ c ∈ cs, -1000 ≤ c.2 ∧ c.2 ≤ 1000
  | [], _, c, hc => by simp at hc
  | d :: r, h, c, hc => by
    simp only [nearF, decide_eq_true_eq] at h
    split at h
    · simp at h
    · split at h
      · simp at h
      · rcases List.mem_cons.1 hc with rfl | hc
        · omega
        · exact near_cf h c hc
def ptXY (x y : Int) : List (ByteArray × Int) := [(⟨#[120]⟩, x), (⟨#[121]⟩, y)]
theorem ptXY_bound {x y : Int} (hx : -128 ≤ x ∧ x ≤ 127) (hy : -128 ≤ y ∧ y ≤ 127) (s : ByteArray) : -128 ≤ findS s (ptXY x y) ∧ findS s (ptXY x y) ≤ 128 := by
  simp only [ptXY, findS]
  split
  · omega
  · split
    · omega
    · omega
def nearB (cs : List (ByteArray × Int)) (n : Int) : Bool := nearF cs && (checkF cs n == 0) && decide (n ≥ -1000) && decide (n ≤ 1000)
theorem nearB_of {cs : List (ByteArray × Int)} {n : Int} (h : nearB cs n = true) : NearF cs n := by
  simp only [nearB, Bool.and_eq_true, beq_iff_eq, decide_eq_true_eq] at h
  exact ⟨h.1.1.2, near_cf h.1.1.1, h.1.2, h.2⟩
section
variable (S : List Ent) (tk : List Nat) (k : Nat)
set_option maxRecDepth 100000 in
set_option maxHeartbeats 8000000 in
theorem Agrees_walk (a b : List (ByteArray × Int)) (n m q x y : Int) (hq : -128 ≤ q ∧ q ≤ 127) (hx : -128 ≤ x ∧ x ≤ 127) (hy : -128 ≤ y ∧ y ≤ 127) :
    cL Tryd.prog 4 [linA a n, linA b m, .agg [.prim (.int .i8 q), .prim (.int .i8 x), .prim (.int .i8 y)]] S tk k = some (.bool true, S, tk, k) := by
  have a0 := fun S tk k => told1 (L11_awake S tk k)
  have s1 := fun S tk k => told1 (L11_small S tk k a n)
  have s2 := fun S tk k => told1 (L11_small S tk k b m)
  have i1 : intN (.prim (.int .i64 1)) = some 1 := rfl
  have i2 : intN (.prim (.int .i64 2)) = some 2 := rfl
  have wq : IntKind.i64.wrap q = q := wrap_of (by unfold i64; omega)
  have wx : IntKind.i64.wrap x = x := wrap_of (by unfold i64; omega)
  have wy : IntKind.i64.wrap y = y := wrap_of (by unfold i64; omega)
  simp only [linA, coefsA] at s1 s2
  refine call_pure Tryd.func4 rfl rfl (by decide +kernel) (by decide +kernel) Tryd.ntmps4 rfl rfl _ _ _ rfl ?_; rw [RK_KX]
  cases hs1 : smallFrom 0 a with
  | false =>
    rw [hs1] at s1
    simp (maxSteps := 1000000) +contextual (disch := first | with_reducible assumption | exact ⟨rfl⟩ | exact ⟨rfl, rfl⟩ | (refine _root_.id ?_; kernel_rfl) | omega) only [evs, ext_mv, nth, put, putT, getT, binInt, binStr, binBool, aUn, outA, resA, mapO, resA1, oneOf, w1, w2, w3, bots, cond_true, cond_false, if_true, if_false, ite_true, ite_false, reduceIte, reduceCtorEq, implies_true, Nat.reduceAdd, Nat.reduceSub, AV.int, AV.bool, AV.str, Nat.reduceBEq, Nat.reduceEqDiff, Nat.reduceMul, Nat.reduceLT, Nat.reduceLeDiff, Int.reduceNeg, BEq.rfl, beq_self_eq_true, tabl, cellsOf, fldA, ldA, stA, entAt, partA, takeN, over, leafOk, Value.oneCell', idxA, nilA, cellsEq, fillA, elemsA, pure1, pure2, reps, chkA, tys, Tryd.results4, KX_draw, KX_drawQ, KX_tail, lastO_one, lastO_more, dropL_one, dropL_more, callP_eq, callM_true, ext_mv1, a0, s1, i1, i2, wq, wx, wy, linA, coefsA]
  | true =>
  have la := small_le hs1
  have r1 := fun S tk k => told1 (L11_near S tk k a n (by omega))
  rw [hs1] at s1
  cases hs2 : smallFrom 0 b with
  | false =>
    rw [hs2] at s2
    simp (maxSteps := 1000000) +contextual (disch := first | with_reducible assumption | exact ⟨rfl⟩ | exact ⟨rfl, rfl⟩ | (refine _root_.id ?_; kernel_rfl) | omega) only [evs, ext_mv, nth, put, putT, getT, binInt, binStr, binBool, aUn, outA, resA, mapO, resA1, oneOf, w1, w2, w3, bots, cond_true, cond_false, if_true, if_false, ite_true, ite_false, reduceIte, reduceCtorEq, implies_true, Nat.reduceAdd, Nat.reduceSub, AV.int, AV.bool, AV.str, Nat.reduceBEq, Nat.reduceEqDiff, Nat.reduceMul, Nat.reduceLT, Nat.reduceLeDiff, Int.reduceNeg, BEq.rfl, beq_self_eq_true, tabl, cellsOf, fldA, ldA, stA, entAt, partA, takeN, over, leafOk, Value.oneCell', idxA, nilA, cellsEq, fillA, elemsA, pure1, pure2, reps, chkA, tys, Tryd.results4, KX_draw, KX_drawQ, KX_tail, lastO_one, lastO_more, dropL_one, dropL_more, callP_eq, callM_true, ext_mv1, a0, s1, s2, i1, i2, wq, wx, wy, linA, coefsA]
  | true =>
  have lb := small_le hs2
  have r2 := fun S tk k => told1 (L11_near S tk k b m (by omega))
  rw [hs2] at s2
  change ∀ S tk k, cL Tryd.prog 14 [linA a n] S tk k = some (.bool (nearB a n), S, tk, k) at r1
  change ∀ S tk k, cL Tryd.prog 14 [linA b m] S tk k = some (.bool (nearB b m), S, tk, k) at r2
  simp only [linA, coefsA] at r1 r2
  cases hn1 : nearB a n with
  | false =>
    rw [hn1] at r1
    simp (maxSteps := 1000000) +contextual (disch := first | with_reducible assumption | exact ⟨rfl⟩ | exact ⟨rfl, rfl⟩ | (refine _root_.id ?_; kernel_rfl) | omega) only [evs, ext_mv, nth, put, putT, getT, binInt, binStr, binBool, aUn, outA, resA, mapO, resA1, oneOf, w1, w2, w3, bots, cond_true, cond_false, if_true, if_false, ite_true, ite_false, reduceIte, reduceCtorEq, implies_true, Nat.reduceAdd, Nat.reduceSub, AV.int, AV.bool, AV.str, Nat.reduceBEq, Nat.reduceEqDiff, Nat.reduceMul, Nat.reduceLT, Nat.reduceLeDiff, Int.reduceNeg, BEq.rfl, beq_self_eq_true, tabl, cellsOf, fldA, ldA, stA, entAt, partA, takeN, over, leafOk, Value.oneCell', idxA, nilA, cellsEq, fillA, elemsA, pure1, pure2, reps, chkA, tys, Tryd.results4, KX_draw, KX_drawQ, KX_tail, lastO_one, lastO_more, dropL_one, dropL_more, callP_eq, callM_true, ext_mv1, a0, s1, s2, r1, i1, i2, wq, wx, wy, linA, coefsA]
  | true =>
  rw [hn1] at r1
  cases hn2 : nearB b m with
  | false =>
    rw [hn2] at r2
    simp (maxSteps := 1000000) +contextual (disch := first | with_reducible assumption | exact ⟨rfl⟩ | exact ⟨rfl, rfl⟩ | (refine _root_.id ?_; kernel_rfl) | omega) only [evs, ext_mv, nth, put, putT, getT, binInt, binStr, binBool, aUn, outA, resA, mapO, resA1, oneOf, w1, w2, w3, bots, cond_true, cond_false, if_true, if_false, ite_true, ite_false, reduceIte, reduceCtorEq, implies_true, Nat.reduceAdd, Nat.reduceSub, AV.int, AV.bool, AV.str, Nat.reduceBEq, Nat.reduceEqDiff, Nat.reduceMul, Nat.reduceLT, Nat.reduceLeDiff, Int.reduceNeg, BEq.rfl, beq_self_eq_true, tabl, cellsOf, fldA, ldA, stA, entAt, partA, takeN, over, leafOk, Value.oneCell', idxA, nilA, cellsEq, fillA, elemsA, pure1, pure2, reps, chkA, tys, Tryd.results4, KX_draw, KX_drawQ, KX_tail, lastO_one, lastO_more, dropL_one, dropL_more, callP_eq, callM_true, ext_mv1, a0, s1, s2, r1, r2, i1, i2, wq, wx, wy, linA, coefsA]
  | true =>
  rw [hn2] at r2
  have na := nearB_of hn1
  have nb := nearB_of hn2
  have hpt := ptXY_bound hx hy
  have val : ∀ (ds : List (ByteArray × Int)) (z : Int), ds.length ≤ 1000 → ∀ S tk k, cL Tryd.prog 17 [.agg [.frz (ds.map coefC) .unk, .prim (.int .i64 z)], .frz [[.prim (.string ⟨#[120]⟩), .prim (.int .i64 x)], [.prim (.string ⟨#[121]⟩), .prim (.int .i64 y)]] .tight] S tk k = some (.tup [.int (valueF ds z (ptXY x y)).1, .bool (valueF ds z (ptXY x y)).2], S, tk, k) := by
    intro ds z h S tk k
    refine (cL_w2 (args := [linA ds z, .frz [[.prim (.string ⟨#[120]⟩), .prim (.int .i64 x)], [.prim (.string ⟨#[121]⟩), .prim (.int .i64 y)]] .tight]) (args' := [linA ds z, coefsA (ptXY x y)]) rfl rfl rfl).trans ?_
    exact told1 (linear_Value S tk k ds z (ptXY x y) (by omega) (by simp [ptXY]))
  have va := value_gen (B := 1000) (by omega) hpt na.ok na.cf (by have := na.lo; have := na.hi; omega)
  have vb := value_gen (B := 1000) (by omega) hpt nb.ok nb.cf (by have := nb.lo; have := nb.hi; omega)
  have hla := ((checkF_iff a n).1 na.ok).1
  have hlb := ((checkF_iff b m).1 nb.ok).1
  have ba := lv_bd (B := 1000) (by omega) hpt a na.cf (by omega)
  have bb := lv_bd (B := 1000) (by omega) hpt b nb.cf (by omega)
  have V1 := val a n (by omega)
  have V2 := val b m (by omega)
  rw [va] at V1
  rw [vb] at V2
  have hsum := value_add hpt na nb
  obtain ⟨hj, hsc⟩ := value_scale hpt na hq
  have l3 := addL_24 a b n m
  have l4 := scaleF_len a n q
  have A1 := fun S tk k => told1 (linear_Add S tk k a b n m (by omega) (by omega))
  have A2 := fun S tk k => told1 (linear_Scale S tk k a n q (by omega))
  have T1 := fun S tk k => told1 (linear_Pred S tk k a n (by omega))
  have hnt := termF_nodes a n (by omega)
  have hkm := kidsMax_nodes (termF a n) (by omega)
  have T2 := fun S tk k => linear_Of S tk k (termF a n) hkm
  have T3 := fun S tk k => told1 (R07_Check S tk k (termF a n) hkm)
  have T4 := fun S tk k => told1 (R11_Same S tk k a a n n (by omega))
  rw [sameF_self] at T4
  have hof : OfF (termF a n) = if checkP (termF a n) = 0 then ((a, n), true) else noR := by
    unfold OfF; rw [of_term na.ok]
  rw [hof] at T2
  have wm : IntKind.i64.wrap (n + lv (ptXY x y) a + (m + lv (ptXY x y) b)) = n + lv (ptXY x y) a + (m + lv (ptXY x y) b) := wrap_of (by have := na.lo; have := na.hi; have := nb.lo; have := nb.hi; unfold i64; omega)
  have wk : IntKind.i64.wrap (q * (n + lv (ptXY x y) a)) = q * (n + lv (ptXY x y) a) := by
    have h1 := mul_bd (a := n + lv (ptXY x y) a) (b := q) (B := 100000000) (by have := na.lo; have := na.hi; omega) (by omega)
    rw [Int.mul_comm (n + lv (ptXY x y) a) q] at h1
    exact wrap_of (by unfold i64; omega)
  generalize hSS : addL a n b m = SS at *
  generalize hTT : scaleF a n q = TT at *
  obtain ⟨⟨sc, sn⟩, sb⟩ := SS
  obtain ⟨⟨tc, tn⟩, tb⟩ := TT
  simp only at hsum hj hsc l3 l4 A1 A2
  subst hj
  have V3 := val sc sn (by omega)
  have V4 := val tc tn (by omega)
  rw [hsc] at V4
  generalize n + lv (ptXY x y) a = VA at *
  generalize m + lv (ptXY x y) b = VB at *
  rw [predC_cells] at T1 T2 T3
  simp only [linA, coefsA] at A1 A2 T1 T2 T4
  have hqq : (q * VA == q * VA) = true := by simp
  have hss : sb = true → ((valueF sc sn (ptXY x y)).1 == VA + VB) = true := fun h => by rw [hsum h]; simp
  generalize valueF sc sn (ptXY x y) = VS at *
  by_cases hcp : checkP (termF a n) = 0
  · have d1 : (checkP (termF a n) == 0) = true := by simpa using hcp
    simp only [if_pos hcp] at T2
    cases hsb : sb with
    | true =>
      have hs3 := hss hsb
      rw [hsb] at A1
      simp (maxSteps := 1000000) +contextual (disch := first | with_reducible assumption | exact ⟨rfl⟩ | exact ⟨rfl, rfl⟩ | (refine _root_.id ?_; kernel_rfl) | omega) only [evs, ext_mv, nth, put, putT, getT, binInt, binStr, binBool, aUn, outA, resA, mapO, resA1, oneOf, w1, w2, w3, bots, cond_true, cond_false, if_true, if_false, ite_true, ite_false, reduceIte, reduceCtorEq, implies_true, Nat.reduceAdd, Nat.reduceSub, AV.int, AV.bool, AV.str, Nat.reduceBEq, Nat.reduceEqDiff, Nat.reduceMul, Nat.reduceLT, Nat.reduceLeDiff, Int.reduceNeg, BEq.rfl, beq_self_eq_true, tabl, cellsOf, fldA, ldA, stA, entAt, partA, takeN, over, leafOk, Value.oneCell', idxA, nilA, cellsEq, fillA, elemsA, pure1, pure2, reps, chkA, tys, Tryd.results4, KX_draw, KX_drawQ, KX_tail, lastO_one, lastO_more, dropL_one, dropL_more, callP_eq, callM_true, ext_mv1, a0, s1, s2, r1, r2, i1, i2, wq, wx, wy, A1, A2, V1, V2, V3, V4, T1, T2, T3, T4, d1, wm, wk, hqq, hs3, linA, coefsA]
    | false =>
      rw [hsb] at A1
      simp (maxSteps := 1000000) +contextual (disch := first | with_reducible assumption | exact ⟨rfl⟩ | exact ⟨rfl, rfl⟩ | (refine _root_.id ?_; kernel_rfl) | omega) only [evs, ext_mv, nth, put, putT, getT, binInt, binStr, binBool, aUn, outA, resA, mapO, resA1, oneOf, w1, w2, w3, bots, cond_true, cond_false, if_true, if_false, ite_true, ite_false, reduceIte, reduceCtorEq, implies_true, Nat.reduceAdd, Nat.reduceSub, AV.int, AV.bool, AV.str, Nat.reduceBEq, Nat.reduceEqDiff, Nat.reduceMul, Nat.reduceLT, Nat.reduceLeDiff, Int.reduceNeg, BEq.rfl, beq_self_eq_true, tabl, cellsOf, fldA, ldA, stA, entAt, partA, takeN, over, leafOk, Value.oneCell', idxA, nilA, cellsEq, fillA, elemsA, pure1, pure2, reps, chkA, tys, Tryd.results4, KX_draw, KX_drawQ, KX_tail, lastO_one, lastO_more, dropL_one, dropL_more, callP_eq, callM_true, ext_mv1, a0, s1, s2, r1, r2, i1, i2, wq, wx, wy, A1, A2, V1, V2, V3, V4, T1, T2, T3, T4, d1, wm, wk, hqq, linA, coefsA]
  · have d1 : (checkP (termF a n) == 0) = false := by simpa using hcp
    simp only [if_neg hcp, noR, List.map_nil] at T2
    cases hsb : sb with
    | true =>
      have hs3 := hss hsb
      rw [hsb] at A1
      simp (maxSteps := 1000000) +contextual (disch := first | with_reducible assumption | exact ⟨rfl⟩ | exact ⟨rfl, rfl⟩ | (refine _root_.id ?_; kernel_rfl) | omega) only [evs, ext_mv, nth, put, putT, getT, binInt, binStr, binBool, aUn, outA, resA, mapO, resA1, oneOf, w1, w2, w3, bots, cond_true, cond_false, if_true, if_false, ite_true, ite_false, reduceIte, reduceCtorEq, implies_true, Nat.reduceAdd, Nat.reduceSub, AV.int, AV.bool, AV.str, Nat.reduceBEq, Nat.reduceEqDiff, Nat.reduceMul, Nat.reduceLT, Nat.reduceLeDiff, Int.reduceNeg, BEq.rfl, beq_self_eq_true, tabl, cellsOf, fldA, ldA, stA, entAt, partA, takeN, over, leafOk, Value.oneCell', idxA, nilA, cellsEq, fillA, elemsA, pure1, pure2, reps, chkA, tys, Tryd.results4, KX_draw, KX_drawQ, KX_tail, lastO_one, lastO_more, dropL_one, dropL_more, callP_eq, callM_true, ext_mv1, a0, s1, s2, r1, r2, i1, i2, wq, wx, wy, A1, A2, V1, V2, V3, V4, T1, T2, T3, d1, wm, wk, hqq, hs3, linA, coefsA]
    | false =>
      rw [hsb] at A1
      simp (maxSteps := 1000000) +contextual (disch := first | with_reducible assumption | exact ⟨rfl⟩ | exact ⟨rfl, rfl⟩ | (refine _root_.id ?_; kernel_rfl) | omega) only [evs, ext_mv, nth, put, putT, getT, binInt, binStr, binBool, aUn, outA, resA, mapO, resA1, oneOf, w1, w2, w3, bots, cond_true, cond_false, if_true, if_false, ite_true, ite_false, reduceIte, reduceCtorEq, implies_true, Nat.reduceAdd, Nat.reduceSub, AV.int, AV.bool, AV.str, Nat.reduceBEq, Nat.reduceEqDiff, Nat.reduceMul, Nat.reduceLT, Nat.reduceLeDiff, Int.reduceNeg, BEq.rfl, beq_self_eq_true, tabl, cellsOf, fldA, ldA, stA, entAt, partA, takeN, over, leafOk, Value.oneCell', idxA, nilA, cellsEq, fillA, elemsA, pure1, pure2, reps, chkA, tys, Tryd.results4, KX_draw, KX_drawQ, KX_tail, lastO_one, lastO_more, dropL_one, dropL_more, callP_eq, callM_true, ext_mv1, a0, s1, s2, r1, r2, i1, i2, wq, wx, wy, A1, A2, V1, V2, V3, V4, T1, T2, T3, d1, wm, wk, hqq, linA, coefsA]
theorem L11_LinearAgrees (a : List (ByteArray × Int)) (n : Int) (b : List (ByteArray × Int)) (m q x y : Int) (hq : -128 ≤ q ∧ q ≤ 127) (hx : -128 ≤ x ∧ x ≤ 127) (hy : -128 ≤ y ∧ y ≤ 127) :
    cL Tryd.prog 4 [linA a n, linA b m, .agg [.prim (.int .i8 q), .prim (.int .i8 x), .prim (.int .i8 y)]] S tk k = some (.bool true, S, tk, k) := Agrees_walk S tk k a b n m q x y hq hx hy
end
end Go.Proofs.YtkghgdkkholieaaDoor
