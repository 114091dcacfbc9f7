/-
  Texts laid together: FLift, FComb, FRef2, FRef3, FTrim, FFar1, FSearch, FAll, FAdd, FSums.
-/
import Derived.Test.YtmgbmbganlndkaaZFScales11
import Derived.Test.YtmgbmbganlndkaaZFScales14
import Derived.Test.YtmgbmbganlndkaaZFScales15
import Derived.Test.YtmgbmbganlndkaaRows
import Derived.ProofKit
import Derived.Below
import Derived.Carry
import Derived.ChangeSame
import Derived.Lib.SmallJoins
/-
  From the evaluator to the statements: what the arguments hold is read as lists.
-/









namespace Go.Proofs.Ytmgbmbganlndkaa
open Go Go.ChangeShapes Go.WideShapes Go.ChangeAt Go.RowKit

/-- a world in which nothing is anybody's own -/
def C0 (W : World) : Cx := { w := W, av := fun _ _ => False, φ := fun _ => 0, ψ := fun _ => (0, 0, 0), S := [], tk := [], n := 0 }
theorem C0_avoid {W : World} {b o : Nat} : ¬ (C0 W).Avoid b o := by
  rintro (h | ⟨i, hi, _⟩ | ⟨i, hi, _⟩)
  · exact h
  · simp [C0] at hi
  · simp [C0] at hi
theorem C0_SR (W : World) : SR (C0 W) :=
  ⟨fun i e h => by simp [C0, nth] at h, fun i j hi => by simp [C0] at hi, fun i j o hi => by simp [C0] at hi, fun i j o hi => by simp [C0] at hi, fun b o h => absurd (Or.inr h) C0_avoid, fun b o h => h.elim, fun i o hi => by simp [C0] at hi, fun g a h => by simp [Globs.gl] at h⟩
theorem law_of {f : FuncId} {args : List AV} {W : World} {vs : Array Value} (h : cL Try.prog f args [] [] 0 = some (.bool true, [], [], 0)) (hv : VRs (C0 W) args vs.toList) :
    Calls Try.prog f vs W fun e w' => e = .returned (.bool true) ∧ Below W.heap.size W w' := by
  refine (calls_of mixed h (C := C0 W) rfl rfl rfl (C0_SR W) hv).mono ?_
  rintro e w' ⟨v, C', rfl, rfl, hle, -, -, -, -, hr⟩
  simp only [VR] at hr
  refine ⟨by rw [hr], ⟨hle.os, hle.tape, hle.output, hle.size, fun b hb => hle.keep b hb fun o hm => C0_avoid (.inr hm)⟩⟩


def types : List TypeId := [4, 3, 9, 45, 39, 41, 43, 22, 26, 28, 23, 37, 38, 48]
set_option maxRecDepth 100000 in
theorem closed : closedT Try.prog types = true := by kernel_rfl
theorem wf_i64 {n : Int} (h : (Lit.int .i64 n).wf = true) : i64 n := by
  simp only [Lit.wf, Bool.and_eq_true, decide_eq_true_eq] at h
  exact ⟨h.1, h.2⟩
set_option maxRecDepth 100000 in
theorem sh_coef {avs : List AV} (h : Sh Try.prog 45 avs) : ∃ c : ByteArray × Int, avs = coefC c ∧ i64 c.2 := by
  obtain ⟨p0, p1, rfl, h0, h1⟩ := sh_struct2 Try.underlying45 h
  obtain ⟨s, rfl, -⟩ := sh_str Try.underlying9 h0
  obtain ⟨n, rfl, hn⟩ := sh_int Try.underlying3 h1
  exact ⟨(s, n), rfl, wf_i64 hn⟩
set_option maxRecDepth 100000 in
theorem sh_coefs {avs : List AV} (h : Sh Try.prog 39 avs) : ∃ cs : List (ByteArray × Int), avs = [coefsA cs] ∧ ∀ c ∈ cs, i64 c.2 := by
  obtain ⟨es, rfl, h1, -⟩ := sh_slice Try.underlying39 h
  obtain ⟨cs, rfl, h2⟩ := map_of (f := coefC) (Q := fun c => i64 c.2) fun x hx => sh_coef (h1 x hx)
  exact ⟨cs, rfl, h2⟩
def rowI (r : RowT) : Prop := i64 r.2.1 ∧ ∀ c ∈ r.1, i64 c.2
set_option maxRecDepth 100000 in
theorem sh_row {avs : List AV} (h : Sh Try.prog 43 avs) : ∃ r : RowT, avs = rowC r ∧ rowI r := by
  obtain ⟨p0, p1, rfl, h0, h1⟩ := sh_struct2 Try.underlying43 h
  obtain ⟨q0, q1, rfl, g0, g1⟩ := sh_struct2 Try.underlying41 h0
  obtain ⟨cs, rfl, hc⟩ := sh_coefs g0
  obtain ⟨n, rfl, hn⟩ := sh_int Try.underlying3 g1
  obtain ⟨b, rfl⟩ := sh_bool Try.underlying4 h1
  exact ⟨(cs, n, b), rfl, wf_i64 hn, hc⟩
set_option maxRecDepth 100000 in
theorem sh_big {avs : List AV} (h : Sh Try.prog 28 avs) : ∃ m : BigT, avs = bigC m ∧ True := by
  obtain ⟨p0, p1, rfl, h0, h1⟩ := sh_struct2 Try.underlying28 h
  obtain ⟨b, rfl⟩ := sh_bool Try.underlying4 h0
  obtain ⟨es, rfl, h2, -⟩ := sh_slice Try.underlying26 h1
  obtain ⟨ds, rfl, -⟩ := map_of (f := digC) (Q := fun _ => True) fun x hx => by
    obtain ⟨n, rfl, -⟩ := sh_int Try.underlying3 (h2 x hx)
    exact ⟨n, rfl, trivial⟩
  exact ⟨(b, ds), rfl, trivial⟩
section
variable {H : Type} {enc : TypeId × Value → H} {w : World} {r : Reach} {b0 : Nat} {sp : Nat → Bool} {held : Bool} {v : Value} {d : DataW H} {p : List MemPlace}
set_option maxRecDepth 100000 in
theorem read {t : TypeId} (ht : t ∈ types) (h : DataW.Trod enc Try.prog w 0 sp held t v d p) : ∃ avs, Sh Try.prog t avs ∧ PRs w (C0 w).Avoid avs v.cells.toList :=
  open_Rd closed (fun b o v h => absurd h C0_avoid) ht h
set_option maxRecDepth 100000 in
theorem open_rows (hv : Value.okWide Try.prog w r b0 22 v) (h : DataW.Trod enc Try.prog w 0 sp held 22 v d p) : ∃ l : List RowT, VR (C0 w) (rowsA l) v ∧ (∀ r ∈ l, rowI r) ∧ l.length ≤ maxLen := by
  obtain ⟨avs, h1, h2⟩ := read (by simp [types]) h
  obtain ⟨es, rfl, h3, h5⟩ := sh_slice Try.underlying22 h1
  obtain ⟨l, rfl, h4⟩ := map_of (f := rowC) (Q := rowI) fun x hx => sh_row (h3 x hx)
  obtain ⟨a, n, c, rfl⟩ := okWide_slice Try.underlying22 hv
  exact ⟨l, one_of rfl h2, h4, by simpa using h5⟩
set_option maxRecDepth 100000 in
theorem open_bigs (hv : Value.okWide Try.prog w r b0 23 v) (h : DataW.Trod enc Try.prog w 0 sp held 23 v d p) : ∃ l : List BigT, VR (C0 w) (bigsA l) v := by
  obtain ⟨avs, h1, h2⟩ := read (by simp [types]) h
  obtain ⟨es, rfl, h3, -⟩ := sh_slice Try.underlying23 h1
  obtain ⟨l, rfl, -⟩ := map_of (f := bigC) (Q := fun _ => True) fun x hx => sh_big (h3 x hx)
  obtain ⟨a, n, c, rfl⟩ := okWide_slice Try.underlying23 hv
  exact ⟨l, one_of rfl h2⟩
set_option maxRecDepth 100000 in
theorem open_at (h : DataW.Trod enc Try.prog w 0 sp held 38 v d p) : ∃ x y : Int, VR (C0 w) (.agg [.prim (.int .i8 x), .prim (.int .i8 y)]) v ∧ (-128 ≤ x ∧ x ≤ 127) ∧ (-128 ≤ y ∧ y ≤ 127) := by
  obtain ⟨avs, h1, h2⟩ := read (by simp [types]) h
  obtain ⟨pss, rfl, hl, hp⟩ := sh_array Try.underlying38 h1
  match pss, hl with
  | [p0, p1], _ =>
  obtain ⟨x, rfl, hx⟩ := sh_int Try.underlying37 (hp p0 (by simp))
  obtain ⟨y, rfl, hy⟩ := sh_int Try.underlying37 (hp p1 (by simp))
  simp only [Lit.wf, Bool.and_eq_true, decide_eq_true_eq] at hx hy
  have hsz := PRs_length h2
  refine ⟨x, y, ?_, hx, hy⟩
  cases v
  case agg xs => exact agg_of h2
  all_goals simp [Value.cells] at hsz
set_option maxRecDepth 100000 in
theorem open_u16 (hv : Value.okWide Try.prog w r b0 48 v) (h : DataW.Trod enc Try.prog w 0 sp held 48 v d p) : ∃ n : Int, VR (C0 w) (.prim (.int .u16 n)) v ∧ 0 ≤ n ∧ n ≤ 65535 := by
  obtain ⟨k, rfl⟩ := okWide_int Try.underlying48 hv
  obtain ⟨fuel, hf⟩ := h
  obtain ⟨k', hk, -, hw⟩ := DataW.trod_int Try.underlying48 hf
  have e : k = k' := by simpa [Value.cells] using hk
  subst e
  simp only [Lit.wf, Bool.and_eq_true, decide_eq_true_eq] at hw
  exact ⟨k, by simp only [VR], hw.1, hw.2⟩
end
section
variable {H : Type} {enc : TypeId × Value → H} {P : Program}
theorem post_of_below {f : Func} {s : ChangeSpec} {apart fresh handsOn again : Bool} {W W' : World} {args : Array Value} {v : Value} {ds gs : List (DataW H)} {before pa pv : List MemPlace}
    (hW : DataW.Whole enc P f.params.toList s.vars apart W args.toList ds gs before)
    (hres : ∀ (b : Nat) (sp : Nat → Bool) (hd : Bool), DataW.TrodAll enc P W' b sp hd f.resultTypes.toList (v.resultList f.resultTypes.size) (s.fn H (ds ++ gs)).results [])
    (hargs : ∀ sp : Nat → Bool, (∀ p ∈ before, sp p.block = true) → DataW.TrodAll enc P W' 0 sp true f.params.toList args.toList (s.fn H (ds ++ gs)).args pa)
    (hvars : ∀ sp : Nat → Bool, (∀ p ∈ before, sp p.block = true) → DataW.TrodVars enc P W' sp s.vars (s.fn H (ds ++ gs)).vars pv)
    (hps : before = pa ++ pv) (hb : Below W.heap.size W W')
    (hok : ∀ (j : Nat) (t : TypeId) (r : Value), f.resultTypes[j]? = some t → (v.resultList f.resultTypes.size)[j]? = some r → Value.okWide P W' .any 0 t r) :
    s.post enc P f apart fresh handsOn again W args v W' := by
  have hlt : ∀ p ∈ before, p.block < W.heap.size := fun p hp => hW.lt p hp
  have hold : ∀ p ∈ before, (fun b => decide (b < W.heap.size)) p.block = true := fun p hp => by simpa using hlt p hp
  refine ⟨ds, gs, before, [], pa, pv, hW, hres _ _ _, hargs _ hold, hvars _ hold, World.keptBut_mono (fun p hp => ⟨hp, ?_⟩) (hb.frame (· ∈ before)), fun _ => ?_⟩
  · rw [hps, List.mem_append] at hp
    exact Or.inr hp
  · obtain ⟨_, _, _, _, _, hz, hn⟩ := hW
    refine ⟨hok, _, _, ([] ++ pa) ++ pv, ⟨[] ++ pa, pv, trodAll_append (hargs _ (fun _ _ => rfl)) (hres _ _ _), hvars _ (fun _ _ => rfl), rfl, ?_, ?_⟩, ?_⟩
    · intro b off hp
      have hin : MemPlace.cell b off ∈ before := by rw [hps]; simpa using hp
      rw [hb.frozen (hlt _ hin)]
      exact hz b off hin
    · intro ha
      have := hn ha
      rw [hps] at this
      simpa using this
    · intro p hp _
      rw [hps]
      simpa using hp
end
set_option maxRecDepth 100000 in
theorem shut_Bool {H : Type} {enc : TypeId × Value → H} {W : World} {base : Nat} {sp : Nat → Bool} {held : Bool} (b : Bool) : DataW.Trod enc Try.prog W base sp held 4 (.bool b) (.lit (.bool b)) [] := ⟨1, by simp [DataW.trod, Value.cells, Try.underlying4]⟩
set_option maxRecDepth 100000 in
theorem okWide_Bool {W : World} (c : Bool) : Value.okWide Try.prog W .any 0 4 (.bool c) := by simp [Value.okWide, Try.underlying4, Cell.okWide, Cell.ok]
theorem Try.own : ownKnob Try.prog.godebug = none := by kernel_rfl
theorem Try.laidOut : laidOutB Try.prog = true := by kernel_rfl
end Go.Proofs.Ytmgbmbganlndkaa
/-
  Combinations of rows: the reference, walked.
-/

namespace Go.Proofs.Ytmgbmbganlndkaa
open Go

theorem plus_w (P : Program) [Globs] [Ext P] {f : FuncId} {p q : Bool} {l r : List Int} {n : Int} {c : Bool} {S : List Ent} {tk : List Nat} {k : Nat} (hx : (Ext.on P f || Ext.mv P f) = false) :
    cL P f [.agg [.prim (.bool p), .frz (l.map digC) (ownCap c)], bigA q r, .int n] S tk k = cL P f [bigA p l, bigA q r, .int n] S tk k := cL_w2 rfl rfl hx
theorem valid_cons {ms : List BigT} {i : Nat} {m : BigT} (h : nth ms i = some m) : allValid (ms.drop i) = (validF m.1 m.2 && allValid (ms.drop (i + 1))) := by rw [nth_drop h]; rfl
theorem sign_cons {l : List RowT} {ms : List BigT} {i : Nat} {r : RowT} {m : BigT} (h1 : nth l i = some r) (h2 : nth ms i = some m) : signBad (l.drop i) (ms.drop i) = ((!r.2.2 && m.1) || signBad (l.drop (i + 1)) (ms.drop (i + 1))) := by rw [nth_drop h1, nth_drop h2, signBad]
/-- the sums and the constant after the first rows -/
def coefD (l : List RowT) (ms : List BigT) (v : ByteArray) (i : Nat) : Int := dotN (fun r => coefF r.1 v) l ms i
def constD (l : List RowT) (ms : List BigT) (i : Nat) : Int := dotN (fun r => r.2.1) l ms i
def cntC (l : List RowT) (ms : List BigT) : Nat → List AV
  | 0 => [.prim (.bool false), .frz [] .nilc]
  | i + 1 => ownC (false, constD l ms (i + 1))
theorem cntC_eq (l : List RowT) (ms : List BigT) (i : Nat) : cntC l ms i = ownC (i == 0, constD l ms i) := by
  cases i with
  | zero => simp [cntC, ownC, constD, dotN, dig_zero, ownCap]
  | succ i => rfl
def outS (l : List RowT) (ms : List BigT) : Nat → List AV
  | 0 => ownS (List.replicate (varsF l).length (true, 0))
  | i + 1 => ownS (outL (coefD l ms) (i + 1) 0 (varsF l))
theorem outS_eq (l : List RowT) (ms : List BigT) (i : Nat) : outS l ms i = ownS (outL (coefD l ms) i 0 (varsF l)) := by
  cases i with
  | zero => rw [outL_zero (g := coefD l ms) (fun v => rfl)]; rfl
  | succ i => rfl
section
variable (S : List Ent) (tk : List Nat) (k : Nat)
theorem R14_plus' (c : Bool) (z : Int) (m : BigT) (n : Int) (hz : okZ z = true) (hm : m.2.length ≤ 100) (hn : i64 n) (h2 : okZ (z + vB m * n) = true) :
    cL Try.prog 37 [.agg [.prim (.bool (decide (z < 0))), .frz ((dig z.natAbs).map digC) (ownCap c)], .agg (bigC m), .int n] S tk k = some (.tup [zA (z + vB m * n), .bool true], S, tk, k) := by
  refine (plus_w Try.prog (q := m.1) (r := m.2) rfl).trans ?_
  have := R14_plus S tk k (decide (z < 0)) m.1 (dig z.natAbs) m.2 n (by have := zA_len hz; omega) (by omega) hn (mul_ok hm hn) (by rw [V_zA hz]; exact h2)
  rw [V_zA hz] at this
  exact this
set_option maxRecDepth 100000 in
set_option maxHeartbeats 1000000 in
theorem R14_Combine (l : List RowT) (ms : List BigT) (hl0 : ∀ r ∈ l, r.1.length ≤ 1048576) (hl1 : l.length ≤ 1048576) (hm : ∀ m ∈ ms, m.2.length ≤ 100) : cL Try.prog 10 [rowsA l, bigsA ms] S tk k = some (combA l ms, S, tk, k) := by
  have hCh := fun S tk k => R13_Check S tk k l hl0
  refine call_pure Try.func10 rfl rfl (by decide +kernel) (by decide +kernel) Try.ntmps10 rfl rfl _ _ _ (comb_pure _ _) ?_; rw [RK_KX]
  by_cases hlen : l.length ≠ ms.length
  · have d0 : ((l.length : Int) != (ms.length : Int)) = true := by simp; omega
    simp (maxSteps := 1000000) +contextual (disch := first | with_reducible assumption | exact ⟨rfl⟩ | exact ⟨rfl, rfl⟩ | (refine _root_.id ?_; kernel_rfl) | omega) only [evs, ext_mv, nth, put, putT, getT, binInt, binStr, binBool, aUn, outA, resA, mapO, resA1, oneOf, w1, w2, w3, bots, cond_true, cond_false, if_true, if_false, ite_true, ite_false, reduceIte, reduceCtorEq, implies_true, Nat.reduceAdd, Nat.reduceSub, AV.int, AV.bool, AV.str, Nat.reduceBEq, Nat.reduceEqDiff, Nat.reduceMul, Nat.reduceLT, Nat.reduceLeDiff, Int.reduceNeg, BEq.rfl, beq_self_eq_true, tabl, cellsOf, fldA, ldA, stA, entAt, partA, takeN, over, leafOk, Value.oneCell', idxA, nilA, cellsEq, fillA, elemsA, pure1, pure2, reps, chkA, tys, Try.results10, KX_draw, KX_drawQ, KX_tail, lastO_one, lastO_more, dropL_one, dropL_more, callP_eq, callM_true, rowsA, bigsA, d0]
    have hE : combE l ms = 6 := by unfold combE; rw [if_pos hlen]
    simp only [combA, hE]; rfl
  have hlen' : l.length = ms.length := by omega
  have d0 : ((l.length : Int) != (ms.length : Int)) = false := by simp; omega
  simp (maxSteps := 1000000) +contextual (disch := first | with_reducible assumption | exact ⟨rfl⟩ | exact ⟨rfl, rfl⟩ | (refine _root_.id ?_; kernel_rfl) | omega) only [evs, ext_mv, nth, put, putT, getT, binInt, binStr, binBool, aUn, outA, resA, mapO, resA1, oneOf, w1, w2, w3, bots, cond_true, cond_false, if_true, if_false, ite_true, ite_false, reduceIte, reduceCtorEq, implies_true, Nat.reduceAdd, Nat.reduceSub, AV.int, AV.bool, AV.str, Nat.reduceBEq, Nat.reduceEqDiff, Nat.reduceMul, Nat.reduceLT, Nat.reduceLeDiff, Int.reduceNeg, BEq.rfl, beq_self_eq_true, tabl, cellsOf, fldA, ldA, stA, entAt, partA, takeN, over, leafOk, Value.oneCell', idxA, nilA, cellsEq, fillA, elemsA, pure1, pure2, reps, chkA, tys, Try.results10, KX_draw, KX_drawQ, KX_tail, lastO_one, lastO_more, dropL_one, dropL_more, callP_eq, callM_true, rowsA, bigsA, d0]
  refine loop1 (fun x st => st.T.length = 132 ∧ (x ≤ ms.length) ∧ (allValid ms = allValid (ms.drop x)) ∧ getT st.T 0 = rowsA l ∧ getT st.T 1 = bigsA ms ∧ getT st.T 4 = .frz [] .nilc ∧ getT st.T 5 = .ref 0 0 0 ∧ getT st.T 6 = .int 0 ∧ getT st.T 7 = .int (x : Nat) ∧ st.S = [⟨0, [.bool false, .frz [] .nilc]⟩]) (fun x => ms.length - x) (fun x => combA l ms) (0) ?_ ?_
  case refine_2 => exact ⟨rfl, Nat.zero_le _, rfl, rfl, rfl, rfl, rfl, rfl, rfl, rfl⟩
  rintro i ⟨T, S', tk', n'⟩ ⟨hl, hi, hE, e0, e1, e4, e5, e6, e7, eS⟩ IH
  subst eS
  obtain ⟨g, hg, hT⟩ := tab_of hl
  rw [hg] at e0 e1 e4 e5 e6 e7
  subst hT
  clear hg hl
  have hiw := wrap_add (i := i) (by omega)
  by_cases hlt : i < ms.length
  · have d1 : decide ((i : Int) < (ms.length : Int)) = true := by simpa using hlt
    obtain ⟨m, hx⟩ := nth_some hlt
    have hx' := nth_big hx
    have hV := fun S tk k => R02_Valid S tk k m.1 m.2 .unk (by have := hm m (mem_nth hx); omega)
    rw [valid_cons hx] at hE
    simp only [bigC] at hx'
    cases h0 : validF m.1 m.2 with
    | true =>
      rw [h0, Bool.true_and] at hE
      simp (maxSteps := 1000000) +contextual (disch := first | with_reducible assumption | exact ⟨rfl⟩ | exact ⟨rfl, rfl⟩ | (refine _root_.id ?_; kernel_rfl) | omega) only [evs, ext_mv, nth, put, putT, getT, binInt, binStr, binBool, aUn, outA, resA, mapO, resA1, oneOf, w1, w2, w3, bots, cond_true, cond_false, if_true, if_false, ite_true, ite_false, reduceIte, reduceCtorEq, implies_true, Nat.reduceAdd, Nat.reduceSub, AV.int, AV.bool, AV.str, Nat.reduceBEq, Nat.reduceEqDiff, Nat.reduceMul, Nat.reduceLT, Nat.reduceLeDiff, Int.reduceNeg, BEq.rfl, beq_self_eq_true, tabl, cellsOf, fldA, ldA, stA, entAt, partA, takeN, over, leafOk, Value.oneCell', idxA, nilA, cellsEq, fillA, elemsA, pure1, pure2, reps, chkA, tys, Try.results10, KX_draw, KX_drawQ, KX_tail, lastO_one, lastO_more, dropL_one, dropL_more, callP_eq, callM_true, e0, e1, e4, e5, e6, e7, d1, bigsA, hx', hV, hiw, h0]
      exact IH (i + 1) _ (by first | omega | (simp only; omega)) ⟨rfl, by first | omega | (dsimp only; omega), hE, (by first | rfl | simp only [getT, List.map_append, List.map_cons, List.map_nil, and_self]), (by first | rfl | simp only [getT, List.map_append, List.map_cons, List.map_nil, and_self]), (by first | rfl | simp only [getT, List.map_append, List.map_cons, List.map_nil, and_self]), (by first | rfl | simp only [getT, List.map_append, List.map_cons, List.map_nil, and_self]), (by first | rfl | simp only [getT, List.map_append, List.map_cons, List.map_nil, and_self]), (by first | rfl | simp only [getT, List.map_append, List.map_cons, List.map_nil, and_self]), (by first | rfl | simp only [getT, List.map_append, List.map_cons, List.map_nil, and_self])⟩
    | false =>
      rw [h0, Bool.false_and] at hE
      simp (maxSteps := 1000000) +contextual (disch := first | with_reducible assumption | exact ⟨rfl⟩ | exact ⟨rfl, rfl⟩ | (refine _root_.id ?_; kernel_rfl) | omega) only [evs, ext_mv, nth, put, putT, getT, binInt, binStr, binBool, aUn, outA, resA, mapO, resA1, oneOf, w1, w2, w3, bots, cond_true, cond_false, if_true, if_false, ite_true, ite_false, reduceIte, reduceCtorEq, implies_true, Nat.reduceAdd, Nat.reduceSub, AV.int, AV.bool, AV.str, Nat.reduceBEq, Nat.reduceEqDiff, Nat.reduceMul, Nat.reduceLT, Nat.reduceLeDiff, Int.reduceNeg, BEq.rfl, beq_self_eq_true, tabl, cellsOf, fldA, ldA, stA, entAt, partA, takeN, over, leafOk, Value.oneCell', idxA, nilA, cellsEq, fillA, elemsA, pure1, pure2, reps, chkA, tys, Try.results10, KX_draw, KX_drawQ, KX_tail, lastO_one, lastO_more, dropL_one, dropL_more, callP_eq, callM_true, e0, e1, e4, e5, e6, e7, d1, bigsA, hx', hV, hiw, h0]
      have hE : combE l ms = 6 := by unfold combE; rw [if_neg hlen, hE]; rfl
      simp only [combA, hE]; rfl
  have d1 : decide ((i : Int) < (ms.length : Int)) = false := by simpa using hlt
  have hie : i = ms.length := by omega
  subst hie
  rw [List.drop_length] at hE
  have hval : allValid ms = true := hE
  simp (maxSteps := 1000000) +contextual (disch := first | with_reducible assumption | exact ⟨rfl⟩ | exact ⟨rfl, rfl⟩ | (refine _root_.id ?_; kernel_rfl) | omega) only [evs, ext_mv, nth, put, putT, getT, binInt, binStr, binBool, aUn, outA, resA, mapO, resA1, oneOf, w1, w2, w3, bots, cond_true, cond_false, if_true, if_false, ite_true, ite_false, reduceIte, reduceCtorEq, implies_true, Nat.reduceAdd, Nat.reduceSub, AV.int, AV.bool, AV.str, Nat.reduceBEq, Nat.reduceEqDiff, Nat.reduceMul, Nat.reduceLT, Nat.reduceLeDiff, Int.reduceNeg, BEq.rfl, beq_self_eq_true, tabl, cellsOf, fldA, ldA, stA, entAt, partA, takeN, over, leafOk, Value.oneCell', idxA, nilA, cellsEq, fillA, elemsA, pure1, pure2, reps, chkA, tys, Try.results10, KX_draw, KX_drawQ, KX_tail, lastO_one, lastO_more, dropL_one, dropL_more, callP_eq, callM_true, e0, e1, e4, e5, e6, e7, d1, bigsA]
  clear hE hi hiw hlt d1
  refine loop1 (fun x st => st.T.length = 132 ∧ (x ≤ ms.length) ∧ (signBad l ms = signBad (l.drop x) (ms.drop x)) ∧ getT st.T 0 = rowsA l ∧ getT st.T 1 = bigsA ms ∧ getT st.T 4 = .frz [] .nilc ∧ getT st.T 5 = .ref 0 0 0 ∧ getT st.T 6 = .int 0 ∧ getT st.T 8 = .int (x : Nat) ∧ st.S = [⟨0, [.bool false, .frz [] .nilc]⟩]) (fun x => ms.length - x) (fun x => combA l ms) (0) ?_ ?_
  case refine_2 => exact ⟨rfl, Nat.zero_le _, rfl, rfl, rfl, rfl, rfl, rfl, rfl, rfl⟩
  rintro i ⟨T, S', tk', n'⟩ ⟨hl, hi, hE, e0, e1, e4, e5, e6, e8, eS⟩ IH
  subst eS
  obtain ⟨g, hg, hT⟩ := tab_of hl
  rw [hg] at e0 e1 e4 e5 e6 e8
  subst hT
  clear hg hl
  have hiw := wrap_add (i := i) (by omega)
  by_cases hlt : i < ms.length
  · have d1 : decide ((i : Int) < (ms.length : Int)) = true := by simpa using hlt
    obtain ⟨m, hx⟩ := nth_some hlt
    have hx' := nth_big hx
    obtain ⟨r, hr⟩ := nth_some (show i < l.length by omega)
    have hr' := nth_row hr
    rw [sign_cons hr hx] at hE
    simp only [bigC] at hx'
    simp only [rowC, coefsA] at hr'
    cases h0 : r.2.2 with
    | true =>
      rw [h0, Bool.not_true, Bool.false_and, Bool.false_or] at hE
      simp (maxSteps := 1000000) +contextual (disch := first | with_reducible assumption | exact ⟨rfl⟩ | exact ⟨rfl, rfl⟩ | (refine _root_.id ?_; kernel_rfl) | omega) only [evs, ext_mv, nth, put, putT, getT, binInt, binStr, binBool, aUn, outA, resA, mapO, resA1, oneOf, w1, w2, w3, bots, cond_true, cond_false, if_true, if_false, ite_true, ite_false, reduceIte, reduceCtorEq, implies_true, Nat.reduceAdd, Nat.reduceSub, AV.int, AV.bool, AV.str, Nat.reduceBEq, Nat.reduceEqDiff, Nat.reduceMul, Nat.reduceLT, Nat.reduceLeDiff, Int.reduceNeg, BEq.rfl, beq_self_eq_true, tabl, cellsOf, fldA, ldA, stA, entAt, partA, takeN, over, leafOk, Value.oneCell', idxA, nilA, cellsEq, fillA, elemsA, pure1, pure2, reps, chkA, tys, Try.results10, KX_draw, KX_drawQ, KX_tail, lastO_one, lastO_more, dropL_one, dropL_more, callP_eq, callM_true, e0, e1, e4, e5, e6, e8, d1, bigsA, rowsA, hx', hr', hiw, h0]
      exact IH (i + 1) _ (by first | omega | (simp only; omega)) ⟨rfl, by first | omega | (dsimp only; omega), hE, (by first | rfl | simp only [getT, List.map_append, List.map_cons, List.map_nil, and_self]), (by first | rfl | simp only [getT, List.map_append, List.map_cons, List.map_nil, and_self]), (by first | rfl | simp only [getT, List.map_append, List.map_cons, List.map_nil, and_self]), (by first | rfl | simp only [getT, List.map_append, List.map_cons, List.map_nil, and_self]), (by first | rfl | simp only [getT, List.map_append, List.map_cons, List.map_nil, and_self]), (by first | rfl | simp only [getT, List.map_append, List.map_cons, List.map_nil, and_self]), (by first | rfl | simp only [getT, List.map_append, List.map_cons, List.map_nil, and_self])⟩
    | false =>
      rw [h0, Bool.not_false, Bool.true_and] at hE
      cases h1 : m.1 with
      | false =>
        rw [h1, Bool.false_or] at hE
        simp (maxSteps := 1000000) +contextual (disch := first | with_reducible assumption | exact ⟨rfl⟩ | exact ⟨rfl, rfl⟩ | (refine _root_.id ?_; kernel_rfl) | omega) only [evs, ext_mv, nth, put, putT, getT, binInt, binStr, binBool, aUn, outA, resA, mapO, resA1, oneOf, w1, w2, w3, bots, cond_true, cond_false, if_true, if_false, ite_true, ite_false, reduceIte, reduceCtorEq, implies_true, Nat.reduceAdd, Nat.reduceSub, AV.int, AV.bool, AV.str, Nat.reduceBEq, Nat.reduceEqDiff, Nat.reduceMul, Nat.reduceLT, Nat.reduceLeDiff, Int.reduceNeg, BEq.rfl, beq_self_eq_true, tabl, cellsOf, fldA, ldA, stA, entAt, partA, takeN, over, leafOk, Value.oneCell', idxA, nilA, cellsEq, fillA, elemsA, pure1, pure2, reps, chkA, tys, Try.results10, KX_draw, KX_drawQ, KX_tail, lastO_one, lastO_more, dropL_one, dropL_more, callP_eq, callM_true, e0, e1, e4, e5, e6, e8, d1, bigsA, rowsA, hx', hr', hiw, h0, h1]
        exact IH (i + 1) _ (by first | omega | (simp only; omega)) ⟨rfl, by first | omega | (dsimp only; omega), hE, (by first | rfl | simp only [getT, List.map_append, List.map_cons, List.map_nil, and_self]), (by first | rfl | simp only [getT, List.map_append, List.map_cons, List.map_nil, and_self]), (by first | rfl | simp only [getT, List.map_append, List.map_cons, List.map_nil, and_self]), (by first | rfl | simp only [getT, List.map_append, List.map_cons, List.map_nil, and_self]), (by first | rfl | simp only [getT, List.map_append, List.map_cons, List.map_nil, and_self]), (by first | rfl | simp only [getT, List.map_append, List.map_cons, List.map_nil, and_self]), (by first | rfl | simp only [getT, List.map_append, List.map_cons, List.map_nil, and_self])⟩
      | true =>
        rw [h1, Bool.true_or] at hE
        simp (maxSteps := 1000000) +contextual (disch := first | with_reducible assumption | exact ⟨rfl⟩ | exact ⟨rfl, rfl⟩ | (refine _root_.id ?_; kernel_rfl) | omega) only [evs, ext_mv, nth, put, putT, getT, binInt, binStr, binBool, aUn, outA, resA, mapO, resA1, oneOf, w1, w2, w3, bots, cond_true, cond_false, if_true, if_false, ite_true, ite_false, reduceIte, reduceCtorEq, implies_true, Nat.reduceAdd, Nat.reduceSub, AV.int, AV.bool, AV.str, Nat.reduceBEq, Nat.reduceEqDiff, Nat.reduceMul, Nat.reduceLT, Nat.reduceLeDiff, Int.reduceNeg, BEq.rfl, beq_self_eq_true, tabl, cellsOf, fldA, ldA, stA, entAt, partA, takeN, over, leafOk, Value.oneCell', idxA, nilA, cellsEq, fillA, elemsA, pure1, pure2, reps, chkA, tys, Try.results10, KX_draw, KX_drawQ, KX_tail, lastO_one, lastO_more, dropL_one, dropL_more, callP_eq, callM_true, e0, e1, e4, e5, e6, e8, d1, bigsA, rowsA, hx', hr', hiw, h0, h1]
        have hE : combE l ms = 2 := by unfold combE; rw [if_neg hlen, hval, hE]; rfl
        simp only [combA, hE]; rfl
  have d1 : decide ((i : Int) < (ms.length : Int)) = false := by simpa using hlt
  have hie : i = ms.length := by omega
  subst hie
  rw [List.drop_length, ← hlen', List.drop_length] at hE
  have hsg : signBad l ms = false := hE
  have hcE : combE l ms = sysE l := by unfold combE; rw [if_neg hlen, hval, hsg]; rfl
  simp only [rowsA] at hCh
  cases hs0 : (sysE l != 0) with
  | true =>
    simp (maxSteps := 1000000) +contextual (disch := first | with_reducible assumption | exact ⟨rfl⟩ | exact ⟨rfl, rfl⟩ | (refine _root_.id ?_; kernel_rfl) | omega) only [evs, ext_mv, nth, put, putT, getT, binInt, binStr, binBool, aUn, outA, resA, mapO, resA1, oneOf, w1, w2, w3, bots, cond_true, cond_false, if_true, if_false, ite_true, ite_false, reduceIte, reduceCtorEq, implies_true, Nat.reduceAdd, Nat.reduceSub, AV.int, AV.bool, AV.str, Nat.reduceBEq, Nat.reduceEqDiff, Nat.reduceMul, Nat.reduceLT, Nat.reduceLeDiff, Int.reduceNeg, BEq.rfl, beq_self_eq_true, tabl, cellsOf, fldA, ldA, stA, entAt, partA, takeN, over, leafOk, Value.oneCell', idxA, nilA, cellsEq, fillA, elemsA, pure1, pure2, reps, chkA, tys, Try.results10, KX_draw, KX_drawQ, KX_tail, lastO_one, lastO_more, dropL_one, dropL_more, callP_eq, callM_true, e0, e1, e4, e5, e6, e8, d1, bigsA, rowsA, hCh, hs0]
    have hne : ¬ sysE l = 0 := by simpa using hs0
    simp only [combA, hcE, if_neg hne]; rfl
  | false =>
  have hs : sysE l = 0 := by simpa using hs0
  have hVa := fun S tk k => R13_Vars S tk k l hs
  simp only [rowsA, strsA] at hVa
  have hvl : (varsF l).length ≤ 24 := (sys_few hs).2.2.1
  have hl64 := (sys_few hs).2.1
  have hbo : (elemOf Try.prog 23).bind (bytesOf Try.prog) = some 32 := by kernel_rfl
  have hmk := mk_big (P := Try.prog) (t := 23) (n := (varsF l).length) (by simp only [tys, Option.bind_some]) (by simp only [tys, Option.bind_some]) hbo (by omega)
  clear hE hi hiw hlt
  simp (maxSteps := 1000000) +contextual (disch := first | with_reducible assumption | exact ⟨rfl⟩ | exact ⟨rfl, rfl⟩ | (refine _root_.id ?_; kernel_rfl) | omega) only [evs, ext_mv, nth, put, putT, getT, binInt, binStr, binBool, aUn, outA, resA, mapO, resA1, oneOf, w1, w2, w3, bots, cond_true, cond_false, if_true, if_false, ite_true, ite_false, reduceIte, reduceCtorEq, implies_true, Nat.reduceAdd, Nat.reduceSub, AV.int, AV.bool, AV.str, Nat.reduceBEq, Nat.reduceEqDiff, Nat.reduceMul, Nat.reduceLT, Nat.reduceLeDiff, Int.reduceNeg, BEq.rfl, beq_self_eq_true, tabl, cellsOf, fldA, ldA, stA, entAt, partA, takeN, over, leafOk, Value.oneCell', idxA, nilA, cellsEq, fillA, elemsA, pure1, pure2, reps, chkA, tys, Try.results10, KX_draw, KX_drawQ, KX_tail, lastO_one, lastO_more, dropL_one, dropL_more, callP_eq, callM_true, e0, e1, e4, e5, e6, e8, d1, bigsA, rowsA, hCh, hs0, hVa, hmk]
  generalize hn2 : n' = n2
  have hin := first_in (sys_few hs).2.2.2
  have hk1 : ∀ r ∈ l, i64 r.2.1 := fun r hr => (hin r hr).1
  have hk2 : ∀ v, ∀ r ∈ l, i64 (coefF r.1 v) := fun v r hr => coef_i64 (hin r hr).2 v
  refine loop1 (fun x st => st.T.length = 132 ∧ (x ≤ l.length) ∧ getT st.T 0 = rowsA l ∧ getT st.T 1 = bigsA ms ∧ getT st.T 4 = .frz [] .nilc ∧ getT st.T 5 = .ref 0 0 0 ∧ getT st.T 6 = .int 0 ∧ getT st.T 10 = strsA (varsF l) ∧ getT st.T 11 = .sref 1 n2 0 (varsF l).length 2 ∧ getT st.T 12 = .ref 2 (n2 + 1) 0 ∧ getT st.T 13 = .int (x : Nat) ∧ st.S = [⟨0, [.bool false, .frz [] .nilc]⟩, ⟨n2, outS l ms x⟩, ⟨n2 + 1, cntC l ms x⟩]) (fun x => l.length - x) (fun x => combA l ms) (0) ?_ ?_
  case refine_2 => exact ⟨rfl, Nat.zero_le _, rfl, rfl, rfl, rfl, rfl, rfl, rfl, rfl, rfl, rfl⟩
  rintro i ⟨T, S', tk', n'⟩ ⟨hl, hi, e0, e1, e4, e5, e6, e10, e11, e12, e13, eS⟩ IH
  subst eS
  obtain ⟨g, hg, hT⟩ := tab_of hl
  rw [hg] at e0 e1 e4 e5 e6 e10 e11 e12 e13
  subst hT
  clear hg hl
  have OUT := IH
  clear IH
  have hiw := wrap_add (i := i) (by omega)
  rw [cntC_eq, outS_eq]
  by_cases hlt : i < l.length
  · have d2 : decide ((i : Int) < (l.length : Int)) = true := by simpa using hlt
    obtain ⟨r, hr⟩ := nth_some hlt
    obtain ⟨m, hx⟩ := nth_some (show i < ms.length by omega)
    have hr' := nth_row hr
    have hx' := nth_big hx
    have hmm := hm m (mem_nth hx)
    simp only [rowC, coefsA] at hr'
    simp only [bigC] at hx'
    simp (maxSteps := 1000000) +contextual (disch := first | with_reducible assumption | exact ⟨rfl⟩ | exact ⟨rfl, rfl⟩ | (refine _root_.id ?_; kernel_rfl) | omega) only [evs, ext_mv, nth, put, putT, getT, binInt, binStr, binBool, aUn, outA, resA, mapO, resA1, oneOf, w1, w2, w3, bots, cond_true, cond_false, if_true, if_false, ite_true, ite_false, reduceIte, reduceCtorEq, implies_true, Nat.reduceAdd, Nat.reduceSub, AV.int, AV.bool, AV.str, Nat.reduceBEq, Nat.reduceEqDiff, Nat.reduceMul, Nat.reduceLT, Nat.reduceLeDiff, Int.reduceNeg, BEq.rfl, beq_self_eq_true, tabl, cellsOf, fldA, ldA, stA, entAt, partA, takeN, over, leafOk, Value.oneCell', idxA, nilA, cellsEq, fillA, elemsA, pure1, pure2, reps, chkA, tys, Try.results10, KX_draw, KX_drawQ, KX_tail, lastO_one, lastO_more, dropL_one, dropL_more, callP_eq, callM_true, e0, e1, e4, e5, e6, e10, e11, e12, e13, d2, rowsA]
    refine loop1 (fun x st => st.T.length = 132 ∧ (x ≤ (varsF l).length) ∧ getT st.T 0 = rowsA l ∧ getT st.T 1 = bigsA ms ∧ getT st.T 4 = .frz [] .nilc ∧ getT st.T 5 = .ref 0 0 0 ∧ getT st.T 6 = .int 0 ∧ getT st.T 10 = strsA (varsF l) ∧ getT st.T 11 = .sref 1 n2 0 (varsF l).length 2 ∧ getT st.T 12 = .ref 2 (n2 + 1) 0 ∧ getT st.T 13 = .int (i : Nat) ∧ getT st.T 14 = .int (x : Nat) ∧ st.S = [⟨0, [.bool false, .frz [] .nilc]⟩, ⟨n2, ownS (outL (coefD l ms) i x (varsF l))⟩, ⟨n2 + 1, ownC (i == 0, constD l ms i)⟩]) (fun x => (varsF l).length - x) (fun x => combA l ms) (0) ?_ ?_
    case refine_2 => exact ⟨rfl, Nat.zero_le _, rfl, rfl, rfl, rfl, rfl, rfl, rfl, rfl, rfl, rfl, rfl⟩
    rintro j ⟨T, S', tk', n'⟩ ⟨hl, hj, e0, e1, e4, e5, e6, e10, e11, e12, e13, e14, eS⟩ IH
    subst eS
    obtain ⟨g, hg, hT⟩ := tab_of hl
    rw [hg] at e0 e1 e4 e5 e6 e10 e11 e12 e13 e14
    subst hT
    clear hg hl
    have hjw := wrap_add (i := j) (by omega)
    by_cases hlt2 : j < (varsF l).length
    · have d3 : decide ((j : Int) < ((varsF l).length : Int)) = true := by simpa using hlt2
      obtain ⟨v, hv⟩ := nth_some hlt2
      have hv' := nth_str hv
      have hon := outL_nth (coefD l ms) i hv
      have hld := own_take hon
      have hC := fun S tk k => R14_coefficient S tk k r.1 r.2.1 v (hl0 r (mem_nth hr))
      have hP := fun S tk k => R14_plus' S tk k (i == 0) (coefD l ms v i) m (coefF r.1 v) (ok_le (by omega) (dot_lt (hk2 v) hm i)) hmm (hk2 v r (mem_nth hr)) (by
        have h9 : coefD l ms v i + vB m * coefF r.1 v = coefD l ms v (i + 1) := (dot_succ hr hx).symm
        rw [h9]; exact ok_le (by omega) (dot_lt (hk2 v) hm (i + 1)))
      rw [show coefD l ms v i + vB m * coefF r.1 v = coefD l ms v (i + 1) from (dot_succ hr hx).symm] at hP
      have hov : over (ownS (outL (coefD l ms) i j (varsF l))) (j * 2) [.prim (.bool (decide (coefD l ms v (i + 1) < 0))), .frz ((dig (coefD l ms v (i + 1)).natAbs).map digC) .unk] = some (ownS (outL (coefD l ms) i (j + 1) (varsF l))) := by
        rw [← outL_set _ _ hv]; exact own_over (false, coefD l ms v (i + 1)) hon
      simp only [linA, coefsA, bigC] at hC hP
      simp only [ownC] at hld
      simp only [zA, bigA, digA] at hP
      simp (maxSteps := 1000000) +contextual (disch := first | with_reducible assumption | exact ⟨rfl⟩ | exact ⟨rfl, rfl⟩ | (refine _root_.id ?_; kernel_rfl) | omega) only [evs, ext_mv, nth, put, putT, getT, binInt, binStr, binBool, aUn, outA, resA, mapO, resA1, oneOf, w1, w2, w3, bots, cond_true, cond_false, if_true, if_false, ite_true, ite_false, reduceIte, reduceCtorEq, implies_true, Nat.reduceAdd, Nat.reduceSub, AV.int, AV.bool, AV.str, Nat.reduceBEq, Nat.reduceEqDiff, Nat.reduceMul, Nat.reduceLT, Nat.reduceLeDiff, Int.reduceNeg, BEq.rfl, beq_self_eq_true, tabl, cellsOf, fldA, ldA, stA, entAt, partA, takeN, over, leafOk, Value.oneCell', idxA, nilA, cellsEq, fillA, elemsA, pure1, pure2, reps, chkA, tys, Try.results10, KX_draw, KX_drawQ, KX_tail, lastO_one, lastO_more, dropL_one, dropL_more, callP_eq, callM_true, e0, e1, e4, e5, e6, e10, e11, e12, e13, e14, d3, rowsA, bigsA, strsA, hr', hx', hv', hC, hP, hld, hov, hjw, hlt2]
      exact IH (j + 1) _ (by first | omega | (simp only; omega)) ⟨rfl, by first | omega | (dsimp only; omega), (by first | rfl | simp only [getT, List.map_append, List.map_cons, List.map_nil, and_self]), (by first | rfl | simp only [getT, List.map_append, List.map_cons, List.map_nil, and_self]), (by first | rfl | simp only [getT, List.map_append, List.map_cons, List.map_nil, and_self]), (by first | rfl | simp only [getT, List.map_append, List.map_cons, List.map_nil, and_self]), (by first | rfl | simp only [getT, List.map_append, List.map_cons, List.map_nil, and_self]), (by first | rfl | simp only [getT, List.map_append, List.map_cons, List.map_nil, and_self]), (by first | rfl | simp only [getT, List.map_append, List.map_cons, List.map_nil, and_self]), (by first | rfl | simp only [getT, List.map_append, List.map_cons, List.map_nil, and_self]), (by first | rfl | simp only [getT, List.map_append, List.map_cons, List.map_nil, and_self]), (by first | rfl | simp only [getT, List.map_append, List.map_cons, List.map_nil, and_self]), (by first | rfl | simp only [getT, List.map_append, List.map_cons, List.map_nil, and_self])⟩
    · have d3 : decide ((j : Int) < ((varsF l).length : Int)) = false := by simpa using hlt2
      have hje : j = (varsF l).length := by omega
      subst hje
      rw [outL_next]
      have hP := fun S tk k => R14_plus' S tk k (i == 0) (constD l ms i) m r.2.1 (ok_le (by omega) (dot_lt hk1 hm i)) hmm (hk1 r (mem_nth hr)) (by
        have h9 : constD l ms i + vB m * r.2.1 = constD l ms (i + 1) := (dot_succ hr hx).symm
        rw [h9]; exact ok_le (by omega) (dot_lt hk1 hm (i + 1)))
      rw [show constD l ms i + vB m * r.2.1 = constD l ms (i + 1) from (dot_succ hr hx).symm] at hP
      simp only [bigC, zA, bigA, digA] at hP
      simp (maxSteps := 1000000) +contextual (disch := first | with_reducible assumption | exact ⟨rfl⟩ | exact ⟨rfl, rfl⟩ | (refine _root_.id ?_; kernel_rfl) | omega) only [evs, ext_mv, nth, put, putT, getT, binInt, binStr, binBool, aUn, outA, resA, mapO, resA1, oneOf, w1, w2, w3, bots, cond_true, cond_false, if_true, if_false, ite_true, ite_false, reduceIte, reduceCtorEq, implies_true, Nat.reduceAdd, Nat.reduceSub, AV.int, AV.bool, AV.str, Nat.reduceBEq, Nat.reduceEqDiff, Nat.reduceMul, Nat.reduceLT, Nat.reduceLeDiff, Int.reduceNeg, BEq.rfl, beq_self_eq_true, tabl, cellsOf, fldA, ldA, stA, entAt, partA, takeN, over, leafOk, Value.oneCell', idxA, nilA, cellsEq, fillA, elemsA, pure1, pure2, reps, chkA, tys, Try.results10, KX_draw, KX_drawQ, KX_tail, lastO_one, lastO_more, dropL_one, dropL_more, callP_eq, callM_true, e0, e1, e4, e5, e6, e10, e11, e12, e13, e14, d3, rowsA, bigsA, strsA, hr', hx', hP, hiw, ownC]
      exact OUT (i + 1) _ (by first | omega | (simp only; omega)) ⟨rfl, by first | omega | (dsimp only; omega), (by first | rfl | simp only [getT, List.map_append, List.map_cons, List.map_nil, and_self]), (by first | rfl | simp only [getT, List.map_append, List.map_cons, List.map_nil, and_self]), (by first | rfl | simp only [getT, List.map_append, List.map_cons, List.map_nil, and_self]), (by first | rfl | simp only [getT, List.map_append, List.map_cons, List.map_nil, and_self]), (by first | rfl | simp only [getT, List.map_append, List.map_cons, List.map_nil, and_self]), (by first | rfl | simp only [getT, List.map_append, List.map_cons, List.map_nil, and_self]), (by first | rfl | simp only [getT, List.map_append, List.map_cons, List.map_nil, and_self]), (by first | rfl | simp only [getT, List.map_append, List.map_cons, List.map_nil, and_self]), (by first | rfl | simp only [getT, List.map_append, List.map_cons, List.map_nil, and_self]), (by first | rfl | simp only [getT, List.map_append, List.map_cons, List.map_nil, and_self])⟩
  · have d2 : decide ((i : Int) < (l.length : Int)) = false := by simpa using hlt
    have hie : i = l.length := by omega
    subst hie
    have hrw := own_rows (n := (varsF l).length) (l := outL (coefD l ms) l.length 0 (varsF l)) (by rw [outL_len]; omega)
    rw [List.take_of_length_le (by rw [outL_len]; omega)] at hrw
    have hfz := own_fz (outL (coefD l ms) l.length 0 (varsF l))
    rw [outL_out] at hfz
    simp (maxSteps := 1000000) +contextual (disch := first | with_reducible assumption | exact ⟨rfl⟩ | exact ⟨rfl, rfl⟩ | (refine _root_.id ?_; kernel_rfl) | omega) only [evs, ext_mv, nth, put, putT, getT, binInt, binStr, binBool, aUn, outA, resA, mapO, resA1, oneOf, w1, w2, w3, bots, cond_true, cond_false, if_true, if_false, ite_true, ite_false, reduceIte, reduceCtorEq, implies_true, Nat.reduceAdd, Nat.reduceSub, AV.int, AV.bool, AV.str, Nat.reduceBEq, Nat.reduceEqDiff, Nat.reduceMul, Nat.reduceLT, Nat.reduceLeDiff, Int.reduceNeg, BEq.rfl, beq_self_eq_true, tabl, cellsOf, fldA, ldA, stA, entAt, partA, takeN, over, leafOk, Value.oneCell', idxA, nilA, cellsEq, fillA, elemsA, pure1, pure2, reps, chkA, tys, Try.results10, KX_draw, KX_drawQ, KX_tail, lastO_one, lastO_more, dropL_one, dropL_more, callP_eq, callM_true, e0, e1, e4, e5, e6, e10, e11, e12, e13, d2, rowsA, bigsA, hrw, ownC]
    rw [hfz]
    have : combE l ms = 0 := by rw [hcE, hs]
    simp only [combA, this]
    rfl
end
end Go.Proofs.Ytmgbmbganlndkaa
/-
  Which combinations refute; equal lists: of the reference.
-/

namespace Go.Proofs.Ytmgbmbganlndkaa
open Go

def noSums (l : List RowT) (ms : List BigT) (vs : List ByteArray) : Bool := vs.all fun v => decide (sumF l ms v = 0)
def checkB (l : List RowT) (ms : List BigT) : Bool := decide (combE l ms = 0) && (decide (0 < constF l ms) && noSums l ms (varsF l))
def sameB : List BigT → List BigT → Bool
  | [], [] => true
  | a :: l, b :: r => decide (a.1 = b.1 ∧ a.2 = b.2) && sameB l r
  | _, _ => false
theorem sameB_len : ∀ {l r : List BigT}, l.length ≠ r.length → sameB l r = false
  | [], [], h => absurd rfl h
  | [], _ :: _, _ => rfl
  | _ :: _, [], _ => rfl
  | a :: l, b :: r, h => by rw [sameB, sameB_len (l := l) (r := r) (by simpa using h), Bool.and_false]
theorem sameB_eq : ∀ {l r : List BigT}, sameB l r = true ↔ l = r
  | [], [] => by simp [sameB]
  | [], _ :: _ => by simp [sameB]
  | _ :: _, [] => by simp [sameB]
  | a :: l, b :: r => by
    rw [sameB, Bool.and_eq_true, sameB_eq (l := l) (r := r), decide_eq_true_iff, List.cons.injEq, Prod.ext_iff]
theorem dig_len_eq (X : Nat) : (((dig X).length : Int) == 0) = decide (X = 0) := by
  have := dig_nil (n := X)
  by_cases h : X = 0
  · subst h; rw [dig_zero]; rfl
  · have h2 : dig X ≠ [] := fun h' => h (this.1 h')
    rw [len_eq_zero h2]; simp [h]
section
variable (S : List Ent) (tk : List Nat) (k : Nat)
set_option maxHeartbeats 1000000 in
theorem R14_Check (l : List RowT) (ms : List BigT) (hl0 : ∀ r ∈ l, r.1.length ≤ 1048576) (hl1 : l.length ≤ 1048576) (hm : ∀ m ∈ ms, m.2.length ≤ 100) : cL Try.prog 14 [rowsA l, bigsA ms] S tk k = some (.bool (checkB l ms), S, tk, k) := by
  have hC := fun S tk k => R14_Combine S tk k l ms hl0 hl1 hm
  have dz : ((0 : Int) != 0) = false := rfl
  refine call_pure Try.func14 rfl rfl (by decide +kernel) (by decide +kernel) Try.ntmps14 rfl rfl _ _ _ rfl ?_; rw [RK_KX]
  by_cases hE : combE l ms = 0
  · simp only [combA, hE, if_true] at hC
    have hvl : (varsF l).length ≤ 24 := by
      have : sysE l = 0 := by
        unfold combE at hE
        split at hE
        · cases hE
        · split at hE
          · cases hE
          · split at hE
            · cases hE
            · exact hE
      exact (sys_few this).2.2.1
    have hB : checkB l ms = (decide (0 < constF l ms) && noSums l ms (varsF l)) := by simp [checkB, hE]
    rw [hB]
    simp only [rowsA, bigsA, zA, bigA, digA] at hC
    have hlen := dig_len_eq (constF l ms).natAbs
    generalize constF l ms = c at *
    by_cases h1 : c < 0
    · have d1 : decide (c < 0) = true := by simpa using h1
      simp (maxSteps := 1000000) +contextual (disch := first | with_reducible assumption | exact ⟨rfl⟩ | exact ⟨rfl, rfl⟩ | (refine _root_.id ?_; kernel_rfl) | omega) only [evs, ext_mv, nth, put, putT, getT, binInt, binStr, binBool, aUn, outA, resA, mapO, resA1, oneOf, w1, w2, w3, bots, cond_true, cond_false, if_true, if_false, ite_true, ite_false, reduceIte, reduceCtorEq, implies_true, Nat.reduceAdd, Nat.reduceSub, AV.int, AV.bool, AV.str, Nat.reduceBEq, Nat.reduceEqDiff, Nat.reduceMul, Nat.reduceLT, Nat.reduceLeDiff, Int.reduceNeg, BEq.rfl, beq_self_eq_true, tabl, cellsOf, fldA, ldA, stA, entAt, partA, takeN, over, leafOk, Value.oneCell', idxA, nilA, cellsEq, fillA, elemsA, pure1, pure2, reps, chkA, tys, Try.results14, KX_draw, KX_drawQ, KX_tail, lastO_one, lastO_more, dropL_one, dropL_more, callP_eq, callM_true, rowsA, bigsA, hC, d1, dz]
      have : decide (0 < c) = false := by simp; omega
      rw [this]; rfl
    have d1 : decide (c < 0) = false := by simpa using h1
    by_cases h2 : c = 0
    · have d2 : decide (c.natAbs = 0) = true := by simp [h2]
      simp (maxSteps := 1000000) +contextual (disch := first | with_reducible assumption | exact ⟨rfl⟩ | exact ⟨rfl, rfl⟩ | (refine _root_.id ?_; kernel_rfl) | omega) only [evs, ext_mv, nth, put, putT, getT, binInt, binStr, binBool, aUn, outA, resA, mapO, resA1, oneOf, w1, w2, w3, bots, cond_true, cond_false, if_true, if_false, ite_true, ite_false, reduceIte, reduceCtorEq, implies_true, Nat.reduceAdd, Nat.reduceSub, AV.int, AV.bool, AV.str, Nat.reduceBEq, Nat.reduceEqDiff, Nat.reduceMul, Nat.reduceLT, Nat.reduceLeDiff, Int.reduceNeg, BEq.rfl, beq_self_eq_true, tabl, cellsOf, fldA, ldA, stA, entAt, partA, takeN, over, leafOk, Value.oneCell', idxA, nilA, cellsEq, fillA, elemsA, pure1, pure2, reps, chkA, tys, Try.results14, KX_draw, KX_drawQ, KX_tail, lastO_one, lastO_more, dropL_one, dropL_more, callP_eq, callM_true, rowsA, bigsA, hC, d1, hlen, d2, dz]
      have : decide (0 < c) = false := by simp; omega
      rw [this]; rfl
    have d2 : decide (c.natAbs = 0) = false := by simpa using h2
    have d3 : decide (0 < c) = true := by simp; omega
    rw [d3, Bool.true_and]
    simp (maxSteps := 1000000) +contextual (disch := first | with_reducible assumption | exact ⟨rfl⟩ | exact ⟨rfl, rfl⟩ | (refine _root_.id ?_; kernel_rfl) | omega) only [evs, ext_mv, nth, put, putT, getT, binInt, binStr, binBool, aUn, outA, resA, mapO, resA1, oneOf, w1, w2, w3, bots, cond_true, cond_false, if_true, if_false, ite_true, ite_false, reduceIte, reduceCtorEq, implies_true, Nat.reduceAdd, Nat.reduceSub, AV.int, AV.bool, AV.str, Nat.reduceBEq, Nat.reduceEqDiff, Nat.reduceMul, Nat.reduceLT, Nat.reduceLeDiff, Int.reduceNeg, BEq.rfl, beq_self_eq_true, tabl, cellsOf, fldA, ldA, stA, entAt, partA, takeN, over, leafOk, Value.oneCell', idxA, nilA, cellsEq, fillA, elemsA, pure1, pure2, reps, chkA, tys, Try.results14, KX_draw, KX_drawQ, KX_tail, lastO_one, lastO_more, dropL_one, dropL_more, callP_eq, callM_true, rowsA, bigsA, hC, d1, hlen, d2, dz]
    refine loop1 (fun x st => st.T.length = 41 ∧ (x ≤ (varsF l).length) ∧ (noSums l ms (varsF l) = noSums l ms ((varsF l).drop x)) ∧ getT st.T 5 = bigsA ((varsF l).map fun v => zB (sumF l ms v)) ∧ getT st.T 8 = .int (x : Nat) ∧ st.S = [⟨0, [.bool false, .frz ((dig c.natAbs).map digC) .unk]⟩]) (fun x => (varsF l).length - x) (fun x => .bool (noSums l ms (varsF l))) (0) ?_ ?_
    case refine_2 => exact ⟨rfl, Nat.zero_le _, rfl, rfl, rfl, rfl⟩
    rintro i ⟨T, S', tk', n'⟩ ⟨hl, hi, hE, e5, e8, eS⟩ IH
    subst eS
    obtain ⟨g, hg, hT⟩ := tab_of hl
    rw [hg] at e5 e8
    subst hT
    clear hg hl
    have hiw := wrap_add (i := i) (by omega)
    by_cases hlt : i < (varsF l).length
    · have e1 : decide ((i : Int) < ((varsF l).length : Int)) = true := by simpa using hlt
      obtain ⟨v, hv⟩ := nth_some hlt
      have hx' : nth (((varsF l).map fun v => zB (sumF l ms v)).map bigC) i = some [.prim (.bool (decide (sumF l ms v < 0))), .frz ((dig (sumF l ms v).natAbs).map digC) .unk] := by rw [nth_map, nth_map, hv]; rfl
      have hp := len_pos_dig (sumF l ms v).natAbs
      rw [nth_drop hv] at hE
      by_cases h0 : sumF l ms v = 0
      · have d4 : decide ((sumF l ms v).natAbs = 0) = true := by simp [h0]
        have hE2 : noSums l ms (varsF l) = noSums l ms ((varsF l).drop (i + 1)) := by
          rw [hE]; simp [noSums, h0]
        simp (maxSteps := 1000000) +contextual (disch := first | with_reducible assumption | exact ⟨rfl⟩ | exact ⟨rfl, rfl⟩ | (refine _root_.id ?_; kernel_rfl) | omega) only [evs, ext_mv, nth, put, putT, getT, binInt, binStr, binBool, aUn, outA, resA, mapO, resA1, oneOf, w1, w2, w3, bots, cond_true, cond_false, if_true, if_false, ite_true, ite_false, reduceIte, reduceCtorEq, implies_true, Nat.reduceAdd, Nat.reduceSub, AV.int, AV.bool, AV.str, Nat.reduceBEq, Nat.reduceEqDiff, Nat.reduceMul, Nat.reduceLT, Nat.reduceLeDiff, Int.reduceNeg, BEq.rfl, beq_self_eq_true, tabl, cellsOf, fldA, ldA, stA, entAt, partA, takeN, over, leafOk, Value.oneCell', idxA, nilA, cellsEq, fillA, elemsA, pure1, pure2, reps, chkA, tys, Try.results14, KX_draw, KX_drawQ, KX_tail, lastO_one, lastO_more, dropL_one, dropL_more, callP_eq, callM_true, e5, e8, e1, bigsA, hx', hp, d4, hiw]
        exact IH (i + 1) _ (by first | omega | (simp only; omega)) ⟨rfl, by first | omega | (dsimp only; omega), hE2, (by first | rfl | simp only [getT, List.map_append, List.map_cons, List.map_nil, and_self]), (by first | rfl | simp only [getT, List.map_append, List.map_cons, List.map_nil, and_self]), (by first | rfl | simp only [getT, List.map_append, List.map_cons, List.map_nil, and_self])⟩
      · have d4 : decide ((sumF l ms v).natAbs = 0) = false := by simpa using h0
        have hE2 : noSums l ms (varsF l) = false := by
          rw [hE]; simp [noSums, h0]
        simp (maxSteps := 1000000) +contextual (disch := first | with_reducible assumption | exact ⟨rfl⟩ | exact ⟨rfl, rfl⟩ | (refine _root_.id ?_; kernel_rfl) | omega) only [evs, ext_mv, nth, put, putT, getT, binInt, binStr, binBool, aUn, outA, resA, mapO, resA1, oneOf, w1, w2, w3, bots, cond_true, cond_false, if_true, if_false, ite_true, ite_false, reduceIte, reduceCtorEq, implies_true, Nat.reduceAdd, Nat.reduceSub, AV.int, AV.bool, AV.str, Nat.reduceBEq, Nat.reduceEqDiff, Nat.reduceMul, Nat.reduceLT, Nat.reduceLeDiff, Int.reduceNeg, BEq.rfl, beq_self_eq_true, tabl, cellsOf, fldA, ldA, stA, entAt, partA, takeN, over, leafOk, Value.oneCell', idxA, nilA, cellsEq, fillA, elemsA, pure1, pure2, reps, chkA, tys, Try.results14, KX_draw, KX_drawQ, KX_tail, lastO_one, lastO_more, dropL_one, dropL_more, callP_eq, callM_true, e5, e8, e1, bigsA, hx', hp, d4, hiw]
        rw [hE2]
    · have e1 : decide ((i : Int) < ((varsF l).length : Int)) = false := by simpa using hlt
      have hie : i = (varsF l).length := by omega
      subst hie
      rw [List.drop_length] at hE
      simp (maxSteps := 1000000) +contextual (disch := first | with_reducible assumption | exact ⟨rfl⟩ | exact ⟨rfl, rfl⟩ | (refine _root_.id ?_; kernel_rfl) | omega) only [evs, ext_mv, nth, put, putT, getT, binInt, binStr, binBool, aUn, outA, resA, mapO, resA1, oneOf, w1, w2, w3, bots, cond_true, cond_false, if_true, if_false, ite_true, ite_false, reduceIte, reduceCtorEq, implies_true, Nat.reduceAdd, Nat.reduceSub, AV.int, AV.bool, AV.str, Nat.reduceBEq, Nat.reduceEqDiff, Nat.reduceMul, Nat.reduceLT, Nat.reduceLeDiff, Int.reduceNeg, BEq.rfl, beq_self_eq_true, tabl, cellsOf, fldA, ldA, stA, entAt, partA, takeN, over, leafOk, Value.oneCell', idxA, nilA, cellsEq, fillA, elemsA, pure1, pure2, reps, chkA, tys, Try.results14, KX_draw, KX_drawQ, KX_tail, lastO_one, lastO_more, dropL_one, dropL_more, callP_eq, callM_true, e5, e8, e1, bigsA]
      rw [hE]; rfl
  · have d0 : (combE l ms != 0) = true := by simpa using hE
    have hB : checkB l ms = false := by simp [checkB, hE]
    simp only [combA, if_neg hE] at hC
    simp only [rowsA, bigsA, zA, bigA, digA] at hC
    simp (maxSteps := 1000000) +contextual (disch := first | with_reducible assumption | exact ⟨rfl⟩ | exact ⟨rfl, rfl⟩ | (refine _root_.id ?_; kernel_rfl) | omega) only [evs, ext_mv, nth, put, putT, getT, binInt, binStr, binBool, aUn, outA, resA, mapO, resA1, oneOf, w1, w2, w3, bots, cond_true, cond_false, if_true, if_false, ite_true, ite_false, reduceIte, reduceCtorEq, implies_true, Nat.reduceAdd, Nat.reduceSub, AV.int, AV.bool, AV.str, Nat.reduceBEq, Nat.reduceEqDiff, Nat.reduceMul, Nat.reduceLT, Nat.reduceLeDiff, Int.reduceNeg, BEq.rfl, beq_self_eq_true, tabl, cellsOf, fldA, ldA, stA, entAt, partA, takeN, over, leafOk, Value.oneCell', idxA, nilA, cellsEq, fillA, elemsA, pure1, pure2, reps, chkA, tys, Try.results14, KX_draw, KX_drawQ, KX_tail, lastO_one, lastO_more, dropL_one, dropL_more, callP_eq, callM_true, rowsA, bigsA, hC, d0]
    rw [hB]
theorem R14_Same (l r : List BigT) (hl : l.length ≤ 1048576) (hm : ∀ m ∈ l, m.2.length ≤ 1000000) : cL Try.prog 11 [bigsA l, bigsA r] S tk k = some (.bool (sameB l r), S, tk, k) := by
  refine call_pure Try.func11 rfl rfl (by decide +kernel) (by decide +kernel) Try.ntmps11 rfl rfl _ _ _ rfl ?_; rw [RK_KX]
  by_cases hlen : l.length ≠ r.length
  · have d0 : ((l.length : Int) != (r.length : Int)) = true := by simp; omega
    simp (maxSteps := 1000000) +contextual (disch := first | with_reducible assumption | exact ⟨rfl⟩ | exact ⟨rfl, rfl⟩ | (refine _root_.id ?_; kernel_rfl) | omega) only [evs, ext_mv, nth, put, putT, getT, binInt, binStr, binBool, aUn, outA, resA, mapO, resA1, oneOf, w1, w2, w3, bots, cond_true, cond_false, if_true, if_false, ite_true, ite_false, reduceIte, reduceCtorEq, implies_true, Nat.reduceAdd, Nat.reduceSub, AV.int, AV.bool, AV.str, Nat.reduceBEq, Nat.reduceEqDiff, Nat.reduceMul, Nat.reduceLT, Nat.reduceLeDiff, Int.reduceNeg, BEq.rfl, beq_self_eq_true, tabl, cellsOf, fldA, ldA, stA, entAt, partA, takeN, over, leafOk, Value.oneCell', idxA, nilA, cellsEq, fillA, elemsA, pure1, pure2, reps, chkA, tys, Try.results11, KX_draw, KX_drawQ, KX_tail, lastO_one, lastO_more, dropL_one, dropL_more, callP_eq, callM_true, bigsA, d0]
    rw [sameB_len hlen]
  have hlen' : l.length = r.length := by omega
  have d0 : ((l.length : Int) != (r.length : Int)) = false := by simp; omega
  simp (maxSteps := 1000000) +contextual (disch := first | with_reducible assumption | exact ⟨rfl⟩ | exact ⟨rfl, rfl⟩ | (refine _root_.id ?_; kernel_rfl) | omega) only [evs, ext_mv, nth, put, putT, getT, binInt, binStr, binBool, aUn, outA, resA, mapO, resA1, oneOf, w1, w2, w3, bots, cond_true, cond_false, if_true, if_false, ite_true, ite_false, reduceIte, reduceCtorEq, implies_true, Nat.reduceAdd, Nat.reduceSub, AV.int, AV.bool, AV.str, Nat.reduceBEq, Nat.reduceEqDiff, Nat.reduceMul, Nat.reduceLT, Nat.reduceLeDiff, Int.reduceNeg, BEq.rfl, beq_self_eq_true, tabl, cellsOf, fldA, ldA, stA, entAt, partA, takeN, over, leafOk, Value.oneCell', idxA, nilA, cellsEq, fillA, elemsA, pure1, pure2, reps, chkA, tys, Try.results11, KX_draw, KX_drawQ, KX_tail, lastO_one, lastO_more, dropL_one, dropL_more, callP_eq, callM_true, bigsA, d0]
  refine loop1 (fun x st => st.T.length = 27 ∧ (x ≤ l.length) ∧ (sameB l r = sameB (l.drop x) (r.drop x)) ∧ getT st.T 0 = bigsA l ∧ getT st.T 1 = bigsA r ∧ getT st.T 5 = .int (x : Nat) ∧ st.S = []) (fun x => l.length - x) (fun x => .bool (sameB l r)) (0) ?_ ?_
  case refine_2 => exact ⟨rfl, Nat.zero_le _, rfl, rfl, rfl, rfl, rfl⟩
  rintro i ⟨T, S', tk', n'⟩ ⟨hl, hi, hE, e0, e1, e5, eS⟩ IH
  subst eS
  obtain ⟨g, hg, hT⟩ := tab_of hl
  rw [hg] at e0 e1 e5
  subst hT
  clear hg hl
  have hiw := wrap_add (i := i) (by omega)
  by_cases hlt : i < l.length
  · have d1 : decide ((i : Int) < (l.length : Int)) = true := by simpa using hlt
    obtain ⟨a, hx⟩ := nth_some hlt
    obtain ⟨b, hy⟩ := nth_some (show i < r.length by omega)
    have hx' := nth_big hx
    have hy' := nth_big hy
    have hR := fun S tk k => R02_Same S tk k a.1 b.1 a.2 b.2 (hm a (mem_nth hx))
    rw [nth_drop hx, nth_drop hy, sameB] at hE
    simp only [bigC] at hx' hy'
    simp only [bigA, digA] at hR
    cases h0 : decide (a.1 = b.1 ∧ a.2 = b.2) with
    | true =>
      rw [h0] at hR
      rw [h0, Bool.true_and] at hE
      simp (maxSteps := 1000000) +contextual (disch := first | with_reducible assumption | exact ⟨rfl⟩ | exact ⟨rfl, rfl⟩ | (refine _root_.id ?_; kernel_rfl) | omega) only [evs, ext_mv, nth, put, putT, getT, binInt, binStr, binBool, aUn, outA, resA, mapO, resA1, oneOf, w1, w2, w3, bots, cond_true, cond_false, if_true, if_false, ite_true, ite_false, reduceIte, reduceCtorEq, implies_true, Nat.reduceAdd, Nat.reduceSub, AV.int, AV.bool, AV.str, Nat.reduceBEq, Nat.reduceEqDiff, Nat.reduceMul, Nat.reduceLT, Nat.reduceLeDiff, Int.reduceNeg, BEq.rfl, beq_self_eq_true, tabl, cellsOf, fldA, ldA, stA, entAt, partA, takeN, over, leafOk, Value.oneCell', idxA, nilA, cellsEq, fillA, elemsA, pure1, pure2, reps, chkA, tys, Try.results11, KX_draw, KX_drawQ, KX_tail, lastO_one, lastO_more, dropL_one, dropL_more, callP_eq, callM_true, e0, e1, e5, d1, bigsA, hx', hy', hR, hiw]
      exact IH (i + 1) _ (by first | omega | (simp only; omega)) ⟨rfl, by first | omega | (dsimp only; omega), hE, (by first | rfl | simp only [getT, List.map_append, List.map_cons, List.map_nil, and_self]), (by first | rfl | simp only [getT, List.map_append, List.map_cons, List.map_nil, and_self]), (by first | rfl | simp only [getT, List.map_append, List.map_cons, List.map_nil, and_self]), (by first | rfl | simp only [getT, List.map_append, List.map_cons, List.map_nil, and_self])⟩
    | false =>
      rw [h0] at hR
      rw [h0, Bool.false_and] at hE
      simp (maxSteps := 1000000) +contextual (disch := first | with_reducible assumption | exact ⟨rfl⟩ | exact ⟨rfl, rfl⟩ | (refine _root_.id ?_; kernel_rfl) | omega) only [evs, ext_mv, nth, put, putT, getT, binInt, binStr, binBool, aUn, outA, resA, mapO, resA1, oneOf, w1, w2, w3, bots, cond_true, cond_false, if_true, if_false, ite_true, ite_false, reduceIte, reduceCtorEq, implies_true, Nat.reduceAdd, Nat.reduceSub, AV.int, AV.bool, AV.str, Nat.reduceBEq, Nat.reduceEqDiff, Nat.reduceMul, Nat.reduceLT, Nat.reduceLeDiff, Int.reduceNeg, BEq.rfl, beq_self_eq_true, tabl, cellsOf, fldA, ldA, stA, entAt, partA, takeN, over, leafOk, Value.oneCell', idxA, nilA, cellsEq, fillA, elemsA, pure1, pure2, reps, chkA, tys, Try.results11, KX_draw, KX_drawQ, KX_tail, lastO_one, lastO_more, dropL_one, dropL_more, callP_eq, callM_true, e0, e1, e5, d1, bigsA, hx', hy', hR, hiw]
      rw [hE]
  · have d1 : decide ((i : Int) < (l.length : Int)) = false := by simpa using hlt
    have hie : i = l.length := by omega
    subst hie
    rw [List.drop_length, hlen', List.drop_length] at hE
    simp (maxSteps := 1000000) +contextual (disch := first | with_reducible assumption | exact ⟨rfl⟩ | exact ⟨rfl, rfl⟩ | (refine _root_.id ?_; kernel_rfl) | omega) only [evs, ext_mv, nth, put, putT, getT, binInt, binStr, binBool, aUn, outA, resA, mapO, resA1, oneOf, w1, w2, w3, bots, cond_true, cond_false, if_true, if_false, ite_true, ite_false, reduceIte, reduceCtorEq, implies_true, Nat.reduceAdd, Nat.reduceSub, AV.int, AV.bool, AV.str, Nat.reduceBEq, Nat.reduceEqDiff, Nat.reduceMul, Nat.reduceLT, Nat.reduceLeDiff, Int.reduceNeg, BEq.rfl, beq_self_eq_true, tabl, cellsOf, fldA, ldA, stA, entAt, partA, takeN, over, leafOk, Value.oneCell', idxA, nilA, cellsEq, fillA, elemsA, pure1, pure2, reps, chkA, tys, Try.results11, KX_draw, KX_drawQ, KX_tail, lastO_one, lastO_more, dropL_one, dropL_more, callP_eq, callM_true, e0, e1, e5, d1, bigsA]
    rw [hE]; rfl
end
end Go.Proofs.Ytmgbmbganlndkaa
/-
  Refutations made smaller; numbers that are used: of the reference.
-/

namespace Go.Proofs.Ytmgbmbganlndkaa
open Go

def usedL : Nat → List BigT → List Int
  | _, [] => []
  | i, m :: ms => if vB m = 0 then usedL (i + 1) ms else (i : Int) :: usedL (i + 1) ms
theorem used_len : ∀ (i : Nat) (ms : List BigT), (usedL i ms).length ≤ ms.length
  | _, [] => Nat.le_refl _
  | i, m :: ms => by
    have := used_len (i + 1) ms
    unfold usedL
    split <;> simp <;> omega
/-- the greatest common divisor of the first numbers -/
def gcdN (ms : List BigT) : Nat → Int
  | 0 => 0
  | i + 1 => match nth ms i with | some m => ((gcdN ms i).gcd (vB m) : Nat) | none => gcdN ms i
theorem gcd_succ {ms : List BigT} {i : Nat} {m : BigT} (h : nth ms i = some m) : gcdN ms (i + 1) = ((gcdN ms i).gcd (vB m) : Nat) := by rw [gcdN, h]
theorem gcd_lt {ms : List BigT} (hm : ∀ m ∈ ms, m.2.length ≤ 100) : ∀ i, (gcdN ms i).natAbs < 10000 ^ 100
  | 0 => by simp only [gcdN, Int.natAbs_zero]; exact Nat.pow_pos (by decide)
  | i + 1 => by
    have ih := gcd_lt hm i
    rw [gcdN]
    cases h : nth ms i with
    | none => exact ih
    | some m =>
      simp only [Int.natAbs_natCast]
      have hv : (vB m).natAbs < 10000 ^ 100 := V_small m.1 m.2 (hm m (mem_nth h))
      unfold Int.gcd
      by_cases h0 : (vB m).natAbs = 0
      · rw [h0, Nat.gcd_zero_right]; exact ih
      · exact Nat.lt_of_le_of_lt (Nat.gcd_le_right _ (by omega)) hv
theorem gcd_ok {ms : List BigT} (hm : ∀ m ∈ ms, m.2.length ≤ 100) (i : Nat) : okZ (gcdN ms i) = true := okZ_of (gcd_lt hm i) (by decide)
def gcdC (ms : List BigT) : Nat → List AV
  | 0 => [.prim (.bool false), .frz [] .nilc]
  | i + 1 => ownC (false, gcdN ms (i + 1))
theorem gcdC_eq (ms : List BigT) (i : Nat) : gcdC ms i = ownC (i == 0, gcdN ms i) := by
  cases i with
  | zero => simp [gcdC, ownC, gcdN, dig_zero, ownCap]
  | succ i => rfl
def quoZ (a b : Int) : Int := if b = 0 then 0 else a.fdiv b
def remZ (a b : Int) : Int := if b = 0 then 0 else a.fmod b
def trimL' (ms : List BigT) : List BigT := ms.map fun m => zB (quoZ (vB m) (gcdN ms ms.length))
theorem rowsOk_big (l : List BigT) : rowsOk 2 (l.map bigC) = true := rowsOk_map (f := bigC) (sz := 2) (fun _ => rfl) l
theorem gcd_w (P : Program) [Globs] [Ext P] {f : FuncId} {p q : Bool} {l r : List Int} {c : Bool} {S : List Ent} {tk : List Nat} {k : Nat} (hx : (Ext.on P f || Ext.mv P f) = false) :
    cL P f [.agg [.prim (.bool p), .frz (l.map digC) (ownCap c)], bigA q r] S tk k = cL P f [bigA p l, bigA q r] S tk k := cL_w2 rfl rfl hx
theorem div_w (P : Program) [Globs] [Ext P] {f : FuncId} {p q : Bool} {l r : List Int} {c : Bool} {S : List Ent} {tk : List Nat} {k : Nat} (hx : (Ext.on P f || Ext.mv P f) = false) :
    cL P f [bigA q r, .agg [.prim (.bool p), .frz (l.map digC) (ownCap c)]] S tk k = cL P f [bigA q r, bigA p l] S tk k := cL_w2 rfl rfl hx
section
variable (S : List Ent) (tk : List Nat) (k : Nat)
theorem R02_zero (p : Bool) (l : List Int) (hl : l.length ≤ 1000000) : cL Try.prog 45 [bigA p l, .agg [.bool false, .frz [] .nilc]] S tk k = some (.int (cmpZ (V p l) 0), S, tk, k) := by
  refine (cL_w2 (args := [bigA p l, .agg [.bool false, .frz [] .nilc]]) (args' := [bigA p l, bigA false []]) rfl rfl rfl).trans ?_
  rw [R02_Cmp _ _ _ p false l [] hl (by simp)]; rfl
theorem cmp_ne (z : Int) : (cmpZ z 0 != 0) = !decide (z = 0) := by
  unfold cmpZ
  by_cases h1 : z < 0
  · rw [if_pos h1]; have : ¬ z = 0 := by omega
    simp [this]
  · rw [if_neg h1]
    by_cases h2 : 0 < z
    · rw [if_pos h2]; have : ¬ z = 0 := by omega
      simp [this]
    · rw [if_neg h2]; have : z = 0 := by omega
      simp [this]
theorem R14_Used (ms : List BigT) (hl : ms.length ≤ 1000) (hm : ∀ m ∈ ms, m.2.length ≤ 100) : cL Try.prog 19 [bigsA ms] S tk k = some (digA (usedL 0 ms), S, tk, k) := by
  refine call_pure Try.func19 rfl rfl (by decide +kernel) (by decide +kernel) Try.ntmps19 rfl rfl _ _ _ rfl ?_; rw [RK_KX]
  simp (maxSteps := 1000000) +contextual (disch := first | with_reducible assumption | exact ⟨rfl⟩ | exact ⟨rfl, rfl⟩ | (refine _root_.id ?_; kernel_rfl) | omega) only [evs, ext_mv, nth, put, putT, getT, binInt, binStr, binBool, aUn, outA, resA, mapO, resA1, oneOf, w1, w2, w3, bots, cond_true, cond_false, if_true, if_false, ite_true, ite_false, reduceIte, reduceCtorEq, implies_true, Nat.reduceAdd, Nat.reduceSub, AV.int, AV.bool, AV.str, Nat.reduceBEq, Nat.reduceEqDiff, Nat.reduceMul, Nat.reduceLT, Nat.reduceLeDiff, Int.reduceNeg, BEq.rfl, beq_self_eq_true, tabl, cellsOf, fldA, ldA, stA, entAt, partA, takeN, over, leafOk, Value.oneCell', idxA, nilA, cellsEq, fillA, elemsA, pure1, pure2, reps, chkA, tys, Try.results19, KX_draw, KX_drawQ, KX_tail, lastO_one, lastO_more, dropL_one, dropL_more, callP_eq, callM_true, bigsA]
  refine loop1 (fun x st => st.T.length = 23 ∧ (x.1 ≤ ms.length) ∧ (x.2.1 ++ usedL x.1 (ms.drop x.1) = usedL 0 ms) ∧ (okCap st.tk x.2.2 1 = true) ∧ getT st.T 0 = bigsA ms ∧ getT st.T 3 = .frz (x.2.1.map digC) x.2.2 ∧ getT st.T 4 = .int (x.1 : Nat) ∧ st.S = []) (fun x => ms.length - x.1) (fun x => digA (usedL 0 ms)) (0, [], .nilc) ?_ ?_
  case refine_2 => exact ⟨rfl, Nat.zero_le _, rfl, rfl, rfl, rfl, rfl, rfl⟩
  rintro ⟨i, out, c⟩ ⟨T, S', tk', n'⟩ ⟨hl, hi, he, hok, e0, e3, e4, eS⟩ IH
  simp only at hi he hok e0 e3 e4 eS
  subst eS
  obtain ⟨g, hg, hT⟩ := tab_of hl
  rw [hg] at e0 e3 e4
  subst hT
  clear hg hl
  have hiw := wrap_add (i := i) (by omega)
  by_cases hlt : i < ms.length
  · have d1 : decide ((i : Int) < (ms.length : Int)) = true := by simpa using hlt
    obtain ⟨m, hx⟩ := nth_some hlt
    have hx' := nth_big hx
    have hR := fun S tk k => R02_zero S tk k m.1 m.2 (by have := hm m (mem_nth hx); omega)
    have hc := cmp_ne (V m.1 m.2)
    have hul := used_len 0 ms
    have hol : out.length ≤ ms.length := by
      have := congrArg List.length he
      simp at this; omega
    have hr := rowsOk_dig out
    have hok' := okCap_new hok
    have hn1 : (out.map digC).length + 1 ≤ 1048576 := by simp; omega
    rw [nth_drop hx, usedL] at he
    simp only [bigC] at hx'
    simp only [bigA, digA] at hR
    by_cases h0 : V m.1 m.2 = 0
    · have d2 : decide (V m.1 m.2 = 0) = true := by simpa using h0
      rw [show vB m = V m.1 m.2 from rfl, if_pos h0] at he
      simp (maxSteps := 1000000) +contextual (disch := first | with_reducible assumption | exact ⟨rfl⟩ | exact ⟨rfl, rfl⟩ | (refine _root_.id ?_; kernel_rfl) | omega) only [evs, ext_mv, nth, put, putT, getT, binInt, binStr, binBool, aUn, outA, resA, mapO, resA1, oneOf, w1, w2, w3, bots, cond_true, cond_false, if_true, if_false, ite_true, ite_false, reduceIte, reduceCtorEq, implies_true, Nat.reduceAdd, Nat.reduceSub, AV.int, AV.bool, AV.str, Nat.reduceBEq, Nat.reduceEqDiff, Nat.reduceMul, Nat.reduceLT, Nat.reduceLeDiff, Int.reduceNeg, BEq.rfl, beq_self_eq_true, tabl, cellsOf, fldA, ldA, stA, entAt, partA, takeN, over, leafOk, Value.oneCell', idxA, nilA, cellsEq, fillA, elemsA, pure1, pure2, reps, chkA, tys, Try.results19, KX_draw, KX_drawQ, KX_tail, lastO_one, lastO_more, dropL_one, dropL_more, callP_eq, callM_true, e0, e3, e4, d1, bigsA, hx', hR, hiw, hc, d2]
      exact IH (i + 1, out, c) _ (by first | omega | (simp only; omega)) ⟨rfl, by first | omega | (dsimp only; omega), he, hok, (by first | rfl | simp only [getT, List.map_append, List.map_cons, List.map_nil, and_self, digC, bigC, zB]), (by first | rfl | simp only [getT, List.map_append, List.map_cons, List.map_nil, and_self, digC, bigC, zB]), (by first | rfl | simp only [getT, List.map_append, List.map_cons, List.map_nil, and_self, digC, bigC, zB]), (by first | rfl | simp only [getT, List.map_append, List.map_cons, List.map_nil, and_self, digC, bigC, zB])⟩
    · have d2 : decide (V m.1 m.2 = 0) = false := by simpa using h0
      rw [show vB m = V m.1 m.2 from rfl, if_neg h0] at he
      simp (maxSteps := 1000000) +contextual (disch := first | with_reducible assumption | exact ⟨rfl⟩ | exact ⟨rfl, rfl⟩ | (refine _root_.id ?_; kernel_rfl) | omega) only [evs, ext_mv, nth, put, putT, getT, binInt, binStr, binBool, aUn, outA, resA, mapO, resA1, oneOf, w1, w2, w3, bots, cond_true, cond_false, if_true, if_false, ite_true, ite_false, reduceIte, reduceCtorEq, implies_true, Nat.reduceAdd, Nat.reduceSub, AV.int, AV.bool, AV.str, Nat.reduceBEq, Nat.reduceEqDiff, Nat.reduceMul, Nat.reduceLT, Nat.reduceLeDiff, Int.reduceNeg, BEq.rfl, beq_self_eq_true, tabl, cellsOf, fldA, ldA, stA, entAt, partA, takeN, over, leafOk, Value.oneCell', idxA, nilA, cellsEq, fillA, elemsA, pure1, pure2, reps, chkA, tys, Try.results19, KX_draw, KX_drawQ, KX_tail, lastO_one, lastO_more, dropL_one, dropL_more, callP_eq, callM_true, e0, e3, e4, d1, bigsA, hx', hR, hiw, hc, d2, hr]
      exact IH (i + 1, out ++ [(i : Int)], capNew tk' c 1) _ (by first | omega | (simp only; omega)) ⟨rfl, by first | omega | (dsimp only; omega), by rw [List.append_assoc]; exact he, hok', (by first | rfl | simp only [getT, List.map_append, List.map_cons, List.map_nil, and_self, digC, bigC, zB]), (by first | rfl | simp only [getT, List.map_append, List.map_cons, List.map_nil, and_self, digC, bigC, zB]), (by first | rfl | simp only [getT, List.map_append, List.map_cons, List.map_nil, and_self, digC, bigC, zB]), (by first | rfl | simp only [getT, List.map_append, List.map_cons, List.map_nil, and_self, digC, bigC, zB])⟩
  · have d1 : decide ((i : Int) < (ms.length : Int)) = false := by simpa using hlt
    have hie : i = ms.length := by omega
    subst hie
    rw [List.drop_length] at he
    simp only [usedL, List.append_nil] at he
    simp (maxSteps := 1000000) +contextual (disch := first | with_reducible assumption | exact ⟨rfl⟩ | exact ⟨rfl, rfl⟩ | (refine _root_.id ?_; kernel_rfl) | omega) only [evs, ext_mv, nth, put, putT, getT, binInt, binStr, binBool, aUn, outA, resA, mapO, resA1, oneOf, w1, w2, w3, bots, cond_true, cond_false, if_true, if_false, ite_true, ite_false, reduceIte, reduceCtorEq, implies_true, Nat.reduceAdd, Nat.reduceSub, AV.int, AV.bool, AV.str, Nat.reduceBEq, Nat.reduceEqDiff, Nat.reduceMul, Nat.reduceLT, Nat.reduceLeDiff, Int.reduceNeg, BEq.rfl, beq_self_eq_true, tabl, cellsOf, fldA, ldA, stA, entAt, partA, takeN, over, leafOk, Value.oneCell', idxA, nilA, cellsEq, fillA, elemsA, pure1, pure2, reps, chkA, tys, Try.results19, KX_draw, KX_drawQ, KX_tail, lastO_one, lastO_more, dropL_one, dropL_more, callP_eq, callM_true, e0, e3, e4, d1, bigsA]
    rw [he]; rfl
end
end Go.Proofs.Ytmgbmbganlndkaa
/-
  Refutations made smaller: of the reference. (DOES NOT BUILD YET: its region 12 makes two variables in a drawn order.)
-/

namespace Go.Proofs.Ytmgbmbganlndkaa
open Go
section
variable (S : List Ent) (tk : List Nat) (k : Nat)
set_option maxRecDepth 100000 in
set_option maxHeartbeats 1000000 in
theorem R14_Trim (l : List RowT) (ms : List BigT) (hl0 : ∀ r ∈ l, r.1.length ≤ 1048576) (hl1 : l.length ≤ 1048576) (hml : ms.length ≤ 1000) (hm : ∀ m ∈ ms, m.2.length ≤ 100) : cL Try.prog 16 [rowsA l, bigsA ms] S tk k = some (bigsA (if checkB l ms = true then trimL' ms else []), S, tk, k) := by
  have hC := fun S tk k => R14_Check S tk k l ms hl0 hl1 hm
  simp only [rowsA, bigsA] at hC
  refine call_pure Try.func16 rfl rfl (by decide +kernel) (by decide +kernel) Try.ntmps16 rfl rfl _ _ _ rfl ?_; rw [RK_KX]
  cases hc : checkB l ms with
  | false =>
    rw [hc] at hC
    simp (maxSteps := 1000000) +contextual (disch := first | with_reducible assumption | exact ⟨rfl⟩ | exact ⟨rfl, rfl⟩ | (refine _root_.id ?_; kernel_rfl) | omega) only [evs, ext_mv, nth, put, putT, getT, binInt, binStr, binBool, aUn, outA, resA, mapO, resA1, oneOf, w1, w2, w3, bots, cond_true, cond_false, if_true, if_false, ite_true, ite_false, reduceIte, reduceCtorEq, implies_true, Nat.reduceAdd, Nat.reduceSub, AV.int, AV.bool, AV.str, Nat.reduceBEq, Nat.reduceEqDiff, Nat.reduceMul, Nat.reduceLT, Nat.reduceLeDiff, Int.reduceNeg, BEq.rfl, beq_self_eq_true, tabl, cellsOf, fldA, ldA, stA, entAt, partA, takeN, over, leafOk, Value.oneCell', idxA, nilA, cellsEq, fillA, elemsA, pure1, pure2, reps, chkA, tys, Try.results16, KX_draw, KX_drawQ, KX_tail, lastO_one, lastO_more, dropL_one, dropL_more, callP_eq, callM_true, rowsA, bigsA, hC]
  | true =>
  rw [hc] at hC
  rw [if_pos rfl]
  simp (maxSteps := 1000000) +contextual (disch := first | with_reducible assumption | exact ⟨rfl⟩ | exact ⟨rfl, rfl⟩ | (refine _root_.id ?_; kernel_rfl) | omega) only [evs, ext_mv, nth, put, putT, getT, binInt, binStr, binBool, aUn, outA, resA, mapO, resA1, oneOf, w1, w2, w3, bots, cond_true, cond_false, if_true, if_false, ite_true, ite_false, reduceIte, reduceCtorEq, implies_true, Nat.reduceAdd, Nat.reduceSub, AV.int, AV.bool, AV.str, Nat.reduceBEq, Nat.reduceEqDiff, Nat.reduceMul, Nat.reduceLT, Nat.reduceLeDiff, Int.reduceNeg, BEq.rfl, beq_self_eq_true, tabl, cellsOf, fldA, ldA, stA, entAt, partA, takeN, over, leafOk, Value.oneCell', idxA, nilA, cellsEq, fillA, elemsA, pure1, pure2, reps, chkA, tys, Try.results16, KX_draw, KX_drawQ, KX_tail, lastO_one, lastO_more, dropL_one, dropL_more, callP_eq, callM_true, rowsA, bigsA, hC]
  refine loop1 (fun x st => st.T.length = 50 ∧ (x ≤ ms.length) ∧ getT st.T 1 = bigsA ms ∧ getT st.T 5 = .ref 0 0 0 ∧ getT st.T 6 = .int (x : Nat) ∧ st.S = [⟨0, gcdC ms x⟩]) (fun x => ms.length - x) (fun x => bigsA (trimL' ms)) (0) ?_ ?_
  case refine_2 => exact ⟨rfl, Nat.zero_le _, rfl, rfl, rfl, rfl⟩
  rintro i ⟨T, S', tk', n'⟩ ⟨hl, hi, e1, e5, e6, eS⟩ IH
  subst eS
  obtain ⟨g, hg, hT⟩ := tab_of hl
  rw [hg] at e1 e5 e6
  subst hT
  clear hg hl
  have hiw := wrap_add (i := i) (by omega)
  rw [gcdC_eq]
  by_cases hlt : i < ms.length
  · have d1 : decide ((i : Int) < (ms.length : Int)) = true := by simpa using hlt
    obtain ⟨m, hx⟩ := nth_some hlt
    have hx' := nth_big hx
    have hz := zA_len (gcd_ok hm i)
    have hG := fun S tk k => (gcd_w Try.prog (f := 43) (p := decide (gcdN ms i < 0)) (l := dig (gcdN ms i).natAbs) (c := i == 0) rfl).trans (R02_Gcd S tk k (decide (gcdN ms i < 0)) m.1 (dig (gcdN ms i).natAbs) m.2 (by omega) (by have := hm m (mem_nth hx); omega))
    rw [V_zA (gcd_ok hm i), show V m.1 m.2 = vB m from rfl, ← gcd_succ hx] at hG
    simp only [bigC] at hx'
    simp only [bigA, digA, zA] at hG
    simp (maxSteps := 1000000) +contextual (disch := first | with_reducible assumption | exact ⟨rfl⟩ | exact ⟨rfl, rfl⟩ | (refine _root_.id ?_; kernel_rfl) | omega) only [evs, ext_mv, nth, put, putT, getT, binInt, binStr, binBool, aUn, outA, resA, mapO, resA1, oneOf, w1, w2, w3, bots, cond_true, cond_false, if_true, if_false, ite_true, ite_false, reduceIte, reduceCtorEq, implies_true, Nat.reduceAdd, Nat.reduceSub, AV.int, AV.bool, AV.str, Nat.reduceBEq, Nat.reduceEqDiff, Nat.reduceMul, Nat.reduceLT, Nat.reduceLeDiff, Int.reduceNeg, BEq.rfl, beq_self_eq_true, tabl, cellsOf, fldA, ldA, stA, entAt, partA, takeN, over, leafOk, Value.oneCell', idxA, nilA, cellsEq, fillA, elemsA, pure1, pure2, reps, chkA, tys, Try.results16, KX_draw, KX_drawQ, KX_tail, lastO_one, lastO_more, dropL_one, dropL_more, callP_eq, callM_true, e1, e5, e6, d1, bigsA, hx', hG, hiw, ownC]
    exact IH (i + 1) _ (by first | omega | (simp only; omega)) ⟨rfl, by first | omega | (dsimp only; omega), (by first | rfl | simp only [getT, List.map_append, List.map_cons, List.map_nil, and_self, digC, bigC, zB]), (by first | rfl | simp only [getT, List.map_append, List.map_cons, List.map_nil, and_self, digC, bigC, zB]), (by first | rfl | simp only [getT, List.map_append, List.map_cons, List.map_nil, and_self, digC, bigC, zB]), (by first | rfl | simp only [getT, List.map_append, List.map_cons, List.map_nil, and_self, digC, bigC, zB])⟩
  have d1 : decide ((i : Int) < (ms.length : Int)) = false := by simpa using hlt
  have hie : i = ms.length := by omega
  subst hie
  simp (maxSteps := 1000000) +contextual (disch := first | with_reducible assumption | exact ⟨rfl⟩ | exact ⟨rfl, rfl⟩ | (refine _root_.id ?_; kernel_rfl) | omega) only [evs, ext_mv, nth, put, putT, getT, binInt, binStr, binBool, aUn, outA, resA, mapO, resA1, oneOf, w1, w2, w3, bots, cond_true, cond_false, if_true, if_false, ite_true, ite_false, reduceIte, reduceCtorEq, implies_true, Nat.reduceAdd, Nat.reduceSub, AV.int, AV.bool, AV.str, Nat.reduceBEq, Nat.reduceEqDiff, Nat.reduceMul, Nat.reduceLT, Nat.reduceLeDiff, Int.reduceNeg, BEq.rfl, beq_self_eq_true, tabl, cellsOf, fldA, ldA, stA, entAt, partA, takeN, over, leafOk, Value.oneCell', idxA, nilA, cellsEq, fillA, elemsA, pure1, pure2, reps, chkA, tys, Try.results16, KX_draw, KX_drawQ, KX_tail, lastO_one, lastO_more, dropL_one, dropL_more, callP_eq, callM_true, e1, e5, e6, d1, bigsA]
  generalize hb9 : (ms.length == 0) = b9
  refine loop1 (fun x st => st.T.length = 50 ∧ (x.1 ≤ ms.length) ∧ (x.2.1 = (ms.take x.1).map fun m => zB (quoZ (vB m) (gcdN ms ms.length))) ∧ (okCap st.tk x.2.2 2 = true) ∧ getT st.T 1 = bigsA ms ∧ getT st.T 5 = .ref 0 0 0 ∧ getT st.T 7 = .frz (x.2.1.map bigC) x.2.2 ∧ getT st.T 8 = .int (x.1 : Nat) ∧ st.S = [⟨0, ownC (b9, gcdN ms ms.length)⟩]) (fun x => ms.length - x.1) (fun x => bigsA (trimL' ms)) (0, [], .nilc) ?_ ?_
  case refine_2 => exact ⟨rfl, Nat.zero_le _, rfl, rfl, rfl, rfl, rfl, rfl, rfl⟩
  rintro ⟨i, out, c⟩ ⟨T, S', tk', n'⟩ ⟨hl, hi, he, hok, e1, e5, e7, e8, eS⟩ IH
  simp only at hi he hok e1 e5 e7 e8 eS
  subst eS
  obtain ⟨g, hg, hT⟩ := tab_of hl
  rw [hg] at e1 e5 e7 e8
  subst hT
  clear hg hl
  have hiw := wrap_add (i := i) (by omega)
  by_cases hlt : i < ms.length
  · have d1 : decide ((i : Int) < (ms.length : Int)) = true := by simpa using hlt
    obtain ⟨m, hx⟩ := nth_some hlt
    have hx' := nth_big hx
    have hz := zA_len (gcd_ok hm ms.length)
    have hD := fun S tk k => (div_w Try.prog (f := 44) (p := decide (gcdN ms ms.length < 0)) (l := dig (gcdN ms ms.length).natAbs) (c := b9) rfl).trans (R02_Div S tk k m.1 (decide (gcdN ms ms.length < 0)) m.2 (dig (gcdN ms ms.length).natAbs) (by have := hm m (mem_nth hx); omega) (by omega))
    rw [V_zA (gcd_ok hm ms.length), show V m.1 m.2 = vB m from rfl, divA, ← quoZ, ← remZ] at hD
    have hol : out.length ≤ ms.length := by rw [he]; simp; omega
    have hr := rowsOk_big out
    have hok' := okCap_new hok
    have hn1 : (out.map bigC).length + 1 ≤ 1048576 := by simp; omega
    have hts := take_snoc hx
    simp only [bigC] at hx'
    simp only [bigA, digA, zA] at hD
    simp (maxSteps := 1000000) +contextual (disch := first | with_reducible assumption | exact ⟨rfl⟩ | exact ⟨rfl, rfl⟩ | (refine _root_.id ?_; kernel_rfl) | omega) only [evs, ext_mv, nth, put, putT, getT, binInt, binStr, binBool, aUn, outA, resA, mapO, resA1, oneOf, w1, w2, w3, bots, cond_true, cond_false, if_true, if_false, ite_true, ite_false, reduceIte, reduceCtorEq, implies_true, Nat.reduceAdd, Nat.reduceSub, AV.int, AV.bool, AV.str, Nat.reduceBEq, Nat.reduceEqDiff, Nat.reduceMul, Nat.reduceLT, Nat.reduceLeDiff, Int.reduceNeg, BEq.rfl, beq_self_eq_true, tabl, cellsOf, fldA, ldA, stA, entAt, partA, takeN, over, leafOk, Value.oneCell', idxA, nilA, cellsEq, fillA, elemsA, pure1, pure2, reps, chkA, tys, Try.results16, KX_draw, KX_drawQ, KX_tail, lastO_one, lastO_more, dropL_one, dropL_more, callP_eq, callM_true, e1, e5, e7, e8, d1, bigsA, hx', hD, hiw, ownC, hr]
    exact IH (i + 1, out ++ [zB (quoZ (vB m) (gcdN ms ms.length))], capNew tk' c 2) _ (by first | omega | (simp only; omega)) ⟨rfl, by first | omega | (dsimp only; omega), by rw [hts, List.map_append, he]; rfl, hok', (by first | rfl | simp only [getT, List.map_append, List.map_cons, List.map_nil, and_self, digC, bigC, zB]), (by first | rfl | simp only [getT, List.map_append, List.map_cons, List.map_nil, and_self, digC, bigC, zB]), (by first | rfl | simp only [getT, List.map_append, List.map_cons, List.map_nil, and_self, digC, bigC, zB]), (by first | rfl | simp only [getT, List.map_append, List.map_cons, List.map_nil, and_self, digC, bigC, zB]), (by first | rfl | simp only [getT, List.map_append, List.map_cons, List.map_nil, and_self, digC, bigC, zB])⟩
  · have d1 : decide ((i : Int) < (ms.length : Int)) = false := by simpa using hlt
    have hie : i = ms.length := by omega
    subst hie
    rw [List.take_length] at he
    simp (maxSteps := 1000000) +contextual (disch := first | with_reducible assumption | exact ⟨rfl⟩ | exact ⟨rfl, rfl⟩ | (refine _root_.id ?_; kernel_rfl) | omega) only [evs, ext_mv, nth, put, putT, getT, binInt, binStr, binBool, aUn, outA, resA, mapO, resA1, oneOf, w1, w2, w3, bots, cond_true, cond_false, if_true, if_false, ite_true, ite_false, reduceIte, reduceCtorEq, implies_true, Nat.reduceAdd, Nat.reduceSub, AV.int, AV.bool, AV.str, Nat.reduceBEq, Nat.reduceEqDiff, Nat.reduceMul, Nat.reduceLT, Nat.reduceLeDiff, Int.reduceNeg, BEq.rfl, beq_self_eq_true, tabl, cellsOf, fldA, ldA, stA, entAt, partA, takeN, over, leafOk, Value.oneCell', idxA, nilA, cellsEq, fillA, elemsA, pure1, pure2, reps, chkA, tys, Try.results16, KX_draw, KX_drawQ, KX_tail, lastO_one, lastO_more, dropL_one, dropL_more, callP_eq, callM_true, e1, e5, e7, e8, d1, bigsA]
    rw [he]; rfl
end
end Go.Proofs.Ytmgbmbganlndkaa
/-
  Numbers that are 0, numbers that are used: of the package.
-/

namespace Go.Proofs.Ytmgbmbganlndkaa
open Go
section
variable (S : List Ent) (tk : List Nat) (k : Nat)
theorem cmp_eq (z : Int) : (cmpZ z 0 == 0) = decide (z = 0) := by
  have h := cmp_ne z
  rw [show (cmpZ z 0 != 0) = !(cmpZ z 0 == 0) from rfl] at h
  exact Bool.not_inj h
theorem farkas_zero (m : BigT) (hm : m.2.length ≤ 1000000) : cL Try.prog 39 [.agg (bigC m)] S tk k = some (.bool (decide (vB m = 0)), S, tk, k) := by
  have hC := fun S tk k => Cmp_zero S tk k m.1 m.2 hm
  have hc := cmp_eq (V m.1 m.2)
  simp only [bigA, digA] at hC
  refine call_pure Try.func39 rfl rfl (by decide +kernel) (by decide +kernel) Try.ntmps39 rfl rfl _ _ _ rfl ?_; rw [RK_KX]
  simp (maxSteps := 1000000) +contextual (disch := first | with_reducible assumption | exact ⟨rfl⟩ | exact ⟨rfl, rfl⟩ | (refine _root_.id ?_; kernel_rfl) | omega) only [evs, ext_mv, nth, put, putT, getT, binInt, binStr, binBool, aUn, outA, resA, mapO, resA1, oneOf, w1, w2, w3, bots, cond_true, cond_false, if_true, if_false, ite_true, ite_false, reduceIte, reduceCtorEq, implies_true, Nat.reduceAdd, Nat.reduceSub, AV.int, AV.bool, AV.str, Nat.reduceBEq, Nat.reduceEqDiff, Nat.reduceMul, Nat.reduceLT, Nat.reduceLeDiff, Int.reduceNeg, BEq.rfl, beq_self_eq_true, tabl, cellsOf, fldA, ldA, stA, entAt, partA, takeN, over, leafOk, Value.oneCell', idxA, nilA, cellsEq, fillA, elemsA, pure1, pure2, reps, chkA, tys, Try.results39, KX_draw, KX_drawQ, KX_tail, lastO_one, lastO_more, dropL_one, dropL_more, callP_eq, callM_true, bigC, hC, hc]
  rfl
theorem farkas_Used (ms : List BigT) (hl : ms.length ≤ 1000) (hm : ∀ m ∈ ms, m.2.length ≤ 100) : cL Try.prog 18 [bigsA ms] S tk k = some (digA (usedL 0 ms), S, tk, k) := by
  refine call_pure Try.func18 rfl rfl (by decide +kernel) (by decide +kernel) Try.ntmps18 rfl rfl _ _ _ rfl ?_; rw [RK_KX]
  simp (maxSteps := 1000000) +contextual (disch := first | with_reducible assumption | exact ⟨rfl⟩ | exact ⟨rfl, rfl⟩ | (refine _root_.id ?_; kernel_rfl) | omega) only [evs, ext_mv, nth, put, putT, getT, binInt, binStr, binBool, aUn, outA, resA, mapO, resA1, oneOf, w1, w2, w3, bots, cond_true, cond_false, if_true, if_false, ite_true, ite_false, reduceIte, reduceCtorEq, implies_true, Nat.reduceAdd, Nat.reduceSub, AV.int, AV.bool, AV.str, Nat.reduceBEq, Nat.reduceEqDiff, Nat.reduceMul, Nat.reduceLT, Nat.reduceLeDiff, Int.reduceNeg, BEq.rfl, beq_self_eq_true, tabl, cellsOf, fldA, ldA, stA, entAt, partA, takeN, over, leafOk, Value.oneCell', idxA, nilA, cellsEq, fillA, elemsA, pure1, pure2, reps, chkA, tys, Try.results18, KX_draw, KX_drawQ, KX_tail, lastO_one, lastO_more, dropL_one, dropL_more, callP_eq, callM_true, bigsA]
  refine loop1 (fun x st => st.T.length = 22 ∧ (x.1 ≤ ms.length) ∧ (x.2.1 ++ usedL x.1 (ms.drop x.1) = usedL 0 ms) ∧ (okCap st.tk x.2.2 1 = true) ∧ getT st.T 3 = .frz (x.2.1.map digC) x.2.2 ∧ getT st.T 6 = bigsA ms ∧ getT st.T 7 = .int ms.length ∧ getT st.T 8 = .int (x.1 : Nat) ∧ st.S = []) (fun x => ms.length - x.1) (fun x => digA (usedL 0 ms)) (0, [], .nilc) ?_ ?_
  case refine_2 => exact ⟨rfl, Nat.zero_le _, rfl, rfl, rfl, rfl, rfl, rfl, rfl⟩
  rintro ⟨i, out, c⟩ ⟨T, S', tk', n'⟩ ⟨hl, hi, he, hok, e3, e6, e7, e8, eS⟩ IH
  simp only at hi he hok e3 e6 e7 e8 eS
  subst eS
  obtain ⟨g, hg, hT⟩ := tab_of hl
  rw [hg] at e3 e6 e7 e8
  subst hT
  clear hg hl
  have hiw := wrap_add (i := i) (by omega)
  by_cases hlt : i < ms.length
  · have d1 : decide ((i : Int) < (ms.length : Int)) = true := by simpa using hlt
    obtain ⟨m, hx⟩ := nth_some hlt
    have hx' := nth_big hx
    have hR := fun S tk k => farkas_zero S tk k m (by have := hm m (mem_nth hx); omega)
    have hul := used_len 0 ms
    have hol : out.length ≤ ms.length := by
      have := congrArg List.length he
      simp at this; omega
    have hr := rowsOk_dig out
    have hok' := okCap_new hok
    have hn1 : (out.map digC).length + 1 ≤ 1048576 := by simp; omega
    rw [nth_drop hx, usedL] at he
    simp only [bigC] at hx' hR
    by_cases h0 : vB m = 0
    · have d2 : decide (vB m = 0) = true := by simpa using h0
      rw [if_pos h0] at he
      simp (maxSteps := 1000000) +contextual (disch := first | with_reducible assumption | exact ⟨rfl⟩ | exact ⟨rfl, rfl⟩ | (refine _root_.id ?_; kernel_rfl) | omega) only [evs, ext_mv, nth, put, putT, getT, binInt, binStr, binBool, aUn, outA, resA, mapO, resA1, oneOf, w1, w2, w3, bots, cond_true, cond_false, if_true, if_false, ite_true, ite_false, reduceIte, reduceCtorEq, implies_true, Nat.reduceAdd, Nat.reduceSub, AV.int, AV.bool, AV.str, Nat.reduceBEq, Nat.reduceEqDiff, Nat.reduceMul, Nat.reduceLT, Nat.reduceLeDiff, Int.reduceNeg, BEq.rfl, beq_self_eq_true, tabl, cellsOf, fldA, ldA, stA, entAt, partA, takeN, over, leafOk, Value.oneCell', idxA, nilA, cellsEq, fillA, elemsA, pure1, pure2, reps, chkA, tys, Try.results18, KX_draw, KX_drawQ, KX_tail, lastO_one, lastO_more, dropL_one, dropL_more, callP_eq, callM_true, e3, e6, e7, e8, d1, bigsA, hx', hR, hiw, d2]
      exact IH (i + 1, out, c) _ (by first | omega | (simp only; omega)) ⟨rfl, by first | omega | (dsimp only; omega), he, hok, (by first | rfl | simp only [getT, List.map_append, List.map_cons, List.map_nil, and_self, digC, bigC, zB]), (by first | rfl | simp only [getT, List.map_append, List.map_cons, List.map_nil, and_self, digC, bigC, zB]), (by first | rfl | simp only [getT, List.map_append, List.map_cons, List.map_nil, and_self, digC, bigC, zB]), (by first | rfl | simp only [getT, List.map_append, List.map_cons, List.map_nil, and_self, digC, bigC, zB]), (by first | rfl | simp only [getT, List.map_append, List.map_cons, List.map_nil, and_self, digC, bigC, zB])⟩
    · have d2 : decide (vB m = 0) = false := by simpa using h0
      rw [if_neg h0] at he
      simp (maxSteps := 1000000) +contextual (disch := first | with_reducible assumption | exact ⟨rfl⟩ | exact ⟨rfl, rfl⟩ | (refine _root_.id ?_; kernel_rfl) | omega) only [evs, ext_mv, nth, put, putT, getT, binInt, binStr, binBool, aUn, outA, resA, mapO, resA1, oneOf, w1, w2, w3, bots, cond_true, cond_false, if_true, if_false, ite_true, ite_false, reduceIte, reduceCtorEq, implies_true, Nat.reduceAdd, Nat.reduceSub, AV.int, AV.bool, AV.str, Nat.reduceBEq, Nat.reduceEqDiff, Nat.reduceMul, Nat.reduceLT, Nat.reduceLeDiff, Int.reduceNeg, BEq.rfl, beq_self_eq_true, tabl, cellsOf, fldA, ldA, stA, entAt, partA, takeN, over, leafOk, Value.oneCell', idxA, nilA, cellsEq, fillA, elemsA, pure1, pure2, reps, chkA, tys, Try.results18, KX_draw, KX_drawQ, KX_tail, lastO_one, lastO_more, dropL_one, dropL_more, callP_eq, callM_true, e3, e6, e7, e8, d1, bigsA, hx', hR, hiw, d2, hr]
      exact IH (i + 1, out ++ [(i : Int)], capNew tk' c 1) _ (by first | omega | (simp only; omega)) ⟨rfl, by first | omega | (dsimp only; omega), by rw [List.append_assoc]; exact he, hok', (by first | rfl | simp only [getT, List.map_append, List.map_cons, List.map_nil, and_self, digC, bigC, zB]), (by first | rfl | simp only [getT, List.map_append, List.map_cons, List.map_nil, and_self, digC, bigC, zB]), (by first | rfl | simp only [getT, List.map_append, List.map_cons, List.map_nil, and_self, digC, bigC, zB]), (by first | rfl | simp only [getT, List.map_append, List.map_cons, List.map_nil, and_self, digC, bigC, zB]), (by first | rfl | simp only [getT, List.map_append, List.map_cons, List.map_nil, and_self, digC, bigC, zB])⟩
  · have d1 : decide ((i : Int) < (ms.length : Int)) = false := by simpa using hlt
    have hie : i = ms.length := by omega
    subst hie
    rw [List.drop_length] at he
    simp only [usedL, List.append_nil] at he
    simp (maxSteps := 1000000) +contextual (disch := first | with_reducible assumption | exact ⟨rfl⟩ | exact ⟨rfl, rfl⟩ | (refine _root_.id ?_; kernel_rfl) | omega) only [evs, ext_mv, nth, put, putT, getT, binInt, binStr, binBool, aUn, outA, resA, mapO, resA1, oneOf, w1, w2, w3, bots, cond_true, cond_false, if_true, if_false, ite_true, ite_false, reduceIte, reduceCtorEq, implies_true, Nat.reduceAdd, Nat.reduceSub, AV.int, AV.bool, AV.str, Nat.reduceBEq, Nat.reduceEqDiff, Nat.reduceMul, Nat.reduceLT, Nat.reduceLeDiff, Int.reduceNeg, BEq.rfl, beq_self_eq_true, tabl, cellsOf, fldA, ldA, stA, entAt, partA, takeN, over, leafOk, Value.oneCell', idxA, nilA, cellsEq, fillA, elemsA, pure1, pure2, reps, chkA, tys, Try.results18, KX_draw, KX_drawQ, KX_tail, lastO_one, lastO_more, dropL_one, dropL_more, callP_eq, callM_true, e3, e6, e7, e8, d1, bigsA]
    rw [he]; rfl
end
end Go.Proofs.Ytmgbmbganlndkaa
/-
  A name is found in increasing names.
-/

namespace Go.Proofs.Ytmgbmbganlndkaa
open Go
theorem sEq_self (s : ByteArray) : sEq s s = true := by rw [sEq_nm]; simp
theorem inc_nth : ∀ {l : List ByteArray} {i j : Nat} {a b : ByteArray}, Inc l → nth l i = some a → nth l j = some b → i < j → sLt a b = true
  | x :: l, 0, j + 1, a, b, h, ha, hb, _ => by
    simp only [nth, Option.some.injEq] at ha
    subst ha
    rw [sLt_nm]
    have := (List.pairwise_cons.1 h).1 b (mem_nth (i := j) hb)
    simpa using this
  | x :: l, i + 1, j + 1, a, b, h, ha, hb, hij => inc_nth (List.pairwise_cons.1 h).2 (i := i) (j := j) ha hb (by omega)
  | x :: l, i + 1, 0, a, b, h, ha, hb, hij => by omega
  | [], _, _, _, _, _, ha, _, _ => by simp [nth] at ha
theorem lt_irr (s : ByteArray) : sLt s s = false := by rw [sLt_nm]; simp [List.lt_irrefl]
theorem lt_asym {a b : ByteArray} (h : sLt a b = true) : sLt b a = false := by
  rw [sLt_nm] at h ⊢
  simp only [decide_eq_true_eq, decide_eq_false_iff_not] at h ⊢
  exact fun h2 => List.lt_irrefl _ (List.lt_trans h h2)
theorem inc_less {l : List ByteArray} {i j : Nat} {a b : ByteArray} (h : Inc l) (ha : nth l i = some a) (hb : nth l j = some b) : sLt a b = decide (i < j) := by
  rcases Nat.lt_trichotomy i j with h1 | h1 | h1
  · rw [inc_nth h ha hb h1]; simp [h1]
  · subst h1; rw [ha] at hb; cases hb; rw [lt_irr]; simp
  · rw [lt_asym (inc_nth h hb ha h1)]; have : ¬ i < j := by omega
    simp [this]
section
variable (S : List Ent) (tk : List Nat) (k : Nat)
theorem slices_isNaN (s : ByteArray) : cL Try.prog 60 [.prim (.string s)] S tk k = some (.bool false, S, tk, k) := by
  refine call_pure Try.func60 rfl rfl (by decide +kernel) (by decide +kernel) Try.ntmps60 rfl rfl _ _ _ rfl ?_; rw [RK_KX]
  simp (maxSteps := 1000000) +contextual (disch := first | with_reducible assumption | exact ⟨rfl⟩ | exact ⟨rfl, rfl⟩ | (refine _root_.id ?_; kernel_rfl) | omega) only [evs, ext_mv, nth, put, putT, getT, binInt, binStr, binBool, aUn, outA, resA, mapO, resA1, oneOf, w1, w2, w3, bots, cond_true, cond_false, if_true, if_false, ite_true, ite_false, reduceIte, reduceCtorEq, implies_true, Nat.reduceAdd, Nat.reduceSub, AV.int, AV.bool, AV.str, Nat.reduceBEq, Nat.reduceEqDiff, Nat.reduceMul, Nat.reduceLT, Nat.reduceLeDiff, Int.reduceNeg, BEq.rfl, beq_self_eq_true, tabl, cellsOf, fldA, ldA, stA, entAt, partA, takeN, over, leafOk, Value.oneCell', idxA, nilA, cellsEq, fillA, elemsA, pure1, pure2, reps, chkA, tys, Try.results60, KX_draw, KX_drawQ, KX_tail, lastO_one, lastO_more, dropL_one, dropL_more, callP_eq, callM_true, strC, sEq_self, Bool.not_true]
theorem cmp_isNaN (s : ByteArray) : cL Try.prog 77 [.prim (.string s)] S tk k = some (.bool false, S, tk, k) := by
  refine call_pure Try.func77 rfl rfl (by decide +kernel) (by decide +kernel) Try.ntmps77 rfl rfl _ _ _ rfl ?_; rw [RK_KX]
  simp (maxSteps := 1000000) +contextual (disch := first | with_reducible assumption | exact ⟨rfl⟩ | exact ⟨rfl, rfl⟩ | (refine _root_.id ?_; kernel_rfl) | omega) only [evs, ext_mv, nth, put, putT, getT, binInt, binStr, binBool, aUn, outA, resA, mapO, resA1, oneOf, w1, w2, w3, bots, cond_true, cond_false, if_true, if_false, ite_true, ite_false, reduceIte, reduceCtorEq, implies_true, Nat.reduceAdd, Nat.reduceSub, AV.int, AV.bool, AV.str, Nat.reduceBEq, Nat.reduceEqDiff, Nat.reduceMul, Nat.reduceLT, Nat.reduceLeDiff, Int.reduceNeg, BEq.rfl, beq_self_eq_true, tabl, cellsOf, fldA, ldA, stA, entAt, partA, takeN, over, leafOk, Value.oneCell', idxA, nilA, cellsEq, fillA, elemsA, pure1, pure2, reps, chkA, tys, Try.results77, KX_draw, KX_drawQ, KX_tail, lastO_one, lastO_more, dropL_one, dropL_more, callP_eq, callM_true, strC, sEq_self, Bool.not_true]
theorem cmp_Less (s t : ByteArray) : cL Try.prog 59 [.prim (.string s), .prim (.string t)] S tk k = some (.bool (sLt s t), S, tk, k) := by
  have hN := fun S tk k => cmp_isNaN S tk k s
  refine call_pure Try.func59 rfl rfl (by decide +kernel) (by decide +kernel) Try.ntmps59 rfl rfl _ _ _ rfl ?_; rw [RK_KX]
  simp (maxSteps := 1000000) +contextual (disch := first | with_reducible assumption | exact ⟨rfl⟩ | exact ⟨rfl, rfl⟩ | (refine _root_.id ?_; kernel_rfl) | omega) only [evs, ext_mv, nth, put, putT, getT, binInt, binStr, binBool, aUn, outA, resA, mapO, resA1, oneOf, w1, w2, w3, bots, cond_true, cond_false, if_true, if_false, ite_true, ite_false, reduceIte, reduceCtorEq, implies_true, Nat.reduceAdd, Nat.reduceSub, AV.int, AV.bool, AV.str, Nat.reduceBEq, Nat.reduceEqDiff, Nat.reduceMul, Nat.reduceLT, Nat.reduceLeDiff, Int.reduceNeg, BEq.rfl, beq_self_eq_true, tabl, cellsOf, fldA, ldA, stA, entAt, partA, takeN, over, leafOk, Value.oneCell', idxA, nilA, cellsEq, fillA, elemsA, pure1, pure2, reps, chkA, tys, Try.results59, KX_draw, KX_drawQ, KX_tail, lastO_one, lastO_more, dropL_one, dropL_more, callP_eq, callM_true, strC, hN]
theorem BinarySearch (vs : List ByteArray) (s : ByteArray) (q : Nat) (hinc : Inc vs) (hq : nth vs q = some s) (hl : vs.length ≤ 1000) : cL Try.prog 33 [strsA vs, .prim (.string s)] S tk k = some (.tup [.int (q : Nat), .bool true], S, tk, k) := by
  have hqn := nth_lt hq
  refine call_pure Try.func33 rfl rfl (by decide +kernel) (by decide +kernel) Try.ntmps33 rfl rfl _ _ _ rfl ?_; rw [RK_KX]
  simp (maxSteps := 1000000) +contextual (disch := first | with_reducible assumption | exact ⟨rfl⟩ | exact ⟨rfl, rfl⟩ | (refine _root_.id ?_; kernel_rfl) | omega) only [evs, ext_mv, nth, put, putT, getT, binInt, binStr, binBool, aUn, outA, resA, mapO, resA1, oneOf, w1, w2, w3, bots, cond_true, cond_false, if_true, if_false, ite_true, ite_false, reduceIte, reduceCtorEq, implies_true, Nat.reduceAdd, Nat.reduceSub, AV.int, AV.bool, AV.str, Nat.reduceBEq, Nat.reduceEqDiff, Nat.reduceMul, Nat.reduceLT, Nat.reduceLeDiff, Int.reduceNeg, BEq.rfl, beq_self_eq_true, tabl, cellsOf, fldA, ldA, stA, entAt, partA, takeN, over, leafOk, Value.oneCell', idxA, nilA, cellsEq, fillA, elemsA, pure1, pure2, reps, chkA, tys, Try.results33, KX_draw, KX_drawQ, KX_tail, lastO_one, lastO_more, dropL_one, dropL_more, callP_eq, callM_true, strsA]
  refine loop1 (fun x st => st.T.length = 54 ∧ (x.1 ≤ q) ∧ (q ≤ x.2) ∧ (x.2 ≤ vs.length) ∧ getT st.T 0 = strsA vs ∧ getT st.T 1 = .prim (.string s) ∧ getT st.T 6 = .int vs.length ∧ getT st.T 7 = .int (x.1 : Nat) ∧ getT st.T 8 = .int (x.2 : Nat) ∧ st.S = []) (fun x => x.2 - x.1) (fun x => .tup [.int (q : Nat), .bool true]) (0, vs.length) ?_ ?_
  case refine_2 => exact ⟨rfl, Nat.zero_le _, by omega, Nat.le_refl _, rfl, rfl, rfl, rfl, rfl, rfl⟩
  rintro ⟨i, j⟩ ⟨T, S', tk', n'⟩ ⟨hl, hi, hj, hjn, e0, e1, e6, e7, e8, eS⟩ IH
  simp only at hi hj hjn e0 e1 e6 e7 e8 eS
  subst eS
  obtain ⟨g, hg, hT⟩ := tab_of hl
  rw [hg] at e0 e1 e6 e7 e8
  subst hT
  clear hg hl
  by_cases hlt : i < j
  · have d1 : decide ((i : Int) < (j : Int)) = true := by simpa using hlt
    obtain ⟨h, hh⟩ : ∃ h, h = (i + j) / 2 := ⟨_, rfl⟩
    have w1 : IntKind.i64.wrap ((i : Int) + (j : Int)) = ((i + j : Nat) : Int) := by rw [wrap_of (by unfold i64; omega)]; omega
    have w2 : IntKind.u64.wrap ((i + j : Nat) : Int) = ((i + j : Nat) : Int) := by rw [uwrap_of (by omega) (by omega)]
    have w3 : ((i + j : Nat) : Int).fdiv (2 ^ Int.toNat 1) = (h : Int) := by
      show ((i + j : Nat) : Int).fdiv 2 = (h : Int)
      rw [Int.fdiv_eq_ediv_of_nonneg _ (by omega)]; omega
    have w6 : (0 ≤ (1 : Int) ∧ (1 : Int) < 64 ∧ IntKind.u64.bits = 64) = True := eq_true ⟨by decide, by decide, rfl⟩
    have w4 : IntKind.u64.wrap (h : Int) = (h : Int) := by rw [uwrap_of (by omega) (by omega)]
    have w5 : IntKind.i64.wrap (h : Int) = (h : Int) := by rw [wrap_of (by unfold i64; omega)]
    have hiw := wrap_add (i := h) (by omega)
    obtain ⟨a, ha⟩ := nth_some (show h < vs.length by omega)
    have ha' := nth_str ha
    have hL := fun S tk k => cmp_Less S tk k a s
    rw [inc_less hinc ha hq] at hL
    by_cases hc : h < q
    · have d2 : decide (h < q) = true := by simpa using hc
      rw [d2] at hL
      simp (maxSteps := 1000000) +contextual (disch := first | with_reducible assumption | exact ⟨rfl⟩ | exact ⟨rfl, rfl⟩ | (refine _root_.id ?_; kernel_rfl) | omega) only [evs, ext_mv, nth, put, putT, getT, binInt, binStr, binBool, aUn, outA, resA, mapO, resA1, oneOf, w1, w2, w3, bots, cond_true, cond_false, if_true, if_false, ite_true, ite_false, reduceIte, reduceCtorEq, implies_true, Nat.reduceAdd, Nat.reduceSub, AV.int, AV.bool, AV.str, Nat.reduceBEq, Nat.reduceEqDiff, Nat.reduceMul, Nat.reduceLT, Nat.reduceLeDiff, Int.reduceNeg, BEq.rfl, beq_self_eq_true, tabl, cellsOf, fldA, ldA, stA, entAt, partA, takeN, over, leafOk, Value.oneCell', idxA, nilA, cellsEq, fillA, elemsA, pure1, pure2, reps, chkA, tys, Try.results33, KX_draw, KX_drawQ, KX_tail, lastO_one, lastO_more, dropL_one, dropL_more, callP_eq, callM_true, e0, e1, e6, e7, e8, d1, strsA, w1, w2, w3, w4, w5, w6, hiw, ha', hL]
      exact IH (h + 1, j) _ (by first | omega | (simp only; omega)) ⟨rfl, by first | omega | (dsimp only; omega), hj, hjn, (by first | rfl | simp only [getT, List.map_append, List.map_cons, List.map_nil, and_self]), (by first | rfl | simp only [getT, List.map_append, List.map_cons, List.map_nil, and_self]), (by first | rfl | simp only [getT, List.map_append, List.map_cons, List.map_nil, and_self]), (by first | rfl | simp only [getT, List.map_append, List.map_cons, List.map_nil, and_self]), (by first | rfl | simp only [getT, List.map_append, List.map_cons, List.map_nil, and_self]), (by first | rfl | simp only [getT, List.map_append, List.map_cons, List.map_nil, and_self])⟩
    · have d2 : decide (h < q) = false := by simpa using hc
      rw [d2] at hL
      simp (maxSteps := 1000000) +contextual (disch := first | with_reducible assumption | exact ⟨rfl⟩ | exact ⟨rfl, rfl⟩ | (refine _root_.id ?_; kernel_rfl) | omega) only [evs, ext_mv, nth, put, putT, getT, binInt, binStr, binBool, aUn, outA, resA, mapO, resA1, oneOf, w1, w2, w3, bots, cond_true, cond_false, if_true, if_false, ite_true, ite_false, reduceIte, reduceCtorEq, implies_true, Nat.reduceAdd, Nat.reduceSub, AV.int, AV.bool, AV.str, Nat.reduceBEq, Nat.reduceEqDiff, Nat.reduceMul, Nat.reduceLT, Nat.reduceLeDiff, Int.reduceNeg, BEq.rfl, beq_self_eq_true, tabl, cellsOf, fldA, ldA, stA, entAt, partA, takeN, over, leafOk, Value.oneCell', idxA, nilA, cellsEq, fillA, elemsA, pure1, pure2, reps, chkA, tys, Try.results33, KX_draw, KX_drawQ, KX_tail, lastO_one, lastO_more, dropL_one, dropL_more, callP_eq, callM_true, e0, e1, e6, e7, e8, d1, strsA, w1, w2, w3, w4, w5, w6, hiw, ha', hL]
      exact IH (i, h) _ (by first | omega | (simp only; omega)) ⟨rfl, hi, by first | omega | (dsimp only; omega), by first | omega | (dsimp only; omega), (by first | rfl | simp only [getT, List.map_append, List.map_cons, List.map_nil, and_self]), (by first | rfl | simp only [getT, List.map_append, List.map_cons, List.map_nil, and_self]), (by first | rfl | simp only [getT, List.map_append, List.map_cons, List.map_nil, and_self]), (by first | rfl | simp only [getT, List.map_append, List.map_cons, List.map_nil, and_self]), (by first | rfl | simp only [getT, List.map_append, List.map_cons, List.map_nil, and_self]), (by first | rfl | simp only [getT, List.map_append, List.map_cons, List.map_nil, and_self])⟩
  · have d1 : decide ((i : Int) < (j : Int)) = false := by simpa using hlt
    have hie : i = q := by omega
    subst hie
    have hq' := nth_str hq
    have d2 : decide ((i : Int) < (vs.length : Int)) = true := by simpa using hqn
    have hse := sEq_self s
    simp (maxSteps := 1000000) +contextual (disch := first | with_reducible assumption | exact ⟨rfl⟩ | exact ⟨rfl, rfl⟩ | (refine _root_.id ?_; kernel_rfl) | omega) only [evs, ext_mv, nth, put, putT, getT, binInt, binStr, binBool, aUn, outA, resA, mapO, resA1, oneOf, w1, w2, w3, bots, cond_true, cond_false, if_true, if_false, ite_true, ite_false, reduceIte, reduceCtorEq, implies_true, Nat.reduceAdd, Nat.reduceSub, AV.int, AV.bool, AV.str, Nat.reduceBEq, Nat.reduceEqDiff, Nat.reduceMul, Nat.reduceLT, Nat.reduceLeDiff, Int.reduceNeg, BEq.rfl, beq_self_eq_true, tabl, cellsOf, fldA, ldA, stA, entAt, partA, takeN, over, leafOk, Value.oneCell', idxA, nilA, cellsEq, fillA, elemsA, pure1, pure2, reps, chkA, tys, Try.results33, KX_draw, KX_drawQ, KX_tail, lastO_one, lastO_more, dropL_one, dropL_more, callP_eq, callM_true, e0, e1, e6, e7, e8, d1, d2, strsA, hq', hse]
end
end Go.Proofs.Ytmgbmbganlndkaa
/-
  Whether all numbers are valid, or 0.
-/

namespace Go.Proofs.Ytmgbmbganlndkaa
open Go
def pVal (m : BigT) : Bool := validF m.1 m.2
def pZero (m : BigT) : Bool := decide (vB m = 0)
/-- the first number of which it is not so, and how many were looked at -/
def idxB (p : BigT → Bool) : List BigT → Nat → Int × Nat
  | [], _ => (-1, 0)
  | m :: r, i => if p m = true then ((idxB p r (i + 1)).1, (idxB p r (i + 1)).2 + 1) else (i, 1)
theorem idx_ge (p : BigT → Bool) : ∀ (l : List BigT) (i : Nat), decide ((idxB p l i).1 ≥ 0) = !(l.all p)
  | [], _ => rfl
  | m :: r, i => by
    have ih := idx_ge p r (i + 1)
    unfold idxB
    cases h : p m with
    | true => rw [if_pos rfl]; simp only [List.all_cons, h, Bool.true_and]; exact ih
    | false => rw [if_neg (by simp)]; simp only [List.all_cons, h, Bool.false_and, Bool.not_false]; simp
section
variable (S : List Ent) (tk : List Nat) (k : Nat)
theorem Valid_big (m : BigT) (hm : m.2.length ≤ 1000000) : cL Try.prog 26 [.agg (bigC m)] S tk k = some (.bool (pVal m), S, tk, k) := big_Valid S tk k m.1 m.2 .unk hm
theorem Zero_big (m : BigT) (hm : m.2.length ≤ 1000000) : cL Try.prog 39 [.agg (bigC m)] S tk k = some (.bool (pZero m), S, tk, k) := farkas_zero S tk k m hm
theorem all_valid_fn (m : BigT) (id ep : Nat) (hm : m.2.length ≤ 1000000) (h : entAt S id ep = some [.fn 26 []]) : cL Try.prog 52 [.agg (bigC m), .ref id ep 0] S tk k = some (.bool (!pVal m), S, tk, k + 1) := by
  have hF := fun S tk k => Valid_big S tk k m hm
  simp only [bigC] at hF
  refine call_shared Try.func52 rfl rfl (by decide +kernel) Try.ntmps52 rfl ?_; rw [RK_KX]
  simp (maxSteps := 1000000) +contextual (disch := first | with_reducible assumption | exact ⟨rfl⟩ | exact ⟨rfl, rfl⟩ | (refine _root_.id ?_; kernel_rfl) | omega) only [evs, ext_mv, nth, put, putT, getT, binInt, binStr, binBool, aUn, outA, resA, mapO, resA1, oneOf, w1, w2, w3, bots, cond_true, cond_false, if_true, if_false, ite_true, ite_false, reduceIte, reduceCtorEq, implies_true, Nat.reduceAdd, Nat.reduceSub, AV.int, AV.bool, AV.str, Nat.reduceBEq, Nat.reduceEqDiff, Nat.reduceMul, Nat.reduceLT, Nat.reduceLeDiff, Int.reduceNeg, BEq.rfl, beq_self_eq_true, tabl, cellsOf, fldA, ldA, stA, entAt_new, entAt_old, entAt_old2, List.take_left, List.take_length, partA, takeN, over, leafOk, Value.oneCell', idxA, nilA, cellsEq, fillA, elemsA, pure1, pure2, reps, chkA, tys, Try.results52, KX_draw, KX_drawQ, KX_tail, lastO_one, lastO_more, dropL_one, dropL_more, callP_eq, callM_true, bigC, h, hF]
theorem all_valid_idx (ms : List BigT) (id ep : Nat) (hl : ms.length ≤ 1048576) (hm : ∀ m ∈ ms, m.2.length ≤ 1000000) (h : entAt S id ep = some [.fn 26 []]) :
    cL Try.prog 74 [bigsA ms, .fn 52 [.ref id ep 0]] S tk k = some (.int (idxB pVal ms 0).1, S, tk, k + (idxB pVal ms 0).2) := by
  refine call_shared Try.func74 rfl rfl (by decide +kernel) Try.ntmps74 rfl ?_; rw [RK_KX]
  simp (maxSteps := 1000000) +contextual (disch := first | with_reducible assumption | exact ⟨rfl⟩ | exact ⟨rfl, rfl⟩ | (refine _root_.id ?_; kernel_rfl) | omega) only [evs, ext_mv, nth, put, putT, getT, binInt, binStr, binBool, aUn, outA, resA, mapO, resA1, oneOf, w1, w2, w3, bots, cond_true, cond_false, if_true, if_false, ite_true, ite_false, reduceIte, reduceCtorEq, implies_true, Nat.reduceAdd, Nat.reduceSub, AV.int, AV.bool, AV.str, Nat.reduceBEq, Nat.reduceEqDiff, Nat.reduceMul, Nat.reduceLT, Nat.reduceLeDiff, Int.reduceNeg, BEq.rfl, beq_self_eq_true, tabl, cellsOf, fldA, ldA, stA, entAt_new, entAt_old, entAt_old2, List.take_left, List.take_length, partA, takeN, over, leafOk, Value.oneCell', idxA, nilA, cellsEq, fillA, elemsA, pure1, pure2, reps, chkA, tys, Try.results74, KX_draw, KX_drawQ, KX_tail, lastO_one, lastO_more, dropL_one, dropL_more, callP_eq, callM_true, bigsA]
  refine loopS (P := Try.prog) (fun x st => st.T.length = 19 ∧ x.1 ≤ ms.length ∧ getT st.T 0 = bigsA ms ∧ getT st.T 1 = .fn 52 [.ref id ep 0] ∧ getT st.T 7 = .int ms.length ∧ getT st.T 8 = .int (x.1 : Nat) ∧ st.S = S ∧ st.tk = tk ∧ st.n = x.2) (fun x => ms.length - x.1)
    (fun x => (.int (idxB pVal (ms.drop x.1) x.1).1, S, tk, x.2 + (idxB pVal (ms.drop x.1) x.1).2)) (0, k) ?_ ?_
  case refine_2 => exact ⟨rfl, Nat.zero_le _, rfl, rfl, rfl, rfl, rfl, rfl, rfl⟩
  rintro ⟨i, m⟩ ⟨T, S', tk', n'⟩ ⟨hl, hi, e0, e1, e7, e8, eS, eT, eN⟩ IH
  simp only at eS eT eN
  subst eS eT eN
  obtain ⟨g, hg, hT⟩ := tab_of hl
  rw [hg] at e0 e1 e7 e8
  subst hT
  clear hg hl
  simp only at hi e8
  by_cases hlt : i < ms.length
  · have d1 : decide ((i : Int) < (ms.length : Int)) = true := by simpa using hlt
    obtain ⟨m, hc⟩ := nth_some hlt
    have hc' := nth_big hc
    have hw := wrap_add (i := i) (by omega)
    have hf := fun k => all_valid_fn S' tk' k m id ep (hm m (mem_nth hc)) h
    simp only [bigC] at hf hc'
    rw [nth_drop hc]
    cases h1 : pVal m with
    | true =>
      rw [h1] at hf
      simp (maxSteps := 1000000) +contextual (disch := first | with_reducible assumption | exact ⟨rfl⟩ | exact ⟨rfl, rfl⟩ | (refine _root_.id ?_; kernel_rfl) | omega) only [evs, ext_mv, nth, put, putT, getT, binInt, binStr, binBool, aUn, outA, resA, mapO, resA1, oneOf, w1, w2, w3, bots, cond_true, cond_false, if_true, if_false, ite_true, ite_false, reduceIte, reduceCtorEq, implies_true, Nat.reduceAdd, Nat.reduceSub, AV.int, AV.bool, AV.str, Nat.reduceBEq, Nat.reduceEqDiff, Nat.reduceMul, Nat.reduceLT, Nat.reduceLeDiff, Int.reduceNeg, BEq.rfl, beq_self_eq_true, tabl, cellsOf, fldA, ldA, stA, entAt_new, entAt_old, entAt_old2, List.take_left, List.take_length, partA, takeN, over, leafOk, Value.oneCell', idxA, nilA, cellsEq, fillA, elemsA, pure1, pure2, reps, chkA, tys, Try.results74, KX_draw, KX_drawQ, KX_tail, lastO_one, lastO_more, dropL_one, dropL_more, callP_eq, callM_true, e0, e1, e7, e8, d1, bigsA, hc', hw, hf, Bool.not_true]
      rw [IH (i + 1, n' + 1) _ (by simp only; omega) ⟨rfl, hlt, rfl, rfl, rfl, rfl, rfl, rfl, rfl⟩]
      simp [idxB, h1]; omega
    | false =>
      rw [h1] at hf
      simp (maxSteps := 1000000) +contextual (disch := first | with_reducible assumption | exact ⟨rfl⟩ | exact ⟨rfl, rfl⟩ | (refine _root_.id ?_; kernel_rfl) | omega) only [evs, ext_mv, nth, put, putT, getT, binInt, binStr, binBool, aUn, outA, resA, mapO, resA1, oneOf, w1, w2, w3, bots, cond_true, cond_false, if_true, if_false, ite_true, ite_false, reduceIte, reduceCtorEq, implies_true, Nat.reduceAdd, Nat.reduceSub, AV.int, AV.bool, AV.str, Nat.reduceBEq, Nat.reduceEqDiff, Nat.reduceMul, Nat.reduceLT, Nat.reduceLeDiff, Int.reduceNeg, BEq.rfl, beq_self_eq_true, tabl, cellsOf, fldA, ldA, stA, entAt_new, entAt_old, entAt_old2, List.take_left, List.take_length, partA, takeN, over, leafOk, Value.oneCell', idxA, nilA, cellsEq, fillA, elemsA, pure1, pure2, reps, chkA, tys, Try.results74, KX_draw, KX_drawQ, KX_tail, lastO_one, lastO_more, dropL_one, dropL_more, callP_eq, callM_true, e0, e1, e7, e8, d1, bigsA, hc', hw, hf, Bool.not_false]
      simp [idxB, h1]
  · have d1 : decide ((i : Int) < (ms.length : Int)) = false := by simpa using hlt
    have he : i = ms.length := by omega
    simp (maxSteps := 1000000) +contextual (disch := first | with_reducible assumption | exact ⟨rfl⟩ | exact ⟨rfl, rfl⟩ | (refine _root_.id ?_; kernel_rfl) | omega) only [evs, ext_mv, nth, put, putT, getT, binInt, binStr, binBool, aUn, outA, resA, mapO, resA1, oneOf, w1, w2, w3, bots, cond_true, cond_false, if_true, if_false, ite_true, ite_false, reduceIte, reduceCtorEq, implies_true, Nat.reduceAdd, Nat.reduceSub, AV.int, AV.bool, AV.str, Nat.reduceBEq, Nat.reduceEqDiff, Nat.reduceMul, Nat.reduceLT, Nat.reduceLeDiff, Int.reduceNeg, BEq.rfl, beq_self_eq_true, tabl, cellsOf, fldA, ldA, stA, entAt_new, entAt_old, entAt_old2, List.take_left, List.take_length, partA, takeN, over, leafOk, Value.oneCell', idxA, nilA, cellsEq, fillA, elemsA, pure1, pure2, reps, chkA, tys, Try.results74, KX_draw, KX_drawQ, KX_tail, lastO_one, lastO_more, dropL_one, dropL_more, callP_eq, callM_true, e0, e1, e7, e8, d1, bigsA]
    simp only [he, List.drop_length]; rfl
theorem all_valid_any (ms : List BigT) (id ep : Nat) (hl : ms.length ≤ 1000000) (hm : ∀ m ∈ ms, m.2.length ≤ 1000000) (h : entAt S id ep = some [.fn 26 []]) :
    cL Try.prog 51 [bigsA ms, .fn 52 [.ref id ep 0]] S tk k = some (.bool (!(ms.all pVal)), S, tk, k + (idxB pVal ms 0).2) := by
  have hI := all_valid_idx S tk k ms id ep (by omega) hm h
  have hge := idx_ge pVal ms 0
  simp only [bigsA] at hI
  refine call_shared Try.func51 rfl rfl (by decide +kernel) Try.ntmps51 rfl ?_; rw [RK_KX]
  simp (maxSteps := 1000000) +contextual (disch := first | with_reducible assumption | exact ⟨rfl⟩ | exact ⟨rfl, rfl⟩ | (refine _root_.id ?_; kernel_rfl) | omega) only [evs, ext_mv, nth, put, putT, getT, binInt, binStr, binBool, aUn, outA, resA, mapO, resA1, oneOf, w1, w2, w3, bots, cond_true, cond_false, if_true, if_false, ite_true, ite_false, reduceIte, reduceCtorEq, implies_true, Nat.reduceAdd, Nat.reduceSub, AV.int, AV.bool, AV.str, Nat.reduceBEq, Nat.reduceEqDiff, Nat.reduceMul, Nat.reduceLT, Nat.reduceLeDiff, Int.reduceNeg, BEq.rfl, beq_self_eq_true, tabl, cellsOf, fldA, ldA, stA, entAt_new, entAt_old, entAt_old2, List.take_left, List.take_length, partA, takeN, over, leafOk, Value.oneCell', idxA, nilA, cellsEq, fillA, elemsA, pure1, pure2, reps, chkA, tys, Try.results51, KX_draw, KX_drawQ, KX_tail, lastO_one, lastO_more, dropL_one, dropL_more, callP_eq, callM_true, bigsA, hI, hge]
theorem all_valid (ms : List BigT) (hl : ms.length ≤ 1000000) (hm : ∀ m ∈ ms, m.2.length ≤ 1000000) : cL Try.prog 25 [bigsA ms, .fn 26 []] S tk k = some (.bool (ms.all pVal), S, tk, k) := by
  have hA := fun tk k ep => all_valid_any [⟨ep, [.fn 26 []]⟩] tk k ms 0 ep hl hm (by simp [entAt, nth])
  simp only [bigsA] at hA
  refine call_pure Try.func25 rfl rfl (by decide +kernel) (by decide +kernel) Try.ntmps25 rfl rfl _ _ _ rfl ?_; rw [RK_KX]
  simp (maxSteps := 1000000) +contextual (disch := first | with_reducible assumption | exact ⟨rfl⟩ | exact ⟨rfl, rfl⟩ | (refine _root_.id ?_; kernel_rfl) | omega) only [evs, ext_mv, nth, put, putT, getT, binInt, binStr, binBool, aUn, outA, resA, mapO, resA1, oneOf, w1, w2, w3, bots, cond_true, cond_false, if_true, if_false, ite_true, ite_false, reduceIte, reduceCtorEq, implies_true, Nat.reduceAdd, Nat.reduceSub, AV.int, AV.bool, AV.str, Nat.reduceBEq, Nat.reduceEqDiff, Nat.reduceMul, Nat.reduceLT, Nat.reduceLeDiff, Int.reduceNeg, BEq.rfl, beq_self_eq_true, tabl, cellsOf, fldA, ldA, stA, entAt, partA, takeN, over, leafOk, Value.oneCell', idxA, nilA, cellsEq, fillA, elemsA, pure1, pure2, reps, chkA, tys, Try.results25, KX_draw, KX_drawQ, KX_tail, lastO_one, lastO_more, dropL_one, dropL_more, callP_eq, callM_true, bigsA, hA, Bool.not_not, capsOk]
theorem all_zero_fn (m : BigT) (id ep : Nat) (hm : m.2.length ≤ 1000000) (h : entAt S id ep = some [.fn 39 []]) : cL Try.prog 52 [.agg (bigC m), .ref id ep 0] S tk k = some (.bool (!pZero m), S, tk, k + 1) := by
  have hF := fun S tk k => Zero_big S tk k m hm
  simp only [bigC] at hF
  refine call_shared Try.func52 rfl rfl (by decide +kernel) Try.ntmps52 rfl ?_; rw [RK_KX]
  simp (maxSteps := 1000000) +contextual (disch := first | with_reducible assumption | exact ⟨rfl⟩ | exact ⟨rfl, rfl⟩ | (refine _root_.id ?_; kernel_rfl) | omega) only [evs, ext_mv, nth, put, putT, getT, binInt, binStr, binBool, aUn, outA, resA, mapO, resA1, oneOf, w1, w2, w3, bots, cond_true, cond_false, if_true, if_false, ite_true, ite_false, reduceIte, reduceCtorEq, implies_true, Nat.reduceAdd, Nat.reduceSub, AV.int, AV.bool, AV.str, Nat.reduceBEq, Nat.reduceEqDiff, Nat.reduceMul, Nat.reduceLT, Nat.reduceLeDiff, Int.reduceNeg, BEq.rfl, beq_self_eq_true, tabl, cellsOf, fldA, ldA, stA, entAt_new, entAt_old, entAt_old2, List.take_left, List.take_length, partA, takeN, over, leafOk, Value.oneCell', idxA, nilA, cellsEq, fillA, elemsA, pure1, pure2, reps, chkA, tys, Try.results52, KX_draw, KX_drawQ, KX_tail, lastO_one, lastO_more, dropL_one, dropL_more, callP_eq, callM_true, bigC, h, hF]
theorem all_zero_idx (ms : List BigT) (id ep : Nat) (hl : ms.length ≤ 1048576) (hm : ∀ m ∈ ms, m.2.length ≤ 1000000) (h : entAt S id ep = some [.fn 39 []]) :
    cL Try.prog 74 [bigsA ms, .fn 52 [.ref id ep 0]] S tk k = some (.int (idxB pZero ms 0).1, S, tk, k + (idxB pZero ms 0).2) := by
  refine call_shared Try.func74 rfl rfl (by decide +kernel) Try.ntmps74 rfl ?_; rw [RK_KX]
  simp (maxSteps := 1000000) +contextual (disch := first | with_reducible assumption | exact ⟨rfl⟩ | exact ⟨rfl, rfl⟩ | (refine _root_.id ?_; kernel_rfl) | omega) only [evs, ext_mv, nth, put, putT, getT, binInt, binStr, binBool, aUn, outA, resA, mapO, resA1, oneOf, w1, w2, w3, bots, cond_true, cond_false, if_true, if_false, ite_true, ite_false, reduceIte, reduceCtorEq, implies_true, Nat.reduceAdd, Nat.reduceSub, AV.int, AV.bool, AV.str, Nat.reduceBEq, Nat.reduceEqDiff, Nat.reduceMul, Nat.reduceLT, Nat.reduceLeDiff, Int.reduceNeg, BEq.rfl, beq_self_eq_true, tabl, cellsOf, fldA, ldA, stA, entAt_new, entAt_old, entAt_old2, List.take_left, List.take_length, partA, takeN, over, leafOk, Value.oneCell', idxA, nilA, cellsEq, fillA, elemsA, pure1, pure2, reps, chkA, tys, Try.results74, KX_draw, KX_drawQ, KX_tail, lastO_one, lastO_more, dropL_one, dropL_more, callP_eq, callM_true, bigsA]
  refine loopS (P := Try.prog) (fun x st => st.T.length = 19 ∧ x.1 ≤ ms.length ∧ getT st.T 0 = bigsA ms ∧ getT st.T 1 = .fn 52 [.ref id ep 0] ∧ getT st.T 7 = .int ms.length ∧ getT st.T 8 = .int (x.1 : Nat) ∧ st.S = S ∧ st.tk = tk ∧ st.n = x.2) (fun x => ms.length - x.1)
    (fun x => (.int (idxB pZero (ms.drop x.1) x.1).1, S, tk, x.2 + (idxB pZero (ms.drop x.1) x.1).2)) (0, k) ?_ ?_
  case refine_2 => exact ⟨rfl, Nat.zero_le _, rfl, rfl, rfl, rfl, rfl, rfl, rfl⟩
  rintro ⟨i, m⟩ ⟨T, S', tk', n'⟩ ⟨hl, hi, e0, e1, e7, e8, eS, eT, eN⟩ IH
  simp only at eS eT eN
  subst eS eT eN
  obtain ⟨g, hg, hT⟩ := tab_of hl
  rw [hg] at e0 e1 e7 e8
  subst hT
  clear hg hl
  simp only at hi e8
  by_cases hlt : i < ms.length
  · have d1 : decide ((i : Int) < (ms.length : Int)) = true := by simpa using hlt
    obtain ⟨m, hc⟩ := nth_some hlt
    have hc' := nth_big hc
    have hw := wrap_add (i := i) (by omega)
    have hf := fun k => all_zero_fn S' tk' k m id ep (hm m (mem_nth hc)) h
    simp only [bigC] at hf hc'
    rw [nth_drop hc]
    cases h1 : pZero m with
    | true =>
      rw [h1] at hf
      simp (maxSteps := 1000000) +contextual (disch := first | with_reducible assumption | exact ⟨rfl⟩ | exact ⟨rfl, rfl⟩ | (refine _root_.id ?_; kernel_rfl) | omega) only [evs, ext_mv, nth, put, putT, getT, binInt, binStr, binBool, aUn, outA, resA, mapO, resA1, oneOf, w1, w2, w3, bots, cond_true, cond_false, if_true, if_false, ite_true, ite_false, reduceIte, reduceCtorEq, implies_true, Nat.reduceAdd, Nat.reduceSub, AV.int, AV.bool, AV.str, Nat.reduceBEq, Nat.reduceEqDiff, Nat.reduceMul, Nat.reduceLT, Nat.reduceLeDiff, Int.reduceNeg, BEq.rfl, beq_self_eq_true, tabl, cellsOf, fldA, ldA, stA, entAt_new, entAt_old, entAt_old2, List.take_left, List.take_length, partA, takeN, over, leafOk, Value.oneCell', idxA, nilA, cellsEq, fillA, elemsA, pure1, pure2, reps, chkA, tys, Try.results74, KX_draw, KX_drawQ, KX_tail, lastO_one, lastO_more, dropL_one, dropL_more, callP_eq, callM_true, e0, e1, e7, e8, d1, bigsA, hc', hw, hf, Bool.not_true]
      rw [IH (i + 1, n' + 1) _ (by simp only; omega) ⟨rfl, hlt, rfl, rfl, rfl, rfl, rfl, rfl, rfl⟩]
      simp [idxB, h1]; omega
    | false =>
      rw [h1] at hf
      simp (maxSteps := 1000000) +contextual (disch := first | with_reducible assumption | exact ⟨rfl⟩ | exact ⟨rfl, rfl⟩ | (refine _root_.id ?_; kernel_rfl) | omega) only [evs, ext_mv, nth, put, putT, getT, binInt, binStr, binBool, aUn, outA, resA, mapO, resA1, oneOf, w1, w2, w3, bots, cond_true, cond_false, if_true, if_false, ite_true, ite_false, reduceIte, reduceCtorEq, implies_true, Nat.reduceAdd, Nat.reduceSub, AV.int, AV.bool, AV.str, Nat.reduceBEq, Nat.reduceEqDiff, Nat.reduceMul, Nat.reduceLT, Nat.reduceLeDiff, Int.reduceNeg, BEq.rfl, beq_self_eq_true, tabl, cellsOf, fldA, ldA, stA, entAt_new, entAt_old, entAt_old2, List.take_left, List.take_length, partA, takeN, over, leafOk, Value.oneCell', idxA, nilA, cellsEq, fillA, elemsA, pure1, pure2, reps, chkA, tys, Try.results74, KX_draw, KX_drawQ, KX_tail, lastO_one, lastO_more, dropL_one, dropL_more, callP_eq, callM_true, e0, e1, e7, e8, d1, bigsA, hc', hw, hf, Bool.not_false]
      simp [idxB, h1]
  · have d1 : decide ((i : Int) < (ms.length : Int)) = false := by simpa using hlt
    have he : i = ms.length := by omega
    simp (maxSteps := 1000000) +contextual (disch := first | with_reducible assumption | exact ⟨rfl⟩ | exact ⟨rfl, rfl⟩ | (refine _root_.id ?_; kernel_rfl) | omega) only [evs, ext_mv, nth, put, putT, getT, binInt, binStr, binBool, aUn, outA, resA, mapO, resA1, oneOf, w1, w2, w3, bots, cond_true, cond_false, if_true, if_false, ite_true, ite_false, reduceIte, reduceCtorEq, implies_true, Nat.reduceAdd, Nat.reduceSub, AV.int, AV.bool, AV.str, Nat.reduceBEq, Nat.reduceEqDiff, Nat.reduceMul, Nat.reduceLT, Nat.reduceLeDiff, Int.reduceNeg, BEq.rfl, beq_self_eq_true, tabl, cellsOf, fldA, ldA, stA, entAt_new, entAt_old, entAt_old2, List.take_left, List.take_length, partA, takeN, over, leafOk, Value.oneCell', idxA, nilA, cellsEq, fillA, elemsA, pure1, pure2, reps, chkA, tys, Try.results74, KX_draw, KX_drawQ, KX_tail, lastO_one, lastO_more, dropL_one, dropL_more, callP_eq, callM_true, e0, e1, e7, e8, d1, bigsA]
    simp only [he, List.drop_length]; rfl
theorem all_zero_any (ms : List BigT) (id ep : Nat) (hl : ms.length ≤ 1000000) (hm : ∀ m ∈ ms, m.2.length ≤ 1000000) (h : entAt S id ep = some [.fn 39 []]) :
    cL Try.prog 51 [bigsA ms, .fn 52 [.ref id ep 0]] S tk k = some (.bool (!(ms.all pZero)), S, tk, k + (idxB pZero ms 0).2) := by
  have hI := all_zero_idx S tk k ms id ep (by omega) hm h
  have hge := idx_ge pZero ms 0
  simp only [bigsA] at hI
  refine call_shared Try.func51 rfl rfl (by decide +kernel) Try.ntmps51 rfl ?_; rw [RK_KX]
  simp (maxSteps := 1000000) +contextual (disch := first | with_reducible assumption | exact ⟨rfl⟩ | exact ⟨rfl, rfl⟩ | (refine _root_.id ?_; kernel_rfl) | omega) only [evs, ext_mv, nth, put, putT, getT, binInt, binStr, binBool, aUn, outA, resA, mapO, resA1, oneOf, w1, w2, w3, bots, cond_true, cond_false, if_true, if_false, ite_true, ite_false, reduceIte, reduceCtorEq, implies_true, Nat.reduceAdd, Nat.reduceSub, AV.int, AV.bool, AV.str, Nat.reduceBEq, Nat.reduceEqDiff, Nat.reduceMul, Nat.reduceLT, Nat.reduceLeDiff, Int.reduceNeg, BEq.rfl, beq_self_eq_true, tabl, cellsOf, fldA, ldA, stA, entAt_new, entAt_old, entAt_old2, List.take_left, List.take_length, partA, takeN, over, leafOk, Value.oneCell', idxA, nilA, cellsEq, fillA, elemsA, pure1, pure2, reps, chkA, tys, Try.results51, KX_draw, KX_drawQ, KX_tail, lastO_one, lastO_more, dropL_one, dropL_more, callP_eq, callM_true, bigsA, hI, hge]
theorem all_zero (ms : List BigT) (hl : ms.length ≤ 1000000) (hm : ∀ m ∈ ms, m.2.length ≤ 1000000) : cL Try.prog 25 [bigsA ms, .fn 39 []] S tk k = some (.bool (ms.all pZero), S, tk, k) := by
  have hA := fun tk k ep => all_zero_any [⟨ep, [.fn 39 []]⟩] tk k ms 0 ep hl hm (by simp [entAt, nth])
  simp only [bigsA] at hA
  refine call_pure Try.func25 rfl rfl (by decide +kernel) (by decide +kernel) Try.ntmps25 rfl rfl _ _ _ rfl ?_; rw [RK_KX]
  simp (maxSteps := 1000000) +contextual (disch := first | with_reducible assumption | exact ⟨rfl⟩ | exact ⟨rfl, rfl⟩ | (refine _root_.id ?_; kernel_rfl) | omega) only [evs, ext_mv, nth, put, putT, getT, binInt, binStr, binBool, aUn, outA, resA, mapO, resA1, oneOf, w1, w2, w3, bots, cond_true, cond_false, if_true, if_false, ite_true, ite_false, reduceIte, reduceCtorEq, implies_true, Nat.reduceAdd, Nat.reduceSub, AV.int, AV.bool, AV.str, Nat.reduceBEq, Nat.reduceEqDiff, Nat.reduceMul, Nat.reduceLT, Nat.reduceLeDiff, Int.reduceNeg, BEq.rfl, beq_self_eq_true, tabl, cellsOf, fldA, ldA, stA, entAt, partA, takeN, over, leafOk, Value.oneCell', idxA, nilA, cellsEq, fillA, elemsA, pure1, pure2, reps, chkA, tys, Try.results25, KX_draw, KX_drawQ, KX_tail, lastO_one, lastO_more, dropL_one, dropL_more, callP_eq, callM_true, bigsA, hA, Bool.not_not, capsOk]
end
end Go.Proofs.Ytmgbmbganlndkaa
/-
  A number times a coefficient is added to a sum: the closure of the package.
-/

namespace Go.Proofs.Ytmgbmbganlndkaa
open Go
theorem add_w (P : Program) [Globs] [Ext P] {f : FuncId} {p q : Bool} {l r : List Int} {c : Bool} {S : List Ent} {tk : List Nat} {k : Nat} (hx : (Ext.on P f || Ext.mv P f) = false) :
    cL P f [.agg [.prim (.bool p), .frz (l.map digC) (ownCap c)], bigA q r] S tk k = cL P f [bigA p l, bigA q r] S tk k := cL_w2 rfl rfl hx
section
variable (tk : List Nat) (k : Nat)
theorem add_in (c0 : List AV) (a0 a1 a2 a3 a4 a5 : Nat) (c4 c5 : List AV) (outs : List (Bool × Int)) (i : Nat) (c : Bool) (z n : Int) (m : BigT) (hx : nth outs i = some (c, z)) (hz : okZ z = true) (hm : m.2.length ≤ 100) (hn : i64 n) (h2 : okZ (z + vB m * n) = true) :
    cL Try.prog 29 [.int (i : Nat), .agg (bigC m), .int n, .ref 2 a2 0, .ref 3 a3 0] (⟨a0, c0⟩ :: ⟨a1, ownS outs⟩ :: ⟨a2, [.sref 1 a1 0 outs.length 2]⟩ :: ⟨a3, [.bool true]⟩ :: [⟨a4,c4⟩,⟨a5,c5⟩]) tk k = some (.tup [], (⟨a0, c0⟩ :: ⟨a1, ownS (outs.set i (false, z + vB m * n))⟩ :: ⟨a2, [.sref 1 a1 0 outs.length 2]⟩ :: ⟨a3, [.bool true]⟩ :: [⟨a4,c4⟩,⟨a5,c5⟩]), tk, k + 3) := by
  have hO := fun S tk k => big_Of S tk k n hn
  have hzn := okZ_i64 hn
  have h1 := mul_ok hm hn
  have hM := fun S tk k => big_Mul' S tk k m.1 (decide (n < 0)) m.2 (dig n.natAbs) (by omega) (by have := zA_len hzn; omega)
  rw [V_zA hzn, sgnZ_ok h1] at hM
  have hA := fun S tk k => (add_w Try.prog (f := 32) (p := decide (z < 0)) (l := dig z.natAbs) (c := c) rfl).trans (big_Add S tk k (decide (z < 0)) (decide (V m.1 m.2 * n < 0)) (dig z.natAbs) (dig (V m.1 m.2 * n).natAbs) (by have := zA_len hz; omega) (by have := zA_len h1; omega))
  rw [V_zA hz, V_zA h1, sgnZ_ok (show okZ (z + V m.1 m.2 * n) = true from h2)] at hA
  have hld := own_take hx
  have hin := nth_lt hx
  have hov : over (ownS outs) (i * 2) [.prim (.bool (decide (z + V m.1 m.2 * n < 0))), .frz ((dig (z + V m.1 m.2 * n).natAbs).map digC) .unk] = some (ownS (outs.set i (false, z + vB m * n))) := own_over (false, z + vB m * n) hx
  simp only [ownC] at hld
  simp only [zA, bigA, digA] at hO hM hA
  refine call_shared Try.func29 rfl rfl (by decide +kernel) Try.ntmps29 rfl ?_; rw [RK_KX]
  simp (maxSteps := 1000000) +contextual (disch := first | with_reducible assumption | exact ⟨rfl⟩ | exact ⟨rfl, rfl⟩ | (refine _root_.id ?_; kernel_rfl) | omega) only [evs, ext_mv, nth, put, putT, getT, binInt, binStr, binBool, aUn, outA, resA, mapO, resA1, oneOf, w1, w2, w3, bots, cond_true, cond_false, if_true, if_false, ite_true, ite_false, reduceIte, reduceCtorEq, implies_true, Nat.reduceAdd, Nat.reduceSub, AV.int, AV.bool, AV.str, Nat.reduceBEq, Nat.reduceEqDiff, Nat.reduceMul, Nat.reduceLT, Nat.reduceLeDiff, Int.reduceNeg, BEq.rfl, beq_self_eq_true, tabl, cellsOf, fldA, ldA, stA, entAt_new, entAt_old, entAt_old2, List.take_left, List.take_length, partA, takeN, over, leafOk, Value.oneCell', idxA, nilA, cellsEq, fillA, elemsA, pure1, pure2, reps, chkA, tys, Try.results29, KX_draw, KX_drawQ, KX_tail, lastO_one, lastO_more, dropL_one, dropL_more, callP_eq, callM_true, bigC, hO, hM, hA, hld, hov, hin, bigA, digA, zA, entAt, nth, if_true, put, List.set_cons_succ, List.set_cons_zero, List.length_cons, List.length_nil, Nat.zero_add, Nat.reduceAdd, List.cons_append, List.nil_append]
theorem add_last (c0 : List AV) (a0 a1 a2 a3 a4 a5 : Nat) (c4 c5 : List AV) (outs : List (Bool × Int)) (i : Nat) (c : Bool) (z n : Int) (m : BigT) (hx : nth outs i = some (c, z)) (hz : okZ z = true) (hm : m.2.length ≤ 100) (hn : i64 n) (h2 : okZ (z + vB m * n) = true) :
    cL Try.prog 29 [.int (i : Nat), .agg (bigC m), .int n, .ref 2 a2 0, .ref 3 a3 0] (⟨a0, c0⟩ :: ⟨a1, ownS outs⟩ :: ⟨a2, [.sref 1 a1 0 outs.length 2]⟩ :: ⟨a3, [.bool true]⟩ :: [⟨a4,c4⟩]) tk k = some (.tup [], (⟨a0, c0⟩ :: ⟨a1, ownS (outs.set i (false, z + vB m * n))⟩ :: ⟨a2, [.sref 1 a1 0 outs.length 2]⟩ :: ⟨a3, [.bool true]⟩ :: [⟨a4,c4⟩]), tk, k + 3) := by
  have hO := fun S tk k => big_Of S tk k n hn
  have hzn := okZ_i64 hn
  have h1 := mul_ok hm hn
  have hM := fun S tk k => big_Mul' S tk k m.1 (decide (n < 0)) m.2 (dig n.natAbs) (by omega) (by have := zA_len hzn; omega)
  rw [V_zA hzn, sgnZ_ok h1] at hM
  have hA := fun S tk k => (add_w Try.prog (f := 32) (p := decide (z < 0)) (l := dig z.natAbs) (c := c) rfl).trans (big_Add S tk k (decide (z < 0)) (decide (V m.1 m.2 * n < 0)) (dig z.natAbs) (dig (V m.1 m.2 * n).natAbs) (by have := zA_len hz; omega) (by have := zA_len h1; omega))
  rw [V_zA hz, V_zA h1, sgnZ_ok (show okZ (z + V m.1 m.2 * n) = true from h2)] at hA
  have hld := own_take hx
  have hin := nth_lt hx
  have hov : over (ownS outs) (i * 2) [.prim (.bool (decide (z + V m.1 m.2 * n < 0))), .frz ((dig (z + V m.1 m.2 * n).natAbs).map digC) .unk] = some (ownS (outs.set i (false, z + vB m * n))) := own_over (false, z + vB m * n) hx
  simp only [ownC] at hld
  simp only [zA, bigA, digA] at hO hM hA
  refine call_shared Try.func29 rfl rfl (by decide +kernel) Try.ntmps29 rfl ?_; rw [RK_KX]
  simp (maxSteps := 1000000) +contextual (disch := first | with_reducible assumption | exact ⟨rfl⟩ | exact ⟨rfl, rfl⟩ | (refine _root_.id ?_; kernel_rfl) | omega) only [evs, ext_mv, nth, put, putT, getT, binInt, binStr, binBool, aUn, outA, resA, mapO, resA1, oneOf, w1, w2, w3, bots, cond_true, cond_false, if_true, if_false, ite_true, ite_false, reduceIte, reduceCtorEq, implies_true, Nat.reduceAdd, Nat.reduceSub, AV.int, AV.bool, AV.str, Nat.reduceBEq, Nat.reduceEqDiff, Nat.reduceMul, Nat.reduceLT, Nat.reduceLeDiff, Int.reduceNeg, BEq.rfl, beq_self_eq_true, tabl, cellsOf, fldA, ldA, stA, entAt_new, entAt_old, entAt_old2, List.take_left, List.take_length, partA, takeN, over, leafOk, Value.oneCell', idxA, nilA, cellsEq, fillA, elemsA, pure1, pure2, reps, chkA, tys, Try.results29, KX_draw, KX_drawQ, KX_tail, lastO_one, lastO_more, dropL_one, dropL_more, callP_eq, callM_true, bigC, hO, hM, hA, hld, hov, hin, bigA, digA, zA, entAt, nth, if_true, put, List.set_cons_succ, List.set_cons_zero, List.length_cons, List.length_nil, Nat.zero_add, Nat.reduceAdd, List.cons_append, List.nil_append]
end
end Go.Proofs.Ytmgbmbganlndkaa
/-
  Sums within a row, plainly.
-/

namespace Go.Proofs.Ytmgbmbganlndkaa
open Go
/-- all coefficients of a name -/
def sumC (s : ByteArray) : List (ByteArray × Int) → Int
  | [] => 0
  | c :: cs => (if c.1 = s then c.2 else 0) + sumC s cs
theorem sumC_snoc (s : ByteArray) (c : ByteArray × Int) : ∀ cs : List (ByteArray × Int), sumC s (cs ++ [c]) = sumC s cs + (if c.1 = s then c.2 else 0)
  | [] => by simp [sumC]
  | d :: cs => by simp only [List.cons_append, sumC, sumC_snoc s c cs]; omega
theorem sumC_none {s : ByteArray} : ∀ {cs : List (ByteArray × Int)}, (∀ c ∈ cs, c.1 ≠ s) → sumC s cs = 0
  | [], _ => rfl
  | c :: cs, h => by rw [sumC, if_neg (h c (by simp)), sumC_none fun x hx => h x (by simp [hx])]; rfl
/-- increasing names: the first is the only one -/
def IncC (cs : List (ByteArray × Int)) : Prop := Inc (cs.map (·.1))
theorem sumC_coef (s : ByteArray) : ∀ {cs : List (ByteArray × Int)}, IncC cs → sumC s cs = coefF cs s
  | [], _ => rfl
  | c :: cs, h => by
    have h1 := List.pairwise_cons.1 (show (c.1 :: cs.map (·.1)).Pairwise (fun a b => nm a < nm b) from h)
    rw [sumC, coefF, sEq_nm]
    by_cases hc : c.1 = s
    · rw [if_pos hc, if_pos (by simpa using hc), sumC_none]
      · omega
      · intro x hx hxs
        have := h1.1 x.1 (List.mem_map.2 ⟨x, hx, rfl⟩)
        rw [hxs, ← hc] at this
        exact List.lt_irrefl _ this
    · rw [if_neg hc, if_neg (by simpa using hc), sumC_coef s (cs := cs) h1.2]; omega
theorem map_set {g g' : ByteArray → Int} {s : ByteArray} (hg : ∀ v, v ≠ s → g' v = g v) : ∀ {vs : List ByteArray} {q : Nat}, Inc vs → nth vs q = some s → (vs.map g).set q (g' s) = vs.map g'
  | [], _, _, h => by simp [nth] at h
  | a :: vs, 0, hi, h => by
    simp only [nth, Option.some.injEq] at h
    subst h
    have h1 := List.pairwise_cons.1 hi
    simp only [List.map_cons, List.set_cons_zero, List.cons.injEq, true_and]
    refine List.map_congr_left fun v hv => (hg v fun he => ?_).symm
    have := h1.1 v hv
    rw [he] at this
    exact List.lt_irrefl _ this
  | a :: vs, q + 1, hi, h => by
    have h1 := List.pairwise_cons.1 hi
    have hs : s ∈ vs := mem_nth (i := q) h
    have ha : a ≠ s := fun he => by
      have := h1.1 s hs
      rw [he] at this
      exact List.lt_irrefl _ this
    simp only [List.map_cons, List.set_cons_succ, hg a ha, map_set hg h1.2 (show nth vs q = some s from h)]
theorem chk_inc : ∀ {n : Int} {p : Option ByteArray} {cs : List (ByteArray × Int)}, chkFrom n p cs = 0 → IncC cs ∧ ∀ c ∈ cs, ∀ b, p = some b → nm b < nm c.1
  | n, p, [], h => ⟨List.Pairwise.nil, fun c hc => by simp at hc⟩
  | n, p, c :: cs, h => by
    unfold chkFrom at h
    split at h
    · cases h
    · split at h
      · cases h
      · split at h
        · cases h
        · rename_i h3
          obtain ⟨a, b⟩ := chk_inc h
          have hc : ∀ x ∈ cs, nm c.1 < nm x.1 := fun x hx => b x hx c.1 rfl
          refine ⟨List.pairwise_cons.2 ⟨fun y hy => ?_, a⟩, ?_⟩
          · obtain ⟨x, hx, rfl⟩ := List.mem_map.1 hy; exact hc x hx
          · intro x hx d hd
            subst hd
            have hdc : nm d < nm c.1 := by
              simp only [notAbove, Bool.or_eq_true, not_or, Bool.not_eq_true] at h3
              obtain ⟨e1, e2⟩ := h3
              rw [sLt_nm] at e1
              rw [sEq_nm] at e2
              rcases nlt_tri d c.1 with h | h | h
              · exact h
              · exact absurd h.symm (by simpa using e2)
              · exact absurd h (by simpa using e1)
            rcases List.mem_cons.1 hx with rfl | hx
            · exact hdc
            · exact List.lt_trans hdc (hc x hx)
theorem check_inc {cs : List (ByteArray × Int)} {n : Int} (h : checkF cs n = 0) : IncC cs := by
  unfold checkF at h
  split at h
  · cases h
  · exact (chk_inc h).1
theorem first_inc : ∀ {l : List RowT}, firstE l = 0 → ∀ r ∈ l, IncC r.1
  | [], _ => fun r hr => by simp at hr
  | r :: l, h => by
    unfold firstE at h
    by_cases h0 : checkF r.1 r.2.1 = 0
    · rw [h0] at h
      simp only [bne_self_eq_false, Bool.false_eq_true, if_false] at h
      intro x hx
      rcases List.mem_cons.1 hx with rfl | hx
      · exact check_inc h0
      · exact first_inc h x hx
    · rw [if_pos (by simpa using h0)] at h; exact absurd h h0
/-- a row's name is one of the variables -/
theorem var_mem {l : List RowT} {r : RowT} {c : ByteArray × Int} (hr : r ∈ l) (hc : c ∈ r.1) : c.1 ∈ varsF l := by
  refine ((uni_facts (namesOf l)).2.1 c.1).2 ?_
  unfold namesOf
  rw [List.mem_flatten]
  exact ⟨r.1.map (·.1), List.mem_map.2 ⟨r, hr, rfl⟩, List.mem_map.2 ⟨c, hc, rfl⟩⟩
/-- the sum of a name after so many rows, and so many coefficients of the next -/
def valP (l : List RowT) (ms : List BigT) (m : BigT) (r : RowT) (i j : Nat) (v : ByteArray) : Int := coefD l ms v i + vB m * sumC v (r.1.take j)
theorem valP_zero (l : List RowT) (ms : List BigT) (m : BigT) (r : RowT) (i : Nat) (v : ByteArray) : valP l ms m r i 0 v = coefD l ms v i := by simp [valP, sumC]
theorem valP_self {l : List RowT} {ms : List BigT} {m : BigT} {r : RowT} {i j : Nat} {c : ByteArray × Int} (h : nth r.1 j = some c) : valP l ms m r i (j + 1) c.1 = valP l ms m r i j c.1 + vB m * c.2 := by
  rw [valP, valP, take_snoc h, sumC_snoc, if_pos rfl, Int.mul_add]; omega
theorem valP_other {l : List RowT} {ms : List BigT} {m : BigT} {r : RowT} {i j : Nat} {c : ByteArray × Int} (h : nth r.1 j = some c) (v : ByteArray) (hv : v ≠ c.1) : valP l ms m r i (j + 1) v = valP l ms m r i j v := by
  rw [valP, valP, take_snoc h, sumC_snoc, if_neg fun h => hv h.symm, Int.add_zero]
theorem valP_end {l : List RowT} {ms : List BigT} {m : BigT} {r : RowT} {i : Nat} (h1 : nth l i = some r) (h2 : nth ms i = some m) (hi : IncC r.1) (v : ByteArray) : valP l ms m r i r.1.length v = coefD l ms v (i + 1) := by
  rw [valP, List.take_length, sumC_coef v hi]
  exact (dot_succ (f := fun r => coefF r.1 v) h1 h2).symm
theorem inc_take {cs : List (ByteArray × Int)} (h : IncC cs) (j : Nat) : IncC (cs.take j) := by
  unfold IncC at h ⊢
  rw [List.map_take]
  exact List.Pairwise.sublist (List.take_sublist _ _) h
theorem valP_ok {l : List RowT} {ms : List BigT} {m : BigT} {r : RowT} {i : Nat} (hk : ∀ v, ∀ r ∈ l, i64 (coefF r.1 v)) (hm : ∀ m ∈ ms, m.2.length ≤ 100) (hmm : m.2.length ≤ 100) (hi : i ≤ 9000) (hri : IncC r.1) (hrn : ∀ c ∈ r.1, i64 c.2) (j : Nat) (v : ByteArray) : okZ (valP l ms m r i j v) = true := by
  have h1 := dot_lt (f := fun r => coefF r.1 v) (hk v) hm i
  have h2 : i64 (sumC v (r.1.take j)) := by
    rw [sumC_coef v (inc_take hri j)]
    exact coef_i64 (fun c hc => hrn c (List.mem_of_mem_take hc)) v
  have a := V_small m.1 m.2 hmm
  have b : (sumC v (r.1.take j)).natAbs < 10000 ^ 5 := by unfold i64 at h2; omega
  have c := lt_mul a b
  refine ok_le (i := i + 1) (by omega) ?_
  unfold valP coefD vB
  rw [Nat.succ_mul]
  generalize V m.1 m.2 * sumC v (r.1.take j) = t at *
  generalize dotN (fun r => coefF r.1 v) l ms i = s at *
  generalize 10000 ^ (100 + 5) = u at *
  generalize i * u = w at *
  omega
end Go.Proofs.Ytmgbmbganlndkaa
