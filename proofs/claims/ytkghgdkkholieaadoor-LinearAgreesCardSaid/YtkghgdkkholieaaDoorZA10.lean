/-
  Texts laid together: DKw, DExt, E1, E2, E3, E5, E6, E9.
-/
import Derived.Test.YtkghgdkkholieaaDoorZA9
import Derived.Laws.Rows
import Derived.WalkKit
import Derived.WalkSpells
import Derived.IntWalk
/-
  Is a text a keyword: the walk over the table.
-/




namespace Go.Proofs.YtkghgdkkholieaaDoor
open Go Go.RowKit
def Tab0 (w : World) : Prop := ∃ t fz, w.heap[0]? = some (.cells (kwL.map Value.string).toArray t fz)
theorem Tab0.below {w w' : World} (h : Tab0 w) {n : Nat} (hn : 0 < n) (hb : Below n w w') : Tab0 w' := by
  obtain ⟨t, fz, h⟩ := h
  exact ⟨t, fz, by rw [hb.block 0 hn]; exact h⟩
theorem Tab0.pos {w : World} (h : Tab0 w) : 0 < w.heap.size := by
  obtain ⟨t, fz, h⟩ := h
  exact (Array.getElem?_eq_some_iff.1 h).1
theorem hidX {p : Prop} (h : p) : Hid p := h
theorem ix94 {w : World} {cs : Array Value} {i : Nat} {v : Value} (hi : i < 42) (h : cs[i]? = some v) :
    (Instr.index 94 (.agg cs) (.int .i64 (i : Int))).run Tryd.prog w = .ok v w := by
  have hu := Tryd.underlying94
  have ha : aggT Tryd.prog 9 = some false := by kernel_rfl
  have hs : (Tryd.prog.info? 9).map (·.size) = some 1 := by kernel_rfl
  have hsz : ∃ ti, Tryd.prog.info? 9 = some ti ∧ ti.size = 1 := by simpa [Option.map_eq_some_iff] using hs
  obtain ⟨ti, h1, h2⟩ := hsz
  have hi2 : 0 ≤ (i : Int) ∧ (i : Int) < 42 := by omega
  simp [Instr.index, run_underlying hu, asIntOf, hi, go_sem, sizeOf, typeInfo, h1, h2, part, run_agg ha, h]
set_option maxRecDepth 100000 in
set_option maxHeartbeats 4000000 in
theorem Keyword_run (w : World) (ht : Tab0 w) (s : ByteArray) :
    Calls Tryd.prog 76 #[.string s] w fun e w' => e = .returned (.bool (kwF s)) ∧ Below w.heap.size w w' := by
  obtain ⟨t, fz, hh⟩ := ht
  go_enter Tryd.func76, Tryd.ntmps76
  have hi : (Tryd.prog.info? 94).map (·.size) = some (kwL.map Value.string).toArray.size := by kernel_rfl
  go_wp2_with (refine wpList_load_row rfl 94 _ rfl 0 rfl t _ fz _ hh Tryd.underlying94 rfl hi ?_)
  go_loop [6] (fun p => ∃ j : Nat, p = .int .i64 (j : Int) ∧ j ≤ 42 ∧ Hid ((kwL.take j).any (fun k => sEq k s) = false)) (fun p => 42 - (intOf p).toNat)
  case atStart => exact ⟨0, rfl, Nat.zero_le _, rfl⟩
  case round =>
    obtain ⟨j, rfl, hj, hno⟩ := hrel
    have hlen : kwL.length = 42 := rfl
    obtain ⟨KW, hKW⟩ : ∃ KW, KW = (List.map Value.string kwL).toArray := ⟨_, rfl⟩
    rw [← hKW]
    have hall : ∀ j x, nth kwL j = some x → KW[j]? = some (Value.string x) := fun j x hx => by
      rw [nth_get] at hx
      rw [hKW]; simp [hx]
    clear hh hi hKW
    by_cases hlt : j < 42
    · obtain ⟨x, hx⟩ := nth_some (show j < kwL.length by omega)
      have hix := ix94 (w := w) hlt (hall j x hx)
      have hg : (j : Int) < 42 := by omega
      have hw2 : IntKind.i64.wrap ((j : Int) + 1) = ((j + 1 : Nat) : Int) := by rw [Go.IntWalk.i64_in _ (by omega)]; omega
      have hx2 : kwL[j]? = some x := by rw [← nth_get]; exact hx
      have HX := hidX hx2
      clear hall hx hx2
      by_cases hs : sEq x s = true
      · have hs2 : (x.toList == s.toList) = true := hs
        have HS := hidX hs
        clear hs
        go_wp2
        go_ret
        refine ⟨?_, Below.refl _ _⟩
        have : kwF s = true := List.any_eq_true.2 ⟨x, List.mem_of_getElem? HX.out, HS.out⟩
        rw [this]
        rfl
      · have hs2 : (x.toList == s.toList) = false := by simpa [sEq] using hs
        have HS := hidX hs
        clear hs
        go_wp2
        refine ⟨⟨j + 1, rfl, hlt, hidX ?_⟩, ?_⟩
        · rw [List.take_add_one, HX.out]
          simp only [List.any_append, hno.out, Option.toList_some, List.any_cons, List.any_nil, Bool.or_false, Bool.false_or]
          simpa using HS.out
        · simp [intOf]; omega
    · have hg : ¬ (j : Int) < 42 := by omega
      go_wp2
      go_ret
      have he : j = 42 := by omega
      subst he
      refine ⟨?_, Below.refl _ _⟩
      rw [show kwF s = false from hno.out]
      rfl
end Go.Proofs.YtkghgdkkholieaaDoor
/-
  What is told from outside: the keywords; behind them, the check of predicates.
-/

namespace Go.Proofs.YtkghgdkkholieaaDoor
open Go
section
variable {P : Program}
/-- the same functions are told from outside, but less is told of them -/
@[reducible] def Ext.sub (E : Ext P) (c0 : CallA) : Ext P := { on := E.on, mv := E.mv, call := c0 }
theorem evC_sub [Globs] (E : Ext P) {c0 : CallA} {call : CallA} {ok : St → List Oper → Bool} {n : Nat} : ∀ (c : Code) (st : St), @evC _ P (Ext.sub E c0) call ok n c st = @evC _ P E call ok n c st
  | .skip, _ => by simp only [evC]
  | .region _ ops draw, st => by simp only [evC]; rfl
  | .seq a b, st => by
    simp only [evC, evC_sub E a]
    split <;> first | exact evC_sub E b _ | rfl
  | .cond c a b, st => by simp only [evC, evC_sub E a, evC_sub E b]
  | .block _ c, st => by simp only [evC, evC_sub E c]
  | .loop c, st => by
    simp only [evC]
    congr 1
    funext s
    exact evC_sub E c s
  | .exit _, _ => by simp only [evC]
  | .ret, _ => by simp only [evC]
  | .scope c, st => by simp only [evC]; exact evC_sub E c st
  | .label _, _ => by simp only [evC]
  | .goto _, _ => by simp only [evC]
  | .rangeFunc _ _ _ _, _ => by simp only [evC]
  | .refuse _, _ => by simp only [evC]
theorem evF_sub [Globs] (E : Ext P) {c0 : CallA} (h0 : CLe c0 E.call) {ok : St → List Oper → Bool} : ∀ k, CLe (@evF _ P (Ext.sub E c0) ok k) (@evF _ P E ok k)
  | 0 => by intro f args S tk n r he; simp [evF] at he
  | k + 1 => by
    have ih := evF_sub E h0 (ok := ok) k
    intro f args S tk n r he
    simp only [evF] at he ⊢
    split at he
    · rename_i hon
      rw [if_pos (show @Ext.on P E f = true from hon)]
      exact h0 _ _ _ _ _ _ he
    rename_i hon
    rw [if_neg (show ¬ @Ext.on P E f = true from hon)]
    split at he
    · rename_i fn hf
      split at he
      · rename_i c hb
        split at he
        · simp at he
        · rename_i hname
          rw [if_neg hname]
          have out : ∀ {st0 : St} {r0 : AV × St}, outA P fn (@evC _ P (Ext.sub E c0) (@evF _ P (Ext.sub E c0) ok k) ok k c st0) = some r0 → outA P fn (@evC _ P E (@evF _ P E ok k) ok k c st0) = some r0 := by
            intro st0 r0 h
            rw [evC_sub E] at h
            exact outA_mono (fun z hz => evC_mono ih (Nat.le_refl _) c _ z hz) h
          split at he
          · rename_i hmv
            rw [if_pos (show @Ext.mv P E f = true from hmv)]
            split at he
            · rename_i r' s1 ho
              rw [out ho]
              exact he
            · simp at he
          rename_i hmv
          rw [if_neg (show ¬ @Ext.mv P E f = true from hmv)]
          split at he
          · rename_i hp
            rw [if_pos hp]
            have one : ∀ {xs0 : List AV} {r0 : AV}, @runP _ P (Ext.sub E c0) ok (@evF _ P (Ext.sub E c0) ok k) k fn c xs0 = some r0 → @runP _ P E ok (@evF _ P E ok k) k fn c xs0 = some r0 := by
              intro xs0 r0 hrun
              unfold runP at hrun ⊢
              split at hrun
              · rename_i r' s1 ho
                rw [out ho]
                exact hrun
              · simp at hrun
            split at he
            · rename_i r' ho
              have : (if nilCmp c = true then runN (@runP _ P E ok (@evF _ P E ok k) k fn c) (args.map w2) else @runP _ P E ok (@evF _ P E ok k) k fn c (args.map w2)) = some r' := by
                split at ho
                · rename_i hn
                  rw [if_pos hn]
                  unfold runN at ho ⊢
                  split at ho
                  · split at ho
                    · rename_i q1 q2
                      rw [one q1, one q2]; exact ho
                    · simp at ho
                  · exact one ho
                · rename_i hn
                  rw [if_neg hn]
                  exact one ho
              rw [this]; exact he
            · simp at he
          · rename_i hp
            rw [if_neg hp]
            split at he
            · rename_i r' s1 ho
              rw [out ho]
              exact he
            · simp at he
      · simp at he
    · simp at he
theorem told_sub [Globs] {E : Ext P} {c0 : CallA} (h0 : CLe c0 E.call) {f : FuncId} {args : List AV} {S : List Ent} {tk : List Nat} {n : Nat} {r : AV × List Ent × List Nat × Nat} (h : @cL _ P (Ext.sub E c0) f args S tk n = some r) : @cL _ P E f args S tk n = some r := by
  obtain ⟨k, hk⟩ := (@cL_iff P _ (Ext.sub E c0) _ _ _ _ _ _).1 h
  exact (@cL_iff P _ E _ _ _ _ _ _).2 ⟨k, evF_sub E h0 k _ _ _ _ _ _ hk⟩
end
def kwC : List AV → Option AV
  | [.prim (.string s)] => some (.prim (.bool (kwF s)))
  | _ => none
open Classical in
noncomputable def chkC (args : List AV) : Option AV := if h : ∃ p, args = [.agg (predC p)] ∧ kidsMax p then some (.prim (.int .i64 (checkP h.choose))) else none
@[reducible] noncomputable def E1 : Ext Tryd.prog where
  on := fun f => f == 76 || f == 24
  mv := fun _ => false
  call := fun f args S tk n => if f == 76 then (kwC args).map fun r => (r, S, tk, n) else if f == 24 then (chkC args).map fun r => (r, S, tk, n) else none
/-- at first, the keywords alone -/
@[reducible] noncomputable instance E0 : Ext Tryd.prog := Ext.sub E1 fun f args S tk n => if f == 76 then (kwC args).map fun r => (r, S, tk, n) else none
theorem E0_le : CLe (@Ext.call Tryd.prog E0) (@Ext.call Tryd.prog E1) := by
  intro f args S tk n r h
  change (if f == 76 then (kwC args).map fun r => (r, S, tk, n) else none) = some r at h
  change (if f == 76 then (kwC args).map fun r => (r, S, tk, n) else if f == 24 then (chkC args).map fun r => (r, S, tk, n) else none) = some r
  split at h
  · rename_i hf; rw [if_pos hf]; exact h
  · simp at h
theorem told1 {f : FuncId} {args : List AV} {S : List Ent} {tk : List Nat} {n : Nat} {r : AV × List Ent × List Nat × Nat} (h : @cL _ Tryd.prog E0 f args S tk n = some r) : @cL _ Tryd.prog E1 f args S tk n = some r := told_sub E0_le h
theorem kwC_some {args : List AV} {r : AV} (h : kwC args = some r) : ∃ s, args = [.prim (.string s)] ∧ r = .prim (.bool (kwF s)) := by
  unfold kwC at h
  split at h
  · simp only [Option.some.injEq] at h; exact ⟨_, rfl, h.symm⟩
  · simp at h
theorem tab0_of {C : Cx} (hs : SR C) : Tab0 C.w ∧ ∀ i, C.av 0 i := hs.glob 0 _ (by simp only [Globs.gl, List.mem_singleton])
theorem Kw_ok {C : Cx} {vs : Array Value} (hs : SR C) (s : ByteArray) (hv : VRs C [.prim (.string s)] vs.toList) :
    Calls Tryd.prog 76 vs C.w fun e w' => ∃ v C', e = .returned v ∧ C'.w = w' ∧ Le C C' ∧ SR C' ∧ C'.S = C.S ∧ C'.tk = C.tk ∧ C'.n = C.n ∧ VR C' (.prim (.bool (kwF s))) v := by
  obtain ⟨vl⟩ := vs
  match vl, hv with
  | [x], hv =>
  simp only [VRs, VR, and_true] at hv
  subst hv
  refine (Keyword_run C.w (tab0_of hs).1 s).mono ?_
  rintro e w' ⟨rfl, hb⟩
  exact ⟨_, C.at w', rfl, rfl, Le.of_below hb, SR.of_below hs hb, rfl, rfl, rfl, by simp [VR]⟩
theorem ext0_some {f : FuncId} {args : List AV} {S : List Ent} {tk : List Nat} {n : Nat} {r : AV} {S' : List Ent} {tk' : List Nat} {n' : Nat} (h : @extC Tryd.prog E0 f args S tk n = some (r, S', tk', n')) :
    S' = S ∧ tk' = tk ∧ n' = n ∧ f = 76 ∧ ∃ s, args = [.prim (.string s)] ∧ r = .prim (.bool (kwF s)) := by
  unfold extC at h
  split at h
  · simp only [Ext.call] at h
    split at h
    · rename_i hf
      simp only [Option.map_eq_some_iff, Prod.mk.injEq] at h
      obtain ⟨x, hx, rfl, rfl, rfl, rfl⟩ := h
      exact ⟨rfl, rfl, rfl, by simpa using hf, kwC_some hx⟩
    · simp at h
  · simp at h
theorem ext0_same {f : FuncId} {args : List AV} {S S2 : List Ent} {tk tk2 : List Nat} {n n2 : Nat} {r : AV} {S' : List Ent} {tk' : List Nat} {n' : Nat} (h : @extC Tryd.prog E0 f args S tk n = some (r, S', tk', n')) : @extC Tryd.prog E0 f args S2 tk2 n2 = some (r, S2, tk2, n2) := by
  obtain ⟨-, -, -, rfl, s, rfl, rfl⟩ := ext0_some h
  simp [extC, Ext.on, Ext.call, kwC]
instance : ExtOk Tryd.prog := {
  ok := fun f args S tk n r S' tk' n' h => by
    obtain ⟨rfl, rfl, rfl, rfl, s, rfl, rfl⟩ := ext0_some h
    refine ⟨⟨_, Tryd.func76, by decide +kernel, by decide +kernel⟩, fun C vs h1 h2 h3 hs hv => ?_⟩
    subst h1 h2 h3
    exact Kw_ok hs s hv
  indep := fun M f args S tk n r S' tk' n' h => by
    unfold callP at h
    split at h
    · rename_i hp
      obtain ⟨e1, e2, e3, -⟩ := ext0_some h
      refine ⟨e1, e2, .inr ⟨e3, fun S2 tk2 n2 => ?_⟩⟩
      unfold callP
      rw [if_pos hp]
      exact ext0_same h
    · simp at h }
theorem ext_mv (f : FuncId) : Ext.mv Tryd.prog f = false := rfl
theorem names_Keyword (S : List Ent) (tk : List Nat) (k : Nat) (s : ByteArray) : cL Tryd.prog 76 [.str s] S tk k = some (.bool (kwF s), S, tk, k) := by
  refine call_ext rfl ?_
  simp [Ext.call, kwC]
end Go.Proofs.YtkghgdkkholieaaDoor
/-
  What the functions of the bounded numbers compute.
-/



namespace Go.Proofs.YtkghgdkkholieaaDoor
open Go

/-- numbers of 64 bits -/
def i64 (n : Int) : Prop := -9223372036854775808 ≤ n ∧ n ≤ 9223372036854775807
theorem wrap_of {n : Int} (h : i64 n) : IntKind.i64.wrap n = n := Go.IntWalk.i64_in n h
theorem inB_i64 {n : Int} (h : inB n = true) : i64 n := by rw [inB_true] at h; unfold i64; omega

section
variable (S : List Ent) (tk : List Nat) (k : Nat)
theorem num_In (n : Int) : cL Tryd.prog 29 [.int n] S tk k = some (.bool (inB n), S, tk, k) := by
  refine call_pure Tryd.func29 rfl rfl (by decide +kernel) (by decide +kernel) Tryd.ntmps29 rfl rfl _ _ _ rfl ?_; rw [RK_KX]
  simp +contextual only [evs, ext_mv, nth, put, putT, getT, binInt, binStr, binBool, aUn, outA, resA, mapO, resA1, oneOf, w1, w2, w3, bots, cond_true, cond_false, if_true, if_false, ite_true, ite_false, reduceIte, reduceCtorEq, implies_true, Nat.reduceAdd, Nat.reduceSub, AV.int, AV.bool, AV.str, Nat.reduceBEq, Nat.reduceEqDiff, Nat.reduceMul, Nat.reduceLT, Nat.reduceLeDiff, Int.reduceNeg, BEq.rfl, beq_self_eq_true, tabl, cellsOf, fldA, ldA, stA, entAt, partA, takeN, over, leafOk, Value.oneCell', idxA, nilA, cellsEq, fillA, elemsA, pure1, pure2, reps, chkA, tys, Tryd.results29]
  unfold inB
  exact ⟨fun h => by simp at h ⊢; omega, fun h => by simp at h ⊢; omega⟩
theorem R01_In (n : Int) : cL Tryd.prog 51 [.int n] S tk k = some (.bool (inB n), S, tk, k) := by
  refine call_pure Tryd.func51 rfl rfl (by decide +kernel) (by decide +kernel) Tryd.ntmps51 rfl rfl _ _ _ rfl ?_; rw [RK_KX]
  simp +contextual only [evs, ext_mv, nth, put, putT, getT, binInt, binStr, binBool, aUn, outA, resA, mapO, resA1, oneOf, w1, w2, w3, bots, cond_true, cond_false, if_true, if_false, ite_true, ite_false, reduceIte, reduceCtorEq, implies_true, Nat.reduceAdd, Nat.reduceSub, AV.int, AV.bool, AV.str, Nat.reduceBEq, Nat.reduceEqDiff, Nat.reduceMul, Nat.reduceLT, Nat.reduceLeDiff, Int.reduceNeg, BEq.rfl, beq_self_eq_true, tabl, cellsOf, fldA, ldA, stA, entAt, partA, takeN, over, leafOk, Value.oneCell', idxA, nilA, cellsEq, fillA, elemsA, pure1, pure2, reps, chkA, tys, Tryd.results51]
  unfold inB
  exact ⟨fun h => by simp at h ⊢; omega, fun h => by simp at h ⊢; omega⟩
theorem num_checked (n : Int) (ok : Bool) : cL Tryd.prog 53 [.int n, .bool ok] S tk k = some (.tup [.int (chk ok n).1, .bool (chk ok n).2], S, tk, k) := by
  refine call_pure Tryd.func53 rfl rfl (by decide +kernel) (by decide +kernel) Tryd.ntmps53 rfl rfl _ _ _ rfl ?_; rw [RK_KX]
  simp +contextual only [evs, ext_mv, nth, put, putT, getT, binInt, binStr, binBool, aUn, outA, resA, mapO, resA1, oneOf, w1, w2, w3, bots, cond_true, cond_false, if_true, if_false, ite_true, ite_false, reduceIte, reduceCtorEq, implies_true, Nat.reduceAdd, Nat.reduceSub, AV.int, AV.bool, AV.str, Nat.reduceBEq, Nat.reduceEqDiff, Nat.reduceMul, Nat.reduceLT, Nat.reduceLeDiff, Int.reduceNeg, BEq.rfl, beq_self_eq_true, tabl, cellsOf, fldA, ldA, stA, entAt, partA, takeN, over, leafOk, Value.oneCell', idxA, nilA, cellsEq, fillA, elemsA, pure1, pure2, reps, chkA, tys, Tryd.results53, num_In]
  simp +contextual [chk]
theorem add_wrap {a b : Int} (ha : inB a = true) (hb : inB b = true) : IntKind.i64.wrap (a + b) = a + b := by
  rw [inB_true] at ha hb; exact wrap_of (by unfold i64; omega)
theorem num_Add (a b : Int) : cL Tryd.prog 35 [.int a, .int b] S tk k = some (.tup [.int (addS a b).1, .bool (addS a b).2], S, tk, k) := by
  refine call_pure Tryd.func35 rfl rfl (by decide +kernel) (by decide +kernel) Tryd.ntmps35 rfl rfl _ _ _ rfl ?_; rw [RK_KX]
  simp +contextual only [evs, ext_mv, nth, put, putT, getT, binInt, binStr, binBool, aUn, outA, resA, mapO, resA1, oneOf, w1, w2, w3, bots, cond_true, cond_false, if_true, if_false, ite_true, ite_false, reduceIte, reduceCtorEq, implies_true, Nat.reduceAdd, Nat.reduceSub, AV.int, AV.bool, AV.str, Nat.reduceBEq, Nat.reduceEqDiff, Nat.reduceMul, Nat.reduceLT, Nat.reduceLeDiff, Int.reduceNeg, BEq.rfl, beq_self_eq_true, tabl, cellsOf, fldA, ldA, stA, entAt, partA, takeN, over, leafOk, Value.oneCell', idxA, nilA, cellsEq, fillA, elemsA, pure1, pure2, reps, chkA, tys, Tryd.results35, num_In, num_checked, add_wrap]
  simp +contextual [addS, chk]
theorem num_abs (n : Int) (h : i64 n) : cL Tryd.prog 52 [.int n] S tk k = some (.int (absS n), S, tk, k) := by
  refine call_pure Tryd.func52 rfl rfl (by decide +kernel) (by decide +kernel) Tryd.ntmps52 rfl rfl _ _ _ rfl ?_; rw [RK_KX]
  simp +contextual only [evs, ext_mv, nth, put, putT, getT, binInt, binStr, binBool, aUn, outA, resA, mapO, resA1, oneOf, w1, w2, w3, bots, cond_true, cond_false, if_true, if_false, ite_true, ite_false, reduceIte, reduceCtorEq, implies_true, Nat.reduceAdd, Nat.reduceSub, AV.int, AV.bool, AV.str, Nat.reduceBEq, Nat.reduceEqDiff, Nat.reduceMul, Nat.reduceLT, Nat.reduceLeDiff, Int.reduceNeg, BEq.rfl, beq_self_eq_true, tabl, cellsOf, fldA, ldA, stA, entAt, partA, takeN, over, leafOk, Value.oneCell', idxA, nilA, cellsEq, fillA, elemsA, pure1, pure2, reps, chkA, tys, Tryd.results52]
  simp only [IntKind.wrap_i64, absS, AV.prim.injEq, Value.int.injEq, Option.some.injEq, true_and, decide_eq_true_eq, decide_eq_false_iff_not]
  unfold i64 at h
  refine ⟨fun h1 => ?_, fun h1 => ⟨fun h2 => ?_, fun h2 => ?_⟩⟩ <;> (split <;> try split) <;> omega
theorem num_abs' {n : Int} (h : inB n = true) : cL Tryd.prog 52 [.int n] S tk k = some (.int n.natAbs, S, tk, k) := by rw [num_abs S tk k n (inB_i64 h), absS_in h]
theorem mul_case {a b : Int} (ha : inB a = true) (hb : inB b = true) (h0 : ¬ a = 0) (v : Int) (hv : v = (a.natAbs : Int)) :
    (decide ((b.natAbs : Int) > IntKind.i64.wrap (Int.tdiv 1000000000000 v)) = false → IntKind.i64.wrap (a * b) = a * b ∧ inB (a * b) = true) ∧ (decide ((b.natAbs : Int) > IntKind.i64.wrap (Int.tdiv 1000000000000 v)) = true → inB (a * b) = false) := by
  subst hv
  have hp : 0 < (a.natAbs : Int) := by omega
  have e : Int.tdiv 1000000000000 (a.natAbs : Int) = 1000000000000 / (a.natAbs : Int) := Int.tdiv_eq_ediv_of_nonneg (by omega)
  have h1 : 0 ≤ 1000000000000 / (a.natAbs : Int) := Int.ediv_nonneg (by omega) (by omega)
  have h2 : 1000000000000 / (a.natAbs : Int) ≤ 1000000000000 := Int.ediv_le_self _ (by omega)
  rw [e, wrap_of (by unfold i64; omega)]
  rcases mul_test a b h0 with ⟨h3, h4, h5, h6⟩ | ⟨h3, h4⟩
  · exact ⟨fun _ => ⟨wrap_of (by unfold i64; omega), h6⟩, fun h => by simp only [gt_iff_lt] at h; rw [h3] at h; simp at h⟩
  · exact ⟨fun h => by simp only [gt_iff_lt] at h; rw [h3] at h; simp at h, fun _ => h4⟩
theorem num_Mul (a b : Int) : cL Tryd.prog 30 [.int a, .int b] S tk k = some (.tup [.int (mulS a b).1, .bool (mulS a b).2], S, tk, k) := by
  refine call_pure Tryd.func30 rfl rfl (by decide +kernel) (by decide +kernel) Tryd.ntmps30 rfl rfl _ _ _ rfl ?_; rw [RK_KX]
  simp (maxSteps := 1000000) +contextual only [evs, ext_mv, nth, put, putT, getT, binInt, binStr, binBool, aUn, outA, resA, mapO, resA1, oneOf, w1, w2, w3, bots, cond_true, cond_false, if_true, if_false, ite_true, ite_false, reduceIte, reduceCtorEq, implies_true, Nat.reduceAdd, Nat.reduceSub, AV.int, AV.bool, AV.str, Nat.reduceBEq, Nat.reduceEqDiff, Nat.reduceMul, Nat.reduceLT, Nat.reduceLeDiff, Int.reduceNeg, BEq.rfl, beq_self_eq_true, tabl, cellsOf, fldA, ldA, stA, entAt, partA, takeN, over, leafOk, Value.oneCell', idxA, nilA, cellsEq, fillA, elemsA, pure1, pure2, reps, chkA, tys, Tryd.results30, num_In, num_checked, num_abs']
  refine ⟨fun ha => ⟨fun hb => ⟨fun h0 => ?_, fun h0 => ⟨fun h1 => ?_, fun h1 => ?_⟩⟩, fun hb => ?_⟩, fun ha => ?_⟩
  · simp at h0; subst h0; simp [mulS, chk, hb]; decide
  · simp at h1; subst h1; simp [mulS, chk, ha]; decide
  · have h0' : ¬ a = 0 := by simpa using h0
    obtain ⟨c1, c2⟩ := mul_case ha hb h0' _ rfl
    refine ⟨by omega, fun h => ?_, fun h => ?_⟩
    · simp [mulS, chk, ha, hb, c2 h]
    · simp [mulS, chk, ha, hb, (c1 h).1, (c1 h).2]
  · simp [mulS, chk, hb]
  · simp [mulS, chk, ha]
theorem R01_Mul (a b : Int) : cL Tryd.prog 63 [.int a, .int b] S tk k = some (.tup [.int (mulS a b).1, .bool (mulS a b).2], S, tk, k) := by
  refine call_pure Tryd.func63 rfl rfl (by decide +kernel) (by decide +kernel) Tryd.ntmps63 rfl rfl _ _ _ rfl ?_; rw [RK_KX]
  simp (maxSteps := 1000000) +contextual only [evs, ext_mv, nth, put, putT, getT, binInt, binStr, binBool, aUn, outA, resA, mapO, resA1, oneOf, w1, w2, w3, bots, cond_true, cond_false, if_true, if_false, ite_true, ite_false, reduceIte, reduceCtorEq, implies_true, Nat.reduceAdd, Nat.reduceSub, AV.int, AV.bool, AV.str, Nat.reduceBEq, Nat.reduceEqDiff, Nat.reduceMul, Nat.reduceLT, Nat.reduceLeDiff, Int.reduceNeg, BEq.rfl, beq_self_eq_true, tabl, cellsOf, fldA, ldA, stA, entAt, partA, takeN, over, leafOk, Value.oneCell', idxA, nilA, cellsEq, fillA, elemsA, pure1, pure2, reps, chkA, tys, Tryd.results63, R01_In]
  have wn : ∀ {x : Int}, inB x = true → IntKind.i64.wrap (0 - x) = 0 - x := fun h => wrap_of (by rw [inB_true] at h; unfold i64; omega)
  have comm : ∀ x y : Int, mulS x y = mulS y x := fun x y => by simp [mulS, Int.mul_comm, Bool.and_comm]
  refine ⟨fun ha => ⟨fun hb => ⟨fun h0 => ?_, fun h0 => ⟨fun h1 => ?_, fun h1 => ?_⟩⟩, fun hb => ?_⟩, fun ha => ?_⟩
  · simp at h0; subst h0; simp [mulS, chk, hb]; decide
  · simp at h1; subst h1; simp [mulS, chk, ha]; decide
  · have h0' : ¬ a = 0 := by simpa using h0
    have h1' : ¬ b = 0 := by simpa using h1
    rw [wn ha, wn hb, comm a b]
    obtain ⟨c1, c2⟩ := mul_case hb ha h1' _ rfl
    rw [Int.mul_comm] at c1 c2
    simp only [decide_eq_true_eq, decide_eq_false_iff_not] at c1 c2 ⊢
    have fin1 : ∀ x y : Int, x = (a.natAbs : Int) → y = (b.natAbs : Int) → ¬ y = 0 ∧ (x > IntKind.i64.wrap (Int.tdiv 1000000000000 y) → 0 = (mulS b a).1 ∧ false = (mulS b a).2) ∧ (¬ x > IntKind.i64.wrap (Int.tdiv 1000000000000 y) → IntKind.i64.wrap (a * b) = (mulS b a).1 ∧ true = (mulS b a).2) := by
      intro x y hx hy
      subst hx hy
      refine ⟨by omega, fun h => ?_, fun h => ?_⟩
      · rw [Int.mul_comm] at c2; simp [mulS, chk, ha, hb, c2 h]
      · rw [Int.mul_comm] at c1; simp [mulS, chk, ha, hb, (c1 h).2]; rw [Int.mul_comm]; exact (c1 h).1
    refine ⟨fun ha0 => ⟨fun hb0 => ?_, fun hb0 => ?_⟩, fun ha0 => ⟨fun hb0 => ?_, fun hb0 => ?_⟩⟩
    all_goals exact fin1 _ _ (by omega) (by omega)
  · simp [mulS, chk, hb]
  · simp [mulS, chk, ha]

theorem absS_nn {n : Int} (h : i64 n) : 0 ≤ absS n ∧ i64 (absS n) := by
  unfold absS; unfold i64 at *; split
  · omega
  · split <;> omega
theorem gcd_stepZ (x y : Int) : Int.gcd y (x % y) = Int.gcd x y := by
  rw [Int.emod_def, Int.sub_eq_add_neg, ← Int.mul_neg, Int.gcd_add_mul_left_right, Int.gcd_comm]
theorem lit16 {T : List AV} (h : T.length = 16) : ∃ t0 t1 t2 t3 t4 t5 t6 t7 t8 t9 t10 t11 t12 t13 t14 t15, T = [t0, t1, t2, t3, t4, t5, t6, t7, t8, t9, t10, t11, t12, t13, t14, t15] := by
  match T, h with
  | [t0, t1, t2, t3, t4, t5, t6, t7, t8, t9, t10, t11, t12, t13, t14, t15], _ => exact ⟨t0, t1, t2, t3, t4, t5, t6, t7, t8, t9, t10, t11, t12, t13, t14, t15, rfl⟩
theorem lit18 {T : List AV} (h : T.length = 18) : ∃ t0 t1 t2 t3 t4 t5 t6 t7 t8 t9 t10 t11 t12 t13 t14 t15 t16 t17, T = [t0, t1, t2, t3, t4, t5, t6, t7, t8, t9, t10, t11, t12, t13, t14, t15, t16, t17] := by
  match T, h with
  | [t0, t1, t2, t3, t4, t5, t6, t7, t8, t9, t10, t11, t12, t13, t14, t15, t16, t17], _ => exact ⟨t0, t1, t2, t3, t4, t5, t6, t7, t8, t9, t10, t11, t12, t13, t14, t15, t16, t17, rfl⟩
theorem num_Gcd (a b : Int) (ha : i64 a) (hb : i64 b) : cL Tryd.prog 44 [.int a, .int b] S tk k = some (.int (gcdS a b), S, tk, k) := by
  refine call_pure Tryd.func44 rfl rfl (by decide +kernel) (by decide +kernel) Tryd.ntmps44 rfl rfl _ _ _ rfl ?_; rw [RK_KX]
  have h1 := num_abs (h := ha)
  have h2 := num_abs (h := hb)
  simp (maxSteps := 1000000) +contextual (disch := first | with_reducible assumption | exact ⟨rfl⟩ | exact ⟨rfl, rfl⟩ | (refine _root_.id ?_; kernel_rfl) | omega) only [evs, ext_mv, nth, put, putT, getT, binInt, binStr, binBool, aUn, outA, resA, mapO, resA1, oneOf, w1, w2, w3, bots, cond_true, cond_false, if_true, if_false, ite_true, ite_false, reduceIte, reduceCtorEq, implies_true, Nat.reduceAdd, Nat.reduceSub, AV.int, AV.bool, AV.str, Nat.reduceBEq, Nat.reduceEqDiff, Nat.reduceMul, Nat.reduceLT, Nat.reduceLeDiff, Int.reduceNeg, BEq.rfl, beq_self_eq_true, tabl, cellsOf, fldA, ldA, stA, entAt, partA, takeN, over, leafOk, Value.oneCell', idxA, nilA, cellsEq, fillA, elemsA, pure1, pure2, reps, chkA, tys, Tryd.results44, KX_draw, KX_drawQ, KX_tail, lastO_one, lastO_more, dropL_one, dropL_more, callP_eq, callM_true, h1, h2]
  refine loop1 (P := Tryd.prog) (fun x st => st.T.length = 16 ∧ getT st.T 0 = .int x.1 ∧ getT st.T 1 = .int x.2 ∧ st.S = [] ∧ 0 ≤ x.1 ∧ 0 ≤ x.2) (fun x => x.2.toNat) (fun x => .int (Int.gcd x.1 x.2)) (absS a, absS b) ?_ ?_
  case refine_2 => exact ⟨rfl, rfl, rfl, rfl, (absS_nn ha).1, (absS_nn hb).1⟩
  rintro ⟨x, y⟩ ⟨T, S', tk', n'⟩ ⟨hl, e0, e1, rfl, hx, hy⟩ IH
  obtain ⟨t0, t1, t2, t3, t4, t5, t6, t7, t8, t9, t10, t11, t12, t13, t14, t15, rfl⟩ := lit16 hl
  simp only [getT] at e0 e1
  subst e0 e1
  clear hl
  simp (maxSteps := 1000000) +contextual (disch := first | with_reducible assumption | exact ⟨rfl⟩ | exact ⟨rfl, rfl⟩ | (refine _root_.id ?_; kernel_rfl) | omega) only [evs, ext_mv, nth, put, putT, getT, binInt, binStr, binBool, aUn, outA, resA, mapO, resA1, oneOf, w1, w2, w3, bots, cond_true, cond_false, if_true, if_false, ite_true, ite_false, reduceIte, reduceCtorEq, implies_true, Nat.reduceAdd, Nat.reduceSub, AV.int, AV.bool, AV.str, Nat.reduceBEq, Nat.reduceEqDiff, Nat.reduceMul, Nat.reduceLT, Nat.reduceLeDiff, Int.reduceNeg, BEq.rfl, beq_self_eq_true, tabl, cellsOf, fldA, ldA, stA, entAt, partA, takeN, over, leafOk, Value.oneCell', idxA, nilA, cellsEq, fillA, elemsA, pure1, pure2, reps, chkA, tys, Tryd.results44, KX_draw, KX_drawQ, KX_tail, lastO_one, lastO_more, dropL_one, dropL_more, callP_eq, callM_true]
  refine ⟨fun h => ⟨by simpa using h, ?_⟩, fun h => ?_⟩
  · have h0 : y ≠ 0 := by simpa using h
    simp only at hx hy
    have e : x.tmod y = x % y := Int.tmod_eq_emod_of_nonneg hx
    have e1 := Int.emod_nonneg x h0
    have e2 := Int.emod_lt_of_pos x (show 0 < y by omega)
    rw [IH (y, x.tmod y) _ (by simp only; omega) ⟨rfl, rfl, rfl, rfl, hy, by simp only; omega⟩]
    simp only [e]
    rw [gcd_stepZ]
  · have h0 : y = 0 := by simpa using h
    subst h0
    simp only at hx
    simp; omega
theorem tmod_case {a b : Int} (hb : 0 < b) : (a.tmod b = 0 ∧ a.tdiv b = a / b) ∨ (0 < a.tmod b ∧ a.tdiv b = a / b) ∨ (a.tmod b < 0 ∧ a.tdiv b - 1 = a / b) := by
  have e1 := @Int.tmod_eq_emod a b
  have e2 := @Int.tdiv_eq_ediv a b
  have h1 := Int.emod_nonneg a (show b ≠ 0 by omega)
  have h2 := Int.emod_lt_of_pos a hb
  have hs : b.sign = 1 := Int.sign_eq_one_of_pos hb
  by_cases hd : 0 ≤ a ∨ b ∣ a
  · rw [if_pos hd] at e1 e2
    rcases Int.lt_or_le 0 (a.tmod b) with h | h
    · exact .inr (.inl ⟨h, by omega⟩)
    · exact .inl ⟨by omega, by omega⟩
  · rw [if_neg hd] at e1 e2
    exact .inr (.inr ⟨by omega, by omega⟩)
theorem tdiv_bound {a b : Int} (a0 : -1000000000000 ≤ a) (a1 : a ≤ 1000000000000) : -1000000000000 ≤ a.tdiv b ∧ a.tdiv b ≤ 1000000000000 := by
  have := Int.natAbs_tdiv a b
  have h2 : (a.tdiv b).natAbs ≤ a.natAbs := by rw [this]; exact Nat.div_le_self _ _
  omega
theorem tmod_bound {a b : Int} (a0 : -1000000000000 ≤ a) (a1 : a ≤ 1000000000000) : -1000000000000 ≤ a.tmod b ∧ a.tmod b ≤ 1000000000000 := by
  have h2 : (a.tmod b).natAbs ≤ a.natAbs := by rw [Int.natAbs_tmod]; exact Nat.mod_le _ _
  omega

/-- the quotient, rounded down, by a positive number -/
theorem div_case {a b : Int} (ha : inB a = true) (hb : 0 < b) : IntKind.i64.wrap (a.tdiv b) = a.tdiv b ∧ IntKind.i64.wrap (a.tdiv b - 1) = a.tdiv b - 1 ∧ (divS a b).1 = (if inB b then a / b else 0) ∧ (divS a b).2 = inB b := by
  rw [inB_true] at ha
  have := tdiv_bound ha.1 ha.2 (b := b)
  refine ⟨wrap_of (by unfold i64; omega), wrap_of (by unfold i64; omega), ?_, ?_⟩
  · unfold divS
    rw [inB_true.2 ha, Int.fdiv_eq_ediv_of_nonneg a (by omega)]
    have : (b == 0) = false := by simp; omega
    rw [this]; cases inB b <;> simp
  · unfold divS
    rw [inB_true.2 ha]
    have : (b == 0) = false := by simp; omega
    rw [this]; cases inB b <;> simp
theorem num_divide (a b : Int) (ha : inB a = true) (hb : 0 < b) (hb' : inB b = true) : cL Tryd.prog 56 [.int a, .int b] S tk k = some (.tup [.int (a / b), .int (a % b), .bool true], S, tk, k) := by
  refine call_pure Tryd.func56 rfl rfl (by decide +kernel) (by decide +kernel) Tryd.ntmps56 rfl rfl _ _ _ rfl ?_; rw [RK_KX]
  simp (maxSteps := 1000000) +contextual (disch := first | with_reducible assumption | exact ⟨rfl⟩ | exact ⟨rfl, rfl⟩ | (refine _root_.id ?_; kernel_rfl) | omega) only [evs, ext_mv, nth, put, putT, getT, binInt, binStr, binBool, aUn, outA, resA, mapO, resA1, oneOf, w1, w2, w3, bots, cond_true, cond_false, if_true, if_false, ite_true, ite_false, reduceIte, reduceCtorEq, implies_true, Nat.reduceAdd, Nat.reduceSub, AV.int, AV.bool, AV.str, Nat.reduceBEq, Nat.reduceEqDiff, Nat.reduceMul, Nat.reduceLT, Nat.reduceLeDiff, Int.reduceNeg, BEq.rfl, beq_self_eq_true, tabl, cellsOf, fldA, ldA, stA, entAt, partA, takeN, over, leafOk, Value.oneCell', idxA, nilA, cellsEq, fillA, elemsA, pure1, pure2, reps, chkA, tys, Tryd.results56, KX_draw, KX_drawQ, KX_tail, lastO_one, lastO_more, dropL_one, dropL_more, callP_eq, callM_true, num_In, ha, hb']
  obtain ⟨w1, w2, -, -⟩ := div_case ha hb
  have hm := Int.tmod_def a b
  have he := Int.emod_def a b
  have hbd : a.tmod b < b ∧ -b < a.tmod b := ⟨Int.tmod_lt_of_pos a hb, by have := Int.lt_tmod_of_pos a hb; omega⟩
  have hb2 := hb'
  rw [inB_true] at ha hb2
  rw [w1, w2, wrap_of (n := a.tmod b + b) (by unfold i64; omega)]
  refine ⟨fun h => by simp at h; omega, fun _ => ⟨by omega, by omega, fun h1 => ⟨fun h2 => ?_, fun h2 => ?_⟩, fun h1 => ?_⟩⟩
  · have h2' : a.tmod b < 0 ↔ b < 0 := by simpa using h2
    rcases tmod_case (a := a) hb with ⟨c1, c2⟩ | ⟨c1, c2⟩ | ⟨c1, c2⟩
    · rw [← c2] at he ⊢; exact ⟨rfl, by omega⟩
    · rw [← c2] at he ⊢; exact ⟨rfl, by omega⟩
    · omega
  · have h2' : ¬ (a.tmod b < 0 ↔ b < 0) := by simpa using h2
    have h1' : a.tmod b ≠ 0 := by simpa using h1
    rcases tmod_case (a := a) hb with ⟨c1, c2⟩ | ⟨c1, c2⟩ | ⟨c1, c2⟩
    · omega
    · omega
    · rw [← c2] at he ⊢
      rw [Int.mul_sub] at he
      exact ⟨rfl, by omega⟩
  · have h1' : a.tmod b = 0 := by simpa using h1
    rcases tmod_case (a := a) hb with ⟨c1, c2⟩ | ⟨c1, c2⟩ | ⟨c1, c2⟩
    · rw [← c2] at he ⊢; exact ⟨rfl, by omega⟩
    · omega
    · omega
theorem num_Div (a b : Int) (ha : inB a = true) (hb : 0 < b) (hb' : inB b = true) : cL Tryd.prog 42 [.int a, .int b] S tk k = some (.tup [.int (a / b), .bool true], S, tk, k) := by
  refine call_pure Tryd.func42 rfl rfl (by decide +kernel) (by decide +kernel) Tryd.ntmps42 rfl rfl _ _ _ rfl ?_; rw [RK_KX]
  have h := fun S tk k => num_divide S tk k a b ha hb hb'
  simp (maxSteps := 1000000) +contextual (disch := first | with_reducible assumption | exact ⟨rfl⟩ | exact ⟨rfl, rfl⟩ | (refine _root_.id ?_; kernel_rfl) | omega) only [evs, ext_mv, nth, put, putT, getT, binInt, binStr, binBool, aUn, outA, resA, mapO, resA1, oneOf, w1, w2, w3, bots, cond_true, cond_false, if_true, if_false, ite_true, ite_false, reduceIte, reduceCtorEq, implies_true, Nat.reduceAdd, Nat.reduceSub, AV.int, AV.bool, AV.str, Nat.reduceBEq, Nat.reduceEqDiff, Nat.reduceMul, Nat.reduceLT, Nat.reduceLeDiff, Int.reduceNeg, BEq.rfl, beq_self_eq_true, tabl, cellsOf, fldA, ldA, stA, entAt, partA, takeN, over, leafOk, Value.oneCell', idxA, nilA, cellsEq, fillA, elemsA, pure1, pure2, reps, chkA, tys, Tryd.results42, KX_draw, KX_drawQ, KX_tail, lastO_one, lastO_more, dropL_one, dropL_more, callP_eq, callM_true, h]
end
end Go.Proofs.YtkghgdkkholieaaDoor
/-
  What the checks of forms compute.
-/

namespace Go.Proofs.YtkghgdkkholieaaDoor
open Go

/-- a coefficient, a list of them, a form, a row, as the evaluator sees them -/
def coefC (c : ByteArray × Int) : List AV := [.prim (.string c.1), .prim (.int .i64 c.2)]
def coefsA (cs : List (ByteArray × Int)) : AV := .frz (cs.map coefC) .unk
def linA (cs : List (ByteArray × Int)) (n : Int) : AV := .agg [coefsA cs, .prim (.int .i64 n)]
def rowA (cs : List (ByteArray × Int)) (n : Int) (eq : Bool) : AV := .agg [coefsA cs, .prim (.int .i64 n), .prim (.bool eq)]
theorem coefC_len (c : ByteArray × Int) : (coefC c).length = 2 := rfl
theorem nth_map {α β : Type} (f : α → β) : ∀ (l : List α) (i : Nat), nth (l.map f) i = (nth l i).map f
  | [], _ => rfl
  | _ :: _, 0 => rfl
  | _ :: l, i + 1 => nth_map f l i
theorem nth_drop {α : Type} : ∀ {l : List α} {i : Nat} {x : α}, nth l i = some x → l.drop i = x :: l.drop (i + 1)
  | y :: l, 0, x, h => by simp only [nth, Option.some.injEq] at h; subst h; rfl
  | _ :: l, i + 1, x, h => nth_drop (l := l) (i := i) h
  | [], _, _, h => by simp [nth] at h
theorem wrap_add {i m : Nat} (h : i ≤ 1048576) : IntKind.i64.wrap ((i : Int) + 1) = ((i + 1 : Nat) : Int) := by rw [wrap_of (by unfold i64; omega)]; omega
theorem wrap_pred {j : Nat} (h : j ≤ 1048576) : IntKind.i64.wrap (((j + 1 : Nat) : Int) - 1) = (j : Int) := by rw [wrap_of (by unfold i64; omega)]; omega

def badName (s : ByteArray) : Bool := sEq s ⟨#[]⟩ || decide ((s.size : Int) > 400)
def notAbove : Option ByteArray → ByteArray → Bool
  | none, _ => false
  | some p, s => sLt s p || sEq s p
def chkFrom (n : Int) : Option ByteArray → List (ByteArray × Int) → Int
  | _, [] => if inB n then 0 else 2
  | p, c :: cs => if badName c.1 then 3 else if c.2 == 0 || !inB c.2 then 2 else if notAbove p c.1 then 9 else chkFrom n (some c.1) cs
def checkF (cs : List (ByteArray × Int)) (n : Int) : Int := if 24 < cs.length then 7 else chkFrom n none cs
def prevName (cs : List (ByteArray × Int)) : Nat → Option ByteArray
  | 0 => none
  | j + 1 => (nth cs j).map (·.1)

section
variable (S : List Ent) (tk : List Nat) (k : Nat)
theorem linear_Check (cs : List (ByteArray × Int)) (n : Int) (hlen : cs.length ≤ 1048576) : cL Tryd.prog 23 [linA cs n] S tk k = some (.int (checkF cs n), S, tk, k) := by
  refine call_pure Tryd.func23 rfl rfl (by decide +kernel) (by decide +kernel) Tryd.ntmps23 rfl rfl _ _ _ rfl ?_; rw [RK_KX]
  simp (maxSteps := 1000000) +contextual (disch := first | with_reducible assumption | exact ⟨rfl⟩ | exact ⟨rfl, rfl⟩ | (refine _root_.id ?_; kernel_rfl) | omega) only [evs, ext_mv, nth, put, putT, getT, binInt, binStr, binBool, aUn, outA, resA, mapO, resA1, oneOf, w1, w2, w3, bots, cond_true, cond_false, if_true, if_false, ite_true, ite_false, reduceIte, reduceCtorEq, implies_true, Nat.reduceAdd, Nat.reduceSub, AV.int, AV.bool, AV.str, Nat.reduceBEq, Nat.reduceEqDiff, Nat.reduceMul, Nat.reduceLT, Nat.reduceLeDiff, Int.reduceNeg, BEq.rfl, beq_self_eq_true, tabl, cellsOf, fldA, ldA, stA, entAt, partA, takeN, over, leafOk, Value.oneCell', idxA, nilA, cellsEq, fillA, elemsA, pure1, pure2, reps, chkA, tys, Tryd.results23, KX_draw, KX_drawQ, KX_tail, lastO_one, lastO_more, dropL_one, dropL_more, callP_eq, callM_true, linA, coefsA]
  refine ⟨fun h => ?_, fun h => ?_⟩
  · unfold checkF; rw [if_pos (by simp at h; omega)]
  have hc : checkF cs n = chkFrom n none cs := by unfold checkF; rw [if_neg (by simp at h; omega)]
  rw [hc]
  refine loop1 (P := Tryd.prog) (fun i st => st.T.length = 57 ∧ i ≤ cs.length ∧ getT st.T 1 = .ref 0 0 0 ∧ getT st.T 10 = coefsA cs ∧ getT st.T 11 = .int cs.length ∧ getT st.T 12 = .int (i : Nat) ∧ st.S = [⟨0, [coefsA cs, .int n]⟩]) (fun i => cs.length - i) (fun i => .int (chkFrom n (prevName cs i) (cs.drop i))) 0 ?_ ?_
  case refine_2 => exact ⟨rfl, Nat.zero_le _, rfl, rfl, rfl, rfl, rfl⟩
  rintro i ⟨T, S', tk', n'⟩ ⟨hl, hi, e1, e10, e11, e12, rfl⟩ IH
  obtain ⟨g, hg, hT⟩ := tab_of hl
  rw [hg] at e1 e10 e11 e12
  subst hT
  clear hg hl h hc
  by_cases hlt : i < cs.length
  · have d1 : decide ((i : Int) < (cs.length : Int)) = true := by simpa using hlt
    obtain ⟨c, hc⟩ := nth_some hlt
    have hc' : nth (cs.map coefC) i = some (coefC c) := by rw [nth_map, hc]; rfl
    have hw := wrap_add (i := i) (m := 0) (by omega)
    have hp : prevName cs (i + 1) = some c.1 := by simp [prevName, hc]
    rw [nth_drop hc]
    rcases i with _ | j
    · have d2 : decide (((0 : Nat) : Int) > 0) = false := rfl
      simp (maxSteps := 1000000) +contextual (disch := first | with_reducible assumption | exact ⟨rfl⟩ | exact ⟨rfl, rfl⟩ | (refine _root_.id ?_; kernel_rfl) | omega) only [evs, ext_mv, nth, put, putT, getT, binInt, binStr, binBool, aUn, outA, resA, mapO, resA1, oneOf, w1, w2, w3, bots, cond_true, cond_false, if_true, if_false, ite_true, ite_false, reduceIte, reduceCtorEq, implies_true, Nat.reduceAdd, Nat.reduceSub, AV.int, AV.bool, AV.str, Nat.reduceBEq, Nat.reduceEqDiff, Nat.reduceMul, Nat.reduceLT, Nat.reduceLeDiff, Int.reduceNeg, BEq.rfl, beq_self_eq_true, tabl, cellsOf, fldA, ldA, stA, entAt, partA, takeN, over, leafOk, Value.oneCell', idxA, nilA, cellsEq, fillA, elemsA, pure1, pure2, reps, chkA, tys, Tryd.results23, KX_draw, KX_drawQ, KX_tail, lastO_one, lastO_more, dropL_one, dropL_more, callP_eq, callM_true, e1, e10, e11, e12, d1, d2, coefsA, hc', hw, coefC, num_In]
      refine ⟨fun h1 => ?_, fun h1 => ⟨fun h2 => ?_, fun h2 => ⟨fun h3 => ?_, fun h3 => ⟨fun h4 => ?_, fun h4 => ?_⟩⟩⟩⟩
      · simp [chkFrom, badName, h1]
      · simp only [chkFrom, badName, h1, h2]; rfl
      · simp only [chkFrom, badName, h1, h2, h3]; rfl
      · rw [IH 1 _ (by omega) ⟨rfl, by omega, rfl, rfl, rfl, rfl, rfl⟩, hp]
        simp only [chkFrom, badName, h1, h2, h3, h4, prevName, notAbove]; rfl
      · simp only [chkFrom, badName, h1, h2, h3, h4]; rfl
    · have d2 : decide (((j + 1 : Nat) : Int) > 0) = true := decide_eq_true (by omega)
      obtain ⟨p, hpr⟩ := nth_some (show j < cs.length by omega)
      have hp' : nth (cs.map coefC) j = some (coefC p) := by rw [nth_map, hpr]; rfl
      have hw' := wrap_pred (j := j) (by omega)
      have hpp : prevName cs (j + 1) = some p.1 := by simp [prevName, hpr]
      simp (maxSteps := 1000000) +contextual (disch := first | with_reducible assumption | exact ⟨rfl⟩ | exact ⟨rfl, rfl⟩ | (refine _root_.id ?_; kernel_rfl) | omega) only [evs, ext_mv, nth, put, putT, getT, binInt, binStr, binBool, aUn, outA, resA, mapO, resA1, oneOf, w1, w2, w3, bots, cond_true, cond_false, if_true, if_false, ite_true, ite_false, reduceIte, reduceCtorEq, implies_true, Nat.reduceAdd, Nat.reduceSub, AV.int, AV.bool, AV.str, Nat.reduceBEq, Nat.reduceEqDiff, Nat.reduceMul, Nat.reduceLT, Nat.reduceLeDiff, Int.reduceNeg, BEq.rfl, beq_self_eq_true, tabl, cellsOf, fldA, ldA, stA, entAt, partA, takeN, over, leafOk, Value.oneCell', idxA, nilA, cellsEq, fillA, elemsA, pure1, pure2, reps, chkA, tys, Tryd.results23, KX_draw, KX_drawQ, KX_tail, lastO_one, lastO_more, dropL_one, dropL_more, callP_eq, callM_true, e1, e10, e11, e12, d1, d2, coefsA, hc', hw, coefC, num_In, hp', hw']
      refine ⟨fun h1 => ?_, fun h1 => ⟨fun h2 => ?_, fun h2 => ⟨fun h3 => ?_, fun h3 => ⟨fun h4 => ?_, fun h4 => ?_⟩⟩⟩⟩
      · simp [chkFrom, badName, h1]
      · simp only [chkFrom, badName, h1, h2]; rfl
      · simp only [chkFrom, badName, h1, h2, h3]; rfl
      · refine ⟨fun h5 => ?_, fun h5 => ?_⟩
        · simp only [chkFrom, badName, h1, h2, h3, h4, hpp, notAbove, h5]; rfl
        · rw [IH (j + 1 + 1) _ (by omega) ⟨rfl, by omega, rfl, rfl, rfl, rfl, rfl⟩, hp]
          simp only [chkFrom, badName, h1, h2, h3, h4, hpp, notAbove, h5]; rfl
      · simp only [chkFrom, badName, h1, h2, h3, h4]; rfl
  · have d1 : decide ((i : Int) < (cs.length : Int)) = false := by simpa using hlt
    have he : i = cs.length := by omega
    simp (maxSteps := 1000000) +contextual (disch := first | with_reducible assumption | exact ⟨rfl⟩ | exact ⟨rfl, rfl⟩ | (refine _root_.id ?_; kernel_rfl) | omega) only [evs, ext_mv, nth, put, putT, getT, binInt, binStr, binBool, aUn, outA, resA, mapO, resA1, oneOf, w1, w2, w3, bots, cond_true, cond_false, if_true, if_false, ite_true, ite_false, reduceIte, reduceCtorEq, implies_true, Nat.reduceAdd, Nat.reduceSub, AV.int, AV.bool, AV.str, Nat.reduceBEq, Nat.reduceEqDiff, Nat.reduceMul, Nat.reduceLT, Nat.reduceLeDiff, Int.reduceNeg, BEq.rfl, beq_self_eq_true, tabl, cellsOf, fldA, ldA, stA, entAt, partA, takeN, over, leafOk, Value.oneCell', idxA, nilA, cellsEq, fillA, elemsA, pure1, pure2, reps, chkA, tys, Tryd.results23, KX_draw, KX_drawQ, KX_tail, lastO_one, lastO_more, dropL_one, dropL_more, callP_eq, callM_true, e1, e10, e11, e12, d1, coefsA, num_In]
    rw [he, List.drop_length]
    exact ⟨fun h => by simp [chkFrom, h], fun h => by simp [chkFrom, h]⟩
theorem R11_Check (cs : List (ByteArray × Int)) (n : Int) (hlen : cs.length ≤ 1048576) : cL Tryd.prog 27 [linA cs n] S tk k = some (.int (checkF cs n), S, tk, k) := by
  refine call_pure Tryd.func27 rfl rfl (by decide +kernel) (by decide +kernel) Tryd.ntmps27 rfl rfl _ _ _ rfl ?_; rw [RK_KX]
  simp (maxSteps := 1000000) +contextual (disch := first | with_reducible assumption | exact ⟨rfl⟩ | exact ⟨rfl, rfl⟩ | (refine _root_.id ?_; kernel_rfl) | omega) only [evs, ext_mv, nth, put, putT, getT, binInt, binStr, binBool, aUn, outA, resA, mapO, resA1, oneOf, w1, w2, w3, bots, cond_true, cond_false, if_true, if_false, ite_true, ite_false, reduceIte, reduceCtorEq, implies_true, Nat.reduceAdd, Nat.reduceSub, AV.int, AV.bool, AV.str, Nat.reduceBEq, Nat.reduceEqDiff, Nat.reduceMul, Nat.reduceLT, Nat.reduceLeDiff, Int.reduceNeg, BEq.rfl, beq_self_eq_true, tabl, cellsOf, fldA, ldA, stA, entAt, partA, takeN, over, leafOk, Value.oneCell', idxA, nilA, cellsEq, fillA, elemsA, pure1, pure2, reps, chkA, tys, Tryd.results27, KX_draw, KX_drawQ, KX_tail, lastO_one, lastO_more, dropL_one, dropL_more, callP_eq, callM_true, linA, coefsA]
  refine ⟨fun h => ?_, fun h => ?_⟩
  · unfold checkF; rw [if_pos (by simp at h; omega)]
  have hc : checkF cs n = chkFrom n none cs := by unfold checkF; rw [if_neg (by simp at h; omega)]
  rw [hc]
  refine loop1 (P := Tryd.prog) (fun i st => st.T.length = 60 ∧ i ≤ cs.length ∧ getT st.T 1 = .ref 0 0 0 ∧ getT st.T 3 = .int (i : Nat) ∧ st.S = [⟨0, [coefsA cs, .int n]⟩]) (fun i => cs.length - i) (fun i => .int (chkFrom n (prevName cs i) (cs.drop i))) 0 ?_ ?_
  case refine_2 => exact ⟨rfl, Nat.zero_le _, rfl, rfl, rfl⟩
  rintro i ⟨T, S', tk', n'⟩ ⟨hl, hi, e1, e3, rfl⟩ IH
  obtain ⟨g, hg, hT⟩ := tab_of hl
  rw [hg] at e1 e3
  subst hT
  clear hg hl h hc
  by_cases hlt : i < cs.length
  · have d1 : decide ((i : Int) < (cs.length : Int)) = true := by simpa using hlt
    obtain ⟨c, hc⟩ := nth_some hlt
    have hc' : nth (cs.map coefC) i = some (coefC c) := by rw [nth_map, hc]; rfl
    have hw := wrap_add (i := i) (m := 0) (by omega)
    have hp : prevName cs (i + 1) = some c.1 := by simp [prevName, hc]
    rw [nth_drop hc]
    rcases i with _ | j
    · have d2 : decide (((0 : Nat) : Int) > 0) = false := rfl
      simp (maxSteps := 1000000) +contextual (disch := first | with_reducible assumption | exact ⟨rfl⟩ | exact ⟨rfl, rfl⟩ | (refine _root_.id ?_; kernel_rfl) | omega) only [evs, ext_mv, nth, put, putT, getT, binInt, binStr, binBool, aUn, outA, resA, mapO, resA1, oneOf, w1, w2, w3, bots, cond_true, cond_false, if_true, if_false, ite_true, ite_false, reduceIte, reduceCtorEq, implies_true, Nat.reduceAdd, Nat.reduceSub, AV.int, AV.bool, AV.str, Nat.reduceBEq, Nat.reduceEqDiff, Nat.reduceMul, Nat.reduceLT, Nat.reduceLeDiff, Int.reduceNeg, BEq.rfl, beq_self_eq_true, tabl, cellsOf, fldA, ldA, stA, entAt, partA, takeN, over, leafOk, Value.oneCell', idxA, nilA, cellsEq, fillA, elemsA, pure1, pure2, reps, chkA, tys, Tryd.results27, KX_draw, KX_drawQ, KX_tail, lastO_one, lastO_more, dropL_one, dropL_more, callP_eq, callM_true, e1, e3, d1, d2, coefsA, hc', hw, coefC, R01_In]
      refine ⟨fun h1 => ?_, fun h1 => ⟨fun h2 => ?_, fun h2 => ⟨fun h3 => ?_, fun h3 => ⟨fun h4 => ?_, fun h4 => ?_⟩⟩⟩⟩
      · simp [chkFrom, badName, h1]
      · simp only [chkFrom, badName, h1, h2]; rfl
      · simp only [chkFrom, badName, h1, h2, h3]; rfl
      · rw [IH 1 _ (by omega) ⟨rfl, by omega, rfl, rfl, rfl⟩, hp]
        simp only [chkFrom, badName, h1, h2, h3, h4, prevName, notAbove]; rfl
      · simp only [chkFrom, badName, h1, h2, h3, h4]; rfl
    · have d2 : decide (((j + 1 : Nat) : Int) > 0) = true := decide_eq_true (by omega)
      obtain ⟨p, hpr⟩ := nth_some (show j < cs.length by omega)
      have hp' : nth (cs.map coefC) j = some (coefC p) := by rw [nth_map, hpr]; rfl
      have hw' := wrap_pred (j := j) (by omega)
      have hpp : prevName cs (j + 1) = some p.1 := by simp [prevName, hpr]
      simp (maxSteps := 1000000) +contextual (disch := first | with_reducible assumption | exact ⟨rfl⟩ | exact ⟨rfl, rfl⟩ | (refine _root_.id ?_; kernel_rfl) | omega) only [evs, ext_mv, nth, put, putT, getT, binInt, binStr, binBool, aUn, outA, resA, mapO, resA1, oneOf, w1, w2, w3, bots, cond_true, cond_false, if_true, if_false, ite_true, ite_false, reduceIte, reduceCtorEq, implies_true, Nat.reduceAdd, Nat.reduceSub, AV.int, AV.bool, AV.str, Nat.reduceBEq, Nat.reduceEqDiff, Nat.reduceMul, Nat.reduceLT, Nat.reduceLeDiff, Int.reduceNeg, BEq.rfl, beq_self_eq_true, tabl, cellsOf, fldA, ldA, stA, entAt, partA, takeN, over, leafOk, Value.oneCell', idxA, nilA, cellsEq, fillA, elemsA, pure1, pure2, reps, chkA, tys, Tryd.results27, KX_draw, KX_drawQ, KX_tail, lastO_one, lastO_more, dropL_one, dropL_more, callP_eq, callM_true, e1, e3, d1, d2, coefsA, hc', hw, coefC, R01_In, hp', hw']
      refine ⟨fun h1 => ?_, fun h1 => ⟨fun h2 => ?_, fun h2 => ⟨fun h3 => ?_, fun h3 => ⟨fun h4 => ?_, fun h4 => ?_⟩⟩⟩⟩
      · simp [chkFrom, badName, h1]
      · simp only [chkFrom, badName, h1, h2]; rfl
      · simp only [chkFrom, badName, h1, h2, h3]; rfl
      · refine ⟨fun h5 => ?_, fun h5 => ?_⟩
        · simp only [chkFrom, badName, h1, h2, h3, h4, hpp, notAbove, h5]; rfl
        · rw [IH (j + 1 + 1) _ (by omega) ⟨rfl, by omega, rfl, rfl, rfl⟩, hp]
          simp only [chkFrom, badName, h1, h2, h3, h4, hpp, notAbove, h5]; rfl
      · simp only [chkFrom, badName, h1, h2, h3, h4]; rfl
  · have d1 : decide ((i : Int) < (cs.length : Int)) = false := by simpa using hlt
    have he : i = cs.length := by omega
    simp (maxSteps := 1000000) +contextual (disch := first | with_reducible assumption | exact ⟨rfl⟩ | exact ⟨rfl, rfl⟩ | (refine _root_.id ?_; kernel_rfl) | omega) only [evs, ext_mv, nth, put, putT, getT, binInt, binStr, binBool, aUn, outA, resA, mapO, resA1, oneOf, w1, w2, w3, bots, cond_true, cond_false, if_true, if_false, ite_true, ite_false, reduceIte, reduceCtorEq, implies_true, Nat.reduceAdd, Nat.reduceSub, AV.int, AV.bool, AV.str, Nat.reduceBEq, Nat.reduceEqDiff, Nat.reduceMul, Nat.reduceLT, Nat.reduceLeDiff, Int.reduceNeg, BEq.rfl, beq_self_eq_true, tabl, cellsOf, fldA, ldA, stA, entAt, partA, takeN, over, leafOk, Value.oneCell', idxA, nilA, cellsEq, fillA, elemsA, pure1, pure2, reps, chkA, tys, Tryd.results27, KX_draw, KX_drawQ, KX_tail, lastO_one, lastO_more, dropL_one, dropL_more, callP_eq, callM_true, e1, e3, d1, coefsA, R01_In]
    rw [he, List.drop_length]
    exact ⟨fun h => by simp [chkFrom, h], fun h => by simp [chkFrom, h]⟩
end
end Go.Proofs.YtkghgdkkholieaaDoor
/-
  What the values of forms at points are, by the program and by the reference; the law LinearValues' own parts.
-/

namespace Go.Proofs.YtkghgdkkholieaaDoor
open Go

def findS (name : ByteArray) : List (ByteArray × Int) → Int
  | [] => 0
  | p :: r => if sEq p.1 name then p.2 else findS name r
/-- the index, and how many were looked at -/
def idxGo (name : ByteArray) : List (ByteArray × Int) → Nat → Int × Nat
  | [], _ => (-1, 0)
  | p :: r, i => if sEq p.1 name then (i, 1) else ((idxGo name r (i + 1)).1, (idxGo name r (i + 1)).2 + 1)
def valFrom (pt : List (ByteArray × Int)) : Int → List (ByteArray × Int) → Int × Bool
  | s, [] => (s, true)
  | s, c :: r => if (mulS c.2 (findS c.1 pt)).2 then (if (addS s (mulS c.2 (findS c.1 pt)).1).2 then valFrom pt (addS s (mulS c.2 (findS c.1 pt)).1).1 r else (0, false)) else (0, false)
def valueF (cs : List (ByteArray × Int)) (n : Int) (pt : List (ByteArray × Int)) : Int × Bool := if checkF cs n = 0 then valFrom pt n cs else (0, false)

section
variable (S : List Ent) (tk : List Nat) (k : Nat)
theorem Value_fn (p c : ByteArray × Int) (id ep : Nat) (h : entAt S id ep = some (coefC c)) : cL Tryd.prog 34 [.agg (coefC p), .ref id ep 0] S tk k = some (.bool (sEq p.1 c.1), S, tk, k + 1) := by
  refine call_shared Tryd.func34 rfl rfl (by decide +kernel) Tryd.ntmps34 rfl ?_; rw [RK_KX]
  simp (maxSteps := 1000000) +contextual (disch := first | with_reducible assumption | exact ⟨rfl⟩ | exact ⟨rfl, rfl⟩ | (refine _root_.id ?_; kernel_rfl) | omega) only [evs, ext_mv, nth, put, putT, getT, binInt, binStr, binBool, aUn, outA, resA, mapO, resA1, oneOf, w1, w2, w3, bots, cond_true, cond_false, if_true, if_false, ite_true, ite_false, reduceIte, reduceCtorEq, implies_true, Nat.reduceAdd, Nat.reduceSub, AV.int, AV.bool, AV.str, Nat.reduceBEq, Nat.reduceEqDiff, Nat.reduceMul, Nat.reduceLT, Nat.reduceLeDiff, Int.reduceNeg, BEq.rfl, beq_self_eq_true, tabl, cellsOf, fldA, ldA, stA, entAt_new, entAt_old, entAt_old2, List.take_left, List.take_length, partA, takeN, over, leafOk, Value.oneCell', idxA, nilA, cellsEq, fillA, elemsA, pure1, pure2, reps, chkA, tys, Tryd.results34, KX_draw, KX_drawQ, KX_tail, lastO_one, lastO_more, dropL_one, dropL_more, callP_eq, callM_true, coefC, h]
theorem IndexFunc_Value (pt : List (ByteArray × Int)) (c : ByteArray × Int) (id ep : Nat) (hlen : pt.length ≤ 1048576) (h : entAt S id ep = some (coefC c)) :
    cL Tryd.prog 33 [coefsA pt, .fn 34 [.ref id ep 0]] S tk k = some (.int (idxGo c.1 pt 0).1, S, tk, k + (idxGo c.1 pt 0).2) := by
  refine call_shared Tryd.func33 rfl rfl (by decide +kernel) Tryd.ntmps33 rfl ?_; rw [RK_KX]
  simp (maxSteps := 1000000) +contextual (disch := first | with_reducible assumption | exact ⟨rfl⟩ | exact ⟨rfl, rfl⟩ | (refine _root_.id ?_; kernel_rfl) | omega) only [evs, ext_mv, nth, put, putT, getT, binInt, binStr, binBool, aUn, outA, resA, mapO, resA1, oneOf, w1, w2, w3, bots, cond_true, cond_false, if_true, if_false, ite_true, ite_false, reduceIte, reduceCtorEq, implies_true, Nat.reduceAdd, Nat.reduceSub, AV.int, AV.bool, AV.str, Nat.reduceBEq, Nat.reduceEqDiff, Nat.reduceMul, Nat.reduceLT, Nat.reduceLeDiff, Int.reduceNeg, BEq.rfl, beq_self_eq_true, tabl, cellsOf, fldA, ldA, stA, entAt_new, entAt_old, entAt_old2, List.take_left, List.take_length, partA, takeN, over, leafOk, Value.oneCell', idxA, nilA, cellsEq, fillA, elemsA, pure1, pure2, reps, chkA, tys, Tryd.results33, KX_draw, KX_drawQ, KX_tail, lastO_one, lastO_more, dropL_one, dropL_more, callP_eq, callM_true, coefsA]
  refine loopS (P := Tryd.prog) (fun x st => st.T.length = 19 ∧ x.1 ≤ pt.length ∧ getT st.T 0 = coefsA pt ∧ getT st.T 1 = .fn 34 [.ref id ep 0] ∧ getT st.T 7 = .int pt.length ∧ getT st.T 8 = .int (x.1 : Nat) ∧ st.S = S ∧ st.tk = tk ∧ st.n = x.2) (fun x => pt.length - x.1)
    (fun x => (.int (idxGo c.1 (pt.drop x.1) x.1).1, S, tk, x.2 + (idxGo c.1 (pt.drop x.1) x.1).2)) (0, k) ?_ ?_
  case refine_2 => exact ⟨rfl, Nat.zero_le _, rfl, rfl, rfl, rfl, rfl, rfl, rfl⟩
  rintro ⟨i, m⟩ ⟨T, S', tk', n'⟩ ⟨hl, hi, e0, e1, e7, e8, eS, eT, eN⟩ IH
  simp only at eS eT eN
  subst eS eT eN
  obtain ⟨g, hg, hT⟩ := tab_of hl
  rw [hg] at e0 e1 e7 e8
  subst hT
  clear hg hl
  simp only at hi e8
  by_cases hlt : i < pt.length
  · have d1 : decide ((i : Int) < (pt.length : Int)) = true := by simpa using hlt
    obtain ⟨p, hc⟩ := nth_some hlt
    have hc' : nth (pt.map coefC) i = some (coefC p) := by rw [nth_map, hc]; rfl
    have hw := wrap_add (i := i) (m := 0) (by omega)
    have hf := fun k => Value_fn S' tk' k p c id ep h
    simp only [coefC] at hf hc'
    rw [nth_drop hc]
    simp (maxSteps := 1000000) +contextual (disch := first | with_reducible assumption | exact ⟨rfl⟩ | exact ⟨rfl, rfl⟩ | (refine _root_.id ?_; kernel_rfl) | omega) only [evs, ext_mv, nth, put, putT, getT, binInt, binStr, binBool, aUn, outA, resA, mapO, resA1, oneOf, w1, w2, w3, bots, cond_true, cond_false, if_true, if_false, ite_true, ite_false, reduceIte, reduceCtorEq, implies_true, Nat.reduceAdd, Nat.reduceSub, AV.int, AV.bool, AV.str, Nat.reduceBEq, Nat.reduceEqDiff, Nat.reduceMul, Nat.reduceLT, Nat.reduceLeDiff, Int.reduceNeg, BEq.rfl, beq_self_eq_true, tabl, cellsOf, fldA, ldA, stA, entAt_new, entAt_old, entAt_old2, List.take_left, List.take_length, partA, takeN, over, leafOk, Value.oneCell', idxA, nilA, cellsEq, fillA, elemsA, pure1, pure2, reps, chkA, tys, Tryd.results33, KX_draw, KX_drawQ, KX_tail, lastO_one, lastO_more, dropL_one, dropL_more, callP_eq, callM_true, e0, e1, e7, e8, d1, coefsA, hc', hw, hf]
    refine ⟨fun h1 => by simp [idxGo, h1], fun h1 => ?_⟩
    rw [IH (i + 1, n' + 1) _ (by simp only; omega) ⟨rfl, hlt, rfl, rfl, rfl, rfl, rfl, rfl, rfl⟩]
    simp [idxGo, h1]; omega
  · have d1 : decide ((i : Int) < (pt.length : Int)) = false := by simpa using hlt
    have he : i = pt.length := by omega
    simp (maxSteps := 1000000) +contextual (disch := first | with_reducible assumption | exact ⟨rfl⟩ | exact ⟨rfl, rfl⟩ | (refine _root_.id ?_; kernel_rfl) | omega) only [evs, ext_mv, nth, put, putT, getT, binInt, binStr, binBool, aUn, outA, resA, mapO, resA1, oneOf, w1, w2, w3, bots, cond_true, cond_false, if_true, if_false, ite_true, ite_false, reduceIte, reduceCtorEq, implies_true, Nat.reduceAdd, Nat.reduceSub, AV.int, AV.bool, AV.str, Nat.reduceBEq, Nat.reduceEqDiff, Nat.reduceMul, Nat.reduceLT, Nat.reduceLeDiff, Int.reduceNeg, BEq.rfl, beq_self_eq_true, tabl, cellsOf, fldA, ldA, stA, entAt_new, entAt_old, entAt_old2, List.take_left, List.take_length, partA, takeN, over, leafOk, Value.oneCell', idxA, nilA, cellsEq, fillA, elemsA, pure1, pure2, reps, chkA, tys, Tryd.results33, KX_draw, KX_drawQ, KX_tail, lastO_one, lastO_more, dropL_one, dropL_more, callP_eq, callM_true, e0, e1, e7, e8, d1, coefsA]
    simp only [he, List.drop_length]; rfl
/-- what is found -/
theorem idx_find (name : ByteArray) : ∀ (l : List (ByteArray × Int)) (i : Nat), ((idxGo name l i).1 = -1 ∧ findS name l = 0) ∨ ∃ j p, (idxGo name l i).1 = ((i + j : Nat) : Int) ∧ nth l j = some p ∧ findS name l = p.2
  | [], _ => .inl ⟨rfl, rfl⟩
  | p :: r, i => by
    simp only [idxGo, findS]
    by_cases h : sEq p.1 name = true
    · rw [if_pos h, if_pos h]; exact .inr ⟨0, p, rfl, rfl, rfl⟩
    · rw [if_neg h, if_neg h]
      rcases idx_find name r (i + 1) with ⟨h1, h2⟩ | ⟨j, q, h1, h2, h3⟩
      · exact .inl ⟨h1, h2⟩
      · exact .inr ⟨j + 1, q, by rw [h1]; omega, h2, h3⟩
theorem linear_Value (cs : List (ByteArray × Int)) (n : Int) (pt : List (ByteArray × Int)) (hlen : cs.length ≤ 1048576) (hlen' : pt.length ≤ 1048576) : cL Tryd.prog 17 [linA cs n, coefsA pt] S tk k = some (.tup [.int (valueF cs n pt).1, .bool (valueF cs n pt).2], S, tk, k) := by
  refine call_pure Tryd.func17 rfl rfl (by decide +kernel) (by decide +kernel) Tryd.ntmps17 rfl rfl _ _ _ rfl ?_; rw [RK_KX]
  have hC := fun S tk k => linear_Check S tk k cs n hlen
  simp only [linA, coefsA] at hC
  simp (maxSteps := 1000000) +contextual (disch := first | with_reducible assumption | exact ⟨rfl⟩ | exact ⟨rfl, rfl⟩ | (refine _root_.id ?_; kernel_rfl) | omega) only [evs, ext_mv, nth, put, putT, getT, binInt, binStr, binBool, aUn, outA, resA, mapO, resA1, oneOf, w1, w2, w3, bots, cond_true, cond_false, if_true, if_false, ite_true, ite_false, reduceIte, reduceCtorEq, implies_true, Nat.reduceAdd, Nat.reduceSub, AV.int, AV.bool, AV.str, Nat.reduceBEq, Nat.reduceEqDiff, Nat.reduceMul, Nat.reduceLT, Nat.reduceLeDiff, Int.reduceNeg, BEq.rfl, beq_self_eq_true, tabl, cellsOf, fldA, ldA, stA, entAt, partA, takeN, over, leafOk, Value.oneCell', idxA, nilA, cellsEq, fillA, elemsA, pure1, pure2, reps, chkA, tys, Tryd.results17, KX_draw, KX_drawQ, KX_tail, lastO_one, lastO_more, dropL_one, dropL_more, callP_eq, callM_true, linA, coefsA, hC]
  refine ⟨fun h => ?_, fun h => ?_⟩
  · have : ¬ checkF cs n = 0 := by simpa using h
    simp [valueF, this]
  have h0 : checkF cs n = 0 := by simpa using h
  have hv : valueF cs n pt = valFrom pt n cs := by simp [valueF, h0]
  rw [hv]
  refine loop1 (P := Tryd.prog) (fun x st => st.T.length = 54 ∧ x.1 ≤ cs.length ∧ getT st.T 1 = coefsA pt ∧ getT st.T 2 = .ref 0 0 0 ∧ getT st.T 6 = .int x.2 ∧ getT st.T 19 = coefsA cs ∧ getT st.T 20 = .int cs.length ∧ getT st.T 21 = .int (x.1 : Nat) ∧ st.S = [⟨0, [coefsA cs, .int n]⟩]) (fun x => cs.length - x.1)
    (fun x => .tup [.int (valFrom pt x.2 (cs.drop x.1)).1, .bool (valFrom pt x.2 (cs.drop x.1)).2]) (0, n) ?_ ?_
  case refine_2 => exact ⟨rfl, Nat.zero_le _, rfl, rfl, rfl, rfl, rfl, rfl, rfl⟩
  rintro ⟨i, s⟩ ⟨T, S', tk', n'⟩ ⟨hl, hi, e1, e2, e6, e19, e20, e21, rfl⟩ IH
  obtain ⟨g, hg, hT⟩ := tab_of hl
  rw [hg] at e1 e2 e6 e19 e20 e21
  subst hT
  clear hg hl h hv h0
  simp only at hi e6 e21
  by_cases hlt : i < cs.length
  · have d1 : decide ((i : Int) < (cs.length : Int)) = true := by simpa using hlt
    obtain ⟨c, hc⟩ := nth_some hlt
    have hc' : nth (cs.map coefC) i = some (coefC c) := by rw [nth_map, hc]; rfl
    have hw := wrap_add (i := i) (m := 0) (by omega)
    rw [nth_drop hc]
    have hI := fun k => IndexFunc_Value [⟨0, [coefsA cs, .int n]⟩, ⟨n', coefC c⟩] tk' k pt c 1 n' hlen' (by simp [entAt, nth])
    simp only [coefsA, coefC] at hI hc'
    have step : ∀ v : Int, v = findS c.1 pt → True := fun _ _ => trivial
    rcases idx_find c.1 pt 0 with ⟨h1, h2⟩ | ⟨j, p, h1, h2, h3⟩
    · have d2 : decide ((-1 : Int) ≥ 0) = false := rfl
      rw [h1] at hI
      simp (maxSteps := 1000000) +contextual (disch := first | with_reducible assumption | exact ⟨rfl⟩ | exact ⟨rfl, rfl⟩ | (refine _root_.id ?_; kernel_rfl) | omega) only [evs, ext_mv, nth, put, putT, getT, binInt, binStr, binBool, aUn, outA, resA, mapO, resA1, oneOf, w1, w2, w3, bots, cond_true, cond_false, if_true, if_false, ite_true, ite_false, reduceIte, reduceCtorEq, implies_true, Nat.reduceAdd, Nat.reduceSub, AV.int, AV.bool, AV.str, Nat.reduceBEq, Nat.reduceEqDiff, Nat.reduceMul, Nat.reduceLT, Nat.reduceLeDiff, Int.reduceNeg, BEq.rfl, beq_self_eq_true, tabl, cellsOf, fldA, ldA, stA, entAt, partA, takeN, over, leafOk, Value.oneCell', idxA, nilA, cellsEq, fillA, elemsA, pure1, pure2, reps, chkA, tys, Tryd.results17, KX_draw, KX_drawQ, KX_tail, lastO_one, lastO_more, dropL_one, dropL_more, callP_eq, callM_true, e1, e2, e6, e19, e20, e21, d1, coefsA, hc', hw, hI, num_Mul, num_Add, capsOk, d2]
      refine ⟨fun h5 => ⟨fun h6 => ?_, fun h6 => ?_⟩, fun h5 => ?_⟩
      · rw [IH (i + 1, _) _ (by simp only; omega) ⟨rfl, hlt, rfl, rfl, rfl, rfl, rfl, rfl, rfl⟩]
        simp [valFrom, h2, h5, h6]
      · simp [valFrom, h2, h5, h6]
      · simp [valFrom, h2, h5]
    · have h2' : nth (pt.map coefC) j = some (coefC p) := by rw [nth_map, h2]; rfl
      rw [Nat.zero_add] at h1
      have d2 : decide ((j : Int) ≥ 0) = true := by simp
      rw [h1] at hI
      simp only [coefC] at h2'
      simp (maxSteps := 1000000) +contextual (disch := first | with_reducible assumption | exact ⟨rfl⟩ | exact ⟨rfl, rfl⟩ | (refine _root_.id ?_; kernel_rfl) | omega) only [evs, ext_mv, nth, put, putT, getT, binInt, binStr, binBool, aUn, outA, resA, mapO, resA1, oneOf, w1, w2, w3, bots, cond_true, cond_false, if_true, if_false, ite_true, ite_false, reduceIte, reduceCtorEq, implies_true, Nat.reduceAdd, Nat.reduceSub, AV.int, AV.bool, AV.str, Nat.reduceBEq, Nat.reduceEqDiff, Nat.reduceMul, Nat.reduceLT, Nat.reduceLeDiff, Int.reduceNeg, BEq.rfl, beq_self_eq_true, tabl, cellsOf, fldA, ldA, stA, entAt, partA, takeN, over, leafOk, Value.oneCell', idxA, nilA, cellsEq, fillA, elemsA, pure1, pure2, reps, chkA, tys, Tryd.results17, KX_draw, KX_drawQ, KX_tail, lastO_one, lastO_more, dropL_one, dropL_more, callP_eq, callM_true, e1, e2, e6, e19, e20, e21, d1, coefsA, hc', hw, hI, num_Mul, num_Add, capsOk, d2, h2']
      refine ⟨fun h5 => ⟨fun h6 => ?_, fun h6 => ?_⟩, fun h5 => ?_⟩
      · rw [IH (i + 1, _) _ (by simp only; omega) ⟨rfl, hlt, rfl, rfl, rfl, rfl, rfl, rfl, rfl⟩]
        simp [valFrom, h3, h5, h6]
      · simp [valFrom, h3, h5, h6]
      · simp [valFrom, h3, h5]
  · have d1 : decide ((i : Int) < (cs.length : Int)) = false := by simpa using hlt
    have he : i = cs.length := by omega
    simp (maxSteps := 1000000) +contextual (disch := first | with_reducible assumption | exact ⟨rfl⟩ | exact ⟨rfl, rfl⟩ | (refine _root_.id ?_; kernel_rfl) | omega) only [evs, ext_mv, nth, put, putT, getT, binInt, binStr, binBool, aUn, outA, resA, mapO, resA1, oneOf, w1, w2, w3, bots, cond_true, cond_false, if_true, if_false, ite_true, ite_false, reduceIte, reduceCtorEq, implies_true, Nat.reduceAdd, Nat.reduceSub, AV.int, AV.bool, AV.str, Nat.reduceBEq, Nat.reduceEqDiff, Nat.reduceMul, Nat.reduceLT, Nat.reduceLeDiff, Int.reduceNeg, BEq.rfl, beq_self_eq_true, tabl, cellsOf, fldA, ldA, stA, entAt, partA, takeN, over, leafOk, Value.oneCell', idxA, nilA, cellsEq, fillA, elemsA, pure1, pure2, reps, chkA, tys, Tryd.results17, KX_draw, KX_drawQ, KX_tail, lastO_one, lastO_more, dropL_one, dropL_more, callP_eq, callM_true, e1, e2, e6, e19, e20, e21, d1, coefsA]
    rw [he, List.drop_length]; exact ⟨rfl, rfl⟩
end
end Go.Proofs.YtkghgdkkholieaaDoor
/-
  What the tight rows and the canonical forms are, by the program.
-/

namespace Go.Proofs.YtkghgdkkholieaaDoor
open Go

def eqC (a b : ByteArray × Int) : Bool := sEq a.1 b.1 && a.2 == b.2
def eqL : List (ByteArray × Int) → List (ByteArray × Int) → Bool
  | [], _ => true
  | _, [] => true
  | a :: l, b :: r => if eqC a b then eqL l r else false
def sameF (cs : List (ByteArray × Int)) (n : Int) (ds : List (ByteArray × Int)) (m : Int) : Bool := if ((cs.length : Int) == ds.length) then (if n == m then eqL cs ds else false) else false

section
variable (S : List Ent) (tk : List Nat) (k : Nat)
theorem linear_verdict (b : Bool) : cL Tryd.prog 40 [.bool b] S tk k = some (if b = true then rowA [] 0 false else rowA [] 1 false, S, tk, k) := by
  cases b <;> simp only [if_true, if_false, Bool.false_eq_true]
  · refine call_pure Tryd.func40 rfl rfl (by decide +kernel) (by decide +kernel) Tryd.ntmps40 rfl rfl _ _ _ rfl ?_; rw [RK_KX]
    simp (maxSteps := 1000000) +contextual (disch := first | with_reducible assumption | exact ⟨rfl⟩ | exact ⟨rfl, rfl⟩ | (refine _root_.id ?_; kernel_rfl) | omega) only [evs, ext_mv, nth, put, putT, getT, binInt, binStr, binBool, aUn, outA, resA, mapO, resA1, oneOf, w1, w2, w3, bots, cond_true, cond_false, if_true, if_false, ite_true, ite_false, reduceIte, reduceCtorEq, implies_true, Nat.reduceAdd, Nat.reduceSub, AV.int, AV.bool, AV.str, Nat.reduceBEq, Nat.reduceEqDiff, Nat.reduceMul, Nat.reduceLT, Nat.reduceLeDiff, Int.reduceNeg, BEq.rfl, beq_self_eq_true, tabl, cellsOf, fldA, ldA, stA, entAt, partA, takeN, over, leafOk, Value.oneCell', idxA, nilA, cellsEq, fillA, elemsA, pure1, pure2, reps, chkA, tys, Tryd.results40, KX_draw, KX_drawQ, KX_tail, lastO_one, lastO_more, dropL_one, dropL_more, callP_eq, callM_true, rowA, coefsA, List.map_nil]
  · refine call_pure Tryd.func40 rfl rfl (by decide +kernel) (by decide +kernel) Tryd.ntmps40 rfl rfl _ _ _ rfl ?_; rw [RK_KX]
    simp (maxSteps := 1000000) +contextual (disch := first | with_reducible assumption | exact ⟨rfl⟩ | exact ⟨rfl, rfl⟩ | (refine _root_.id ?_; kernel_rfl) | omega) only [evs, ext_mv, nth, put, putT, getT, binInt, binStr, binBool, aUn, outA, resA, mapO, resA1, oneOf, w1, w2, w3, bots, cond_true, cond_false, if_true, if_false, ite_true, ite_false, reduceIte, reduceCtorEq, implies_true, Nat.reduceAdd, Nat.reduceSub, AV.int, AV.bool, AV.str, Nat.reduceBEq, Nat.reduceEqDiff, Nat.reduceMul, Nat.reduceLT, Nat.reduceLeDiff, Int.reduceNeg, BEq.rfl, beq_self_eq_true, tabl, cellsOf, fldA, ldA, stA, entAt, partA, takeN, over, leafOk, Value.oneCell', idxA, nilA, cellsEq, fillA, elemsA, pure1, pure2, reps, chkA, tys, Tryd.results40, KX_draw, KX_drawQ, KX_tail, lastO_one, lastO_more, dropL_one, dropL_more, callP_eq, callM_true, rowA, coefsA, List.map_nil]
theorem R11_Same (cs ds : List (ByteArray × Int)) (n m : Int) (hlen : cs.length ≤ 1048576) : cL Tryd.prog 10 [linA cs n, linA ds m] S tk k = some (.bool (sameF cs n ds m), S, tk, k) := by
  refine call_pure Tryd.func10 rfl rfl (by decide +kernel) (by decide +kernel) Tryd.ntmps10 rfl rfl _ _ _ rfl ?_; rw [RK_KX]
  simp (maxSteps := 1000000) +contextual (disch := first | with_reducible assumption | exact ⟨rfl⟩ | exact ⟨rfl, rfl⟩ | (refine _root_.id ?_; kernel_rfl) | omega) only [evs, ext_mv, nth, put, putT, getT, binInt, binStr, binBool, aUn, outA, resA, mapO, resA1, oneOf, w1, w2, w3, bots, cond_true, cond_false, if_true, if_false, ite_true, ite_false, reduceIte, reduceCtorEq, implies_true, Nat.reduceAdd, Nat.reduceSub, AV.int, AV.bool, AV.str, Nat.reduceBEq, Nat.reduceEqDiff, Nat.reduceMul, Nat.reduceLT, Nat.reduceLeDiff, Int.reduceNeg, BEq.rfl, beq_self_eq_true, tabl, cellsOf, fldA, ldA, stA, entAt, partA, takeN, over, leafOk, Value.oneCell', idxA, nilA, cellsEq, fillA, elemsA, pure1, pure2, reps, chkA, tys, Tryd.results10, KX_draw, KX_drawQ, KX_tail, lastO_one, lastO_more, dropL_one, dropL_more, callP_eq, callM_true, linA, coefsA]
  refine ⟨fun h => ?_, fun h => ⟨fun h1 => ?_, fun h1 => ?_⟩⟩
  · have h' : ¬ cs.length = ds.length := by simp at h; omega
    simp [sameF]; omega
  · have h1' : ¬ n = m := by simpa using h1
    simp [sameF, h1']
  · have h' : cs.length = ds.length := by simp at h; omega
    have h1' : n = m := by simpa using h1
    subst h1'
    have hs : sameF cs n ds n = eqL cs ds := by simp [sameF, h']
    rw [hs]
    refine loop1 (P := Tryd.prog) (fun i st => st.T.length = 38 ∧ i ≤ cs.length ∧ getT st.T 2 = .ref 0 0 0 ∧ getT st.T 3 = .ref 1 1 0 ∧ getT st.T 5 = .int (i : Nat) ∧ st.S = [⟨0, [coefsA cs, .int n]⟩, ⟨1, [coefsA ds, .int n]⟩]) (fun i => cs.length - i) (fun i => .bool (eqL (cs.drop i) (ds.drop i))) 0 ?_ ?_
    case refine_2 => exact ⟨rfl, Nat.zero_le _, rfl, rfl, rfl, rfl⟩
    rintro i ⟨T, S', tk', n'⟩ ⟨hl, hi, e2, e3, e5, rfl⟩ IH
    obtain ⟨g, hg, hT⟩ := tab_of hl
    rw [hg] at e2 e3 e5
    subst hT
    clear hg hl h hs h1
    by_cases hlt : i < cs.length
    · have d1 : decide ((i : Int) < (cs.length : Int)) = true := by simpa using hlt
      obtain ⟨c, hc⟩ := nth_some hlt
      obtain ⟨d, hd⟩ := nth_some (show i < ds.length by omega)
      have hc' : nth (cs.map coefC) i = some (coefC c) := by rw [nth_map, hc]; rfl
      have hd' : nth (ds.map coefC) i = some (coefC d) := by rw [nth_map, hd]; rfl
      have hw := wrap_add (i := i) (m := 0) (by omega)
      rw [nth_drop hc, nth_drop hd]
      simp (maxSteps := 1000000) +contextual (disch := first | with_reducible assumption | exact ⟨rfl⟩ | exact ⟨rfl, rfl⟩ | (refine _root_.id ?_; kernel_rfl) | omega) only [evs, ext_mv, nth, put, putT, getT, binInt, binStr, binBool, aUn, outA, resA, mapO, resA1, oneOf, w1, w2, w3, bots, cond_true, cond_false, if_true, if_false, ite_true, ite_false, reduceIte, reduceCtorEq, implies_true, Nat.reduceAdd, Nat.reduceSub, AV.int, AV.bool, AV.str, Nat.reduceBEq, Nat.reduceEqDiff, Nat.reduceMul, Nat.reduceLT, Nat.reduceLeDiff, Int.reduceNeg, BEq.rfl, beq_self_eq_true, tabl, cellsOf, fldA, ldA, stA, entAt, partA, takeN, over, leafOk, Value.oneCell', idxA, nilA, cellsEq, fillA, elemsA, pure1, pure2, reps, chkA, tys, Tryd.results10, KX_draw, KX_drawQ, KX_tail, lastO_one, lastO_more, dropL_one, dropL_more, callP_eq, callM_true, e2, e3, e5, d1, coefsA, hc', hd', hw, coefC]
      refine ⟨fun h1 => ?_, fun h1 => ?_⟩
      · have h2 : eqC c d = true := by simpa [eqC] using h1
        rw [IH (i + 1) _ (by omega) ⟨rfl, by omega, rfl, rfl, rfl, rfl⟩]
        simp [eqL, h2]
      · have h2 : eqC c d = false := by simpa [eqC] using h1
        simp [eqL, h2]
    · have d1 : decide ((i : Int) < (cs.length : Int)) = false := by simpa using hlt
      have he : i = cs.length := by omega
      simp (maxSteps := 1000000) +contextual (disch := first | with_reducible assumption | exact ⟨rfl⟩ | exact ⟨rfl, rfl⟩ | (refine _root_.id ?_; kernel_rfl) | omega) only [evs, ext_mv, nth, put, putT, getT, binInt, binStr, binBool, aUn, outA, resA, mapO, resA1, oneOf, w1, w2, w3, bots, cond_true, cond_false, if_true, if_false, ite_true, ite_false, reduceIte, reduceCtorEq, implies_true, Nat.reduceAdd, Nat.reduceSub, AV.int, AV.bool, AV.str, Nat.reduceBEq, Nat.reduceEqDiff, Nat.reduceMul, Nat.reduceLT, Nat.reduceLeDiff, Int.reduceNeg, BEq.rfl, beq_self_eq_true, tabl, cellsOf, fldA, ldA, stA, entAt, partA, takeN, over, leafOk, Value.oneCell', idxA, nilA, cellsEq, fillA, elemsA, pure1, pure2, reps, chkA, tys, Tryd.results10, KX_draw, KX_drawQ, KX_tail, lastO_one, lastO_more, dropL_one, dropL_more, callP_eq, callM_true, e2, e3, e5, d1, coefsA]
      rw [he, List.drop_length]; simp [eqL]
/-- the greatest common divisor of a number and the coefficients -/
def gcdL : Int → List (ByteArray × Int) → Int
  | g, [] => g
  | g, c :: r => gcdL (gcdS g c.2) r
theorem gcdS_in {a b : Int} (ha : inB a = true) (hb : inB b = true) (h : b ≠ 0) : inB (gcdS a b) = true := by
  unfold gcdS
  rw [absS_in ha, absS_in hb, inB_true]
  rw [inB_true] at hb
  have h1 : Int.gcd (a.natAbs : Int) (b.natAbs : Int) ≤ b.natAbs := Nat.gcd_le_right _ (by omega)
  omega
theorem linear_divisor (cs : List (ByteArray × Int)) (n g : Int) (hlen : cs.length ≤ 1048576) (hb : ∀ c ∈ cs, inB c.2 = true ∧ c.2 ≠ 0) (hg : inB g = true) : cL Tryd.prog 41 [linA cs n, .int g] S tk k = some (.int (gcdL g cs), S, tk, k) := by
  refine call_pure Tryd.func41 rfl rfl (by decide +kernel) (by decide +kernel) Tryd.ntmps41 rfl rfl _ _ _ rfl ?_; rw [RK_KX]
  simp (maxSteps := 1000000) +contextual (disch := first | with_reducible assumption | exact ⟨rfl⟩ | exact ⟨rfl, rfl⟩ | (refine _root_.id ?_; kernel_rfl) | omega) only [evs, ext_mv, nth, put, putT, getT, binInt, binStr, binBool, aUn, outA, resA, mapO, resA1, oneOf, w1, w2, w3, bots, cond_true, cond_false, if_true, if_false, ite_true, ite_false, reduceIte, reduceCtorEq, implies_true, Nat.reduceAdd, Nat.reduceSub, AV.int, AV.bool, AV.str, Nat.reduceBEq, Nat.reduceEqDiff, Nat.reduceMul, Nat.reduceLT, Nat.reduceLeDiff, Int.reduceNeg, BEq.rfl, beq_self_eq_true, tabl, cellsOf, fldA, ldA, stA, entAt, partA, takeN, over, leafOk, Value.oneCell', idxA, nilA, cellsEq, fillA, elemsA, pure1, pure2, reps, chkA, tys, Tryd.results41, KX_draw, KX_drawQ, KX_tail, lastO_one, lastO_more, dropL_one, dropL_more, callP_eq, callM_true, linA, coefsA]
  refine loop1 (P := Tryd.prog) (fun x st => st.T.length = 20 ∧ x.1 ≤ cs.length ∧ inB x.2 = true ∧ getT st.T 1 = .int x.2 ∧ getT st.T 8 = coefsA cs ∧ getT st.T 9 = .int cs.length ∧ getT st.T 10 = .int (x.1 : Nat) ∧ st.S = [⟨0, [coefsA cs, .int n]⟩]) (fun x => cs.length - x.1) (fun x => .int (gcdL x.2 (cs.drop x.1))) (0, g) ?_ ?_
  case refine_2 => exact ⟨rfl, Nat.zero_le _, hg, rfl, rfl, rfl, rfl, rfl⟩
  rintro ⟨i, y⟩ ⟨T, S', tk', n'⟩ ⟨hl, hi, hy, e1, e8, e9, e10, rfl⟩ IH
  obtain ⟨t, ht, hT⟩ := tab_of hl
  rw [ht] at e1 e8 e9 e10
  subst hT
  clear ht hl
  simp only at hi hy e1 e10
  by_cases hlt : i < cs.length
  · have d1 : decide ((i : Int) < (cs.length : Int)) = true := by simpa using hlt
    obtain ⟨c, hc⟩ := nth_some hlt
    have hc' : nth (cs.map coefC) i = some (coefC c) := by rw [nth_map, hc]; rfl
    have hw := wrap_add (i := i) (m := 0) (by omega)
    have hcm : c ∈ cs := by rw [nth_get] at hc; exact List.mem_of_getElem? hc
    have hG := fun S tk k => num_Gcd S tk k y c.2 (inB_i64 hy) (inB_i64 (hb c hcm).1)
    rw [nth_drop hc]
    simp (maxSteps := 1000000) +contextual (disch := first | with_reducible assumption | exact ⟨rfl⟩ | exact ⟨rfl, rfl⟩ | (refine _root_.id ?_; kernel_rfl) | omega) only [evs, ext_mv, nth, put, putT, getT, binInt, binStr, binBool, aUn, outA, resA, mapO, resA1, oneOf, w1, w2, w3, bots, cond_true, cond_false, if_true, if_false, ite_true, ite_false, reduceIte, reduceCtorEq, implies_true, Nat.reduceAdd, Nat.reduceSub, AV.int, AV.bool, AV.str, Nat.reduceBEq, Nat.reduceEqDiff, Nat.reduceMul, Nat.reduceLT, Nat.reduceLeDiff, Int.reduceNeg, BEq.rfl, beq_self_eq_true, tabl, cellsOf, fldA, ldA, stA, entAt, partA, takeN, over, leafOk, Value.oneCell', idxA, nilA, cellsEq, fillA, elemsA, pure1, pure2, reps, chkA, tys, Tryd.results41, KX_draw, KX_drawQ, KX_tail, lastO_one, lastO_more, dropL_one, dropL_more, callP_eq, callM_true, e1, e8, e9, e10, d1, coefsA, hc', hw, coefC, hG]
    rw [IH (i + 1, gcdS y c.2) _ (by simp only; omega) ⟨rfl, hlt, ?_, rfl, rfl, rfl, rfl, rfl⟩]
    · simp [gcdL]
    · exact gcdS_in hy (hb c hcm).1 (hb c hcm).2
  · have d1 : decide ((i : Int) < (cs.length : Int)) = false := by simpa using hlt
    have he : i = cs.length := by omega
    simp (maxSteps := 1000000) +contextual (disch := first | with_reducible assumption | exact ⟨rfl⟩ | exact ⟨rfl, rfl⟩ | (refine _root_.id ?_; kernel_rfl) | omega) only [evs, ext_mv, nth, put, putT, getT, binInt, binStr, binBool, aUn, outA, resA, mapO, resA1, oneOf, w1, w2, w3, bots, cond_true, cond_false, if_true, if_false, ite_true, ite_false, reduceIte, reduceCtorEq, implies_true, Nat.reduceAdd, Nat.reduceSub, AV.int, AV.bool, AV.str, Nat.reduceBEq, Nat.reduceEqDiff, Nat.reduceMul, Nat.reduceLT, Nat.reduceLeDiff, Int.reduceNeg, BEq.rfl, beq_self_eq_true, tabl, cellsOf, fldA, ldA, stA, entAt, partA, takeN, over, leafOk, Value.oneCell', idxA, nilA, cellsEq, fillA, elemsA, pure1, pure2, reps, chkA, tys, Tryd.results41, KX_draw, KX_drawQ, KX_tail, lastO_one, lastO_more, dropL_one, dropL_more, callP_eq, callM_true, e1, e8, e9, e10, d1, coefsA]
    rw [he, List.drop_length]; rfl
theorem rowsOk_nil {sz : Nat} : rowsOk sz [] = true := rfl
theorem Clone_Coef (cs : List (ByteArray × Int)) (hlen : cs.length ≤ 1048576) : cL Tryd.prog 55 [coefsA cs] S tk k = some (coefsA cs, S, tk, k) := by
  have hr := fun cs => rowsOk_map (f := coefC) (sz := 2) (fun _ => rfl) cs
  cases cs with
  | nil =>
    refine call_nil_nil Tryd.func55 rfl rfl (by decide +kernel) (by decide +kernel) Tryd.ntmps55 rfl rfl _ _ _ ?_ ?_ <;> rw [RK_KX]
    · simp (maxSteps := 1000000) +contextual (disch := first | with_reducible assumption | exact ⟨rfl⟩ | exact ⟨rfl, rfl⟩ | (refine _root_.id ?_; kernel_rfl) | omega) only [evs, ext_mv, nth, put, putT, getT, binInt, binStr, binBool, aUn, outA, resA, mapO, resA1, oneOf, w1, w2, w3, bots, cond_true, cond_false, if_true, if_false, ite_true, ite_false, reduceIte, reduceCtorEq, implies_true, Nat.reduceAdd, Nat.reduceSub, AV.int, AV.bool, AV.str, Nat.reduceBEq, Nat.reduceEqDiff, Nat.reduceMul, Nat.reduceLT, Nat.reduceLeDiff, Int.reduceNeg, BEq.rfl, beq_self_eq_true, tabl, cellsOf, fldA, ldA, stA, entAt, partA, takeN, over, leafOk, Value.oneCell', idxA, nilA, cellsEq, fillA, elemsA, pure1, pure2, reps, chkA, tys, Tryd.results55, KX_draw, KX_drawQ, KX_tail, lastO_one, lastO_more, dropL_one, dropL_more, callP_eq, callM_true, litA_nil, coefsA]
    · simp (maxSteps := 1000000) +contextual (disch := first | with_reducible assumption | exact ⟨rfl⟩ | exact ⟨rfl, rfl⟩ | (refine _root_.id ?_; kernel_rfl) | omega) only [evs, ext_mv, nth, put, putT, getT, binInt, binStr, binBool, aUn, outA, resA, mapO, resA1, oneOf, w1, w2, w3, bots, cond_true, cond_false, if_true, if_false, ite_true, ite_false, reduceIte, reduceCtorEq, implies_true, Nat.reduceAdd, Nat.reduceSub, AV.int, AV.bool, AV.str, Nat.reduceBEq, Nat.reduceEqDiff, Nat.reduceMul, Nat.reduceLT, Nat.reduceLeDiff, Int.reduceNeg, BEq.rfl, beq_self_eq_true, tabl, cellsOf, fldA, ldA, stA, entAt, partA, takeN, over, leafOk, Value.oneCell', idxA, nilA, cellsEq, fillA, elemsA, pure1, pure2, reps, chkA, tys, Tryd.results55, KX_draw, KX_drawQ, KX_tail, lastO_one, lastO_more, dropL_one, dropL_more, callP_eq, callM_true, litA_nil, coefsA]
  | cons c cs =>
    refine call_nil_cons Tryd.func55 rfl rfl (by decide +kernel) (by decide +kernel) Tryd.ntmps55 rfl rfl _ _ _ rfl ?_; rw [RK_KX]
    have hr' := hr (c :: cs)
    simp only [List.map_cons] at hr'
    have hl : ([] : List (List AV)).length + (coefC c :: cs.map coefC).length ≤ 1048576 := by simp at hlen ⊢; omega
    simp (maxSteps := 1000000) +contextual (disch := first | with_reducible assumption | exact ⟨rfl⟩ | exact ⟨rfl, rfl⟩ | (refine _root_.id ?_; kernel_rfl) | omega) only [evs, ext_mv, nth, put, putT, getT, binInt, binStr, binBool, aUn, outA, resA, mapO, resA1, oneOf, w1, w2, w3, bots, cond_true, cond_false, if_true, if_false, ite_true, ite_false, reduceIte, reduceCtorEq, implies_true, Nat.reduceAdd, Nat.reduceSub, AV.int, AV.bool, AV.str, Nat.reduceBEq, Nat.reduceEqDiff, Nat.reduceMul, Nat.reduceLT, Nat.reduceLeDiff, Int.reduceNeg, BEq.rfl, beq_self_eq_true, tabl, cellsOf, fldA, ldA, stA, entAt, partA, takeN, over, leafOk, Value.oneCell', idxA, nilA, cellsEq, fillA, elemsA, pure1, pure2, reps, chkA, tys, Tryd.results55, KX_draw, KX_drawQ, KX_tail, lastO_one, lastO_more, dropL_one, dropL_more, callP_eq, callM_true, litA_nil, coefsA, hr']
theorem linear_copied (cs : List (ByteArray × Int)) (n : Int) (hlen : cs.length ≤ 1048576) : cL Tryd.prog 39 [linA cs n] S tk k = some (linA cs n, S, tk, k) := by
  refine call_pure Tryd.func39 rfl rfl (by decide +kernel) (by decide +kernel) Tryd.ntmps39 rfl rfl _ _ _ rfl ?_; rw [RK_KX]
  have hC := fun S tk k => Clone_Coef S tk k cs hlen
  simp only [coefsA] at hC
  simp (maxSteps := 1000000) +contextual (disch := first | with_reducible assumption | exact ⟨rfl⟩ | exact ⟨rfl, rfl⟩ | (refine _root_.id ?_; kernel_rfl) | omega) only [evs, ext_mv, nth, put, putT, getT, binInt, binStr, binBool, aUn, outA, resA, mapO, resA1, oneOf, w1, w2, w3, bots, cond_true, cond_false, if_true, if_false, ite_true, ite_false, reduceIte, reduceCtorEq, implies_true, Nat.reduceAdd, Nat.reduceSub, AV.int, AV.bool, AV.str, Nat.reduceBEq, Nat.reduceEqDiff, Nat.reduceMul, Nat.reduceLT, Nat.reduceLeDiff, Int.reduceNeg, BEq.rfl, beq_self_eq_true, tabl, cellsOf, fldA, ldA, stA, entAt, partA, takeN, over, leafOk, Value.oneCell', idxA, nilA, cellsEq, fillA, elemsA, pure1, pure2, reps, chkA, tys, Tryd.results39, KX_draw, KX_drawQ, KX_tail, lastO_one, lastO_more, dropL_one, dropL_more, callP_eq, callM_true, linA, coefsA, hC]
def divC (g : Int) (c : ByteArray × Int) : ByteArray × Int := (c.1, c.2.tdiv g)
theorem wrap_tdiv {a b : Int} (ha : inB a = true) : IntKind.i64.wrap (a.tdiv b) = a.tdiv b := by
  rw [inB_true] at ha
  have := tdiv_bound ha.1 ha.2 (b := b)
  exact wrap_of (by unfold i64; omega)
theorem take_succ_nth {α : Type} : ∀ {l : List α} {i : Nat} {x : α}, nth l i = some x → l.take (i + 1) = l.take i ++ [x]
  | y :: l, 0, x, h => by simp only [nth, Option.some.injEq] at h; subst h; rfl
  | y :: l, i + 1, x, h => by simp only [List.take_succ_cons, List.cons_append, take_succ_nth (l := l) (i := i) h]
  | [], _, _, h => by simp [nth] at h
theorem divided_fn (g : Int) (c : ByteArray × Int) (id ep : Nat) (h : entAt S id ep = some [.int g]) (hg : g ≠ 0) (hc : inB c.2 = true) : cL Tryd.prog 57 [.agg (coefC c), .ref id ep 0] S tk k = some (.tup [.agg (coefC (divC g c)), .bool true], S, tk, k + 2) := by
  refine call_shared Tryd.func57 rfl rfl (by decide +kernel) Tryd.ntmps57 rfl ?_; rw [RK_KX]
  have hg' : (g == 0) = false := by simpa using hg
  simp (maxSteps := 1000000) +contextual (disch := first | with_reducible assumption | exact ⟨rfl⟩ | exact ⟨rfl, rfl⟩ | (refine _root_.id ?_; kernel_rfl) | omega) only [evs, ext_mv, nth, put, putT, getT, binInt, binStr, binBool, aUn, outA, resA, mapO, resA1, oneOf, w1, w2, w3, bots, cond_true, cond_false, if_true, if_false, ite_true, ite_false, reduceIte, reduceCtorEq, implies_true, Nat.reduceAdd, Nat.reduceSub, AV.int, AV.bool, AV.str, Nat.reduceBEq, Nat.reduceEqDiff, Nat.reduceMul, Nat.reduceLT, Nat.reduceLeDiff, Int.reduceNeg, BEq.rfl, beq_self_eq_true, tabl, cellsOf, fldA, ldA, stA, entAt_new, entAt_old, entAt_old2, List.take_left, List.take_length, partA, takeN, over, leafOk, Value.oneCell', idxA, nilA, cellsEq, fillA, elemsA, pure1, pure2, reps, chkA, tys, Tryd.results57, KX_draw, KX_drawQ, KX_tail, lastO_one, lastO_more, dropL_one, dropL_more, callP_eq, callM_true, coefC, h, hg']
  exact ⟨hg, by rw [wrap_tdiv hc]; rfl⟩
theorem each_divided (g : Int) (cs : List (ByteArray × Int)) (id ep : Nat) (hlen : cs.length ≤ 1048576) (h : entAt S id ep = some [.int g]) (hg : g ≠ 0) (hb : ∀ c ∈ cs, inB c.2 = true) :
    cL Tryd.prog 31 [coefsA cs, .fn 57 [.ref id ep 0]] S tk k = some (.tup [.frz ((cs.map (divC g)).map coefC) (capIter 2 cs.length (.nilc, tk)).1, .bool true], S, (capIter 2 cs.length (.nilc, tk)).2, k + 4 * cs.length) := by
  refine call_shared Tryd.func31 rfl rfl (by decide +kernel) Tryd.ntmps31 rfl ?_; rw [RK_KX]
  simp (maxSteps := 1000000) +contextual (disch := first | with_reducible assumption | exact ⟨rfl⟩ | exact ⟨rfl, rfl⟩ | (refine _root_.id ?_; kernel_rfl) | omega) only [evs, ext_mv, nth, put, putT, getT, binInt, binStr, binBool, aUn, outA, resA, mapO, resA1, oneOf, w1, w2, w3, bots, cond_true, cond_false, if_true, if_false, ite_true, ite_false, reduceIte, reduceCtorEq, implies_true, Nat.reduceAdd, Nat.reduceSub, AV.int, AV.bool, AV.str, Nat.reduceBEq, Nat.reduceEqDiff, Nat.reduceMul, Nat.reduceLT, Nat.reduceLeDiff, Int.reduceNeg, BEq.rfl, beq_self_eq_true, tabl, cellsOf, fldA, ldA, stA, entAt_new, entAt_old, entAt_old2, List.take_left, List.take_length, partA, takeN, over, leafOk, Value.oneCell', idxA, nilA, cellsEq, fillA, elemsA, pure1, pure2, reps, chkA, tys, Tryd.results31, KX_draw, KX_drawQ, KX_tail, lastO_one, lastO_more, dropL_one, dropL_more, callP_eq, callM_true, coefsA]
  refine loopS (P := Tryd.prog) (fun x st => st.T.length = 31 ∧ x.1 ≤ cs.length ∧ okCap x.2.1.2 x.2.1.1 2 = true ∧ getT st.T 1 = .fn 57 [.ref id ep 0] ∧ getT st.T 6 = .frz (((cs.take x.1).map (divC g)).map coefC) x.2.1.1 ∧ getT st.T 11 = coefsA cs ∧ getT st.T 12 = .int cs.length ∧ getT st.T 13 = .int (x.1 : Nat) ∧ st.S = S ∧ st.tk = x.2.1.2 ∧ st.n = x.2.2) (fun x => cs.length - x.1)
    (fun x => (.tup [.frz ((cs.map (divC g)).map coefC) (capIter 2 (cs.length - x.1) x.2.1).1, .bool true], S, (capIter 2 (cs.length - x.1) x.2.1).2, x.2.2 + 4 * (cs.length - x.1))) (0, (.nilc, tk), k) ?_ ?_
  case refine_2 => exact ⟨rfl, Nat.zero_le _, rfl, rfl, rfl, rfl, rfl, rfl, rfl, rfl, rfl⟩
  rintro ⟨i, ⟨c, tk1⟩, m⟩ ⟨T, S', tk', n'⟩ ⟨hl, hi, hok, e1, e6, e11, e12, e13, eS, eT, eN⟩ IH
  simp only at eS eT eN hok e6 e13 hi
  subst eS eT eN
  obtain ⟨t, ht, hT⟩ := tab_of hl
  rw [ht] at e1 e6 e11 e12 e13
  subst hT
  clear ht hl
  by_cases hlt : i < cs.length
  · have d1 : decide ((i : Int) < (cs.length : Int)) = true := by simpa using hlt
    obtain ⟨x, hc⟩ := nth_some hlt
    have hc' : nth (cs.map coefC) i = some (coefC x) := by rw [nth_map, hc]; rfl
    have hw := wrap_add (i := i) (m := 0) (by omega)
    have hcm : x ∈ cs := by rw [nth_get] at hc; exact List.mem_of_getElem? hc
    have hf := fun e tk k => divided_fn (S' ++ [e]) tk k g x id ep (entAt_old h) hg (hb x hcm)
    have hr := rowsOk_map (f := coefC) (sz := 2) (fun _ => rfl) ((cs.take i).map (divC g))
    have hn : (((cs.take i).map (divC g)).map coefC).length + 1 ≤ 1048576 := by simp; omega
    simp only [coefC] at hf hc'
    simp (maxSteps := 1000000) +contextual (disch := first | with_reducible assumption | exact ⟨rfl⟩ | exact ⟨rfl, rfl⟩ | (refine _root_.id ?_; kernel_rfl) | omega) only [evs, ext_mv, nth, put, putT, getT, binInt, binStr, binBool, aUn, outA, resA, mapO, resA1, oneOf, w1, w2, w3, bots, cond_true, cond_false, if_true, if_false, ite_true, ite_false, reduceIte, reduceCtorEq, implies_true, Nat.reduceAdd, Nat.reduceSub, AV.int, AV.bool, AV.str, Nat.reduceBEq, Nat.reduceEqDiff, Nat.reduceMul, Nat.reduceLT, Nat.reduceLeDiff, Int.reduceNeg, BEq.rfl, beq_self_eq_true, tabl, cellsOf, fldA, ldA, stA, entAt_new, entAt_old, entAt_old2, List.take_left, List.take_length, partA, takeN, over, leafOk, Value.oneCell', idxA, nilA, cellsEq, fillA, elemsA, pure1, pure2, reps, chkA, tys, Tryd.results31, KX_draw, KX_drawQ, KX_tail, lastO_one, lastO_more, dropL_one, dropL_more, callP_eq, callM_true, e1, e6, e11, e12, e13, d1, coefsA, hc', hw, hf, coefC]
    rw [IH (i + 1, (capNew tk' c 2, capPut tk' c), n' + 4) _ (by simp only; omega) ⟨rfl, hlt, okCap_new hok, rfl, ?_, rfl, rfl, rfl, rfl, rfl, rfl⟩]
    · have e : cs.length - i = (cs.length - (i + 1)) + 1 := by omega
      simp only [e, capIter]
      congr 4; omega
    · simp only [getT, take_succ_nth hc, List.map_append, List.map_cons, List.map_nil, coefC, divC]
  · have d1 : decide ((i : Int) < (cs.length : Int)) = false := by simpa using hlt
    have he : i = cs.length := by omega
    simp (maxSteps := 1000000) +contextual (disch := first | with_reducible assumption | exact ⟨rfl⟩ | exact ⟨rfl, rfl⟩ | (refine _root_.id ?_; kernel_rfl) | omega) only [evs, ext_mv, nth, put, putT, getT, binInt, binStr, binBool, aUn, outA, resA, mapO, resA1, oneOf, w1, w2, w3, bots, cond_true, cond_false, if_true, if_false, ite_true, ite_false, reduceIte, reduceCtorEq, implies_true, Nat.reduceAdd, Nat.reduceSub, AV.int, AV.bool, AV.str, Nat.reduceBEq, Nat.reduceEqDiff, Nat.reduceMul, Nat.reduceLT, Nat.reduceLeDiff, Int.reduceNeg, BEq.rfl, beq_self_eq_true, tabl, cellsOf, fldA, ldA, stA, entAt_new, entAt_old, entAt_old2, List.take_left, List.take_length, partA, takeN, over, leafOk, Value.oneCell', idxA, nilA, cellsEq, fillA, elemsA, pure1, pure2, reps, chkA, tys, Tryd.results31, KX_draw, KX_drawQ, KX_tail, lastO_one, lastO_more, dropL_one, dropL_more, callP_eq, callM_true, e1, e6, e11, e12, e13, d1, coefsA]
    rw [he]; simp [capIter, List.take_length]
theorem linear_divided (g : Int) (cs : List (ByteArray × Int)) (hlen : cs.length ≤ 1048576) (hg : g ≠ 0) (hb : ∀ c ∈ cs, inB c.2 = true) : cL Tryd.prog 43 [coefsA cs, .int g] S tk k = some (coefsA (cs.map (divC g)), S, tk, k) := by
  refine call_pure Tryd.func43 rfl rfl (by decide +kernel) (by decide +kernel) Tryd.ntmps43 rfl rfl _ _ _ rfl ?_; rw [RK_KX]
  have hE := fun tk k => each_divided [⟨0, [.int g]⟩] tk k g cs 0 0 hlen rfl hg hb
  simp only [coefsA] at hE
  simp (maxSteps := 1000000) +contextual (disch := first | with_reducible assumption | exact ⟨rfl⟩ | exact ⟨rfl, rfl⟩ | (refine _root_.id ?_; kernel_rfl) | omega) only [evs, ext_mv, nth, put, putT, getT, binInt, binStr, binBool, aUn, outA, resA, mapO, resA1, oneOf, w1, w2, w3, bots, cond_true, cond_false, if_true, if_false, ite_true, ite_false, reduceIte, reduceCtorEq, implies_true, Nat.reduceAdd, Nat.reduceSub, AV.int, AV.bool, AV.str, Nat.reduceBEq, Nat.reduceEqDiff, Nat.reduceMul, Nat.reduceLT, Nat.reduceLeDiff, Int.reduceNeg, BEq.rfl, beq_self_eq_true, tabl, cellsOf, fldA, ldA, stA, entAt, partA, takeN, over, leafOk, Value.oneCell', idxA, nilA, cellsEq, fillA, elemsA, pure1, pure2, reps, chkA, tys, Tryd.results43, KX_draw, KX_drawQ, KX_tail, lastO_one, lastO_more, dropL_one, dropL_more, callP_eq, callM_true, coefsA, hE, capsOk]
end
end Go.Proofs.YtkghgdkkholieaaDoor
/-
  Tight and Form, by the program.
-/

namespace Go.Proofs.YtkghgdkkholieaaDoor
open Go

theorem chkFrom_ok {n : Int} : ∀ {p : Option ByteArray} {cs : List (ByteArray × Int)}, chkFrom n p cs = 0 → (∀ c ∈ cs, inB c.2 = true ∧ c.2 ≠ 0) ∧ inB n = true
  | p, [], h => by
    simp only [chkFrom] at h
    refine ⟨by simp, ?_⟩
    cases hn : inB n with
    | true => rfl
    | false => rw [hn] at h; simp at h
  | p, c :: cs, h => by
    simp only [chkFrom] at h
    split at h
    · simp at h
    · split at h
      · simp at h
      · rename_i h1
        split at h
        · simp at h
        · obtain ⟨g1, g2⟩ := chkFrom_ok h
          refine ⟨fun d hd => ?_, g2⟩
          rcases List.mem_cons.1 hd with rfl | hd
          · simp at h1; exact ⟨h1.2, h1.1⟩
          · exact g1 d hd
theorem check_ok {cs : List (ByteArray × Int)} {n : Int} (h : checkF cs n = 0) : (∀ c ∈ cs, inB c.2 = true ∧ c.2 ≠ 0) ∧ inB n = true ∧ cs.length ≤ 24 := by
  unfold checkF at h
  split at h
  · simp at h
  · obtain ⟨h1, h2⟩ := chkFrom_ok h
    exact ⟨h1, h2, by omega⟩
theorem gcdL_in : ∀ {cs : List (ByteArray × Int)} {g : Int}, (∀ c ∈ cs, inB c.2 = true ∧ c.2 ≠ 0) → inB g = true → inB (gcdL g cs) = true
  | [], g, _, hg => hg
  | c :: cs, g, h, hg => gcdL_in (cs := cs) (fun d hd => h d (by simp [hd])) (gcdS_in hg (h c (by simp)).1 (h c (by simp)).2)
theorem gcdL_pos : ∀ {cs : List (ByteArray × Int)} {g : Int}, (∀ c ∈ cs, inB c.2 = true ∧ c.2 ≠ 0) → inB g = true → 0 ≤ g → (0 < g ∨ cs ≠ []) → 0 < gcdL g cs
  | [], g, _, _, _, h => by rcases h with h | h; exact h; simp at h
  | c :: cs, g, h, hg, h0, _ => by
    have hc := h c (by simp)
    have hp : 0 < gcdS g c.2 := by
      unfold gcdS
      rw [absS_in hg, absS_in hc.1]
      have : 0 < Int.gcd (g.natAbs : Int) (c.2.natAbs : Int) := Nat.gcd_pos_of_pos_right _ (by have := hc.2; omega)
      omega
    exact gcdL_pos (cs := cs) (fun d hd => h d (by simp [hd])) (gcdS_in hg hc.1 hc.2) (by omega) (.inl hp)

def tightF (cs : List (ByteArray × Int)) (n : Int) (eq : Bool) : List (ByteArray × Int) × Int × Bool :=
  if checkF cs n = 0 then
    if cs = [] then (if (n == 0 || (!eq && decide (n < 0))) = true then ([], 0, false) else ([], 1, false))
    else if (eq && !(n.tmod (gcdL 0 cs) == 0)) = true then ([], 1, false)
    else (cs.map (divC (gcdL 0 cs)), -((-n) / gcdL 0 cs), eq)
  else (cs, n, eq)

section
variable (S : List Ent) (tk : List Nat) (k : Nat)
theorem linear_Tight (cs : List (ByteArray × Int)) (n : Int) (eq : Bool) (hlen : cs.length ≤ 1048576) : cL Tryd.prog 19 [rowA cs n eq] S tk k = some (rowA (tightF cs n eq).1 (tightF cs n eq).2.1 (tightF cs n eq).2.2, S, tk, k) := by
  have hC := fun S tk k => linear_Check S tk k cs n hlen
  have hcp := fun S tk k => linear_copied S tk k cs n hlen
  simp only [linA, coefsA] at hC hcp
  by_cases h0 : checkF cs n = 0
  · have d0 : (checkF cs n != 0) = false := by simp [h0]
    obtain ⟨hb, hn, -⟩ := check_ok h0
    cases cs with
    | nil =>
      have hvt := fun S tk k => linear_verdict S tk k true
      have hvf := fun S tk k => linear_verdict S tk k false
      simp only [rowA, coefsA, List.map_nil, if_true, Bool.false_eq_true, if_false, AV.bool, AV.int] at hvt hvf hC
      have hz : (((0 : Nat) : Int) == 0) = true := rfl
      have ht : ∀ e, tightF [] n e = if (n == 0 || (!e && decide (n < 0))) = true then ([], 0, false) else ([], 1, false) := fun e => by
        unfold tightF; rw [if_pos h0, if_pos rfl]
      refine call_pure Tryd.func19 rfl rfl (by decide +kernel) (by decide +kernel) Tryd.ntmps19 rfl rfl _ _ _ rfl ?_; rw [RK_KX]
      by_cases hz0 : n = 0
      · have d2 : (n == 0) = true := by simpa using hz0
        simp (maxSteps := 1000000) +contextual (disch := first | with_reducible assumption | exact ⟨rfl⟩ | exact ⟨rfl, rfl⟩ | (refine _root_.id ?_; kernel_rfl) | omega) only [evs, ext_mv, nth, put, putT, getT, binInt, binStr, binBool, aUn, outA, resA, mapO, resA1, oneOf, w1, w2, w3, bots, cond_true, cond_false, if_true, if_false, ite_true, ite_false, reduceIte, reduceCtorEq, implies_true, Nat.reduceAdd, Nat.reduceSub, AV.int, AV.bool, AV.str, Nat.reduceBEq, Nat.reduceEqDiff, Nat.reduceMul, Nat.reduceLT, Nat.reduceLeDiff, Int.reduceNeg, BEq.rfl, beq_self_eq_true, tabl, cellsOf, fldA, ldA, stA, entAt, partA, takeN, over, leafOk, Value.oneCell', idxA, nilA, cellsEq, fillA, elemsA, pure1, pure2, reps, chkA, tys, Tryd.results19, KX_draw, KX_drawQ, KX_tail, lastO_one, lastO_more, dropL_one, dropL_more, callP_eq, callM_true, rowA, coefsA, hC, d0, hvt, hvf, List.map_nil, hz, d2]
        rw [ht, if_pos (by simp [hz0])]; simp [hz0]
      have d2 : (n == 0) = false := by simpa using hz0
      by_cases hn0 : n < 0
      · have d3 : decide (n < 0) = true := by simpa using hn0
        simp (maxSteps := 1000000) +contextual (disch := first | with_reducible assumption | exact ⟨rfl⟩ | exact ⟨rfl, rfl⟩ | (refine _root_.id ?_; kernel_rfl) | omega) only [evs, ext_mv, nth, put, putT, getT, binInt, binStr, binBool, aUn, outA, resA, mapO, resA1, oneOf, w1, w2, w3, bots, cond_true, cond_false, if_true, if_false, ite_true, ite_false, reduceIte, reduceCtorEq, implies_true, Nat.reduceAdd, Nat.reduceSub, AV.int, AV.bool, AV.str, Nat.reduceBEq, Nat.reduceEqDiff, Nat.reduceMul, Nat.reduceLT, Nat.reduceLeDiff, Int.reduceNeg, BEq.rfl, beq_self_eq_true, tabl, cellsOf, fldA, ldA, stA, entAt, partA, takeN, over, leafOk, Value.oneCell', idxA, nilA, cellsEq, fillA, elemsA, pure1, pure2, reps, chkA, tys, Tryd.results19, KX_draw, KX_drawQ, KX_tail, lastO_one, lastO_more, dropL_one, dropL_more, callP_eq, callM_true, rowA, coefsA, hC, d0, hvt, hvf, List.map_nil, hz, d2, d3]
        simp [ht, hz0, hn0]
      · have d3 : decide (n < 0) = false := by simpa using hn0
        simp (maxSteps := 1000000) +contextual (disch := first | with_reducible assumption | exact ⟨rfl⟩ | exact ⟨rfl, rfl⟩ | (refine _root_.id ?_; kernel_rfl) | omega) only [evs, ext_mv, nth, put, putT, getT, binInt, binStr, binBool, aUn, outA, resA, mapO, resA1, oneOf, w1, w2, w3, bots, cond_true, cond_false, if_true, if_false, ite_true, ite_false, reduceIte, reduceCtorEq, implies_true, Nat.reduceAdd, Nat.reduceSub, AV.int, AV.bool, AV.str, Nat.reduceBEq, Nat.reduceEqDiff, Nat.reduceMul, Nat.reduceLT, Nat.reduceLeDiff, Int.reduceNeg, BEq.rfl, beq_self_eq_true, tabl, cellsOf, fldA, ldA, stA, entAt, partA, takeN, over, leafOk, Value.oneCell', idxA, nilA, cellsEq, fillA, elemsA, pure1, pure2, reps, chkA, tys, Tryd.results19, KX_draw, KX_drawQ, KX_tail, lastO_one, lastO_more, dropL_one, dropL_more, callP_eq, callM_true, rowA, coefsA, hC, d0, hvt, hvf, List.map_nil, hz, d2, d3]
        simp [ht, hz0, hn0]
    | cons c cs =>
      refine call_pure Tryd.func19 rfl rfl (by decide +kernel) (by decide +kernel) Tryd.ntmps19 rfl rfl _ _ _ rfl ?_; rw [RK_KX]
      generalize hl : c :: cs = l at *
      have hne : l ≠ [] := by rw [← hl]; simp
      have hg := gcdL_in hb (g := 0) rfl
      have hp := gcdL_pos hb (g := 0) rfl (by omega) (.inr hne)
      have hD := fun S tk k => linear_divisor S tk k l n 0 hlen hb rfl
      have hQ := fun S tk k => num_Div S tk k (-n) (gcdL 0 l) (by rw [inB_true] at hn ⊢; omega) hp hg
      have hV := fun S tk k => linear_divided S tk k (gcdL 0 l) l hlen (by omega) (fun c hc => (hb c hc).1)
      have hw : IntKind.i64.wrap (0 - n) = -n := by rw [wrap_of (by rw [inB_true] at hn; unfold i64; omega)]; omega
      have d1 : ((l.length : Int) == 0) = false := by rw [← hl]; simp; omega
      have hv := linear_verdict
      simp only [rowA, coefsA, linA] at hv hD hV
      simp (maxSteps := 1000000) +contextual (disch := first | with_reducible assumption | exact ⟨rfl⟩ | exact ⟨rfl, rfl⟩ | (refine _root_.id ?_; kernel_rfl) | omega) only [evs, ext_mv, nth, put, putT, getT, binInt, binStr, binBool, aUn, outA, resA, mapO, resA1, oneOf, w1, w2, w3, bots, cond_true, cond_false, if_true, if_false, ite_true, ite_false, reduceIte, reduceCtorEq, implies_true, Nat.reduceAdd, Nat.reduceSub, AV.int, AV.bool, AV.str, Nat.reduceBEq, Nat.reduceEqDiff, Nat.reduceMul, Nat.reduceLT, Nat.reduceLeDiff, Int.reduceNeg, BEq.rfl, beq_self_eq_true, tabl, cellsOf, fldA, ldA, stA, entAt, partA, takeN, over, leafOk, Value.oneCell', idxA, nilA, cellsEq, fillA, elemsA, pure1, pure2, reps, chkA, tys, Tryd.results19, KX_draw, KX_drawQ, KX_tail, lastO_one, lastO_more, dropL_one, dropL_more, callP_eq, callM_true, rowA, coefsA, hC, d0, hD, hQ, hV, hw, d1, hv]
      have hq : IntKind.i64.wrap (0 - -n / gcdL 0 l) = -(-n / gcdL 0 l) := by
        rw [inB_true] at hn
        have := tdiv_bound (a := -n) (b := gcdL 0 l) (by omega) (by omega)
        have h1 := Int.natAbs_ediv_le_natAbs (-n) (gcdL 0 l)
        rw [wrap_of (by unfold i64; omega)]; omega
      have ht : ∀ e, tightF l n e = if (e && !(n.tmod (gcdL 0 l) == 0)) = true then ([], 1, false) else (l.map (divC (gcdL 0 l)), -((-n) / gcdL 0 l), e) := fun e => by
        unfold tightF; rw [if_pos h0, if_neg hne]
      refine ⟨fun _ => ⟨by omega, fun h => ?_, fun h => ?_⟩, fun _ => ?_⟩
      · rw [ht, if_pos (by simpa using h)]; simp
      · rw [ht, if_neg (by simpa using h)]; exact ⟨rfl, hq, rfl⟩
      · rw [ht, if_neg (by simp)]; exact ⟨rfl, hq, rfl⟩
  · have d0 : (checkF cs n != 0) = true := by simpa using h0
    refine call_pure Tryd.func19 rfl rfl (by decide +kernel) (by decide +kernel) Tryd.ntmps19 rfl rfl _ _ _ rfl ?_; rw [RK_KX]
    simp (maxSteps := 1000000) +contextual (disch := first | with_reducible assumption | exact ⟨rfl⟩ | exact ⟨rfl, rfl⟩ | (refine _root_.id ?_; kernel_rfl) | omega) only [evs, ext_mv, nth, put, putT, getT, binInt, binStr, binBool, aUn, outA, resA, mapO, resA1, oneOf, w1, w2, w3, bots, cond_true, cond_false, if_true, if_false, ite_true, ite_false, reduceIte, reduceCtorEq, implies_true, Nat.reduceAdd, Nat.reduceSub, AV.int, AV.bool, AV.str, Nat.reduceBEq, Nat.reduceEqDiff, Nat.reduceMul, Nat.reduceLT, Nat.reduceLeDiff, Int.reduceNeg, BEq.rfl, beq_self_eq_true, tabl, cellsOf, fldA, ldA, stA, entAt, partA, takeN, over, leafOk, Value.oneCell', idxA, nilA, cellsEq, fillA, elemsA, pure1, pure2, reps, chkA, tys, Tryd.results19, KX_draw, KX_drawQ, KX_tail, lastO_one, lastO_more, dropL_one, dropL_more, callP_eq, callM_true, rowA, coefsA, hC, d0, hcp]
    simp [tightF, h0]
def formF (cs : List (ByteArray × Int)) (n : Int) : (List (ByteArray × Int) × Int) × Int :=
  if checkF cs n = 0 then
    match cs with
    | [] => if decide (n > 0) = true then (([], 1), 1) else if decide (n < 0) = true then (([], 1), -1) else (([], 0), 1)
    | c :: r => if decide (c.2 < 0) = true then (((c :: r).map (divC (-gcdL (gcdS n 0) (c :: r))), n.tdiv (-gcdL (gcdS n 0) (c :: r))), -1)
      else (((c :: r).map (divC (gcdL (gcdS n 0) (c :: r))), n.tdiv (gcdL (gcdS n 0) (c :: r))), 1)
  else (([], 0), 0)
theorem linear_Form (cs : List (ByteArray × Int)) (n : Int) (hlen : cs.length ≤ 1048576) : cL Tryd.prog 21 [linA cs n] S tk k = some (.tup [linA (formF cs n).1.1 (formF cs n).1.2, .int (formF cs n).2], S, tk, k) := by
  have hC := fun S tk k => linear_Check S tk k cs n hlen
  simp only [linA, coefsA] at hC
  by_cases h0 : checkF cs n = 0
  · have d0 : (checkF cs n != 0) = false := by simp [h0]
    obtain ⟨hb, hn, -⟩ := check_ok h0
    cases cs with
    | nil =>
      simp only [List.map_nil] at hC
      have hz : (((0 : Nat) : Int) == 0) = true := rfl
      refine call_pure Tryd.func21 rfl rfl (by decide +kernel) (by decide +kernel) Tryd.ntmps21 rfl rfl _ _ _ rfl ?_; rw [RK_KX]
      simp (maxSteps := 1000000) +contextual (disch := first | with_reducible assumption | exact ⟨rfl⟩ | exact ⟨rfl, rfl⟩ | (refine _root_.id ?_; kernel_rfl) | omega) only [evs, ext_mv, nth, put, putT, getT, binInt, binStr, binBool, aUn, outA, resA, mapO, resA1, oneOf, w1, w2, w3, bots, cond_true, cond_false, if_true, if_false, ite_true, ite_false, reduceIte, reduceCtorEq, implies_true, Nat.reduceAdd, Nat.reduceSub, AV.int, AV.bool, AV.str, Nat.reduceBEq, Nat.reduceEqDiff, Nat.reduceMul, Nat.reduceLT, Nat.reduceLeDiff, Int.reduceNeg, BEq.rfl, beq_self_eq_true, tabl, cellsOf, fldA, ldA, stA, entAt, partA, takeN, over, leafOk, Value.oneCell', idxA, nilA, cellsEq, fillA, elemsA, pure1, pure2, reps, chkA, tys, Tryd.results21, KX_draw, KX_drawQ, KX_tail, lastO_one, lastO_more, dropL_one, dropL_more, callP_eq, callM_true, linA, coefsA, hC, d0, List.map_nil, hz]
      unfold formF
      rw [if_pos h0]
      refine ⟨fun h => ?_, fun h => ⟨fun h1 => ?_, fun h1 => ?_⟩⟩
      · simp only [h, if_true]; simp
      · simp only [h, h1, if_true]; simp
      · simp only [h, h1]; simp
    | cons c cs =>
      refine call_pure Tryd.func21 rfl rfl (by decide +kernel) (by decide +kernel) Tryd.ntmps21 rfl rfl _ _ _ rfl ?_; rw [RK_KX]
      have hgn : inB (gcdS n 0) = true ∧ 0 ≤ gcdS n 0 := by
        unfold gcdS
        rw [absS_in hn, inB_true]
        rw [inB_true] at hn
        simp [absS]; omega
      have hg := gcdL_in hb hgn.1
      have hp := gcdL_pos hb hgn.1 hgn.2 (.inr (by simp))
      have hG := fun S tk k => num_Gcd S tk k n 0 (inB_i64 hn) (by unfold i64; omega)
      have hD := fun S tk k => linear_divisor S tk k (c :: cs) n (gcdS n 0) hlen hb hgn.1
      have hV := fun S tk k => linear_divided S tk k (gcdL (gcdS n 0) (c :: cs)) (c :: cs) hlen (by omega) (fun c hc => (hb c hc).1)
      have hV' := fun S tk k => linear_divided S tk k (-gcdL (gcdS n 0) (c :: cs)) (c :: cs) hlen (by omega) (fun c hc => (hb c hc).1)
      have hw : ∀ g, inB g = true → IntKind.i64.wrap (0 - g) = -g := fun g hg => by rw [wrap_of (by rw [inB_true] at hg; unfold i64; omega)]; omega
      have hw' := hw _ hg
      have d1 : (((c :: cs).length : Int) == 0) = false := by simp; omega
      simp only [linA, coefsA] at hD hV hV'
      have hf : ∀ n, formF (c :: cs) n = if checkF (c :: cs) n = 0 then (if decide (c.2 < 0) = true then (((c :: cs).map (divC (-gcdL (gcdS n 0) (c :: cs))), n.tdiv (-gcdL (gcdS n 0) (c :: cs))), -1)
        else (((c :: cs).map (divC (gcdL (gcdS n 0) (c :: cs))), n.tdiv (gcdL (gcdS n 0) (c :: cs))), 1)) else (([], 0), 0) := fun _ => rfl
      rw [hf, if_pos h0]
      have hc1 : nth ((c :: cs).map coefC) 0 = some [.prim (.string c.1), .prim (.int .i64 c.2)] := rfl
      generalize gcdL (gcdS n 0) (c :: cs) = g at *
      generalize c :: cs = l at *
      by_cases hs : c.2 < 0
      · have d2 : decide (c.2 < 0) = true := by simpa using hs
        have hq : IntKind.i64.wrap (n.tdiv (-g)) = n.tdiv (-g) := wrap_tdiv hn
        simp (maxSteps := 1000000) +contextual (disch := first | with_reducible assumption | exact ⟨rfl⟩ | exact ⟨rfl, rfl⟩ | (refine _root_.id ?_; kernel_rfl) | omega) only [evs, ext_mv, nth, put, putT, getT, binInt, binStr, binBool, aUn, outA, resA, mapO, resA1, oneOf, w1, w2, w3, bots, cond_true, cond_false, if_true, if_false, ite_true, ite_false, reduceIte, reduceCtorEq, implies_true, Nat.reduceAdd, Nat.reduceSub, AV.int, AV.bool, AV.str, Nat.reduceBEq, Nat.reduceEqDiff, Nat.reduceMul, Nat.reduceLT, Nat.reduceLeDiff, Int.reduceNeg, BEq.rfl, beq_self_eq_true, tabl, cellsOf, fldA, ldA, stA, entAt, partA, takeN, over, leafOk, Value.oneCell', idxA, nilA, cellsEq, fillA, elemsA, pure1, pure2, reps, chkA, tys, Tryd.results21, KX_draw, KX_drawQ, KX_tail, lastO_one, lastO_more, dropL_one, dropL_more, callP_eq, callM_true, linA, coefsA, hC, d0, hD, hG, hV, hV', hw', d1, hc1, d2, hq]
        omega
      · have d2 : decide (c.2 < 0) = false := by simpa using hs
        have hq : IntKind.i64.wrap (n.tdiv g) = n.tdiv g := wrap_tdiv hn
        simp (maxSteps := 1000000) +contextual (disch := first | with_reducible assumption | exact ⟨rfl⟩ | exact ⟨rfl, rfl⟩ | (refine _root_.id ?_; kernel_rfl) | omega) only [evs, ext_mv, nth, put, putT, getT, binInt, binStr, binBool, aUn, outA, resA, mapO, resA1, oneOf, w1, w2, w3, bots, cond_true, cond_false, if_true, if_false, ite_true, ite_false, reduceIte, reduceCtorEq, implies_true, Nat.reduceAdd, Nat.reduceSub, AV.int, AV.bool, AV.str, Nat.reduceBEq, Nat.reduceEqDiff, Nat.reduceMul, Nat.reduceLT, Nat.reduceLeDiff, Int.reduceNeg, BEq.rfl, beq_self_eq_true, tabl, cellsOf, fldA, ldA, stA, entAt, partA, takeN, over, leafOk, Value.oneCell', idxA, nilA, cellsEq, fillA, elemsA, pure1, pure2, reps, chkA, tys, Tryd.results21, KX_draw, KX_drawQ, KX_tail, lastO_one, lastO_more, dropL_one, dropL_more, callP_eq, callM_true, linA, coefsA, hC, d0, hD, hG, hV, hV', hw', d1, hc1, d2, hq]
        omega
  · have d0 : (checkF cs n != 0) = true := by simpa using h0
    refine call_pure Tryd.func21 rfl rfl (by decide +kernel) (by decide +kernel) Tryd.ntmps21 rfl rfl _ _ _ rfl ?_; rw [RK_KX]
    simp (maxSteps := 1000000) +contextual (disch := first | with_reducible assumption | exact ⟨rfl⟩ | exact ⟨rfl, rfl⟩ | (refine _root_.id ?_; kernel_rfl) | omega) only [evs, ext_mv, nth, put, putT, getT, binInt, binStr, binBool, aUn, outA, resA, mapO, resA1, oneOf, w1, w2, w3, bots, cond_true, cond_false, if_true, if_false, ite_true, ite_false, reduceIte, reduceCtorEq, implies_true, Nat.reduceAdd, Nat.reduceSub, AV.int, AV.bool, AV.str, Nat.reduceBEq, Nat.reduceEqDiff, Nat.reduceMul, Nat.reduceLT, Nat.reduceLeDiff, Int.reduceNeg, BEq.rfl, beq_self_eq_true, tabl, cellsOf, fldA, ldA, stA, entAt, partA, takeN, over, leafOk, Value.oneCell', idxA, nilA, cellsEq, fillA, elemsA, pure1, pure2, reps, chkA, tys, Tryd.results21, KX_draw, KX_drawQ, KX_tail, lastO_one, lastO_more, dropL_one, dropL_more, callP_eq, callM_true, linA, coefsA, hC, d0]
    simp [formF, h0]
def nearF : List (ByteArray × Int) → Bool
  | [] => true
  | c :: r => if decide (c.2 < -1000) = true then false else if decide (c.2 > 1000) = true then false else nearF r
theorem L11_near (cs : List (ByteArray × Int)) (n : Int) (hlen : cs.length ≤ 1048576) : cL Tryd.prog 14 [linA cs n] S tk k = some (.bool (nearF cs && (checkF cs n == 0) && decide (n ≥ -1000) && decide (n ≤ 1000)), S, tk, k) := by
  refine call_pure Tryd.func14 rfl rfl (by decide +kernel) (by decide +kernel) Tryd.ntmps14 rfl rfl _ _ _ rfl ?_; rw [RK_KX]
  have hC := fun S tk k => linear_Check S tk k cs n hlen
  simp only [linA, coefsA] at hC
  simp (maxSteps := 1000000) +contextual (disch := first | with_reducible assumption | exact ⟨rfl⟩ | exact ⟨rfl, rfl⟩ | (refine _root_.id ?_; kernel_rfl) | omega) only [evs, ext_mv, nth, put, putT, getT, binInt, binStr, binBool, aUn, outA, resA, mapO, resA1, oneOf, w1, w2, w3, bots, cond_true, cond_false, if_true, if_false, ite_true, ite_false, reduceIte, reduceCtorEq, implies_true, Nat.reduceAdd, Nat.reduceSub, AV.int, AV.bool, AV.str, Nat.reduceBEq, Nat.reduceEqDiff, Nat.reduceMul, Nat.reduceLT, Nat.reduceLeDiff, Int.reduceNeg, BEq.rfl, beq_self_eq_true, tabl, cellsOf, fldA, ldA, stA, entAt, partA, takeN, over, leafOk, Value.oneCell', idxA, nilA, cellsEq, fillA, elemsA, pure1, pure2, reps, chkA, tys, Tryd.results14, KX_draw, KX_drawQ, KX_tail, lastO_one, lastO_more, dropL_one, dropL_more, callP_eq, callM_true, linA, coefsA]
  refine loop1 (P := Tryd.prog) (fun i st => st.T.length = 40 ∧ i ≤ cs.length ∧ nearF cs = nearF (cs.drop i) ∧ getT st.T 1 = .ref 0 0 0 ∧ getT st.T 3 = .int (i : Nat) ∧ st.S = [⟨0, [coefsA cs, .int n]⟩]) (fun i => cs.length - i) (fun _ => .bool (nearF cs && (checkF cs n == 0) && decide (n ≥ -1000) && decide (n ≤ 1000))) 0 ?_ ?_
  case refine_2 => exact ⟨rfl, Nat.zero_le _, rfl, rfl, rfl, rfl⟩
  rintro i ⟨T, S', tk', n'⟩ ⟨hl, hi, hnf, e1, e3, rfl⟩ IH
  obtain ⟨g, hg, hT⟩ := tab_of hl
  rw [hg] at e1 e3
  subst hT
  clear hg hl
  by_cases hlt : i < cs.length
  · have d1 : decide ((i : Int) < (cs.length : Int)) = true := by simpa using hlt
    obtain ⟨c, hc⟩ := nth_some hlt
    have hc' : nth (cs.map coefC) i = some (coefC c) := by rw [nth_map, hc]; rfl
    have hw := wrap_add (i := i) (m := 0) (by omega)
    rw [nth_drop hc] at hnf
    simp only [nearF] at hnf
    simp (maxSteps := 1000000) +contextual (disch := first | with_reducible assumption | exact ⟨rfl⟩ | exact ⟨rfl, rfl⟩ | (refine _root_.id ?_; kernel_rfl) | omega) only [evs, ext_mv, nth, put, putT, getT, binInt, binStr, binBool, aUn, outA, resA, mapO, resA1, oneOf, w1, w2, w3, bots, cond_true, cond_false, if_true, if_false, ite_true, ite_false, reduceIte, reduceCtorEq, implies_true, Nat.reduceAdd, Nat.reduceSub, AV.int, AV.bool, AV.str, Nat.reduceBEq, Nat.reduceEqDiff, Nat.reduceMul, Nat.reduceLT, Nat.reduceLeDiff, Int.reduceNeg, BEq.rfl, beq_self_eq_true, tabl, cellsOf, fldA, ldA, stA, entAt, partA, takeN, over, leafOk, Value.oneCell', idxA, nilA, cellsEq, fillA, elemsA, pure1, pure2, reps, chkA, tys, Tryd.results14, KX_draw, KX_drawQ, KX_tail, lastO_one, lastO_more, dropL_one, dropL_more, callP_eq, callM_true, e1, e3, d1, coefsA, hc', hw, coefC]
    refine ⟨fun h1 => ?_, fun h1 => ⟨fun h2 => ?_, fun h2 => ?_⟩⟩
    · rw [hnf, if_pos h1]; rfl
    · rw [hnf, if_neg (by rw [h1]; simp), if_pos h2]; rfl
    · exact IH (i + 1) _ (by omega) ⟨rfl, hlt, by rw [hnf, if_neg (by rw [h1]; simp), if_neg (by rw [h2]; simp)], rfl, rfl, rfl⟩
  · have d1 : decide ((i : Int) < (cs.length : Int)) = false := by simpa using hlt
    have he : i = cs.length := by omega
    rw [he, List.drop_length] at hnf
    rw [show nearF cs = true from hnf]
    simp (maxSteps := 1000000) +contextual (disch := first | with_reducible assumption | exact ⟨rfl⟩ | exact ⟨rfl, rfl⟩ | (refine _root_.id ?_; kernel_rfl) | omega) only [evs, ext_mv, nth, put, putT, getT, binInt, binStr, binBool, aUn, outA, resA, mapO, resA1, oneOf, w1, w2, w3, bots, cond_true, cond_false, if_true, if_false, ite_true, ite_false, reduceIte, reduceCtorEq, implies_true, Nat.reduceAdd, Nat.reduceSub, AV.int, AV.bool, AV.str, Nat.reduceBEq, Nat.reduceEqDiff, Nat.reduceMul, Nat.reduceLT, Nat.reduceLeDiff, Int.reduceNeg, BEq.rfl, beq_self_eq_true, tabl, cellsOf, fldA, ldA, stA, entAt, partA, takeN, over, leafOk, Value.oneCell', idxA, nilA, cellsEq, fillA, elemsA, pure1, pure2, reps, chkA, tys, Tryd.results14, KX_draw, KX_drawQ, KX_tail, lastO_one, lastO_more, dropL_one, dropL_more, callP_eq, callM_true, e1, e3, d1, coefsA, hC]
end
end Go.Proofs.YtkghgdkkholieaaDoor
/-
  Sums and multiples of forms, and when forms are the same, by the program.
-/

namespace Go.Proofs.YtkghgdkkholieaaDoor
open Go

/-- the coefficients of a sum -/
def mergeF : List (ByteArray × Int) → List (ByteArray × Int) → List (ByteArray × Int)
  | [], b => b
  | x :: a, [] => x :: a
  | x :: a, y :: b => if sLt x.1 y.1 then x :: mergeF a (y :: b) else if sLt y.1 x.1 then y :: mergeF (x :: a) b else if x.2 + y.2 = 0 then mergeF a b else (x.1, x.2 + y.2) :: mergeF a b
termination_by a b => a.length + b.length
theorem mergeF_nil (b : List (ByteArray × Int)) : mergeF [] b = b := by rw [mergeF]
theorem mergeF_right (a : List (ByteArray × Int)) : mergeF a [] = a := by cases a <;> rw [mergeF]
theorem mergeF_len (a b : List (ByteArray × Int)) : (mergeF a b).length ≤ a.length + b.length := by
  fun_induction mergeF a b <;> simp only [List.length_cons, List.length_nil] at * <;> omega
def rightF (cs : List (ByteArray × Int)) (n : Int) : (List (ByteArray × Int) × Int) × Bool := if checkF cs n = 0 then ((cs, n), true) else (([], 0), false)
def addL (a : List (ByteArray × Int)) (n : Int) (b : List (ByteArray × Int)) (m : Int) : (List (ByteArray × Int) × Int) × Bool := if checkF a n = 0 ∧ checkF b m = 0 then rightF (mergeF a b) (n + m) else (([], 0), false)

section
variable (S : List Ent) (tk : List Nat) (k : Nat)
theorem linear_right (cs : List (ByteArray × Int)) (n : Int) (c : Cap) (hlen : cs.length ≤ 1048576) : cL Tryd.prog 28 [.agg [.frz (cs.map coefC) c, .int n]] S tk k = some (.tup [linA (rightF cs n).1.1 (rightF cs n).1.2, .bool (rightF cs n).2], S, tk, k) := by
  have hC := fun S tk k => linear_Check S tk k cs n hlen
  simp only [linA, coefsA] at hC
  refine call_pure Tryd.func28 rfl rfl (by decide +kernel) (by decide +kernel) Tryd.ntmps28 rfl rfl _ _ _ rfl ?_; rw [RK_KX]
  by_cases h0 : checkF cs n = 0
  · have d0 : (checkF cs n != 0) = false := by simp [h0]
    simp (maxSteps := 1000000) +contextual (disch := first | with_reducible assumption | exact ⟨rfl⟩ | exact ⟨rfl, rfl⟩ | (refine _root_.id ?_; kernel_rfl) | omega) only [evs, ext_mv, nth, put, putT, getT, binInt, binStr, binBool, aUn, outA, resA, mapO, resA1, oneOf, w1, w2, w3, bots, cond_true, cond_false, if_true, if_false, ite_true, ite_false, reduceIte, reduceCtorEq, implies_true, Nat.reduceAdd, Nat.reduceSub, AV.int, AV.bool, AV.str, Nat.reduceBEq, Nat.reduceEqDiff, Nat.reduceMul, Nat.reduceLT, Nat.reduceLeDiff, Int.reduceNeg, BEq.rfl, beq_self_eq_true, tabl, cellsOf, fldA, ldA, stA, entAt, partA, takeN, over, leafOk, Value.oneCell', idxA, nilA, cellsEq, fillA, elemsA, pure1, pure2, reps, chkA, tys, Tryd.results28, KX_draw, KX_drawQ, KX_tail, lastO_one, lastO_more, dropL_one, dropL_more, callP_eq, callM_true, hC, d0, w2, w1]
    simp [rightF, h0, linA, coefsA]
  · have d0 : (checkF cs n != 0) = true := by simpa using h0
    simp (maxSteps := 1000000) +contextual (disch := first | with_reducible assumption | exact ⟨rfl⟩ | exact ⟨rfl, rfl⟩ | (refine _root_.id ?_; kernel_rfl) | omega) only [evs, ext_mv, nth, put, putT, getT, binInt, binStr, binBool, aUn, outA, resA, mapO, resA1, oneOf, w1, w2, w3, bots, cond_true, cond_false, if_true, if_false, ite_true, ite_false, reduceIte, reduceCtorEq, implies_true, Nat.reduceAdd, Nat.reduceSub, AV.int, AV.bool, AV.str, Nat.reduceBEq, Nat.reduceEqDiff, Nat.reduceMul, Nat.reduceLT, Nat.reduceLeDiff, Int.reduceNeg, BEq.rfl, beq_self_eq_true, tabl, cellsOf, fldA, ldA, stA, entAt, partA, takeN, over, leafOk, Value.oneCell', idxA, nilA, cellsEq, fillA, elemsA, pure1, pure2, reps, chkA, tys, Tryd.results28, KX_draw, KX_drawQ, KX_tail, lastO_one, lastO_more, dropL_one, dropL_more, callP_eq, callM_true, hC, d0, w2, w1]
    simp [rightF, h0, linA, coefsA]
theorem take_len {α : Type} {l : List α} {i : Nat} (h : i ≤ l.length) : (l.take i).length = i := by simp; omega
set_option maxRecDepth 100000 in
theorem linear_Add (a b : List (ByteArray × Int)) (n m : Int) (ha : a.length ≤ 100000) (hb : b.length ≤ 100000) : cL Tryd.prog 15 [linA a n, linA b m] S tk k = some (.tup [linA (addL a n b m).1.1 (addL a n b m).1.2, .bool (addL a n b m).2], S, tk, k) := by
  have hCa := fun S tk k => linear_Check S tk k a n (by omega)
  have hCb := fun S tk k => linear_Check S tk k b m (by omega)
  simp only [linA, coefsA] at hCa hCb
  refine call_pure Tryd.func15 rfl rfl (by decide +kernel) (by decide +kernel) Tryd.ntmps15 rfl rfl _ _ _ rfl ?_; rw [RK_KX]
  by_cases ea : checkF a n = 0
  case neg =>
    have da : (checkF a n != 0) = true := by simpa using ea
    simp (maxSteps := 1000000) +contextual (disch := first | with_reducible assumption | exact ⟨rfl⟩ | exact ⟨rfl, rfl⟩ | (refine _root_.id ?_; kernel_rfl) | omega) only [evs, ext_mv, nth, put, putT, getT, binInt, binStr, binBool, aUn, outA, resA, mapO, resA1, oneOf, w1, w2, w3, bots, cond_true, cond_false, if_true, if_false, ite_true, ite_false, reduceIte, reduceCtorEq, implies_true, Nat.reduceAdd, Nat.reduceSub, AV.int, AV.bool, AV.str, Nat.reduceBEq, Nat.reduceEqDiff, Nat.reduceMul, Nat.reduceLT, Nat.reduceLeDiff, Int.reduceNeg, BEq.rfl, beq_self_eq_true, tabl, cellsOf, fldA, ldA, stA, entAt, partA, takeN, over, leafOk, Value.oneCell', idxA, nilA, cellsEq, fillA, elemsA, pure1, pure2, reps, chkA, tys, Tryd.results15, KX_draw, KX_drawQ, KX_tail, lastO_one, lastO_more, dropL_one, dropL_more, callP_eq, callM_true, linA, coefsA, hCa, da]
    simp [addL, ea]
  have da : (checkF a n != 0) = false := by simp [ea]
  by_cases eb : checkF b m = 0
  case neg =>
    have db : (checkF b m != 0) = true := by simpa using eb
    simp (maxSteps := 1000000) +contextual (disch := first | with_reducible assumption | exact ⟨rfl⟩ | exact ⟨rfl, rfl⟩ | (refine _root_.id ?_; kernel_rfl) | omega) only [evs, ext_mv, nth, put, putT, getT, binInt, binStr, binBool, aUn, outA, resA, mapO, resA1, oneOf, w1, w2, w3, bots, cond_true, cond_false, if_true, if_false, ite_true, ite_false, reduceIte, reduceCtorEq, implies_true, Nat.reduceAdd, Nat.reduceSub, AV.int, AV.bool, AV.str, Nat.reduceBEq, Nat.reduceEqDiff, Nat.reduceMul, Nat.reduceLT, Nat.reduceLeDiff, Int.reduceNeg, BEq.rfl, beq_self_eq_true, tabl, cellsOf, fldA, ldA, stA, entAt, partA, takeN, over, leafOk, Value.oneCell', idxA, nilA, cellsEq, fillA, elemsA, pure1, pure2, reps, chkA, tys, Tryd.results15, KX_draw, KX_drawQ, KX_tail, lastO_one, lastO_more, dropL_one, dropL_more, callP_eq, callM_true, linA, coefsA, hCa, da, hCb, db]
    simp [addL, eb]
  have db : (checkF b m != 0) = false := by simp [eb]
  have hw := add_wrap (check_ok ea).2.1 (check_ok eb).2.1
  simp (maxSteps := 1000000) +contextual (disch := first | with_reducible assumption | exact ⟨rfl⟩ | exact ⟨rfl, rfl⟩ | (refine _root_.id ?_; kernel_rfl) | omega) only [evs, ext_mv, nth, put, putT, getT, binInt, binStr, binBool, aUn, outA, resA, mapO, resA1, oneOf, w1, w2, w3, bots, cond_true, cond_false, if_true, if_false, ite_true, ite_false, reduceIte, reduceCtorEq, implies_true, Nat.reduceAdd, Nat.reduceSub, AV.int, AV.bool, AV.str, Nat.reduceBEq, Nat.reduceEqDiff, Nat.reduceMul, Nat.reduceLT, Nat.reduceLeDiff, Int.reduceNeg, BEq.rfl, beq_self_eq_true, tabl, cellsOf, fldA, ldA, stA, entAt, partA, takeN, over, leafOk, Value.oneCell', idxA, nilA, cellsEq, fillA, elemsA, pure1, pure2, reps, chkA, tys, Tryd.results15, KX_draw, KX_drawQ, KX_tail, lastO_one, lastO_more, dropL_one, dropL_more, callP_eq, callM_true, linA, coefsA, hCa, da, hCb, db, hw]
  have hba := (check_ok ea).1
  have hbb := (check_ok eb).1
  have hadd : addL a n b m = rightF (mergeF a b) (n + m) := by simp [addL, ea, eb]
  rw [hadd]
  clear hadd hCa hCb da db hw
  refine loop1 (P := Tryd.prog) (fun x st => st.T.length = 146 ∧ (x.1 ≤ a.length) ∧ (x.2.1 ≤ b.length) ∧ (x.2.2.1.length ≤ x.1 + x.2.1) ∧ (okCap st.tk x.2.2.2 2 = true) ∧ (mergeF a b = x.2.2.1 ++ mergeF (a.drop x.1) (b.drop x.2.1)) ∧ getT st.T 2 = .ref 0 0 0 ∧ getT st.T 3 = .ref 1 1 0 ∧ getT st.T 4 = .ref 2 2 0 ∧ getT st.T 6 = .ref 3 3 0 ∧ getT st.T 7 = .int (x.1 : Nat) ∧ getT st.T 8 = .int (x.2.1 : Nat) ∧ st.S = [⟨0, [coefsA a, .int n]⟩, ⟨1, [coefsA b, .int m]⟩, ⟨2, [.frz [] .nilc, .int 0]⟩, ⟨3, [.frz (x.2.2.1.map coefC) x.2.2.2, .int (n + m)]⟩]) (fun x => a.length - x.1 + (b.length - x.2.1)) (fun x => .tup [linA (rightF (mergeF a b) (n + m)).1.1 (rightF (mergeF a b) (n + m)).1.2, .bool (rightF (mergeF a b) (n + m)).2]) (0, 0, [], .nilc) ?_ ?_
  case refine_2 => exact ⟨rfl, Nat.zero_le _, Nat.zero_le _, Nat.le_refl _, rfl, rfl, rfl, rfl, rfl, rfl, rfl, rfl, rfl⟩
  rintro ⟨i, j, o, c⟩ ⟨T, S', tk', n'⟩ ⟨hl, hi, hj, ho, hok, hm, e2, e3, e4, e6, e7, e8, eS⟩ IH
  simp only at hi hj ho hok hm e2 e3 e4 e6 e7 e8 eS
  subst eS
  obtain ⟨g, hg, hT⟩ := tab_of hl
  rw [hg] at e2 e3 e4 e6 e7 e8
  subst hT
  clear hg hl
  have hr := rowsOk_map (f := coefC) (sz := 2) (fun _ => rfl) o
  have hn : (o.map coefC).length + 1 ≤ 1048576 := by simp; omega
  have hok' := okCap_new hok
  by_cases la : i < a.length
  · have d1 : decide ((i : Int) < (a.length : Int)) = true := by simpa using la
    have d1' : ((i : Int) == (a.length : Int)) = false := by simp; omega
    obtain ⟨x, hx⟩ := nth_some la
    have hx' : nth (a.map coefC) i = some (coefC x) := by rw [nth_map, hx]; rfl
    have hwi := wrap_add (i := i) (m := 0) (by omega)
    rw [nth_drop hx] at hm
    by_cases lb : j < b.length
    · have d2 : decide ((j : Int) < (b.length : Int)) = true := by simpa using lb
      have d2' : ((j : Int) == (b.length : Int)) = false := by simp; omega
      obtain ⟨y, hy⟩ := nth_some lb
      have hy' : nth (b.map coefC) j = some (coefC y) := by rw [nth_map, hy]; rfl
      have hwj := wrap_add (i := j) (m := 0) (by omega)
      have hxm : x ∈ a := by rw [nth_get] at hx; exact List.mem_of_getElem? hx
      have hym : y ∈ b := by rw [nth_get] at hy; exact List.mem_of_getElem? hy
      have hws := add_wrap (hba x hxm).1 (hbb y hym).1
      rw [nth_drop hy, mergeF] at hm
      simp (maxSteps := 1000000) +contextual (disch := first | with_reducible assumption | exact ⟨rfl⟩ | exact ⟨rfl, rfl⟩ | (refine _root_.id ?_; kernel_rfl) | omega) only [evs, ext_mv, nth, put, putT, getT, binInt, binStr, binBool, aUn, outA, resA, mapO, resA1, oneOf, w1, w2, w3, bots, cond_true, cond_false, if_true, if_false, ite_true, ite_false, reduceIte, reduceCtorEq, implies_true, Nat.reduceAdd, Nat.reduceSub, AV.int, AV.bool, AV.str, Nat.reduceBEq, Nat.reduceEqDiff, Nat.reduceMul, Nat.reduceLT, Nat.reduceLeDiff, Int.reduceNeg, BEq.rfl, beq_self_eq_true, tabl, cellsOf, fldA, ldA, stA, entAt, partA, takeN, over, leafOk, Value.oneCell', idxA, nilA, cellsEq, fillA, elemsA, pure1, pure2, reps, chkA, tys, Tryd.results15, KX_draw, KX_drawQ, KX_tail, lastO_one, lastO_more, dropL_one, dropL_more, callP_eq, callM_true, e2, e3, e4, e6, e7, e8, d1, d1', d2, d2', coefsA, hx', hy', hwi, hwj, hws, coefC, hr]
      refine ⟨fun h1 => ?_, fun h1 => ⟨fun h2 => ?_, fun h2 => ⟨fun h3 => ?_, fun h3 => ?_⟩⟩⟩
      · rw [if_pos h1] at hm
        exact IH (i + 1, j, o ++ [x], capNew tk' c 2) _ (by first | omega | (simp only; omega)) ⟨rfl, by first | omega | (dsimp only; omega), hj, by simp; omega, hok', by simp only [hm, nth_drop hy, List.append_assoc, List.cons_append, List.nil_append], (by first | rfl | simp only [getT, List.map_append, List.map_cons, List.map_nil, coefC, coefsA]), (by first | rfl | simp only [getT, List.map_append, List.map_cons, List.map_nil, coefC, coefsA]), (by first | rfl | simp only [getT, List.map_append, List.map_cons, List.map_nil, coefC, coefsA]), (by first | rfl | simp only [getT, List.map_append, List.map_cons, List.map_nil, coefC, coefsA]), (by first | rfl | simp only [getT, List.map_append, List.map_cons, List.map_nil, coefC, coefsA]), (by first | rfl | simp only [getT, List.map_append, List.map_cons, List.map_nil, coefC, coefsA]), (by first | rfl | simp only [getT, List.map_append, List.map_cons, List.map_nil, coefC, coefsA])⟩
      · rw [if_neg (by rw [h1]; simp), if_pos h2] at hm
        exact IH (i, j + 1, o ++ [y], capNew tk' c 2) _ (by first | omega | (simp only; omega)) ⟨rfl, hi, by first | omega | (dsimp only; omega), by simp; omega, hok', by simp only [hm, nth_drop hx, List.append_assoc, List.cons_append, List.nil_append], (by first | rfl | simp only [getT, List.map_append, List.map_cons, List.map_nil, coefC, coefsA]), (by first | rfl | simp only [getT, List.map_append, List.map_cons, List.map_nil, coefC, coefsA]), (by first | rfl | simp only [getT, List.map_append, List.map_cons, List.map_nil, coefC, coefsA]), (by first | rfl | simp only [getT, List.map_append, List.map_cons, List.map_nil, coefC, coefsA]), (by first | rfl | simp only [getT, List.map_append, List.map_cons, List.map_nil, coefC, coefsA]), (by first | rfl | simp only [getT, List.map_append, List.map_cons, List.map_nil, coefC, coefsA]), (by first | rfl | simp only [getT, List.map_append, List.map_cons, List.map_nil, coefC, coefsA])⟩
      · have h3' : ¬ x.2 + y.2 = 0 := by simpa using h3
        rw [if_neg (by rw [h1]; simp), if_neg (by rw [h2]; simp), if_neg h3'] at hm
        exact IH (i + 1, j + 1, o ++ [(x.1, x.2 + y.2)], capNew tk' c 2) _ (by first | omega | (simp only; omega)) ⟨rfl, by first | omega | (dsimp only; omega), by first | omega | (dsimp only; omega), by simp; omega, hok', by simp only [hm, List.append_assoc, List.cons_append, List.nil_append], (by first | rfl | simp only [getT, List.map_append, List.map_cons, List.map_nil, coefC, coefsA]), (by first | rfl | simp only [getT, List.map_append, List.map_cons, List.map_nil, coefC, coefsA]), (by first | rfl | simp only [getT, List.map_append, List.map_cons, List.map_nil, coefC, coefsA]), (by first | rfl | simp only [getT, List.map_append, List.map_cons, List.map_nil, coefC, coefsA]), (by first | rfl | simp only [getT, List.map_append, List.map_cons, List.map_nil, coefC, coefsA]), (by first | rfl | simp only [getT, List.map_append, List.map_cons, List.map_nil, coefC, coefsA]), (by first | rfl | simp only [getT, List.map_append, List.map_cons, List.map_nil, coefC, coefsA])⟩
      · have h3' : x.2 + y.2 = 0 := by simpa using h3
        rw [if_neg (by rw [h1]; simp), if_neg (by rw [h2]; simp), if_pos h3'] at hm
        exact IH (i + 1, j + 1, o, c) _ (by first | omega | (simp only; omega)) ⟨rfl, by first | omega | (dsimp only; omega), by first | omega | (dsimp only; omega), by first | omega | (dsimp only; omega), hok, hm, (by first | rfl | simp only [getT, List.map_append, List.map_cons, List.map_nil, coefC, coefsA]), (by first | rfl | simp only [getT, List.map_append, List.map_cons, List.map_nil, coefC, coefsA]), (by first | rfl | simp only [getT, List.map_append, List.map_cons, List.map_nil, coefC, coefsA]), (by first | rfl | simp only [getT, List.map_append, List.map_cons, List.map_nil, coefC, coefsA]), (by first | rfl | simp only [getT, List.map_append, List.map_cons, List.map_nil, coefC, coefsA]), (by first | rfl | simp only [getT, List.map_append, List.map_cons, List.map_nil, coefC, coefsA]), (by first | rfl | simp only [getT, List.map_append, List.map_cons, List.map_nil, coefC, coefsA])⟩
    · have d2 : decide ((j : Int) < (b.length : Int)) = false := by simpa using lb
      have hj2 : j = b.length := by omega
      have d2' : ((j : Int) == (b.length : Int)) = true := by simp; omega
      rw [hj2, List.drop_length, mergeF_right] at hm
      simp (maxSteps := 1000000) +contextual (disch := first | with_reducible assumption | exact ⟨rfl⟩ | exact ⟨rfl, rfl⟩ | (refine _root_.id ?_; kernel_rfl) | omega) only [evs, ext_mv, nth, put, putT, getT, binInt, binStr, binBool, aUn, outA, resA, mapO, resA1, oneOf, w1, w2, w3, bots, cond_true, cond_false, if_true, if_false, ite_true, ite_false, reduceIte, reduceCtorEq, implies_true, Nat.reduceAdd, Nat.reduceSub, AV.int, AV.bool, AV.str, Nat.reduceBEq, Nat.reduceEqDiff, Nat.reduceMul, Nat.reduceLT, Nat.reduceLeDiff, Int.reduceNeg, BEq.rfl, beq_self_eq_true, tabl, cellsOf, fldA, ldA, stA, entAt, partA, takeN, over, leafOk, Value.oneCell', idxA, nilA, cellsEq, fillA, elemsA, pure1, pure2, reps, chkA, tys, Tryd.results15, KX_draw, KX_drawQ, KX_tail, lastO_one, lastO_more, dropL_one, dropL_more, callP_eq, callM_true, e2, e3, e4, e6, e7, e8, d1, d1', d2, d2', coefsA, hx', hwi, coefC, hr]
      exact IH (i + 1, j, o ++ [x], capNew tk' c 2) _ (by first | omega | (simp only; omega)) ⟨rfl, by first | omega | (dsimp only; omega), hj, by simp; omega, hok', by simp only [hj2, hm, List.drop_length, mergeF_right, List.append_assoc, List.cons_append, List.nil_append], (by first | rfl | simp only [getT, List.map_append, List.map_cons, List.map_nil, coefC, coefsA]), (by first | rfl | simp only [getT, List.map_append, List.map_cons, List.map_nil, coefC, coefsA]), (by first | rfl | simp only [getT, List.map_append, List.map_cons, List.map_nil, coefC, coefsA]), (by first | rfl | simp only [getT, List.map_append, List.map_cons, List.map_nil, coefC, coefsA]), (by first | rfl | simp only [getT, List.map_append, List.map_cons, List.map_nil, coefC, coefsA]), (by first | rfl | simp only [getT, List.map_append, List.map_cons, List.map_nil, coefC, coefsA]), (by first | rfl | simp only [getT, List.map_append, List.map_cons, List.map_nil, coefC, coefsA])⟩
  · have d1 : decide ((i : Int) < (a.length : Int)) = false := by simpa using la
    have hi2 : i = a.length := by omega
    have d1' : ((i : Int) == (a.length : Int)) = true := by simp; omega
    rw [hi2, List.drop_length, mergeF_nil] at hm
    by_cases lb : j < b.length
    · have d2 : decide ((j : Int) < (b.length : Int)) = true := by simpa using lb
      have d2' : ((j : Int) == (b.length : Int)) = false := by simp; omega
      obtain ⟨y, hy⟩ := nth_some lb
      have hy' : nth (b.map coefC) j = some (coefC y) := by rw [nth_map, hy]; rfl
      have hwj := wrap_add (i := j) (m := 0) (by omega)
      rw [nth_drop hy] at hm
      simp (maxSteps := 1000000) +contextual (disch := first | with_reducible assumption | exact ⟨rfl⟩ | exact ⟨rfl, rfl⟩ | (refine _root_.id ?_; kernel_rfl) | omega) only [evs, ext_mv, nth, put, putT, getT, binInt, binStr, binBool, aUn, outA, resA, mapO, resA1, oneOf, w1, w2, w3, bots, cond_true, cond_false, if_true, if_false, ite_true, ite_false, reduceIte, reduceCtorEq, implies_true, Nat.reduceAdd, Nat.reduceSub, AV.int, AV.bool, AV.str, Nat.reduceBEq, Nat.reduceEqDiff, Nat.reduceMul, Nat.reduceLT, Nat.reduceLeDiff, Int.reduceNeg, BEq.rfl, beq_self_eq_true, tabl, cellsOf, fldA, ldA, stA, entAt, partA, takeN, over, leafOk, Value.oneCell', idxA, nilA, cellsEq, fillA, elemsA, pure1, pure2, reps, chkA, tys, Tryd.results15, KX_draw, KX_drawQ, KX_tail, lastO_one, lastO_more, dropL_one, dropL_more, callP_eq, callM_true, e2, e3, e4, e6, e7, e8, d1, d1', d2, d2', coefsA, hy', hwj, coefC, hr]
      exact IH (i, j + 1, o ++ [y], capNew tk' c 2) _ (by first | omega | (simp only; omega)) ⟨rfl, hi, by first | omega | (dsimp only; omega), by simp; omega, hok', by simp only [hi2, hm, List.drop_length, mergeF_nil, List.append_assoc, List.cons_append, List.nil_append], (by first | rfl | simp only [getT, List.map_append, List.map_cons, List.map_nil, coefC, coefsA]), (by first | rfl | simp only [getT, List.map_append, List.map_cons, List.map_nil, coefC, coefsA]), (by first | rfl | simp only [getT, List.map_append, List.map_cons, List.map_nil, coefC, coefsA]), (by first | rfl | simp only [getT, List.map_append, List.map_cons, List.map_nil, coefC, coefsA]), (by first | rfl | simp only [getT, List.map_append, List.map_cons, List.map_nil, coefC, coefsA]), (by first | rfl | simp only [getT, List.map_append, List.map_cons, List.map_nil, coefC, coefsA]), (by first | rfl | simp only [getT, List.map_append, List.map_cons, List.map_nil, coefC, coefsA])⟩
    · have d2 : decide ((j : Int) < (b.length : Int)) = false := by simpa using lb
      have hj2 : j = b.length := by omega
      rw [hj2, List.drop_length, List.append_nil] at hm
      have hR := fun S tk k => linear_right S tk k o (n + m) c (by omega)
      simp (maxSteps := 1000000) +contextual (disch := first | with_reducible assumption | exact ⟨rfl⟩ | exact ⟨rfl, rfl⟩ | (refine _root_.id ?_; kernel_rfl) | omega) only [evs, ext_mv, nth, put, putT, getT, binInt, binStr, binBool, aUn, outA, resA, mapO, resA1, oneOf, w1, w2, w3, bots, cond_true, cond_false, if_true, if_false, ite_true, ite_false, reduceIte, reduceCtorEq, implies_true, Nat.reduceAdd, Nat.reduceSub, AV.int, AV.bool, AV.str, Nat.reduceBEq, Nat.reduceEqDiff, Nat.reduceMul, Nat.reduceLT, Nat.reduceLeDiff, Int.reduceNeg, BEq.rfl, beq_self_eq_true, tabl, cellsOf, fldA, ldA, stA, entAt, partA, takeN, over, leafOk, Value.oneCell', idxA, nilA, cellsEq, fillA, elemsA, pure1, pure2, reps, chkA, tys, Tryd.results15, KX_draw, KX_drawQ, KX_tail, lastO_one, lastO_more, dropL_one, dropL_more, callP_eq, callM_true, e2, e3, e4, e6, e7, e8, d1, d2, coefsA, linA, hR]
      rw [hm]
      simp [linA, coefsA]
end
end Go.Proofs.YtkghgdkkholieaaDoor
