/-
  Texts laid together: BGlob, EvTold, BExt, B1, B2, B3, B4, B5, B6, B7.
-/
import Derived.Test.YtgadegdhfjnoaaaDoorZR9
import Derived.Lib.ItoaNum
import Derived.Test.YtgadegdhfjnoaaaDoorZR8
import Derived.IntWalk
/-
  How the numbers lie in memory; the one table that the program reads; the functions that may be called with slices of one's own.
-/



namespace Go.Proofs.YtgadegdhfjnoaaaDoor
open Go

def digC (x : Int) : List AV := [.prim (.int .i64 x)]
def digA (l : List Int) : AV := .frz (l.map digC) .unk
def bigA (neg : Bool) (l : List Int) : AV := .agg [.prim (.bool neg), digA l]
def zA (z : Int) : AV := bigA (decide (z < 0)) (dig z.natAbs)
instance : Globs := ⟨[(0, (Lib.pow10Tab.map fun z => Value.int .u64 z).toArray)], fun f => f == 102 || f == 71 || f == 82, true⟩
end Go.Proofs.YtgadegdhfjnoaaaDoor
/-
  Functions told from outside: what holds while nothing is known of them holds when they are told.
-/

namespace Go.Proofs.YtgadegdhfjnoaaaDoor
open Go
variable {P : Program}
/-- the same functions are told from outside, but nothing is told of them yet -/
@[reducible] def Ext.quiet (E : Ext P) : Ext P := { on := E.on, mv := E.mv, call := fun _ _ _ _ _ => none }
theorem evC_quiet [Globs] (E : Ext P) {call : CallA} {ok : St → List Oper → Bool} {n : Nat} : ∀ (c : Code) (st : St), @evC _ P (Ext.quiet E) call ok n c st = @evC _ P E call ok n c st
  | .skip, _ => by simp only [evC]
  | .region _ ops draw, st => by simp only [evC]; rfl
  | .seq a b, st => by
    simp only [evC, evC_quiet E a]
    split <;> first | exact evC_quiet E b _ | rfl
  | .cond c a b, st => by simp only [evC, evC_quiet E a, evC_quiet E b]
  | .block _ c, st => by simp only [evC, evC_quiet E c]
  | .loop c, st => by
    simp only [evC]
    congr 1
    funext s
    exact evC_quiet E c s
  | .exit _, _ => by simp only [evC]
  | .ret, _ => by simp only [evC]
  | .scope c, st => by simp only [evC]; exact evC_quiet E c st
  | .label _, _ => by simp only [evC]
  | .goto _, _ => by simp only [evC]
  | .rangeFunc _ _ _ _, _ => by simp only [evC]
  | .refuse _, _ => by simp only [evC]
theorem evF_quiet [Globs] (E : Ext P) {ok : St → List Oper → Bool} : ∀ k, CLe (@evF _ P (Ext.quiet E) ok k) (@evF _ P E ok k)
  | 0 => by intro f args S tk n r he; simp [evF] at he
  | k + 1 => by
    have ih := evF_quiet E (ok := ok) k
    intro f args S tk n r he
    simp only [evF] at he ⊢
    split at he
    · simp at he
    rename_i hon
    rw [if_neg (show ¬ @Ext.on P E f = true from hon)]
    split at he
    · rename_i fn hf
      split at he
      · rename_i c hb
        split at he
        · simp at he
        · rename_i hname
          rw [if_neg hname]
          have out : ∀ {st0 : St} {r0 : AV × St}, outA P fn (@evC _ P (Ext.quiet E) (@evF _ P (Ext.quiet E) ok k) ok k c st0) = some r0 → outA P fn (@evC _ P E (@evF _ P E ok k) ok k c st0) = some r0 := by
            intro st0 r0 h
            rw [evC_quiet E] at h
            exact outA_mono (fun z hz => evC_mono ih (Nat.le_refl _) c _ z hz) h
          split at he
          · rename_i hmv
            rw [if_pos (show @Ext.mv P E f = true from hmv)]
            split at he
            · rename_i r' s1 ho
              rw [out ho]
              exact he
            · simp at he
          rename_i hmv
          rw [if_neg (show ¬ @Ext.mv P E f = true from hmv)]
          split at he
          · rename_i hp
            rw [if_pos hp]
            have one : ∀ {xs0 : List AV} {r0 : AV}, @runP _ P (Ext.quiet E) ok (@evF _ P (Ext.quiet E) ok k) k fn c xs0 = some r0 → @runP _ P E ok (@evF _ P E ok k) k fn c xs0 = some r0 := by
              intro xs0 r0 hrun
              unfold runP at hrun ⊢
              split at hrun
              · rename_i r' s1 ho
                rw [out ho]
                exact hrun
              · simp at hrun
            split at he
            · rename_i r' ho
              have : (if nilCmp c = true then runN (@runP _ P E ok (@evF _ P E ok k) k fn c) (args.map w2) else @runP _ P E ok (@evF _ P E ok k) k fn c (args.map w2)) = some r' := by
                split at ho
                · rename_i hn
                  rw [if_pos hn]
                  unfold runN at ho ⊢
                  split at ho
                  · split at ho
                    · rename_i q1 q2
                      rw [one q1, one q2]; exact ho
                    · simp at ho
                  · exact one ho
                · rename_i hn
                  rw [if_neg hn]
                  exact one ho
              rw [this]; exact he
            · simp at he
          · rename_i hp
            rw [if_neg hp]
            split at he
            · rename_i r' s1 ho
              rw [out ho]
              exact he
            · simp at he
      · simp at he
    · simp at he
theorem told [Globs] {E : Ext P} {f : FuncId} {args : List AV} {S : List Ent} {tk : List Nat} {n : Nat} {r : AV × List Ent × List Nat × Nat} (h : @cL _ P (Ext.quiet E) f args S tk n = some r) : @cL _ P E f args S tk n = some r := by
  obtain ⟨k, hk⟩ := (@cL_iff P _ (Ext.quiet E) _ _ _ _ _ _).1 h
  exact (@cL_iff P _ E _ _ _ _ _ _).2 ⟨k, evF_quiet E k _ _ _ _ _ _ hk⟩
theorem quiet_ok [Globs] (E : Ext P) : @ExtOk _ P (Ext.quiet E) := by
  letI := Ext.quiet E
  refine ⟨fun f args S tk n r S' tk' n' h => ?_, fun M f args S tk n r S' tk' n' h => ?_⟩
  · unfold extC at h; split at h <;> simp at h
  · unfold callP at h; split at h
    · unfold extC at h; split at h <;> simp at h
    · simp at h
end Go.Proofs.YtgadegdhfjnoaaaDoor
/-
  What is told from outside of the numbers' functions: the text of a number.
-/


namespace Go.Proofs.YtgadegdhfjnoaaaDoor
open Go

/-- digits of a list of cells -/
def intsOf : List (List AV) → Option (List Int)
  | [] => some []
  | [.prim (.int .i64 x)] :: r => (intsOf r).map (x :: ·)
  | _ => none
theorem intsOf_map : ∀ l : List Int, intsOf (l.map digC) = some l
  | [] => rfl
  | x :: l => by simp only [List.map_cons, digC, intsOf, intsOf_map l, Option.map_some]
def decF : Nat → Nat → List UInt8
  | 0, _ => []
  | f + 1, n => if n < 10 then [UInt8.ofNat (48 + n)] else decF f (n / 10) ++ [UInt8.ofNat (48 + n % 10)]
def fourF (n : Nat) : List UInt8 := [UInt8.ofNat (48 + n / 1000 % 10), UInt8.ofNat (48 + n / 100 % 10), UInt8.ofNat (48 + n / 10 % 10), UInt8.ofNat (48 + n % 10)]
/-- the text of digits, the greatest first -/
def topF : List Int → List UInt8
  | [] => [48]
  | d :: r => decF 20 d.toNat ++ (r.map fun x => fourF x.toNat).flatten
def textF (neg : Bool) (l : List Int) : ByteArray := if validF neg l = true then (if neg = true then ⟨(45 :: topF l.reverse).toArray⟩ else ⟨(topF l.reverse).toArray⟩) else ⟨#[48]⟩
/-- quotient and rest of digits -/
def quoF (l r : List Int) : Option AV :=
  if l = dig (val l).toNat ∧ r = dig (val r).toNat ∧ r ≠ [] ∧ l.length ≤ 90000 ∧ r.length ≤ 90000 then
    some (.tup [digA (dig ((val l).toNat / (val r).toNat)), digA (dig ((val l).toNat % (val r).toNat))]) else none
@[reducible] noncomputable def E1 : Ext Tryd.prog where
  on := fun f => f == 65 || f == 61
  mv := fun _ => false
  call := fun f args S tk n => if f == 65 then (match args with
    | [.agg [.prim (.bool neg), .frz es _]] => match intsOf es with
      | some l => if l.length ≤ 1000000 then some (.prim (.string (textF neg l)), S, tk, n) else none
      | none => none
    | _ => none) else if f == 61 then (match args with
    | [.frz es _, .frz ys _] => match intsOf es, intsOf ys with
      | some l, some r => match quoF l r with
        | some v => some (v, S, tk, n)
        | none => none
      | _, _ => none
    | _ => none) else none
/-- at first nothing is told of them -/
@[reducible] noncomputable instance E0 : Ext Tryd.prog := Ext.quiet E1
instance : ExtOk Tryd.prog := quiet_ok E1

theorem ext_mv (f : FuncId) : Ext.mv Tryd.prog f = false := rfl
theorem sh_trim : shF 102 = true ∧ keepFn Tryd.prog 102 1 = true ∧ Ext.on Tryd.prog 102 = false := ⟨rfl, by kernel_rfl, rfl⟩
theorem sh_signed : shF 71 = true ∧ keepFn Tryd.prog 71 2 = true ∧ Ext.on Tryd.prog 71 = false := ⟨rfl, by kernel_rfl, rfl⟩
theorem sh_rtrim : shF 82 = true ∧ keepFn Tryd.prog 82 1 = true ∧ Ext.on Tryd.prog 82 = false := ⟨rfl, by kernel_rfl, rfl⟩
end Go.Proofs.YtgadegdhfjnoaaaDoor
/-
  What the functions of the numbers compute: which numbers are valid; cutting zeros off; comparing.
-/


namespace Go.Proofs.YtgadegdhfjnoaaaDoor
open Go

def i64 (n : Int) : Prop := -9223372036854775808 ≤ n ∧ n ≤ 9223372036854775807
theorem wrap_of {n : Int} (h : i64 n) : IntKind.i64.wrap n = n := Go.IntWalk.i64_in n h
theorem wrap_add {i : Nat} (h : i ≤ 1048576) : IntKind.i64.wrap ((i : Int) + 1) = ((i + 1 : Nat) : Int) := by rw [wrap_of (by unfold i64; omega)]; omega
theorem wrap_pred {j : Nat} (h : j ≤ 1048576) : IntKind.i64.wrap (((j + 1 : Nat) : Int) - 1) = (j : Int) := by rw [wrap_of (by unfold i64; omega)]; omega
theorem nth_map {α β : Type} (f : α → β) : ∀ (l : List α) (i : Nat), nth (l.map f) i = (nth l i).map f
  | [], _ => rfl
  | _ :: _, 0 => rfl
  | _ :: l, i + 1 => nth_map f l i
theorem nth_drop {α : Type} : ∀ {l : List α} {i : Nat} {x : α}, nth l i = some x → l.drop i = x :: l.drop (i + 1)
  | y :: l, 0, x, h => by simp only [nth, Option.some.injEq] at h; subst h; rfl
  | _ :: l, i + 1, x, h => nth_drop (l := l) (i := i) h
  | [], _, _, h => by simp [nth] at h
theorem rowsOk_dig (l : List Int) : rowsOk 1 (l.map digC) = true := rowsOk_map (f := digC) (sz := 1) (fun _ => rfl) l
theorem nth_dig {l : List Int} {i : Nat} {x : Int} (h : nth l i = some x) : nth (l.map digC) i = some [.prim (.int .i64 x)] := by rw [nth_map, h]; rfl

theorem len_eq_zero {l : List Int} (h : l ≠ []) : ((l.length : Int) == 0) = false := by
  have : l.length ≠ 0 := fun h' => h (List.length_eq_zero_iff.1 h')
  simp; omega
theorem len_gt_zero {l : List Int} (h : l ≠ []) : decide ((l.length : Int) > 0) = true := by
  have : l.length ≠ 0 := fun h' => h (List.length_eq_zero_iff.1 h')
  simp; omega
theorem last_idx {l : List Int} (h : l ≠ []) (hl : l.length ≤ 1000000) : IntKind.i64.wrap ((l.length : Int) - 1) = ((l.length - 1 : Nat) : Int) := by
  have : l.length ≠ 0 := fun h' => h (List.length_eq_zero_iff.1 h')
  rw [wrap_of (by unfold i64; omega)]; omega

section
variable (S : List Ent) (tk : List Nat) (k : Nat)
theorem big_Valid (neg : Bool) (l : List Int) (c : Cap) (hlen : l.length ≤ 1000000) : cL Tryd.prog 40 [.agg [.bool neg, .frz (l.map digC) c]] S tk k = some (.bool (validF neg l), S, tk, k) := by
  refine call_pure Tryd.func40 rfl rfl (by decide +kernel) (by decide +kernel) Tryd.ntmps40 rfl rfl _ _ _ rfl ?_; rw [RK_KX]
  by_cases h1 : 200 < l.length
  · have d1 : decide ((l.length : Int) > 200) = true := by simp; omega
    simp (maxSteps := 1000000) +contextual (disch := first | with_reducible assumption | exact ⟨rfl⟩ | exact ⟨rfl, rfl⟩ | (refine _root_.id ?_; kernel_rfl) | omega) only [evs, ext_mv, nth, put, putT, getT, binInt, binStr, binBool, aUn, outA, resA, mapO, resA1, oneOf, w1, w2, w3, bots, cond_true, cond_false, if_true, if_false, ite_true, ite_false, reduceIte, reduceCtorEq, implies_true, Nat.reduceAdd, Nat.reduceSub, AV.int, AV.bool, AV.str, Nat.reduceBEq, Nat.reduceEqDiff, Nat.reduceMul, Nat.reduceLT, Nat.reduceLeDiff, Int.reduceNeg, BEq.rfl, beq_self_eq_true, tabl, cellsOf, fldA, ldA, stA, entAt, partA, takeN, over, leafOk, Value.oneCell', idxA, nilA, cellsEq, fillA, elemsA, pure1, pure2, reps, chkA, tys, Tryd.results40, KX_draw, KX_drawQ, KX_tail, lastO_one, lastO_more, dropL_one, dropL_more, callP_eq, callM_true, w2, w1, d1]
    all_goals simp [validF, h1]
  have d1 : decide ((l.length : Int) > 200) = false := by simp; omega
  have hv : validF neg l = if ((decide (l = []) && neg) || lastZ l) = true then false else allD l := by simp [validF, h1]
  rw [hv]
  by_cases h2 : l = []
  · have d2 : (((0 : Nat) : Int) == 0) = true := rfl
    have d3 : decide (((0 : Nat) : Int) > 0) = false := rfl
    cases neg with
    | true =>
      subst h2
      simp (maxSteps := 1000000) +contextual (disch := first | with_reducible assumption | exact ⟨rfl⟩ | exact ⟨rfl, rfl⟩ | (refine _root_.id ?_; kernel_rfl) | omega) only [evs, ext_mv, nth, put, putT, getT, binInt, binStr, binBool, aUn, outA, resA, mapO, resA1, oneOf, w1, w2, w3, bots, cond_true, cond_false, if_true, if_false, ite_true, ite_false, reduceIte, reduceCtorEq, implies_true, Nat.reduceAdd, Nat.reduceSub, AV.int, AV.bool, AV.str, Nat.reduceBEq, Nat.reduceEqDiff, Nat.reduceMul, Nat.reduceLT, Nat.reduceLeDiff, Int.reduceNeg, BEq.rfl, beq_self_eq_true, tabl, cellsOf, fldA, ldA, stA, entAt, partA, takeN, over, leafOk, Value.oneCell', idxA, nilA, cellsEq, fillA, elemsA, pure1, pure2, reps, chkA, tys, Tryd.results40, KX_draw, KX_drawQ, KX_tail, lastO_one, lastO_more, dropL_one, dropL_more, callP_eq, callM_true, w2, w1, d1, d2, d3, List.map_nil]
      all_goals simp
    | false =>
      have hz : lastZ l = false := by subst h2; rfl
      rw [hz]
      simp only [Bool.and_false, Bool.or_false, Bool.false_eq_true, if_false]
      have hl0 : l.length = 0 := by rw [h2]; rfl
      have d2 : ((l.length : Int) == 0) = true := by rw [hl0]; rfl
      have d3 : decide ((l.length : Int) > 0) = false := by rw [hl0]; rfl
      simp (maxSteps := 1000000) +contextual (disch := first | with_reducible assumption | exact ⟨rfl⟩ | exact ⟨rfl, rfl⟩ | (refine _root_.id ?_; kernel_rfl) | omega) only [evs, ext_mv, nth, put, putT, getT, binInt, binStr, binBool, aUn, outA, resA, mapO, resA1, oneOf, w1, w2, w3, bots, cond_true, cond_false, if_true, if_false, ite_true, ite_false, reduceIte, reduceCtorEq, implies_true, Nat.reduceAdd, Nat.reduceSub, AV.int, AV.bool, AV.str, Nat.reduceBEq, Nat.reduceEqDiff, Nat.reduceMul, Nat.reduceLT, Nat.reduceLeDiff, Int.reduceNeg, BEq.rfl, beq_self_eq_true, tabl, cellsOf, fldA, ldA, stA, entAt, partA, takeN, over, leafOk, Value.oneCell', idxA, nilA, cellsEq, fillA, elemsA, pure1, pure2, reps, chkA, tys, Tryd.results40, KX_draw, KX_drawQ, KX_tail, lastO_one, lastO_more, dropL_one, dropL_more, callP_eq, callM_true, w2, w1, d1, d2, d3]
      refine loop1 (fun x st => st.T.length = 46 ∧ (x ≤ l.length) ∧ (allD l = allD (l.drop x)) ∧ getT st.T 33 = digA l ∧ getT st.T 34 = .int l.length ∧ getT st.T 35 = .int (x : Nat) ∧ st.S = [⟨0, [.bool false, digA l]⟩]) (fun x => l.length - x) (fun x => .bool (allD l)) (0) ?_ ?_
      case refine_2 => exact ⟨rfl, Nat.zero_le _, rfl, rfl, rfl, rfl, rfl⟩
      rintro i ⟨T, S', tk', n'⟩ ⟨hl, hi, hn, e33, e34, e35, eS⟩ IH
      subst eS
      obtain ⟨g, hg, hT⟩ := tab_of hl
      rw [hg] at e33 e34 e35
      subst hT
      clear hg hl
      by_cases hlt : i < l.length
      · have d1 : decide ((i : Int) < (l.length : Int)) = true := by simpa using hlt
        obtain ⟨x, hx⟩ := nth_some hlt
        have hx' := nth_dig hx
        have hw := wrap_add (i := i) (by omega)
        rw [nth_drop hx] at hn
        simp only [allD] at hn
        simp (maxSteps := 1000000) +contextual (disch := first | with_reducible assumption | exact ⟨rfl⟩ | exact ⟨rfl, rfl⟩ | (refine _root_.id ?_; kernel_rfl) | omega) only [evs, ext_mv, nth, put, putT, getT, binInt, binStr, binBool, aUn, outA, resA, mapO, resA1, oneOf, w1, w2, w3, bots, cond_true, cond_false, if_true, if_false, ite_true, ite_false, reduceIte, reduceCtorEq, implies_true, Nat.reduceAdd, Nat.reduceSub, AV.int, AV.bool, AV.str, Nat.reduceBEq, Nat.reduceEqDiff, Nat.reduceMul, Nat.reduceLT, Nat.reduceLeDiff, Int.reduceNeg, BEq.rfl, beq_self_eq_true, tabl, cellsOf, fldA, ldA, stA, entAt, partA, takeN, over, leafOk, Value.oneCell', idxA, nilA, cellsEq, fillA, elemsA, pure1, pure2, reps, chkA, tys, Tryd.results40, KX_draw, KX_drawQ, KX_tail, lastO_one, lastO_more, dropL_one, dropL_more, callP_eq, callM_true, e33, e34, e35, d1, digA, hx', hw]
        refine ⟨fun h1 => ?_, fun h1 => ⟨fun h2 => ?_, fun h2 => ?_⟩⟩
        · rw [hn, if_pos (by simp [h1])]
        · rw [hn, if_pos (by simp only [h1, h2]; rfl)]
        · exact IH (i + 1) _ (by first | omega | (simp only; omega)) ⟨rfl, hlt, by rw [hn, if_neg (by simp only [h1, h2]; simp)], (by first | rfl | simp only [getT, List.map_append, List.map_cons, List.map_nil, digC, digA]), (by first | rfl | simp only [getT, List.map_append, List.map_cons, List.map_nil, digC, digA]), (by first | rfl | simp only [getT, List.map_append, List.map_cons, List.map_nil, digC, digA]), (by first | rfl | simp only [getT, List.map_append, List.map_cons, List.map_nil, digC, digA])⟩
      · have d1 : decide ((i : Int) < (l.length : Int)) = false := by simpa using hlt
        have he : i = l.length := by omega
        rw [he, List.drop_length] at hn
        simp (maxSteps := 1000000) +contextual (disch := first | with_reducible assumption | exact ⟨rfl⟩ | exact ⟨rfl, rfl⟩ | (refine _root_.id ?_; kernel_rfl) | omega) only [evs, ext_mv, nth, put, putT, getT, binInt, binStr, binBool, aUn, outA, resA, mapO, resA1, oneOf, w1, w2, w3, bots, cond_true, cond_false, if_true, if_false, ite_true, ite_false, reduceIte, reduceCtorEq, implies_true, Nat.reduceAdd, Nat.reduceSub, AV.int, AV.bool, AV.str, Nat.reduceBEq, Nat.reduceEqDiff, Nat.reduceMul, Nat.reduceLT, Nat.reduceLeDiff, Int.reduceNeg, BEq.rfl, beq_self_eq_true, tabl, cellsOf, fldA, ldA, stA, entAt, partA, takeN, over, leafOk, Value.oneCell', idxA, nilA, cellsEq, fillA, elemsA, pure1, pure2, reps, chkA, tys, Tryd.results40, KX_draw, KX_drawQ, KX_tail, lastO_one, lastO_more, dropL_one, dropL_more, callP_eq, callM_true, e33, e34, e35, d1, digA]
        exact hn.symm
  · have d2 := len_eq_zero h2
    have d3 := len_gt_zero h2
    have d4 := last_idx h2 hlen
    have hp : l.length ≠ 0 := fun h' => h2 (List.length_eq_zero_iff.1 h')
    obtain ⟨x, hx⟩ := nth_some (l := l) (i := l.length - 1) (by omega)
    have hx' := nth_dig hx
    have hz : lastZ l = (x == 0) := by unfold lastZ; rw [hx]
    rw [hz]
    cases d5 : x == 0 with
    | true =>
      simp (maxSteps := 1000000) +contextual (disch := first | with_reducible assumption | exact ⟨rfl⟩ | exact ⟨rfl, rfl⟩ | (refine _root_.id ?_; kernel_rfl) | omega) only [evs, ext_mv, nth, put, putT, getT, binInt, binStr, binBool, aUn, outA, resA, mapO, resA1, oneOf, w1, w2, w3, bots, cond_true, cond_false, if_true, if_false, ite_true, ite_false, reduceIte, reduceCtorEq, implies_true, Nat.reduceAdd, Nat.reduceSub, AV.int, AV.bool, AV.str, Nat.reduceBEq, Nat.reduceEqDiff, Nat.reduceMul, Nat.reduceLT, Nat.reduceLeDiff, Int.reduceNeg, BEq.rfl, beq_self_eq_true, tabl, cellsOf, fldA, ldA, stA, entAt, partA, takeN, over, leafOk, Value.oneCell', idxA, nilA, cellsEq, fillA, elemsA, pure1, pure2, reps, chkA, tys, Tryd.results40, KX_draw, KX_drawQ, KX_tail, lastO_one, lastO_more, dropL_one, dropL_more, callP_eq, callM_true, w2, w1, d1, d2, d3, d4, hx', d5]
      all_goals simp
    | false =>
      simp only [h2, decide_false, Bool.false_and, Bool.or_false, Bool.false_eq_true, if_false]
      simp (maxSteps := 1000000) +contextual (disch := first | with_reducible assumption | exact ⟨rfl⟩ | exact ⟨rfl, rfl⟩ | (refine _root_.id ?_; kernel_rfl) | omega) only [evs, ext_mv, nth, put, putT, getT, binInt, binStr, binBool, aUn, outA, resA, mapO, resA1, oneOf, w1, w2, w3, bots, cond_true, cond_false, if_true, if_false, ite_true, ite_false, reduceIte, reduceCtorEq, implies_true, Nat.reduceAdd, Nat.reduceSub, AV.int, AV.bool, AV.str, Nat.reduceBEq, Nat.reduceEqDiff, Nat.reduceMul, Nat.reduceLT, Nat.reduceLeDiff, Int.reduceNeg, BEq.rfl, beq_self_eq_true, tabl, cellsOf, fldA, ldA, stA, entAt, partA, takeN, over, leafOk, Value.oneCell', idxA, nilA, cellsEq, fillA, elemsA, pure1, pure2, reps, chkA, tys, Tryd.results40, KX_draw, KX_drawQ, KX_tail, lastO_one, lastO_more, dropL_one, dropL_more, callP_eq, callM_true, w2, w1, d1, d2, d3, d4, hx', d5]
      refine loop1 (fun x st => st.T.length = 46 ∧ (x ≤ l.length) ∧ (allD l = allD (l.drop x)) ∧ getT st.T 33 = digA l ∧ getT st.T 34 = .int l.length ∧ getT st.T 35 = .int (x : Nat) ∧ st.S = [⟨0, [.bool neg, digA l]⟩]) (fun x => l.length - x) (fun x => .bool (allD l)) (0) ?_ ?_
      case refine_2 => exact ⟨rfl, Nat.zero_le _, rfl, rfl, rfl, rfl, rfl⟩
      rintro i ⟨T, S', tk', n'⟩ ⟨hl, hi, hn, e33, e34, e35, eS⟩ IH
      subst eS
      obtain ⟨g, hg, hT⟩ := tab_of hl
      rw [hg] at e33 e34 e35
      subst hT
      clear hg hl
      by_cases hlt : i < l.length
      · have d1 : decide ((i : Int) < (l.length : Int)) = true := by simpa using hlt
        obtain ⟨x, hx⟩ := nth_some hlt
        have hx' := nth_dig hx
        have hw := wrap_add (i := i) (by omega)
        rw [nth_drop hx] at hn
        simp only [allD] at hn
        simp (maxSteps := 1000000) +contextual (disch := first | with_reducible assumption | exact ⟨rfl⟩ | exact ⟨rfl, rfl⟩ | (refine _root_.id ?_; kernel_rfl) | omega) only [evs, ext_mv, nth, put, putT, getT, binInt, binStr, binBool, aUn, outA, resA, mapO, resA1, oneOf, w1, w2, w3, bots, cond_true, cond_false, if_true, if_false, ite_true, ite_false, reduceIte, reduceCtorEq, implies_true, Nat.reduceAdd, Nat.reduceSub, AV.int, AV.bool, AV.str, Nat.reduceBEq, Nat.reduceEqDiff, Nat.reduceMul, Nat.reduceLT, Nat.reduceLeDiff, Int.reduceNeg, BEq.rfl, beq_self_eq_true, tabl, cellsOf, fldA, ldA, stA, entAt, partA, takeN, over, leafOk, Value.oneCell', idxA, nilA, cellsEq, fillA, elemsA, pure1, pure2, reps, chkA, tys, Tryd.results40, KX_draw, KX_drawQ, KX_tail, lastO_one, lastO_more, dropL_one, dropL_more, callP_eq, callM_true, e33, e34, e35, d1, digA, hx', hw]
        refine ⟨fun h1 => ?_, fun h1 => ⟨fun h2 => ?_, fun h2 => ?_⟩⟩
        · rw [hn, if_pos (by simp [h1])]
        · rw [hn, if_pos (by simp only [h1, h2]; rfl)]
        · exact IH (i + 1) _ (by first | omega | (simp only; omega)) ⟨rfl, hlt, by rw [hn, if_neg (by simp only [h1, h2]; simp)], (by first | rfl | simp only [getT, List.map_append, List.map_cons, List.map_nil, digC, digA]), (by first | rfl | simp only [getT, List.map_append, List.map_cons, List.map_nil, digC, digA]), (by first | rfl | simp only [getT, List.map_append, List.map_cons, List.map_nil, digC, digA]), (by first | rfl | simp only [getT, List.map_append, List.map_cons, List.map_nil, digC, digA])⟩
      · have d1 : decide ((i : Int) < (l.length : Int)) = false := by simpa using hlt
        have he : i = l.length := by omega
        rw [he, List.drop_length] at hn
        simp (maxSteps := 1000000) +contextual (disch := first | with_reducible assumption | exact ⟨rfl⟩ | exact ⟨rfl, rfl⟩ | (refine _root_.id ?_; kernel_rfl) | omega) only [evs, ext_mv, nth, put, putT, getT, binInt, binStr, binBool, aUn, outA, resA, mapO, resA1, oneOf, w1, w2, w3, bots, cond_true, cond_false, if_true, if_false, ite_true, ite_false, reduceIte, reduceCtorEq, implies_true, Nat.reduceAdd, Nat.reduceSub, AV.int, AV.bool, AV.str, Nat.reduceBEq, Nat.reduceEqDiff, Nat.reduceMul, Nat.reduceLT, Nat.reduceLeDiff, Int.reduceNeg, BEq.rfl, beq_self_eq_true, tabl, cellsOf, fldA, ldA, stA, entAt, partA, takeN, over, leafOk, Value.oneCell', idxA, nilA, cellsEq, fillA, elemsA, pure1, pure2, reps, chkA, tys, Tryd.results40, KX_draw, KX_drawQ, KX_tail, lastO_one, lastO_more, dropL_one, dropL_more, callP_eq, callM_true, e33, e34, e35, d1, digA]
        exact hn.symm
theorem R02_Valid (neg : Bool) (l : List Int) (c : Cap) (hlen : l.length ≤ 1000000) : cL Tryd.prog 44 [.agg [.bool neg, .frz (l.map digC) c]] S tk k = some (.bool (validF neg l), S, tk, k) := by
  refine call_pure Tryd.func44 rfl rfl (by decide +kernel) (by decide +kernel) Tryd.ntmps44 rfl rfl _ _ _ rfl ?_; rw [RK_KX]
  by_cases h1 : 200 < l.length
  · have d1 : decide ((l.length : Int) > 200) = true := by simp; omega
    simp (maxSteps := 1000000) +contextual (disch := first | with_reducible assumption | exact ⟨rfl⟩ | exact ⟨rfl, rfl⟩ | (refine _root_.id ?_; kernel_rfl) | omega) only [evs, ext_mv, nth, put, putT, getT, binInt, binStr, binBool, aUn, outA, resA, mapO, resA1, oneOf, w1, w2, w3, bots, cond_true, cond_false, if_true, if_false, ite_true, ite_false, reduceIte, reduceCtorEq, implies_true, Nat.reduceAdd, Nat.reduceSub, AV.int, AV.bool, AV.str, Nat.reduceBEq, Nat.reduceEqDiff, Nat.reduceMul, Nat.reduceLT, Nat.reduceLeDiff, Int.reduceNeg, BEq.rfl, beq_self_eq_true, tabl, cellsOf, fldA, ldA, stA, entAt, partA, takeN, over, leafOk, Value.oneCell', idxA, nilA, cellsEq, fillA, elemsA, pure1, pure2, reps, chkA, tys, Tryd.results44, KX_draw, KX_drawQ, KX_tail, lastO_one, lastO_more, dropL_one, dropL_more, callP_eq, callM_true, w2, w1, d1]
    all_goals simp [validF, h1]
  have d1 : decide ((l.length : Int) > 200) = false := by simp; omega
  have hv : validF neg l = if ((decide (l = []) && neg) || lastZ l) = true then false else allD l := by simp [validF, h1]
  rw [hv]
  by_cases h2 : l = []
  · have d2 : (((0 : Nat) : Int) == 0) = true := rfl
    have d3 : decide (((0 : Nat) : Int) > 0) = false := rfl
    cases neg with
    | true =>
      subst h2
      simp (maxSteps := 1000000) +contextual (disch := first | with_reducible assumption | exact ⟨rfl⟩ | exact ⟨rfl, rfl⟩ | (refine _root_.id ?_; kernel_rfl) | omega) only [evs, ext_mv, nth, put, putT, getT, binInt, binStr, binBool, aUn, outA, resA, mapO, resA1, oneOf, w1, w2, w3, bots, cond_true, cond_false, if_true, if_false, ite_true, ite_false, reduceIte, reduceCtorEq, implies_true, Nat.reduceAdd, Nat.reduceSub, AV.int, AV.bool, AV.str, Nat.reduceBEq, Nat.reduceEqDiff, Nat.reduceMul, Nat.reduceLT, Nat.reduceLeDiff, Int.reduceNeg, BEq.rfl, beq_self_eq_true, tabl, cellsOf, fldA, ldA, stA, entAt, partA, takeN, over, leafOk, Value.oneCell', idxA, nilA, cellsEq, fillA, elemsA, pure1, pure2, reps, chkA, tys, Tryd.results44, KX_draw, KX_drawQ, KX_tail, lastO_one, lastO_more, dropL_one, dropL_more, callP_eq, callM_true, w2, w1, d1, d2, d3, List.map_nil]
      all_goals simp
    | false =>
      have hz : lastZ l = false := by subst h2; rfl
      rw [hz]
      simp only [Bool.and_false, Bool.or_false, Bool.false_eq_true, if_false]
      have hl0 : l.length = 0 := by rw [h2]; rfl
      have d2 : ((l.length : Int) == 0) = true := by rw [hl0]; rfl
      have d3 : decide ((l.length : Int) > 0) = false := by rw [hl0]; rfl
      simp (maxSteps := 1000000) +contextual (disch := first | with_reducible assumption | exact ⟨rfl⟩ | exact ⟨rfl, rfl⟩ | (refine _root_.id ?_; kernel_rfl) | omega) only [evs, ext_mv, nth, put, putT, getT, binInt, binStr, binBool, aUn, outA, resA, mapO, resA1, oneOf, w1, w2, w3, bots, cond_true, cond_false, if_true, if_false, ite_true, ite_false, reduceIte, reduceCtorEq, implies_true, Nat.reduceAdd, Nat.reduceSub, AV.int, AV.bool, AV.str, Nat.reduceBEq, Nat.reduceEqDiff, Nat.reduceMul, Nat.reduceLT, Nat.reduceLeDiff, Int.reduceNeg, BEq.rfl, beq_self_eq_true, tabl, cellsOf, fldA, ldA, stA, entAt, partA, takeN, over, leafOk, Value.oneCell', idxA, nilA, cellsEq, fillA, elemsA, pure1, pure2, reps, chkA, tys, Tryd.results44, KX_draw, KX_drawQ, KX_tail, lastO_one, lastO_more, dropL_one, dropL_more, callP_eq, callM_true, w2, w1, d1, d2, d3]
      refine loop1 (fun x st => st.T.length = 50 ∧ (x ≤ l.length) ∧ (allD l = allD (l.drop x)) ∧ getT st.T 1 = .ref 0 0 0 ∧ getT st.T 3 = .int l.length ∧ getT st.T 4 = .int (x : Nat) ∧ st.S = [⟨0, [.bool false, digA l]⟩]) (fun x => l.length - x) (fun x => .bool (allD l)) (0) ?_ ?_
      case refine_2 => exact ⟨rfl, Nat.zero_le _, rfl, rfl, rfl, rfl, rfl⟩
      rintro i ⟨T, S', tk', n'⟩ ⟨hl, hi, hn, e1, e3, e4, eS⟩ IH
      subst eS
      obtain ⟨g, hg, hT⟩ := tab_of hl
      rw [hg] at e1 e3 e4
      subst hT
      clear hg hl
      by_cases hlt : i < l.length
      · have d1 : decide ((i : Int) < (l.length : Int)) = true := by simpa using hlt
        obtain ⟨x, hx⟩ := nth_some hlt
        have hx' := nth_dig hx
        have hw := wrap_add (i := i) (by omega)
        rw [nth_drop hx] at hn
        simp only [allD] at hn
        simp (maxSteps := 1000000) +contextual (disch := first | with_reducible assumption | exact ⟨rfl⟩ | exact ⟨rfl, rfl⟩ | (refine _root_.id ?_; kernel_rfl) | omega) only [evs, ext_mv, nth, put, putT, getT, binInt, binStr, binBool, aUn, outA, resA, mapO, resA1, oneOf, w1, w2, w3, bots, cond_true, cond_false, if_true, if_false, ite_true, ite_false, reduceIte, reduceCtorEq, implies_true, Nat.reduceAdd, Nat.reduceSub, AV.int, AV.bool, AV.str, Nat.reduceBEq, Nat.reduceEqDiff, Nat.reduceMul, Nat.reduceLT, Nat.reduceLeDiff, Int.reduceNeg, BEq.rfl, beq_self_eq_true, tabl, cellsOf, fldA, ldA, stA, entAt, partA, takeN, over, leafOk, Value.oneCell', idxA, nilA, cellsEq, fillA, elemsA, pure1, pure2, reps, chkA, tys, Tryd.results44, KX_draw, KX_drawQ, KX_tail, lastO_one, lastO_more, dropL_one, dropL_more, callP_eq, callM_true, e1, e3, e4, d1, digA, hx', hw]
        refine ⟨fun h1 => ?_, fun h1 => ⟨fun h2 => ?_, fun h2 => ?_⟩⟩
        · rw [hn, if_pos (by simp [h1])]
        · rw [hn, if_pos (by simp only [h1, h2]; rfl)]
        · exact IH (i + 1) _ (by first | omega | (simp only; omega)) ⟨rfl, hlt, by rw [hn, if_neg (by simp only [h1, h2]; simp)], (by first | rfl | simp only [getT, List.map_append, List.map_cons, List.map_nil, digC, digA]), (by first | rfl | simp only [getT, List.map_append, List.map_cons, List.map_nil, digC, digA]), (by first | rfl | simp only [getT, List.map_append, List.map_cons, List.map_nil, digC, digA]), (by first | rfl | simp only [getT, List.map_append, List.map_cons, List.map_nil, digC, digA])⟩
      · have d1 : decide ((i : Int) < (l.length : Int)) = false := by simpa using hlt
        have he : i = l.length := by omega
        rw [he, List.drop_length] at hn
        simp (maxSteps := 1000000) +contextual (disch := first | with_reducible assumption | exact ⟨rfl⟩ | exact ⟨rfl, rfl⟩ | (refine _root_.id ?_; kernel_rfl) | omega) only [evs, ext_mv, nth, put, putT, getT, binInt, binStr, binBool, aUn, outA, resA, mapO, resA1, oneOf, w1, w2, w3, bots, cond_true, cond_false, if_true, if_false, ite_true, ite_false, reduceIte, reduceCtorEq, implies_true, Nat.reduceAdd, Nat.reduceSub, AV.int, AV.bool, AV.str, Nat.reduceBEq, Nat.reduceEqDiff, Nat.reduceMul, Nat.reduceLT, Nat.reduceLeDiff, Int.reduceNeg, BEq.rfl, beq_self_eq_true, tabl, cellsOf, fldA, ldA, stA, entAt, partA, takeN, over, leafOk, Value.oneCell', idxA, nilA, cellsEq, fillA, elemsA, pure1, pure2, reps, chkA, tys, Tryd.results44, KX_draw, KX_drawQ, KX_tail, lastO_one, lastO_more, dropL_one, dropL_more, callP_eq, callM_true, e1, e3, e4, d1, digA]
        exact hn.symm
  · have d2 := len_eq_zero h2
    have d3 := len_gt_zero h2
    have d4 := last_idx h2 hlen
    have hp : l.length ≠ 0 := fun h' => h2 (List.length_eq_zero_iff.1 h')
    obtain ⟨x, hx⟩ := nth_some (l := l) (i := l.length - 1) (by omega)
    have hx' := nth_dig hx
    have hz : lastZ l = (x == 0) := by unfold lastZ; rw [hx]
    rw [hz]
    cases d5 : x == 0 with
    | true =>
      simp (maxSteps := 1000000) +contextual (disch := first | with_reducible assumption | exact ⟨rfl⟩ | exact ⟨rfl, rfl⟩ | (refine _root_.id ?_; kernel_rfl) | omega) only [evs, ext_mv, nth, put, putT, getT, binInt, binStr, binBool, aUn, outA, resA, mapO, resA1, oneOf, w1, w2, w3, bots, cond_true, cond_false, if_true, if_false, ite_true, ite_false, reduceIte, reduceCtorEq, implies_true, Nat.reduceAdd, Nat.reduceSub, AV.int, AV.bool, AV.str, Nat.reduceBEq, Nat.reduceEqDiff, Nat.reduceMul, Nat.reduceLT, Nat.reduceLeDiff, Int.reduceNeg, BEq.rfl, beq_self_eq_true, tabl, cellsOf, fldA, ldA, stA, entAt, partA, takeN, over, leafOk, Value.oneCell', idxA, nilA, cellsEq, fillA, elemsA, pure1, pure2, reps, chkA, tys, Tryd.results44, KX_draw, KX_drawQ, KX_tail, lastO_one, lastO_more, dropL_one, dropL_more, callP_eq, callM_true, w2, w1, d1, d2, d3, d4, hx', d5]
      all_goals simp
    | false =>
      simp only [h2, decide_false, Bool.false_and, Bool.or_false, Bool.false_eq_true, if_false]
      simp (maxSteps := 1000000) +contextual (disch := first | with_reducible assumption | exact ⟨rfl⟩ | exact ⟨rfl, rfl⟩ | (refine _root_.id ?_; kernel_rfl) | omega) only [evs, ext_mv, nth, put, putT, getT, binInt, binStr, binBool, aUn, outA, resA, mapO, resA1, oneOf, w1, w2, w3, bots, cond_true, cond_false, if_true, if_false, ite_true, ite_false, reduceIte, reduceCtorEq, implies_true, Nat.reduceAdd, Nat.reduceSub, AV.int, AV.bool, AV.str, Nat.reduceBEq, Nat.reduceEqDiff, Nat.reduceMul, Nat.reduceLT, Nat.reduceLeDiff, Int.reduceNeg, BEq.rfl, beq_self_eq_true, tabl, cellsOf, fldA, ldA, stA, entAt, partA, takeN, over, leafOk, Value.oneCell', idxA, nilA, cellsEq, fillA, elemsA, pure1, pure2, reps, chkA, tys, Tryd.results44, KX_draw, KX_drawQ, KX_tail, lastO_one, lastO_more, dropL_one, dropL_more, callP_eq, callM_true, w2, w1, d1, d2, d3, d4, hx', d5]
      refine loop1 (fun x st => st.T.length = 50 ∧ (x ≤ l.length) ∧ (allD l = allD (l.drop x)) ∧ getT st.T 1 = .ref 0 0 0 ∧ getT st.T 3 = .int l.length ∧ getT st.T 4 = .int (x : Nat) ∧ st.S = [⟨0, [.bool neg, digA l]⟩]) (fun x => l.length - x) (fun x => .bool (allD l)) (0) ?_ ?_
      case refine_2 => exact ⟨rfl, Nat.zero_le _, rfl, rfl, rfl, rfl, rfl⟩
      rintro i ⟨T, S', tk', n'⟩ ⟨hl, hi, hn, e1, e3, e4, eS⟩ IH
      subst eS
      obtain ⟨g, hg, hT⟩ := tab_of hl
      rw [hg] at e1 e3 e4
      subst hT
      clear hg hl
      by_cases hlt : i < l.length
      · have d1 : decide ((i : Int) < (l.length : Int)) = true := by simpa using hlt
        obtain ⟨x, hx⟩ := nth_some hlt
        have hx' := nth_dig hx
        have hw := wrap_add (i := i) (by omega)
        rw [nth_drop hx] at hn
        simp only [allD] at hn
        simp (maxSteps := 1000000) +contextual (disch := first | with_reducible assumption | exact ⟨rfl⟩ | exact ⟨rfl, rfl⟩ | (refine _root_.id ?_; kernel_rfl) | omega) only [evs, ext_mv, nth, put, putT, getT, binInt, binStr, binBool, aUn, outA, resA, mapO, resA1, oneOf, w1, w2, w3, bots, cond_true, cond_false, if_true, if_false, ite_true, ite_false, reduceIte, reduceCtorEq, implies_true, Nat.reduceAdd, Nat.reduceSub, AV.int, AV.bool, AV.str, Nat.reduceBEq, Nat.reduceEqDiff, Nat.reduceMul, Nat.reduceLT, Nat.reduceLeDiff, Int.reduceNeg, BEq.rfl, beq_self_eq_true, tabl, cellsOf, fldA, ldA, stA, entAt, partA, takeN, over, leafOk, Value.oneCell', idxA, nilA, cellsEq, fillA, elemsA, pure1, pure2, reps, chkA, tys, Tryd.results44, KX_draw, KX_drawQ, KX_tail, lastO_one, lastO_more, dropL_one, dropL_more, callP_eq, callM_true, e1, e3, e4, d1, digA, hx', hw]
        refine ⟨fun h1 => ?_, fun h1 => ⟨fun h2 => ?_, fun h2 => ?_⟩⟩
        · rw [hn, if_pos (by simp [h1])]
        · rw [hn, if_pos (by simp only [h1, h2]; rfl)]
        · exact IH (i + 1) _ (by first | omega | (simp only; omega)) ⟨rfl, hlt, by rw [hn, if_neg (by simp only [h1, h2]; simp)], (by first | rfl | simp only [getT, List.map_append, List.map_cons, List.map_nil, digC, digA]), (by first | rfl | simp only [getT, List.map_append, List.map_cons, List.map_nil, digC, digA]), (by first | rfl | simp only [getT, List.map_append, List.map_cons, List.map_nil, digC, digA]), (by first | rfl | simp only [getT, List.map_append, List.map_cons, List.map_nil, digC, digA])⟩
      · have d1 : decide ((i : Int) < (l.length : Int)) = false := by simpa using hlt
        have he : i = l.length := by omega
        rw [he, List.drop_length] at hn
        simp (maxSteps := 1000000) +contextual (disch := first | with_reducible assumption | exact ⟨rfl⟩ | exact ⟨rfl, rfl⟩ | (refine _root_.id ?_; kernel_rfl) | omega) only [evs, ext_mv, nth, put, putT, getT, binInt, binStr, binBool, aUn, outA, resA, mapO, resA1, oneOf, w1, w2, w3, bots, cond_true, cond_false, if_true, if_false, ite_true, ite_false, reduceIte, reduceCtorEq, implies_true, Nat.reduceAdd, Nat.reduceSub, AV.int, AV.bool, AV.str, Nat.reduceBEq, Nat.reduceEqDiff, Nat.reduceMul, Nat.reduceLT, Nat.reduceLeDiff, Int.reduceNeg, BEq.rfl, beq_self_eq_true, tabl, cellsOf, fldA, ldA, stA, entAt, partA, takeN, over, leafOk, Value.oneCell', idxA, nilA, cellsEq, fillA, elemsA, pure1, pure2, reps, chkA, tys, Tryd.results44, KX_draw, KX_drawQ, KX_tail, lastO_one, lastO_more, dropL_one, dropL_more, callP_eq, callM_true, e1, e3, e4, d1, digA]
        exact hn.symm
theorem big_digits (neg : Bool) (l : List Int) (c : Cap) (hlen : l.length ≤ 1000000) : cL Tryd.prog 70 [.agg [.bool neg, .frz (l.map digC) c]] S tk k = some (digA (dig (V neg l).natAbs), S, tk, k) := by
  have hV := fun S tk k => big_Valid S tk k neg l .unk hlen
  rw [V_abs]
  refine call_pure Tryd.func70 rfl rfl (by decide +kernel) (by decide +kernel) Tryd.ntmps70 rfl rfl _ _ _ rfl ?_; rw [RK_KX]
  cases hv : validF neg l with
  | true =>
    simp (maxSteps := 1000000) +contextual (disch := first | with_reducible assumption | exact ⟨rfl⟩ | exact ⟨rfl, rfl⟩ | (refine _root_.id ?_; kernel_rfl) | omega) only [evs, ext_mv, nth, put, putT, getT, binInt, binStr, binBool, aUn, outA, resA, mapO, resA1, oneOf, w1, w2, w3, bots, cond_true, cond_false, if_true, if_false, ite_true, ite_false, reduceIte, reduceCtorEq, implies_true, Nat.reduceAdd, Nat.reduceSub, AV.int, AV.bool, AV.str, Nat.reduceBEq, Nat.reduceEqDiff, Nat.reduceMul, Nat.reduceLT, Nat.reduceLeDiff, Int.reduceNeg, BEq.rfl, beq_self_eq_true, tabl, cellsOf, fldA, ldA, stA, entAt, partA, takeN, over, leafOk, Value.oneCell', idxA, nilA, cellsEq, fillA, elemsA, pure1, pure2, reps, chkA, tys, Tryd.results70, KX_draw, KX_drawQ, KX_tail, lastO_one, lastO_more, dropL_one, dropL_more, callP_eq, callM_true, w2, w1, hV, hv]
    rfl
  | false =>
    simp (maxSteps := 1000000) +contextual (disch := first | with_reducible assumption | exact ⟨rfl⟩ | exact ⟨rfl, rfl⟩ | (refine _root_.id ?_; kernel_rfl) | omega) only [evs, ext_mv, nth, put, putT, getT, binInt, binStr, binBool, aUn, outA, resA, mapO, resA1, oneOf, w1, w2, w3, bots, cond_true, cond_false, if_true, if_false, ite_true, ite_false, reduceIte, reduceCtorEq, implies_true, Nat.reduceAdd, Nat.reduceSub, AV.int, AV.bool, AV.str, Nat.reduceBEq, Nat.reduceEqDiff, Nat.reduceMul, Nat.reduceLT, Nat.reduceLeDiff, Int.reduceNeg, BEq.rfl, beq_self_eq_true, tabl, cellsOf, fldA, ldA, stA, entAt, partA, takeN, over, leafOk, Value.oneCell', idxA, nilA, cellsEq, fillA, elemsA, pure1, pure2, reps, chkA, tys, Tryd.results70, KX_draw, KX_drawQ, KX_tail, lastO_one, lastO_more, dropL_one, dropL_more, callP_eq, callM_true, w2, w1, hV, hv]
    rfl
theorem R02_digits (neg : Bool) (l : List Int) (c : Cap) (hlen : l.length ≤ 1000000) : cL Tryd.prog 91 [.agg [.bool neg, .frz (l.map digC) c]] S tk k = some (digA (dig (V neg l).natAbs), S, tk, k) := by
  have hV := fun S tk k => R02_Valid S tk k neg l .unk hlen
  rw [V_abs]
  refine call_pure Tryd.func91 rfl rfl (by decide +kernel) (by decide +kernel) Tryd.ntmps91 rfl rfl _ _ _ rfl ?_; rw [RK_KX]
  cases hv : validF neg l with
  | true =>
    simp (maxSteps := 1000000) +contextual (disch := first | with_reducible assumption | exact ⟨rfl⟩ | exact ⟨rfl, rfl⟩ | (refine _root_.id ?_; kernel_rfl) | omega) only [evs, ext_mv, nth, put, putT, getT, binInt, binStr, binBool, aUn, outA, resA, mapO, resA1, oneOf, w1, w2, w3, bots, cond_true, cond_false, if_true, if_false, ite_true, ite_false, reduceIte, reduceCtorEq, implies_true, Nat.reduceAdd, Nat.reduceSub, AV.int, AV.bool, AV.str, Nat.reduceBEq, Nat.reduceEqDiff, Nat.reduceMul, Nat.reduceLT, Nat.reduceLeDiff, Int.reduceNeg, BEq.rfl, beq_self_eq_true, tabl, cellsOf, fldA, ldA, stA, entAt, partA, takeN, over, leafOk, Value.oneCell', idxA, nilA, cellsEq, fillA, elemsA, pure1, pure2, reps, chkA, tys, Tryd.results91, KX_draw, KX_drawQ, KX_tail, lastO_one, lastO_more, dropL_one, dropL_more, callP_eq, callM_true, w2, w1, hV, hv]
    rfl
  | false =>
    simp (maxSteps := 1000000) +contextual (disch := first | with_reducible assumption | exact ⟨rfl⟩ | exact ⟨rfl, rfl⟩ | (refine _root_.id ?_; kernel_rfl) | omega) only [evs, ext_mv, nth, put, putT, getT, binInt, binStr, binBool, aUn, outA, resA, mapO, resA1, oneOf, w1, w2, w3, bots, cond_true, cond_false, if_true, if_false, ite_true, ite_false, reduceIte, reduceCtorEq, implies_true, Nat.reduceAdd, Nat.reduceSub, AV.int, AV.bool, AV.str, Nat.reduceBEq, Nat.reduceEqDiff, Nat.reduceMul, Nat.reduceLT, Nat.reduceLeDiff, Int.reduceNeg, BEq.rfl, beq_self_eq_true, tabl, cellsOf, fldA, ldA, stA, entAt, partA, takeN, over, leafOk, Value.oneCell', idxA, nilA, cellsEq, fillA, elemsA, pure1, pure2, reps, chkA, tys, Tryd.results91, KX_draw, KX_drawQ, KX_tail, lastO_one, lastO_more, dropL_one, dropL_more, callP_eq, callM_true, w2, w1, hV, hv]
    rfl
theorem R02_negative (neg : Bool) (l : List Int) (c : Cap) (hlen : l.length ≤ 1000000) : cL Tryd.prog 93 [.agg [.bool neg, .frz (l.map digC) c]] S tk k = some (.bool (validF neg l && neg), S, tk, k) := by
  have hV := fun S tk k => R02_Valid S tk k neg l .unk hlen
  refine call_pure Tryd.func93 rfl rfl (by decide +kernel) (by decide +kernel) Tryd.ntmps93 rfl rfl _ _ _ rfl ?_; rw [RK_KX]
  cases hv : validF neg l with
  | true => simp (maxSteps := 1000000) +contextual (disch := first | with_reducible assumption | exact ⟨rfl⟩ | exact ⟨rfl, rfl⟩ | (refine _root_.id ?_; kernel_rfl) | omega) only [evs, ext_mv, nth, put, putT, getT, binInt, binStr, binBool, aUn, outA, resA, mapO, resA1, oneOf, w1, w2, w3, bots, cond_true, cond_false, if_true, if_false, ite_true, ite_false, reduceIte, reduceCtorEq, implies_true, Nat.reduceAdd, Nat.reduceSub, AV.int, AV.bool, AV.str, Nat.reduceBEq, Nat.reduceEqDiff, Nat.reduceMul, Nat.reduceLT, Nat.reduceLeDiff, Int.reduceNeg, BEq.rfl, beq_self_eq_true, tabl, cellsOf, fldA, ldA, stA, entAt, partA, takeN, over, leafOk, Value.oneCell', idxA, nilA, cellsEq, fillA, elemsA, pure1, pure2, reps, chkA, tys, Tryd.results93, KX_draw, KX_drawQ, KX_tail, lastO_one, lastO_more, dropL_one, dropL_more, callP_eq, callM_true, w2, w1, hV, hv]
  | false => simp (maxSteps := 1000000) +contextual (disch := first | with_reducible assumption | exact ⟨rfl⟩ | exact ⟨rfl, rfl⟩ | (refine _root_.id ?_; kernel_rfl) | omega) only [evs, ext_mv, nth, put, putT, getT, binInt, binStr, binBool, aUn, outA, resA, mapO, resA1, oneOf, w1, w2, w3, bots, cond_true, cond_false, if_true, if_false, ite_true, ite_false, reduceIte, reduceCtorEq, implies_true, Nat.reduceAdd, Nat.reduceSub, AV.int, AV.bool, AV.str, Nat.reduceBEq, Nat.reduceEqDiff, Nat.reduceMul, Nat.reduceLT, Nat.reduceLeDiff, Int.reduceNeg, BEq.rfl, beq_self_eq_true, tabl, cellsOf, fldA, ldA, stA, entAt, partA, takeN, over, leafOk, Value.oneCell', idxA, nilA, cellsEq, fillA, elemsA, pure1, pure2, reps, chkA, tys, Tryd.results93, KX_draw, KX_drawQ, KX_tail, lastO_one, lastO_more, dropL_one, dropL_more, callP_eq, callM_true, w2, w1, hV, hv]
end
end Go.Proofs.YtgadegdhfjnoaaaDoor
/-
  What the functions of the numbers compute: cutting zeros off, signs, comparing.
-/

namespace Go.Proofs.YtgadegdhfjnoaaaDoor
open Go

def numC (x : Int) : AV := .prim (.int .i64 x)
theorem nth_num {l : List Int} {i : Nat} {x : Int} (h : nth l i = some x) : nth ((l.map numC).drop i) 0 = some (.prim (.int .i64 x)) := by
  have : nth (l.map numC) i = some (numC x) := by rw [nth_map, h]; rfl
  exact drop_nth this
theorem over_num {l : List Int} {i : Nat} {x v : Int} (h : nth l i = some x) : over (l.map numC) i [.prim (.int .i64 v)] = some ((l.set i v).map numC) := by
  have h1 : nth (l.map numC) i = some (numC x) := by rw [nth_map, h]; rfl
  rw [over_one h1]
  have : (.prim (.int .i64 v) : AV) = numC v := rfl
  rw [this, put_map, put_set]
theorem rowsAt_num {l : List Int} {n : Nat} (h : n ≤ l.length) : rowsAt 1 n (l.map numC) = some ((l.take n).map digC) := rowsAt_one h
theorem rowsFz_num (l : List Int) : rowsFz (some (l.map digC)) = .frz (l.map digC) .unk := by
  unfold rowsFz
  simp only
  rw [if_pos (by simp [digC, pure1, w1, Value.oneCell'])]
  congr 1
  simp [w1, digC]
theorem fz_num {m id ep n : Nat} {S : List Ent} {l : List Int} (hm : m ≤ id) (h : entAt S id ep = some (l.map numC)) (hn : n ≤ l.length) : fz1 m S (.sref id ep 0 n 1) = .frz ((l.take n).map digC) .unk := by
  rw [fz1_sref hm, h, fzB_some, List.drop_zero, rowsAt_num hn, rowsFz_num]
theorem trim_stop {l : List Int} {n : Nat} (hn : n ≤ l.length) (hz : ∀ j, n ≤ j → ∀ x, nth l j = some x → x = 0) (he : n = 0 ∨ ∃ x, nth l (n - 1) = some x ∧ x ≠ 0) : trimL l = l.take n := by
  rw [trim_take n l hn hz]
  rcases he with rfl | ⟨x, hx, h0⟩
  · simp [trimL]
  · by_cases h1 : n = 0
    · subst h1; simp [trimL]
    · refine trim_end _ (n - 1) x ?_ (by simp; omega) h0
      rw [nth_get, List.getElem?_take_of_lt (by omega), ← nth_get]; exact hx
theorem pred_idx {n : Nat} (h : n ≠ 0) (hl : n ≤ 1000000) : IntKind.i64.wrap ((n : Int) - 1) = ((n - 1 : Nat) : Int) := by
  rw [wrap_of (by unfold i64; omega)]; omega

theorem hz_pred {l : List Int} {n : Nat} {x : Int} (hz : ∀ j, n ≤ j → ∀ x, nth l j = some x → x = 0) (hx : nth l (n - 1) = some x) (hx0 : x = 0) : ∀ j, n - 1 ≤ j → ∀ y, nth l j = some y → y = 0 := fun j hj y hy => by
  by_cases e : j = n - 1
  · rw [e, hx] at hy; simp only [Option.some.injEq] at hy; omega
  · exact hz j (by omega) y hy
theorem hz_start (l : List Int) : ∀ j, l.length ≤ j → ∀ x, nth l j = some x → x = 0 := fun j hj x hx => by have := nth_lt hx; omega
section
variable (S : List Ent) (tk : List Nat) (k : Nat)
theorem big_trim (l : List Int) (c : Cap) (hlen : l.length ≤ 1000000) : cL Tryd.prog 102 [.frz (l.map digC) c] S tk k = some (digA (trimL l), S, tk, k) := by
  refine call_pure Tryd.func102 rfl rfl (by decide +kernel) (by decide +kernel) Tryd.ntmps102 rfl rfl _ _ _ rfl ?_; rw [RK_KX]
  simp (maxSteps := 1000000) +contextual (disch := first | with_reducible assumption | exact ⟨rfl⟩ | exact ⟨rfl, rfl⟩ | (refine _root_.id ?_; kernel_rfl) | omega) only [evs, ext_mv, nth, put, putT, getT, binInt, binStr, binBool, aUn, outA, resA, mapO, resA1, oneOf, w1, w2, w3, bots, cond_true, cond_false, if_true, if_false, ite_true, ite_false, reduceIte, reduceCtorEq, implies_true, Nat.reduceAdd, Nat.reduceSub, AV.int, AV.bool, AV.str, Nat.reduceBEq, Nat.reduceEqDiff, Nat.reduceMul, Nat.reduceLT, Nat.reduceLeDiff, Int.reduceNeg, BEq.rfl, beq_self_eq_true, tabl, cellsOf, fldA, ldA, stA, entAt, partA, takeN, over, leafOk, Value.oneCell', idxA, nilA, cellsEq, fillA, elemsA, pure1, pure2, reps, chkA, tys, Tryd.results102, KX_draw, KX_drawQ, KX_tail, lastO_one, lastO_more, dropL_one, dropL_more, callP_eq, callM_true, w2, w1]
  refine loop1 (fun x st => st.T.length = 22 ∧ (x ≤ l.length) ∧ (∀ j, x ≤ j → ∀ x, nth l j = some x → x = 0) ∧ getT st.T 0 = digA l ∧ getT st.T 3 = .int (x : Nat) ∧ st.S = []) (fun x => x) (fun x => digA (trimL l)) (l.length) ?_ ?_
  case refine_2 => exact ⟨rfl, Nat.le_refl _, hz_start l, rfl, rfl, rfl⟩
  rintro n ⟨T, S', tk', n'⟩ ⟨hl, hn, hz, e0, e3, eS⟩ IH
  subst eS
  obtain ⟨g, hg, hT⟩ := tab_of hl
  rw [hg] at e0 e3
  subst hT
  clear hg hl
  have hr := rowsOk_dig l
  by_cases h0 : n = 0
  · have d1 : decide ((n : Int) > 0) = false := by simp; omega
    have ht := trim_stop hn hz (.inl h0)
    simp (maxSteps := 1000000) +contextual (disch := first | with_reducible assumption | exact ⟨rfl⟩ | exact ⟨rfl, rfl⟩ | (refine _root_.id ?_; kernel_rfl) | omega) only [evs, ext_mv, nth, put, putT, getT, binInt, binStr, binBool, aUn, outA, resA, mapO, resA1, oneOf, w1, w2, w3, bots, cond_true, cond_false, if_true, if_false, ite_true, ite_false, reduceIte, reduceCtorEq, implies_true, Nat.reduceAdd, Nat.reduceSub, AV.int, AV.bool, AV.str, Nat.reduceBEq, Nat.reduceEqDiff, Nat.reduceMul, Nat.reduceLT, Nat.reduceLeDiff, Int.reduceNeg, BEq.rfl, beq_self_eq_true, tabl, cellsOf, fldA, ldA, stA, entAt, partA, takeN, over, leafOk, Value.oneCell', idxA, nilA, cellsEq, fillA, elemsA, pure1, pure2, reps, chkA, tys, Tryd.results102, KX_draw, KX_drawQ, KX_tail, lastO_one, lastO_more, dropL_one, dropL_more, callP_eq, callM_true, e0, e3, d1, digA, sliceA, hr, bound, intN_cast, hn, Nat.le_refl, Nat.zero_le]
    rw [ht]; simp [h0]
  · have d1 : decide ((n : Int) > 0) = true := by simp; omega
    have hp := pred_idx h0 (by omega)
    obtain ⟨x, hx⟩ := nth_some (show n - 1 < l.length by omega)
    have hx' := nth_dig hx
    by_cases hx0 : x = 0
    · have d2 : (x == 0) = true := by simpa using hx0
      simp (maxSteps := 1000000) +contextual (disch := first | with_reducible assumption | exact ⟨rfl⟩ | exact ⟨rfl, rfl⟩ | (refine _root_.id ?_; kernel_rfl) | omega) only [evs, ext_mv, nth, put, putT, getT, binInt, binStr, binBool, aUn, outA, resA, mapO, resA1, oneOf, w1, w2, w3, bots, cond_true, cond_false, if_true, if_false, ite_true, ite_false, reduceIte, reduceCtorEq, implies_true, Nat.reduceAdd, Nat.reduceSub, AV.int, AV.bool, AV.str, Nat.reduceBEq, Nat.reduceEqDiff, Nat.reduceMul, Nat.reduceLT, Nat.reduceLeDiff, Int.reduceNeg, BEq.rfl, beq_self_eq_true, tabl, cellsOf, fldA, ldA, stA, entAt, partA, takeN, over, leafOk, Value.oneCell', idxA, nilA, cellsEq, fillA, elemsA, pure1, pure2, reps, chkA, tys, Tryd.results102, KX_draw, KX_drawQ, KX_tail, lastO_one, lastO_more, dropL_one, dropL_more, callP_eq, callM_true, e0, e3, d1, d2, hp, hx', digA]
      exact IH (n - 1) _ (by first | omega | (simp only; omega)) ⟨rfl, by first | omega | (dsimp only; omega), hz_pred hz hx hx0, (by first | rfl | simp only [getT, List.map_append, List.map_cons, List.map_nil, digC, digA]), (by first | rfl | simp only [getT, List.map_append, List.map_cons, List.map_nil, digC, digA]), (by first | rfl | simp only [getT, List.map_append, List.map_cons, List.map_nil, digC, digA])⟩
    · have d2 : (x == 0) = false := by simpa using hx0
      have ht := trim_stop hn hz (.inr ⟨x, hx, hx0⟩)
      simp (maxSteps := 1000000) +contextual (disch := first | with_reducible assumption | exact ⟨rfl⟩ | exact ⟨rfl, rfl⟩ | (refine _root_.id ?_; kernel_rfl) | omega) only [evs, ext_mv, nth, put, putT, getT, binInt, binStr, binBool, aUn, outA, resA, mapO, resA1, oneOf, w1, w2, w3, bots, cond_true, cond_false, if_true, if_false, ite_true, ite_false, reduceIte, reduceCtorEq, implies_true, Nat.reduceAdd, Nat.reduceSub, AV.int, AV.bool, AV.str, Nat.reduceBEq, Nat.reduceEqDiff, Nat.reduceMul, Nat.reduceLT, Nat.reduceLeDiff, Int.reduceNeg, BEq.rfl, beq_self_eq_true, tabl, cellsOf, fldA, ldA, stA, entAt, partA, takeN, over, leafOk, Value.oneCell', idxA, nilA, cellsEq, fillA, elemsA, pure1, pure2, reps, chkA, tys, Tryd.results102, KX_draw, KX_drawQ, KX_tail, lastO_one, lastO_more, dropL_one, dropL_more, callP_eq, callM_true, e0, e3, d1, d2, hp, hx', digA, sliceA, hr, bound, intN_cast, hn, Nat.le_refl, Nat.zero_le]
      rw [ht]; simp
theorem big_trim_own (l : List Int) (id ep : Nat) (hlen : l.length ≤ 1000000) (h : entAt S id ep = some (l.map numC)) : cL Tryd.prog 102 [.sref id ep 0 l.length 1] S tk k = some (.sref id ep 0 (trimL l).length 1, S, tk, k) := by
  refine call_shared Tryd.func102 rfl rfl (by decide +kernel) Tryd.ntmps102 rfl ?_; rw [RK_KX]
  have hid : id < S.length := by
    obtain ⟨e, h1, -⟩ := entAt_some h
    exact nth_lt h1
  simp (maxSteps := 1000000) +contextual (disch := first | with_reducible assumption | exact ⟨rfl⟩ | exact ⟨rfl, rfl⟩ | (refine _root_.id ?_; kernel_rfl) | omega) only [evs, ext_mv, nth, put, putT, getT, binInt, binStr, binBool, aUn, outA, resA, mapO, resA1, oneOf, w1, w2, w3, bots, cond_true, cond_false, if_true, if_false, ite_true, ite_false, reduceIte, reduceCtorEq, implies_true, Nat.reduceAdd, Nat.reduceSub, AV.int, AV.bool, AV.str, Nat.reduceBEq, Nat.reduceEqDiff, Nat.reduceMul, Nat.reduceLT, Nat.reduceLeDiff, Int.reduceNeg, BEq.rfl, beq_self_eq_true, tabl, cellsOf, fldA, ldA, stA, entAt_new, entAt_old, entAt_old2, List.take_left, List.take_length, partA, takeN, over, leafOk, Value.oneCell', idxA, nilA, cellsEq, fillA, elemsA, pure1, pure2, reps, chkA, tys, Tryd.results102, KX_draw, KX_drawQ, KX_tail, lastO_one, lastO_more, dropL_one, dropL_more, callP_eq, callM_true, w2, w1]
  refine loopS (fun x st => st.T.length = 22 ∧ (x ≤ l.length) ∧ (∀ j, x ≤ j → ∀ x, nth l j = some x → x = 0) ∧ getT st.T 0 = .sref id ep 0 l.length 1 ∧ getT st.T 3 = .int (x : Nat) ∧ st.S = S ∧ st.tk = tk ∧ st.n = k) (fun x => x) (fun x => (.sref id ep 0 (trimL l).length 1, S, tk, k)) (l.length) ?_ ?_
  case refine_2 => exact ⟨rfl, Nat.le_refl _, hz_start l, rfl, rfl, rfl, rfl, rfl⟩
  rintro n ⟨T, S', tk', n'⟩ ⟨hl, hn, hz, e0, e3, eS, eT, eN⟩ IH
  subst eS eT eN
  obtain ⟨g, hg, hT⟩ := tab_of hl
  rw [hg] at e0 e3
  subst hT
  clear hg hl
  by_cases h0 : n = 0
  · have d1 : decide ((n : Int) > 0) = false := by simp; omega
    have ht := trim_stop hn hz (.inl h0)
    simp (maxSteps := 1000000) +contextual (disch := first | with_reducible assumption | exact ⟨rfl⟩ | exact ⟨rfl, rfl⟩ | (refine _root_.id ?_; kernel_rfl) | omega) only [evs, ext_mv, nth, put, putT, getT, binInt, binStr, binBool, aUn, outA, resA, mapO, resA1, oneOf, w1, w2, w3, bots, cond_true, cond_false, if_true, if_false, ite_true, ite_false, reduceIte, reduceCtorEq, implies_true, Nat.reduceAdd, Nat.reduceSub, AV.int, AV.bool, AV.str, Nat.reduceBEq, Nat.reduceEqDiff, Nat.reduceMul, Nat.reduceLT, Nat.reduceLeDiff, Int.reduceNeg, BEq.rfl, beq_self_eq_true, tabl, cellsOf, fldA, ldA, stA, entAt_new, entAt_old, entAt_old2, List.take_left, List.take_length, partA, takeN, over, leafOk, Value.oneCell', idxA, nilA, cellsEq, fillA, elemsA, pure1, pure2, reps, chkA, tys, Tryd.results102, KX_draw, KX_drawQ, KX_tail, lastO_one, lastO_more, dropL_one, dropL_more, callP_eq, callM_true, e0, e3, d1, sliceA, bound, intN_cast, hn, Nat.le_refl, Nat.zero_le, Nat.zero_mul, Nat.sub_zero, Nat.add_zero]
    rw [ht]; simp [h0]
  · have d1 : decide ((n : Int) > 0) = true := by simp; omega
    have hp := pred_idx h0 (by omega)
    have hn1 : n - 1 < l.length := by omega
    obtain ⟨x, hx⟩ := nth_some hn1
    have hx' := nth_num hx
    by_cases hx0 : x = 0
    · have d2 : (x == 0) = true := by simpa using hx0
      simp (maxSteps := 1000000) +contextual (disch := first | with_reducible assumption | exact ⟨rfl⟩ | exact ⟨rfl, rfl⟩ | (refine _root_.id ?_; kernel_rfl) | omega) only [evs, ext_mv, nth, put, putT, getT, binInt, binStr, binBool, aUn, outA, resA, mapO, resA1, oneOf, w1, w2, w3, bots, cond_true, cond_false, if_true, if_false, ite_true, ite_false, reduceIte, reduceCtorEq, implies_true, Nat.reduceAdd, Nat.reduceSub, AV.int, AV.bool, AV.str, Nat.reduceBEq, Nat.reduceEqDiff, Nat.reduceMul, Nat.reduceLT, Nat.reduceLeDiff, Int.reduceNeg, BEq.rfl, beq_self_eq_true, tabl, cellsOf, fldA, ldA, stA, entAt_new, entAt_old, entAt_old2, List.take_left, List.take_length, partA, takeN, over, leafOk, Value.oneCell', idxA, nilA, cellsEq, fillA, elemsA, pure1, pure2, reps, chkA, tys, Tryd.results102, KX_draw, KX_drawQ, KX_tail, lastO_one, lastO_more, dropL_one, dropL_more, callP_eq, callM_true, e0, e3, d1, d2, hp, hx', h, hn1, Nat.mul_one]
      exact IH (n - 1) _ (by first | omega | (simp only; omega)) ⟨rfl, by first | omega | (dsimp only; omega), hz_pred hz hx hx0, (by first | rfl | simp only [getT, List.map_append, List.map_cons, List.map_nil, digC, digA]), (by first | rfl | simp only [getT, List.map_append, List.map_cons, List.map_nil, digC, digA]), (by first | rfl | simp only [getT, List.map_append, List.map_cons, List.map_nil, digC, digA]), rfl, rfl⟩
    · have d2 : (x == 0) = false := by simpa using hx0
      have ht := trim_stop hn hz (.inr ⟨x, hx, hx0⟩)
      simp (maxSteps := 1000000) +contextual (disch := first | with_reducible assumption | exact ⟨rfl⟩ | exact ⟨rfl, rfl⟩ | (refine _root_.id ?_; kernel_rfl) | omega) only [evs, ext_mv, nth, put, putT, getT, binInt, binStr, binBool, aUn, outA, resA, mapO, resA1, oneOf, w1, w2, w3, bots, cond_true, cond_false, if_true, if_false, ite_true, ite_false, reduceIte, reduceCtorEq, implies_true, Nat.reduceAdd, Nat.reduceSub, AV.int, AV.bool, AV.str, Nat.reduceBEq, Nat.reduceEqDiff, Nat.reduceMul, Nat.reduceLT, Nat.reduceLeDiff, Int.reduceNeg, BEq.rfl, beq_self_eq_true, tabl, cellsOf, fldA, ldA, stA, entAt_new, entAt_old, entAt_old2, List.take_left, List.take_length, partA, takeN, over, leafOk, Value.oneCell', idxA, nilA, cellsEq, fillA, elemsA, pure1, pure2, reps, chkA, tys, Tryd.results102, KX_draw, KX_drawQ, KX_tail, lastO_one, lastO_more, dropL_one, dropL_more, callP_eq, callM_true, e0, e3, d1, d2, hp, hx', h, hn1, Nat.mul_one, sliceA, bound, intN_cast, hn, Nat.le_refl, Nat.zero_le, Nat.zero_mul, Nat.sub_zero, Nat.add_zero]
      rw [ht]; simp; omega
/-- a signed number, if it is not too long -/
def sgnF (neg : Bool) (l : List Int) : AV := if 200 < l.length then .tup [bigA false [], .bool false] else .tup [bigA (neg && !decide (l = [])) l, .bool true]
theorem sgn_pure (neg : Bool) (l : List Int) : pure3 (sgnF neg l) = true := by unfold sgnF; split <;> rfl
theorem big_signed (neg : Bool) (l : List Int) (c : Cap) : cL Tryd.prog 71 [.bool neg, .frz (l.map digC) c] S tk k = some (sgnF neg l, S, tk, k) := by
  refine call_pure Tryd.func71 rfl rfl (by decide +kernel) (by decide +kernel) Tryd.ntmps71 rfl rfl _ _ _ (sgn_pure _ _) ?_; rw [RK_KX]
  by_cases h1 : 200 < l.length
  · have d1 : decide ((l.length : Int) > 200) = true := by simp; omega
    simp (maxSteps := 1000000) +contextual (disch := first | with_reducible assumption | exact ⟨rfl⟩ | exact ⟨rfl, rfl⟩ | (refine _root_.id ?_; kernel_rfl) | omega) only [evs, ext_mv, nth, put, putT, getT, binInt, binStr, binBool, aUn, outA, resA, mapO, resA1, oneOf, w1, w2, w3, bots, cond_true, cond_false, if_true, if_false, ite_true, ite_false, reduceIte, reduceCtorEq, implies_true, Nat.reduceAdd, Nat.reduceSub, AV.int, AV.bool, AV.str, Nat.reduceBEq, Nat.reduceEqDiff, Nat.reduceMul, Nat.reduceLT, Nat.reduceLeDiff, Int.reduceNeg, BEq.rfl, beq_self_eq_true, tabl, cellsOf, fldA, ldA, stA, entAt, partA, takeN, over, leafOk, Value.oneCell', idxA, nilA, cellsEq, fillA, elemsA, pure1, pure2, reps, chkA, tys, Tryd.results71, KX_draw, KX_drawQ, KX_tail, lastO_one, lastO_more, dropL_one, dropL_more, callP_eq, callM_true, w2, w1, d1]
    simp [sgnF, h1, bigA, digA]
  have d1 : decide ((l.length : Int) > 200) = false := by simp; omega
  by_cases h2 : l = []
  · subst h2
    simp (maxSteps := 1000000) +contextual (disch := first | with_reducible assumption | exact ⟨rfl⟩ | exact ⟨rfl, rfl⟩ | (refine _root_.id ?_; kernel_rfl) | omega) only [evs, ext_mv, nth, put, putT, getT, binInt, binStr, binBool, aUn, outA, resA, mapO, resA1, oneOf, w1, w2, w3, bots, cond_true, cond_false, if_true, if_false, ite_true, ite_false, reduceIte, reduceCtorEq, implies_true, Nat.reduceAdd, Nat.reduceSub, AV.int, AV.bool, AV.str, Nat.reduceBEq, Nat.reduceEqDiff, Nat.reduceMul, Nat.reduceLT, Nat.reduceLeDiff, Int.reduceNeg, BEq.rfl, beq_self_eq_true, tabl, cellsOf, fldA, ldA, stA, entAt, partA, takeN, over, leafOk, Value.oneCell', idxA, nilA, cellsEq, fillA, elemsA, pure1, pure2, reps, chkA, tys, Tryd.results71, KX_draw, KX_drawQ, KX_tail, lastO_one, lastO_more, dropL_one, dropL_more, callP_eq, callM_true, w2, w1, List.map_nil]
    simp [sgnF, bigA, digA]
  · have d2 := len_eq_zero h2
    simp (maxSteps := 1000000) +contextual (disch := first | with_reducible assumption | exact ⟨rfl⟩ | exact ⟨rfl, rfl⟩ | (refine _root_.id ?_; kernel_rfl) | omega) only [evs, ext_mv, nth, put, putT, getT, binInt, binStr, binBool, aUn, outA, resA, mapO, resA1, oneOf, w1, w2, w3, bots, cond_true, cond_false, if_true, if_false, ite_true, ite_false, reduceIte, reduceCtorEq, implies_true, Nat.reduceAdd, Nat.reduceSub, AV.int, AV.bool, AV.str, Nat.reduceBEq, Nat.reduceEqDiff, Nat.reduceMul, Nat.reduceLT, Nat.reduceLeDiff, Int.reduceNeg, BEq.rfl, beq_self_eq_true, tabl, cellsOf, fldA, ldA, stA, entAt, partA, takeN, over, leafOk, Value.oneCell', idxA, nilA, cellsEq, fillA, elemsA, pure1, pure2, reps, chkA, tys, Tryd.results71, KX_draw, KX_drawQ, KX_tail, lastO_one, lastO_more, dropL_one, dropL_more, callP_eq, callM_true, w2, w1, d1, d2]
    simp [sgnF, h1, h2, bigA, digA]
end
end Go.Proofs.YtgadegdhfjnoaaaDoor
/-
  What the functions of the numbers compute: comparing, opposite numbers, ints.
-/

namespace Go.Proofs.YtgadegdhfjnoaaaDoor
open Go

theorem lt_top : ∀ {l r : List Int} {i : Nat} {x y : Int}, l.length = r.length → okD l → okD r → nth l i = some x → nth r i = some y → x < y → (∀ j, i < j → nth l j = nth r j) → val l < val r
  | d :: l, e :: r, 0, x, y, hl, h1, h2, hx, hy, hxy, he => by
    simp only [nth, Option.some.injEq] at hx hy; subst hx hy
    have : l = r := by
      apply List.ext_getElem?
      intro j
      have := he (j + 1) (by omega)
      simp only [nth, nth_get] at this; exact this
    subst this; simp only [val]; omega
  | d :: l, e :: r, i + 1, x, y, hl, h1, h2, hx, hy, hxy, he => by
    have ih := lt_top (l := l) (r := r) (i := i) (by simpa using hl) (fun z hz => h1 z (by simp [hz])) (fun z hz => h2 z (by simp [hz])) hx hy hxy fun j hj => he (j + 1) (by omega)
    have g1 := h1 d (by simp)
    have g2 := h2 e (by simp)
    simp only [val]; omega
  | [], _, _, _, _, _, _, _, hx, _, _, _ => by simp [nth] at hx
  | _ :: _, [], _, _, _, _, _, _, _, hy, _, _ => by simp [nth] at hy
def cmpN (a b : Nat) : Int := if a < b then -1 else if b < a then 1 else 0
theorem cmp_shorter {a b : Nat} (h : (dig a).length < (dig b).length) : a < b := by
  have h1 := dig_len (n := a) (k := (dig a).length)
  have h2 := dig_len (n := b) (k := (dig a).length)
  have h3 : ¬ (dig b).length ≤ (dig a).length := by omega
  rw [h2] at h3
  have := h1.1 (Nat.le_refl _)
  omega
theorem cmp_at {a b i : Nat} {x y : Int} (hl : (dig a).length = (dig b).length) (hx : nth (dig a) i = some x) (hy : nth (dig b) i = some y) (h : x < y) (he : ∀ j, i < j → nth (dig a) j = nth (dig b) j) : a < b := by
  have := lt_top hl (okD_dig a) (okD_dig b) hx hy h he
  rw [val_dig, val_dig] at this; omega
theorem cmp_same {a b : Nat} (he : ∀ j, nth (dig a) j = nth (dig b) j) : a = b := by
  refine dig_inj (List.ext_getElem? fun j => ?_)
  rw [← nth_get, ← nth_get]; exact he j
theorem top_idx {n : Nat} (hl : n ≤ 1000000) : IntKind.i64.wrap ((n : Int) - 1) = (n : Int) - 1 := wrap_of (by unfold i64; omega)

section
variable (S : List Ent) (tk : List Nat) (k : Nat)
theorem big_compare (a b : Nat) (ha : (dig a).length ≤ 1000000) (hb : (dig b).length ≤ 1000000) : cL Tryd.prog 95 [digA (dig a), digA (dig b)] S tk k = some (.int (cmpN a b), S, tk, k) := by
  refine call_pure Tryd.func95 rfl rfl (by decide +kernel) (by decide +kernel) Tryd.ntmps95 rfl rfl _ _ _ rfl ?_; rw [RK_KX]
  by_cases hl : (dig a).length = (dig b).length
  case neg =>
    have d1 : (((dig a).length : Int) != ((dig b).length : Int)) = true := by simp; omega
    rcases Nat.lt_or_ge (dig a).length (dig b).length with h | h
    · have d2 : decide (((dig a).length : Int) < ((dig b).length : Int)) = true := by simpa using h
      have := cmp_shorter h
      simp (maxSteps := 1000000) +contextual (disch := first | with_reducible assumption | exact ⟨rfl⟩ | exact ⟨rfl, rfl⟩ | (refine _root_.id ?_; kernel_rfl) | omega) only [evs, ext_mv, nth, put, putT, getT, binInt, binStr, binBool, aUn, outA, resA, mapO, resA1, oneOf, w1, w2, w3, bots, cond_true, cond_false, if_true, if_false, ite_true, ite_false, reduceIte, reduceCtorEq, implies_true, Nat.reduceAdd, Nat.reduceSub, AV.int, AV.bool, AV.str, Nat.reduceBEq, Nat.reduceEqDiff, Nat.reduceMul, Nat.reduceLT, Nat.reduceLeDiff, Int.reduceNeg, BEq.rfl, beq_self_eq_true, tabl, cellsOf, fldA, ldA, stA, entAt, partA, takeN, over, leafOk, Value.oneCell', idxA, nilA, cellsEq, fillA, elemsA, pure1, pure2, reps, chkA, tys, Tryd.results95, KX_draw, KX_drawQ, KX_tail, lastO_one, lastO_more, dropL_one, dropL_more, callP_eq, callM_true, digA, d1, d2]
      simp [cmpN, this]
    · have d2 : decide (((dig a).length : Int) < ((dig b).length : Int)) = false := by simp; omega
      have := cmp_shorter (a := b) (b := a) (by omega)
      simp (maxSteps := 1000000) +contextual (disch := first | with_reducible assumption | exact ⟨rfl⟩ | exact ⟨rfl, rfl⟩ | (refine _root_.id ?_; kernel_rfl) | omega) only [evs, ext_mv, nth, put, putT, getT, binInt, binStr, binBool, aUn, outA, resA, mapO, resA1, oneOf, w1, w2, w3, bots, cond_true, cond_false, if_true, if_false, ite_true, ite_false, reduceIte, reduceCtorEq, implies_true, Nat.reduceAdd, Nat.reduceSub, AV.int, AV.bool, AV.str, Nat.reduceBEq, Nat.reduceEqDiff, Nat.reduceMul, Nat.reduceLT, Nat.reduceLeDiff, Int.reduceNeg, BEq.rfl, beq_self_eq_true, tabl, cellsOf, fldA, ldA, stA, entAt, partA, takeN, over, leafOk, Value.oneCell', idxA, nilA, cellsEq, fillA, elemsA, pure1, pure2, reps, chkA, tys, Tryd.results95, KX_draw, KX_drawQ, KX_tail, lastO_one, lastO_more, dropL_one, dropL_more, callP_eq, callM_true, digA, d1, d2]
      rw [cmpN, if_neg (by omega), if_pos this]
  have d1 : (((dig a).length : Int) != ((dig b).length : Int)) = false := by simp; omega
  have d3 := top_idx ha
  simp (maxSteps := 1000000) +contextual (disch := first | with_reducible assumption | exact ⟨rfl⟩ | exact ⟨rfl, rfl⟩ | (refine _root_.id ?_; kernel_rfl) | omega) only [evs, ext_mv, nth, put, putT, getT, binInt, binStr, binBool, aUn, outA, resA, mapO, resA1, oneOf, w1, w2, w3, bots, cond_true, cond_false, if_true, if_false, ite_true, ite_false, reduceIte, reduceCtorEq, implies_true, Nat.reduceAdd, Nat.reduceSub, AV.int, AV.bool, AV.str, Nat.reduceBEq, Nat.reduceEqDiff, Nat.reduceMul, Nat.reduceLT, Nat.reduceLeDiff, Int.reduceNeg, BEq.rfl, beq_self_eq_true, tabl, cellsOf, fldA, ldA, stA, entAt, partA, takeN, over, leafOk, Value.oneCell', idxA, nilA, cellsEq, fillA, elemsA, pure1, pure2, reps, chkA, tys, Tryd.results95, KX_draw, KX_drawQ, KX_tail, lastO_one, lastO_more, dropL_one, dropL_more, callP_eq, callM_true, digA, d1, d3]
  refine loop1 (fun x st => st.T.length = 41 ∧ (x ≤ (dig a).length) ∧ (∀ j, x ≤ j → nth (dig a) j = nth (dig b) j) ∧ getT st.T 0 = digA (dig a) ∧ getT st.T 1 = digA (dig b) ∧ getT st.T 5 = .int ((x : Int) - 1) ∧ st.S = []) (fun x => x) (fun x => .int (cmpN a b)) ((dig a).length) ?_ ?_
  case refine_2 => exact ⟨rfl, Nat.le_refl _, fun j hj => by rw [nth_get, nth_get, List.getElem?_eq_none hj, List.getElem?_eq_none (by omega)], rfl, rfl, rfl, rfl⟩
  rintro n ⟨T, S', tk', n'⟩ ⟨hl, hn, he, e0, e1, e5, eS⟩ IH
  subst eS
  obtain ⟨g, hg, hT⟩ := tab_of hl
  rw [hg] at e0 e1 e5
  subst hT
  clear hg hl
  by_cases h0 : n = 0
  · have d2 : decide ((n : Int) - 1 ≥ 0) = false := by simp; omega
    have := cmp_same fun j => he j (by omega)
    subst this
    simp (maxSteps := 1000000) +contextual (disch := first | with_reducible assumption | exact ⟨rfl⟩ | exact ⟨rfl, rfl⟩ | (refine _root_.id ?_; kernel_rfl) | omega) only [evs, ext_mv, nth, put, putT, getT, binInt, binStr, binBool, aUn, outA, resA, mapO, resA1, oneOf, w1, w2, w3, bots, cond_true, cond_false, if_true, if_false, ite_true, ite_false, reduceIte, reduceCtorEq, implies_true, Nat.reduceAdd, Nat.reduceSub, AV.int, AV.bool, AV.str, Nat.reduceBEq, Nat.reduceEqDiff, Nat.reduceMul, Nat.reduceLT, Nat.reduceLeDiff, Int.reduceNeg, BEq.rfl, beq_self_eq_true, tabl, cellsOf, fldA, ldA, stA, entAt, partA, takeN, over, leafOk, Value.oneCell', idxA, nilA, cellsEq, fillA, elemsA, pure1, pure2, reps, chkA, tys, Tryd.results95, KX_draw, KX_drawQ, KX_tail, lastO_one, lastO_more, dropL_one, dropL_more, callP_eq, callM_true, e0, e1, e5, d2, digA]
    simp [cmpN]
  · have d2 : decide ((n : Int) - 1 ≥ 0) = true := by simp; omega
    have hi : (n : Int) - 1 = ((n - 1 : Nat) : Int) := by omega
    obtain ⟨x, hx⟩ := nth_some (show n - 1 < (dig a).length by omega)
    obtain ⟨y, hy⟩ := nth_some (show n - 1 < (dig b).length by omega)
    have hx' := nth_dig hx
    have hy' := nth_dig hy
    have he' : ∀ j, n - 1 < j → nth (dig a) j = nth (dig b) j := fun j hj => he j (by omega)
    have hp := top_idx (n := n - 1) (by omega)
    rw [hi] at e5 d2
    simp (maxSteps := 1000000) +contextual (disch := first | with_reducible assumption | exact ⟨rfl⟩ | exact ⟨rfl, rfl⟩ | (refine _root_.id ?_; kernel_rfl) | omega) only [evs, ext_mv, nth, put, putT, getT, binInt, binStr, binBool, aUn, outA, resA, mapO, resA1, oneOf, w1, w2, w3, bots, cond_true, cond_false, if_true, if_false, ite_true, ite_false, reduceIte, reduceCtorEq, implies_true, Nat.reduceAdd, Nat.reduceSub, AV.int, AV.bool, AV.str, Nat.reduceBEq, Nat.reduceEqDiff, Nat.reduceMul, Nat.reduceLT, Nat.reduceLeDiff, Int.reduceNeg, BEq.rfl, beq_self_eq_true, tabl, cellsOf, fldA, ldA, stA, entAt, partA, takeN, over, leafOk, Value.oneCell', idxA, nilA, cellsEq, fillA, elemsA, pure1, pure2, reps, chkA, tys, Tryd.results95, KX_draw, KX_drawQ, KX_tail, lastO_one, lastO_more, dropL_one, dropL_more, callP_eq, callM_true, e0, e1, e5, d2, digA, hx', hy', hp]
    refine ⟨fun h1 => ?_, fun h1 => ⟨fun h2 => ?_, fun h2 => ?_⟩⟩
    · have := cmp_at hl hx hy (by simpa using h1) he'
      simp [cmpN, this]
    · have := cmp_at hl.symm hy hx (by simpa using h2) fun j hj => (he' j hj).symm
      rw [cmpN, if_neg (by omega), if_pos this]
    · have hxy : x = y := by simp at h1 h2; omega
      exact IH (n - 1) _ (by first | omega | (simp only; omega)) ⟨rfl, by first | omega | (dsimp only; omega), fun j hj => by by_cases e : j = n - 1; (· rw [e, hx, hy, hxy]); exact he' j (by first | omega | (dsimp only; omega)), (by first | rfl | simp only [getT, List.map_append, List.map_cons, List.map_nil, digC, digA]), (by first | rfl | simp only [getT, List.map_append, List.map_cons, List.map_nil, digC, digA]), (by first | rfl | simp only [getT, List.map_append, List.map_cons, List.map_nil, digC, digA]), (by first | rfl | simp only [getT, List.map_append, List.map_cons, List.map_nil, digC, digA])⟩
def sameL : List Int → List Int → Bool
  | [], _ => true
  | _, [] => true
  | a :: l, b :: r => if a == b then sameL l r else false
end
end Go.Proofs.YtgadegdhfjnoaaaDoor
/-
  What the functions of the numbers compute: sums of digits.
-/

namespace Go.Proofs.YtgadegdhfjnoaaaDoor
open Go

theorem put_end {S : List Ent} {e e' : Ent} : put (S ++ [e]) S.length e' = S ++ [e'] := put_new
theorem set_same {l : List Int} {i j : Nat} {x v : Int} (h : nth (l.set i v) j = some x) : (j = i ∧ x = v) ∨ (j ≠ i ∧ nth l j = some x) := by
  rw [← put_set] at h
  by_cases e : i = j
  · subst e; exact .inl ⟨rfl, nth_put_same h⟩
  · rw [nth_put_other e] at h; exact .inr ⟨fun h => e h.symm, h⟩
theorem nth_set_same {l : List Int} {i : Nat} {v : Int} (h : i < l.length) : nth (l.set i v) i = some v := by
  rw [nth_get, List.getElem?_set_self h]
theorem nth_set_other {l : List Int} {i j : Nat} {v : Int} (h : i ≠ j) : nth (l.set i v) j = nth l j := by
  rw [nth_get, nth_get, List.getElem?_set_ne h]
theorem okD_of {l : List Int} (h : ∀ j x, nth l j = some x → 0 ≤ x ∧ x < 10000) : okD l := fun d hd => by
  obtain ⟨j, hj⟩ := List.mem_iff_getElem?.1 hd
  exact h j d (by rw [nth_get]; exact hj)
theorem of_okD {l : List Int} (h : okD l) {j : Nat} {x : Int} (hx : nth l j = some x) : 0 ≤ x ∧ x < 10000 := h x (by rw [nth_get] at hx; exact List.mem_of_getElem? hx)
/-- a list put ahead of zeros -/
def padL (l : List Int) (n : Nat) : List Int := l ++ List.replicate (n - l.length) 0
theorem padL_len {l : List Int} {n : Nat} (h : l.length ≤ n) : (padL l n).length = n := by simp [padL]; omega
theorem padL_val (l : List Int) (n : Nat) : val (padL l n) = val l := by rw [padL, val_append, val_replicate]; omega
theorem padL_at {l : List Int} {n j : Nat} {x : Int} (h : nth (padL l n) j = some x) : nth l j = some x ∨ (l.length ≤ j ∧ x = 0) := by
  rw [nth_get, padL] at h
  by_cases hj : j < l.length
  · rw [List.getElem?_append_left hj] at h; left; rw [nth_get]; exact h
  · rw [List.getElem?_append_right (by omega)] at h
    right
    refine ⟨by omega, ?_⟩
    have := List.mem_of_getElem? h
    exact (List.mem_replicate.1 this).2
theorem zeros_num (n : Nat) : (List.replicate n [(.prim (.int .i64 0) : AV)]).flatten = (List.replicate n (0 : Int)).map numC := by
  rw [flat_one, List.map_replicate]; rfl
theorem over_prefix : ∀ (vs cs : List AV), vs.length ≤ cs.length → over cs 0 vs = some (vs ++ cs.drop vs.length)
  | [], cs, _ => by cases cs <;> rfl
  | v :: vs, c :: cs, h => by simp only [over, over_prefix vs cs (by simpa using h), Option.map_some, List.cons_append, List.length_cons, List.drop_succ_cons]
  | _ :: _, [], h => by simp at h
theorem over_pad {l : List Int} {n : Nat} (h : l.length ≤ n) : over ((List.replicate n (0 : Int)).map numC) 0 (l.map numC) = some ((padL l n).map numC) := by
  rw [over_prefix _ _ (by simpa using h)]
  congr 1
  rw [padL, List.map_append]
  congr 1
  simp [← List.map_drop]
theorem flat_dig (l : List Int) : (l.map digC).flatten = l.map numC := by
  induction l with
  | nil => rfl
  | cons x l ih => simp only [List.map_cons, List.flatten_cons, ih]; rfl
theorem leaf_num (l : List Int) : (l.map numC).all leafOk = true := by
  rw [List.all_map, List.all_eq_true]; intro x _; rfl
def zeroC (n : Nat) : List AV := (List.replicate n (0 : Int)).map numC
/-- make([]int, n) -/
theorem mk_num {P : Program} {t : TypeId} {n : Nat} (hz : (elemOf P t).bind (zeroOf P) = some [.prim (.int .i64 0)]) (hs : (elemOf P t).bind (szOf P) = some 1) (hb : (elemOf P t).bind (bytesOf P) = some 8) (hn : n ≤ 1048576) :
    mkA P t (.prim (.int .i64 (n : Int))) (.prim (.int .i64 (n : Int))) = some (n, 1, zeroC n) := by
  unfold mkA
  rw [hz, hs, hb, intN_cast]
  simp only [mkB]
  rw [if_pos ⟨Nat.le_refl _, hn, by omega, rfl⟩, zeros_num]; rfl
/-- copy of digits into zeros -/
theorem cp_num {P : Program} {t : TypeId} {n id ep : Nat} {l : List Int} {c : Cap} {S : List Ent} (hs : (elemOf P t).bind (szOf P) = some 1) (hl : l.length ≤ n) (h : entAt S id ep = some (zeroC n)) :
    cpA P t (.sref id ep 0 n 1) (.frz (l.map digC) c) S = some (l.length, put S id ⟨ep, (padL l n).map numC⟩) := by
  unfold cpA
  simp only [lenA, List.length_map, hs, if_true, srcA, rowsOk_dig, h]
  have hm : min l.length n = l.length := by omega
  unfold zeroC
  rw [hm, List.take_of_length_le (by simp), flat_dig]
  simp only [leaf_num, if_true, over_pad hl]
theorem trim_is_take : ∀ l : List Int, trimL l = l.take (trimL l).length
  | [] => rfl
  | d :: l => by
    rw [trimL]
    split
    · rfl
    · simp only [List.length_cons, List.take_succ_cons]
      rw [← trim_is_take l]
theorem pow_pos4 (n : Nat) : (0 : Int) < 10000 ^ n := Int.pow_pos (by omega)
/-- the state after the digits have been added one by one -/
structure Plus1 (a b la i : Nat) (out : List Int) : Prop where
  len : out.length = la + 1
  val : val out + 10000 ^ i * val ((dig b).drop i) = (a + b : Nat)
  ok : ∀ j x, nth out j = some x → 0 ≤ x ∧ (j < i → x ≤ 19998) ∧ (i ≤ j → x < 10000) ∧ (j = la → x = 0)
theorem Plus1.start {a b : Nat} : Plus1 a b (dig a).length 0 (padL (dig a) ((dig a).length + 1)) := by
  refine ⟨padL_len (by omega), ?_, fun j x hx => ?_⟩
  · rw [padL_val, val_dig, List.drop_zero, val_dig]; simp
  · rcases padL_at hx with h | ⟨h, rfl⟩
    · have := of_okD (okD_dig a) h
      have hl := nth_lt h
      exact ⟨this.1, by omega, fun _ => this.2, fun e => by omega⟩
    · exact ⟨by omega, by omega, by omega, fun _ => rfl⟩
theorem Plus1.step {a b la i : Nat} {out : List Int} {x d : Int} (h : Plus1 a b la i out) (hb : i < la) (hx : nth out i = some x) (hd : nth (dig b) i = some d) : Plus1 a b la (i + 1) (out.set i (x + d)) := by
  have hdk := of_okD (okD_dig b) hd
  refine ⟨by rw [List.length_set]; exact h.len, ?_, fun j y hy => ?_⟩
  · have hv := h.val
    rw [nth_drop hd, Go.Proofs.YtgadegdhfjnoaaaDoor.val] at hv
    rw [val_set hx, ← hv, Int.pow_succ, Int.mul_add]
    have e1 : x + d - x = d := by omega
    rw [e1, Int.mul_comm d, Int.mul_assoc]; omega
  · rcases set_same hy with ⟨rfl, rfl⟩ | ⟨hne, hy⟩
    · have := h.ok _ x hx
      exact ⟨by omega, by omega, by omega, by omega⟩
    · have := h.ok j y hy
      exact ⟨this.1, fun hj => this.2.1 (by omega), fun hj => this.2.2.1 (by omega), this.2.2.2⟩
/-- .. and while the carries are taken on -/
structure Plus2 (v la i : Nat) (out : List Int) : Prop where
  len : out.length = la + 1
  val : val out = v
  ok : ∀ j x, nth out j = some x → 0 ≤ x ∧ (j < i → x < 10000) ∧ (j = i → x ≤ 19999) ∧ (i < j → x ≤ 19998) ∧ (j = la → x ≤ 1 ∧ (i < la → x = 0))
theorem Plus2.start {a b la : Nat} {out : List Int} (h : Plus1 a b la (dig b).length out) : Plus2 (a + b) la 0 out := by
  refine ⟨h.len, ?_, fun j x hx => ?_⟩
  · have := h.val
    rw [List.drop_length, Go.Proofs.YtgadegdhfjnoaaaDoor.val] at this; omega
  · have := h.ok j x hx
    refine ⟨this.1, by omega, fun _ => ?_, fun _ => ?_, fun e => ⟨by have := this.2.2.2 e; omega, fun _ => this.2.2.2 e⟩⟩
    · rcases Nat.lt_or_ge j (dig b).length with hj | hj
      · have := this.2.1 hj; omega
      · have := this.2.2.1 hj; omega
    · rcases Nat.lt_or_ge j (dig b).length with hj | hj
      · exact this.2.1 hj
      · have := this.2.2.1 hj; omega
theorem Plus2.small {v la i : Nat} {out : List Int} {x : Int} (h : Plus2 v la i out) (hi : i < la) (hx : nth out i = some x) (h1 : x < 10000) : Plus2 v la (i + 1) out := by
  refine ⟨h.len, h.val, fun j y hy => ?_⟩
  have := h.ok j y hy
  refine ⟨this.1, fun hj => ?_, fun hj => by have := this.2.2.2.1 (by omega); omega, fun hj => this.2.2.2.1 (by omega), fun e => ⟨(this.2.2.2.2 e).1, fun _ => (this.2.2.2.2 e).2 hi⟩⟩
  by_cases e : j = i
  · subst e; rw [hx] at hy; simp only [Option.some.injEq] at hy; omega
  · exact this.2.1 (by omega)
theorem Plus2.big {v la i : Nat} {out : List Int} {x y : Int} (h : Plus2 v la i out) (hi : i < la) (hx : nth out i = some x) (h1 : 10000 ≤ x) (hy : nth (out.set i (x - 10000)) (i + 1) = some y) : Plus2 v la (i + 1) ((out.set i (x - 10000)).set (i + 1) (y + 1)) := by
  refine ⟨by rw [List.length_set, List.length_set]; exact h.len, ?_, fun j z hz => ?_⟩
  · rw [val_set hy, val_set hx, ← h.val, Int.pow_succ]
    have e1 : x - 10000 - x = -10000 := by omega
    have e2 : y + 1 - y = 1 := by omega
    rw [e1, e2, Int.one_mul, Int.mul_comm (10000 ^ i) 10000, Int.neg_mul]; omega
  · have hyo : nth out (i + 1) = some y := by
      rcases set_same hy with ⟨e, -⟩ | ⟨-, hy⟩
      · omega
      · exact hy
    have hk := h.ok i x hx
    have hky := h.ok (i + 1) y hyo
    rcases set_same hz with ⟨rfl, rfl⟩ | ⟨hne, hz⟩
    · refine ⟨by omega, by omega, fun _ => by have := hky.2.2.2.1 (by omega); omega, by omega, fun e => ?_⟩
      have := (hky.2.2.2.2 e).2 hi
      exact ⟨by omega, by omega⟩
    · rcases set_same hz with ⟨rfl, rfl⟩ | ⟨hne2, hz⟩
      · exact ⟨by omega, fun _ => by omega, by omega, by omega, by omega⟩
      · have := h.ok j z hz
        exact ⟨this.1, fun hj => this.2.1 (by omega), fun hj => by omega, fun hj => this.2.2.2.1 (by omega), fun e => ⟨(this.2.2.2.2 e).1, fun _ => (this.2.2.2.2 e).2 hi⟩⟩
theorem Plus2.done {v la : Nat} {out : List Int} (h : Plus2 v la la out) : trimL out = dig v := by
  have hk : okD out := okD_of fun j x hx => by
    have := h.ok j x hx
    have hl := nth_lt hx
    rw [h.len] at hl
    refine ⟨this.1, ?_⟩
    rcases Nat.lt_or_ge j la with hj | hj
    · exact this.2.1 hj
    · have := (this.2.2.2.2 (by omega)).1; omega
  rw [trim_dig hk, h.val]; congr 1
section
variable (S : List Ent) (tk : List Nat) (k : Nat)
theorem big_plus (a b : Nat) (ha : (dig a).length ≤ 100000) (hb : (dig b).length ≤ 100000) : cL Tryd.prog 94 [digA (dig a), digA (dig b)] S tk k = some (digA (dig (a + b)), S, tk, k) := by
  refine call_pure Tryd.func94 rfl rfl (by decide +kernel) (by decide +kernel) Tryd.ntmps94 rfl rfl _ _ _ rfl ?_; rw [RK_KX]
  rcases Nat.lt_or_ge (dig a).length (dig b).length with h | h
  · have d1 : decide (((dig a).length : Int) < ((dig b).length : Int)) = true := by simpa using h
    rw [Nat.add_comm]
    have hw : IntKind.i64.wrap (((dig b).length : Int) + 1) = (((dig b).length + 1 : Nat) : Int) := wrap_add (by omega)
    have hbo : (elemOf Tryd.prog 22).bind (bytesOf Tryd.prog) = some 8 := by kernel_rfl
    have hmk := mk_num (P := Tryd.prog) (t := 22) (n := (dig b).length + 1) (by simp only [tys, Option.bind_some]) (by simp only [tys, Option.bind_some]) hbo (by omega)
    have hcp := cp_num (P := Tryd.prog) (t := 22) (n := (dig b).length + 1) (id := 0) (ep := 0) (l := dig b) (c := .unk) (S := [⟨0, zeroC ((dig b).length + 1)⟩]) (by simp only [tys, Option.bind_some]) (by omega) rfl
    simp (maxSteps := 1000000) +contextual (disch := first | with_reducible assumption | exact ⟨rfl⟩ | exact ⟨rfl, rfl⟩ | (refine _root_.id ?_; kernel_rfl) | omega) only [evs, ext_mv, nth, put, putT, getT, binInt, binStr, binBool, aUn, outA, resA, mapO, resA1, oneOf, w1, w2, w3, bots, cond_true, cond_false, if_true, if_false, ite_true, ite_false, reduceIte, reduceCtorEq, implies_true, Nat.reduceAdd, Nat.reduceSub, AV.int, AV.bool, AV.str, Nat.reduceBEq, Nat.reduceEqDiff, Nat.reduceMul, Nat.reduceLT, Nat.reduceLeDiff, Int.reduceNeg, BEq.rfl, beq_self_eq_true, tabl, cellsOf, fldA, ldA, stA, entAt, partA, takeN, over, leafOk, Value.oneCell', idxA, nilA, cellsEq, fillA, elemsA, pure1, pure2, reps, chkA, tys, Tryd.results94, KX_draw, KX_drawQ, KX_tail, lastO_one, lastO_more, dropL_one, dropL_more, callP_eq, callM_true, digA, d1, hw, hmk, hcp]
    refine loop1 (fun x st => st.T.length = 64 ∧ (x.1 ≤ (dig a).length) ∧ (Plus1 b a (dig b).length x.1 x.2) ∧ getT st.T 0 = digA (dig b) ∧ getT st.T 5 = .sref 0 0 0 ((dig b).length + 1) 1 ∧ getT st.T 23 = digA (dig a) ∧ getT st.T 24 = .int (dig a).length ∧ getT st.T 25 = .int (x.1 : Nat) ∧ st.S = [⟨0, x.2.map numC⟩]) (fun x => (dig a).length - x.1) (fun x => digA (dig (b + a))) (0, padL (dig b) ((dig b).length + 1)) ?_ ?_
    case refine_2 => exact ⟨rfl, Nat.zero_le _, Plus1.start, rfl, rfl, rfl, rfl, rfl, rfl⟩
    rintro ⟨i, out⟩ ⟨T, S', tk', n'⟩ ⟨hl, hi, hp, e0, e5, e23, e24, e25, eS⟩ IH
    simp only at hi hp e0 e5 e23 e24 e25 eS
    subst eS
    obtain ⟨g, hg, hT⟩ := tab_of hl
    rw [hg] at e0 e5 e23 e24 e25
    subst hT
    clear hg hl
    have hlen := hp.len
    by_cases hlt : i < (dig a).length
    · have d2 : decide ((i : Int) < ((dig a).length : Int)) = true := by simpa using hlt
      obtain ⟨d, hd⟩ := nth_some hlt
      have hd' := nth_dig hd
      have hiw := wrap_add (i := i) (by omega)
      obtain ⟨x, hx⟩ := nth_some (show i < out.length by omega)
      have hx' := nth_num hx
      have hin : i < (dig b).length + 1 := by omega
      have hxd := (hp.ok i x hx).2.2.1 (Nat.le_refl _)
      have hx0 := (hp.ok i x hx).1
      have hdk := of_okD (okD_dig a) hd
      have hws : IntKind.i64.wrap (x + d) = x + d := wrap_of (by unfold i64; omega)
      have hov := over_num (v := x + d) hx
      simp (maxSteps := 1000000) +contextual (disch := first | with_reducible assumption | exact ⟨rfl⟩ | exact ⟨rfl, rfl⟩ | (refine _root_.id ?_; kernel_rfl) | omega) only [evs, ext_mv, nth, put, putT, getT, binInt, binStr, binBool, aUn, outA, resA, mapO, resA1, oneOf, w1, w2, w3, bots, cond_true, cond_false, if_true, if_false, ite_true, ite_false, reduceIte, reduceCtorEq, implies_true, Nat.reduceAdd, Nat.reduceSub, AV.int, AV.bool, AV.str, Nat.reduceBEq, Nat.reduceEqDiff, Nat.reduceMul, Nat.reduceLT, Nat.reduceLeDiff, Int.reduceNeg, BEq.rfl, beq_self_eq_true, tabl, cellsOf, fldA, ldA, stA, entAt, partA, takeN, over, leafOk, Value.oneCell', idxA, nilA, cellsEq, fillA, elemsA, pure1, pure2, reps, chkA, tys, Tryd.results94, KX_draw, KX_drawQ, KX_tail, lastO_one, lastO_more, dropL_one, dropL_more, callP_eq, callM_true, digA, e0, e5, e23, e24, e25, d2, hd', hiw, hx', hin, hws, hov, Nat.mul_one]
      exact IH (i + 1, out.set i (x + d)) _ (by first | omega | (simp only; omega)) ⟨rfl, by first | omega | (dsimp only; omega), hp.step (by first | omega | (dsimp only; omega)) hx hd, (by first | rfl | simp only [getT, List.map_append, List.map_cons, List.map_nil, digC, digA]), (by first | rfl | simp only [getT, List.map_append, List.map_cons, List.map_nil, digC, digA]), (by first | rfl | simp only [getT, List.map_append, List.map_cons, List.map_nil, digC, digA]), (by first | rfl | simp only [getT, List.map_append, List.map_cons, List.map_nil, digC, digA]), (by first | rfl | simp only [getT, List.map_append, List.map_cons, List.map_nil, digC, digA]), (by first | rfl | simp only [getT, List.map_append, List.map_cons, List.map_nil, digC, digA])⟩
    · have d2 : decide ((i : Int) < ((dig a).length : Int)) = false := by simpa using hlt
      have he : i = (dig a).length := by omega
      subst he
      have hp2 := Plus2.start hp
      clear IH hp
      simp (maxSteps := 1000000) +contextual (disch := first | with_reducible assumption | exact ⟨rfl⟩ | exact ⟨rfl, rfl⟩ | (refine _root_.id ?_; kernel_rfl) | omega) only [evs, ext_mv, nth, put, putT, getT, binInt, binStr, binBool, aUn, outA, resA, mapO, resA1, oneOf, w1, w2, w3, bots, cond_true, cond_false, if_true, if_false, ite_true, ite_false, reduceIte, reduceCtorEq, implies_true, Nat.reduceAdd, Nat.reduceSub, AV.int, AV.bool, AV.str, Nat.reduceBEq, Nat.reduceEqDiff, Nat.reduceMul, Nat.reduceLT, Nat.reduceLeDiff, Int.reduceNeg, BEq.rfl, beq_self_eq_true, tabl, cellsOf, fldA, ldA, stA, entAt, partA, takeN, over, leafOk, Value.oneCell', idxA, nilA, cellsEq, fillA, elemsA, pure1, pure2, reps, chkA, tys, Tryd.results94, KX_draw, KX_drawQ, KX_tail, lastO_one, lastO_more, dropL_one, dropL_more, callP_eq, callM_true, digA, e0, e5, e23, e24, e25, d2]
      refine loop1 (fun x st => st.T.length = 64 ∧ (x.1 ≤ (dig b).length) ∧ (Plus2 (b + a) (dig b).length x.1 x.2) ∧ getT st.T 5 = .sref 0 0 0 ((dig b).length + 1) 1 ∧ getT st.T 39 = .int (dig b).length ∧ getT st.T 40 = .int (x.1 : Nat) ∧ st.S = [⟨0, x.2.map numC⟩]) (fun x => (dig b).length - x.1) (fun x => digA (dig (b + a))) (0, out) ?_ ?_
      case refine_2 => exact ⟨rfl, Nat.zero_le _, hp2, rfl, rfl, rfl, rfl⟩
      rintro ⟨i, out⟩ ⟨T, S', tk', n'⟩ ⟨hl, hi, hp, e5, e39, e40, eS⟩ IH
      simp only at hi hp e5 e39 e40 eS
      subst eS
      obtain ⟨g, hg, hT⟩ := tab_of hl
      rw [hg] at e5 e39 e40
      subst hT
      clear hg hl
      clear hlen
      have hlen := hp.len
      by_cases hlt : i < (dig b).length
      · have d2 : decide ((i : Int) < ((dig b).length : Int)) = true := by simpa using hlt
        have hiw := wrap_add (i := i) (by omega)
        obtain ⟨x, hx⟩ := nth_some (show i < out.length by omega)
        have hx' := nth_num hx
        have hin : i < (dig b).length + 1 := by omega
        have hin2 : i + 1 < (dig b).length + 1 := by omega
        have hk := hp.ok i x hx
        have hx2 := hk.2.2.1 rfl
        by_cases hbig : 10000 ≤ x
        · have d3 : decide (x ≥ 10000) = true := by simpa using hbig
          obtain ⟨y, hy⟩ := nth_some (show i + 1 < (out.set i (x - 10000)).length by rw [List.length_set]; omega)
          have hy' := nth_num hy
          have hyk := hp.ok (i + 1) y (by
            rcases set_same hy with ⟨e, -⟩ | ⟨-, hy⟩
            · omega
            · exact hy)
          have hy2 := hyk.2.2.2.1 (by omega)
          have hw1 : IntKind.i64.wrap (x - 10000) = x - 10000 := wrap_of (by unfold i64; omega)
          have hw2 : IntKind.i64.wrap (y + 1) = y + 1 := wrap_of (by unfold i64; omega)
          have hov := over_num (v := x - 10000) hx
          have hov2 := over_num (v := y + 1) hy
          simp (maxSteps := 1000000) +contextual (disch := first | with_reducible assumption | exact ⟨rfl⟩ | exact ⟨rfl, rfl⟩ | (refine _root_.id ?_; kernel_rfl) | omega) only [evs, ext_mv, nth, put, putT, getT, binInt, binStr, binBool, aUn, outA, resA, mapO, resA1, oneOf, w1, w2, w3, bots, cond_true, cond_false, if_true, if_false, ite_true, ite_false, reduceIte, reduceCtorEq, implies_true, Nat.reduceAdd, Nat.reduceSub, AV.int, AV.bool, AV.str, Nat.reduceBEq, Nat.reduceEqDiff, Nat.reduceMul, Nat.reduceLT, Nat.reduceLeDiff, Int.reduceNeg, BEq.rfl, beq_self_eq_true, tabl, cellsOf, fldA, ldA, stA, entAt, partA, takeN, over, leafOk, Value.oneCell', idxA, nilA, cellsEq, fillA, elemsA, pure1, pure2, reps, chkA, tys, Tryd.results94, KX_draw, KX_drawQ, KX_tail, lastO_one, lastO_more, dropL_one, dropL_more, callP_eq, callM_true, digA, e5, e39, e40, d2, d3, hiw, hx', hy', hin, hin2, hw1, hw2, hov, hov2, Nat.mul_one]
          exact IH (i + 1, (out.set i (x - 10000)).set (i + 1) (y + 1)) _ (by first | omega | (simp only; omega)) ⟨rfl, by first | omega | (dsimp only; omega), hp.big hlt hx hbig hy, (by first | rfl | simp only [getT, List.map_append, List.map_cons, List.map_nil, digC, digA]), (by first | rfl | simp only [getT, List.map_append, List.map_cons, List.map_nil, digC, digA]), (by first | rfl | simp only [getT, List.map_append, List.map_cons, List.map_nil, digC, digA]), (by first | rfl | simp only [getT, List.map_append, List.map_cons, List.map_nil, digC, digA])⟩
        · have d3 : decide (x ≥ 10000) = false := by simp; omega
          simp (maxSteps := 1000000) +contextual (disch := first | with_reducible assumption | exact ⟨rfl⟩ | exact ⟨rfl, rfl⟩ | (refine _root_.id ?_; kernel_rfl) | omega) only [evs, ext_mv, nth, put, putT, getT, binInt, binStr, binBool, aUn, outA, resA, mapO, resA1, oneOf, w1, w2, w3, bots, cond_true, cond_false, if_true, if_false, ite_true, ite_false, reduceIte, reduceCtorEq, implies_true, Nat.reduceAdd, Nat.reduceSub, AV.int, AV.bool, AV.str, Nat.reduceBEq, Nat.reduceEqDiff, Nat.reduceMul, Nat.reduceLT, Nat.reduceLeDiff, Int.reduceNeg, BEq.rfl, beq_self_eq_true, tabl, cellsOf, fldA, ldA, stA, entAt, partA, takeN, over, leafOk, Value.oneCell', idxA, nilA, cellsEq, fillA, elemsA, pure1, pure2, reps, chkA, tys, Tryd.results94, KX_draw, KX_drawQ, KX_tail, lastO_one, lastO_more, dropL_one, dropL_more, callP_eq, callM_true, digA, e5, e39, e40, d2, d3, hiw, hx', hin, Nat.mul_one]
          exact IH (i + 1, out) _ (by first | omega | (simp only; omega)) ⟨rfl, by first | omega | (dsimp only; omega), hp.small hlt hx (by first | omega | (dsimp only; omega)), (by first | rfl | simp only [getT, List.map_append, List.map_cons, List.map_nil, digC, digA]), (by first | rfl | simp only [getT, List.map_append, List.map_cons, List.map_nil, digC, digA]), (by first | rfl | simp only [getT, List.map_append, List.map_cons, List.map_nil, digC, digA]), (by first | rfl | simp only [getT, List.map_append, List.map_cons, List.map_nil, digC, digA])⟩
      · have d2 : decide ((i : Int) < ((dig b).length : Int)) = false := by simpa using hlt
        have he : i = (dig b).length := by omega
        subst he
        have hdone := hp.done
        have hT := fun tk k => big_trim_own [⟨0, out.map numC⟩] tk k out 0 0 (by omega) rfl
        rw [hlen] at hT
        have hfz := fz_num (m := 0) (id := 0) (ep := 0) (S := [⟨0, out.map numC⟩]) (Nat.le_refl _) rfl (trim_len out)
        rw [← trim_is_take, hdone] at hfz
        rw [hdone] at hT
        simp (maxSteps := 1000000) +contextual (disch := first | with_reducible assumption | exact ⟨rfl⟩ | exact ⟨rfl, rfl⟩ | (refine _root_.id ?_; kernel_rfl) | omega) only [evs, ext_mv, nth, put, putT, getT, binInt, binStr, binBool, aUn, outA, resA, mapO, resA1, oneOf, w1, w2, w3, bots, cond_true, cond_false, if_true, if_false, ite_true, ite_false, reduceIte, reduceCtorEq, implies_true, Nat.reduceAdd, Nat.reduceSub, AV.int, AV.bool, AV.str, Nat.reduceBEq, Nat.reduceEqDiff, Nat.reduceMul, Nat.reduceLT, Nat.reduceLeDiff, Int.reduceNeg, BEq.rfl, beq_self_eq_true, tabl, cellsOf, fldA, ldA, stA, entAt, partA, takeN, over, leafOk, Value.oneCell', idxA, nilA, cellsEq, fillA, elemsA, pure1, pure2, reps, chkA, tys, Tryd.results94, KX_draw, KX_drawQ, KX_tail, lastO_one, lastO_more, dropL_one, dropL_more, callP_eq, callM_true, digA, e5, e39, e40, d2, hT, hfz]
  · have d1 : decide (((dig a).length : Int) < ((dig b).length : Int)) = false := by simp; omega
    have hw : IntKind.i64.wrap (((dig a).length : Int) + 1) = (((dig a).length + 1 : Nat) : Int) := wrap_add (by omega)
    have hbo : (elemOf Tryd.prog 22).bind (bytesOf Tryd.prog) = some 8 := by kernel_rfl
    have hmk := mk_num (P := Tryd.prog) (t := 22) (n := (dig a).length + 1) (by simp only [tys, Option.bind_some]) (by simp only [tys, Option.bind_some]) hbo (by omega)
    have hcp := cp_num (P := Tryd.prog) (t := 22) (n := (dig a).length + 1) (id := 0) (ep := 0) (l := dig a) (c := .unk) (S := [⟨0, zeroC ((dig a).length + 1)⟩]) (by simp only [tys, Option.bind_some]) (by omega) rfl
    simp (maxSteps := 1000000) +contextual (disch := first | with_reducible assumption | exact ⟨rfl⟩ | exact ⟨rfl, rfl⟩ | (refine _root_.id ?_; kernel_rfl) | omega) only [evs, ext_mv, nth, put, putT, getT, binInt, binStr, binBool, aUn, outA, resA, mapO, resA1, oneOf, w1, w2, w3, bots, cond_true, cond_false, if_true, if_false, ite_true, ite_false, reduceIte, reduceCtorEq, implies_true, Nat.reduceAdd, Nat.reduceSub, AV.int, AV.bool, AV.str, Nat.reduceBEq, Nat.reduceEqDiff, Nat.reduceMul, Nat.reduceLT, Nat.reduceLeDiff, Int.reduceNeg, BEq.rfl, beq_self_eq_true, tabl, cellsOf, fldA, ldA, stA, entAt, partA, takeN, over, leafOk, Value.oneCell', idxA, nilA, cellsEq, fillA, elemsA, pure1, pure2, reps, chkA, tys, Tryd.results94, KX_draw, KX_drawQ, KX_tail, lastO_one, lastO_more, dropL_one, dropL_more, callP_eq, callM_true, digA, d1, hw, hmk, hcp]
    refine loop1 (fun x st => st.T.length = 64 ∧ (x.1 ≤ (dig b).length) ∧ (Plus1 a b (dig a).length x.1 x.2) ∧ getT st.T 0 = digA (dig a) ∧ getT st.T 5 = .sref 0 0 0 ((dig a).length + 1) 1 ∧ getT st.T 23 = digA (dig b) ∧ getT st.T 24 = .int (dig b).length ∧ getT st.T 25 = .int (x.1 : Nat) ∧ st.S = [⟨0, x.2.map numC⟩]) (fun x => (dig b).length - x.1) (fun x => digA (dig (a + b))) (0, padL (dig a) ((dig a).length + 1)) ?_ ?_
    case refine_2 => exact ⟨rfl, Nat.zero_le _, Plus1.start, rfl, rfl, rfl, rfl, rfl, rfl⟩
    rintro ⟨i, out⟩ ⟨T, S', tk', n'⟩ ⟨hl, hi, hp, e0, e5, e23, e24, e25, eS⟩ IH
    simp only at hi hp e0 e5 e23 e24 e25 eS
    subst eS
    obtain ⟨g, hg, hT⟩ := tab_of hl
    rw [hg] at e0 e5 e23 e24 e25
    subst hT
    clear hg hl
    have hlen := hp.len
    by_cases hlt : i < (dig b).length
    · have d2 : decide ((i : Int) < ((dig b).length : Int)) = true := by simpa using hlt
      obtain ⟨d, hd⟩ := nth_some hlt
      have hd' := nth_dig hd
      have hiw := wrap_add (i := i) (by omega)
      obtain ⟨x, hx⟩ := nth_some (show i < out.length by omega)
      have hx' := nth_num hx
      have hin : i < (dig a).length + 1 := by omega
      have hxd := (hp.ok i x hx).2.2.1 (Nat.le_refl _)
      have hx0 := (hp.ok i x hx).1
      have hdk := of_okD (okD_dig b) hd
      have hws : IntKind.i64.wrap (x + d) = x + d := wrap_of (by unfold i64; omega)
      have hov := over_num (v := x + d) hx
      simp (maxSteps := 1000000) +contextual (disch := first | with_reducible assumption | exact ⟨rfl⟩ | exact ⟨rfl, rfl⟩ | (refine _root_.id ?_; kernel_rfl) | omega) only [evs, ext_mv, nth, put, putT, getT, binInt, binStr, binBool, aUn, outA, resA, mapO, resA1, oneOf, w1, w2, w3, bots, cond_true, cond_false, if_true, if_false, ite_true, ite_false, reduceIte, reduceCtorEq, implies_true, Nat.reduceAdd, Nat.reduceSub, AV.int, AV.bool, AV.str, Nat.reduceBEq, Nat.reduceEqDiff, Nat.reduceMul, Nat.reduceLT, Nat.reduceLeDiff, Int.reduceNeg, BEq.rfl, beq_self_eq_true, tabl, cellsOf, fldA, ldA, stA, entAt, partA, takeN, over, leafOk, Value.oneCell', idxA, nilA, cellsEq, fillA, elemsA, pure1, pure2, reps, chkA, tys, Tryd.results94, KX_draw, KX_drawQ, KX_tail, lastO_one, lastO_more, dropL_one, dropL_more, callP_eq, callM_true, digA, e0, e5, e23, e24, e25, d2, hd', hiw, hx', hin, hws, hov, Nat.mul_one]
      exact IH (i + 1, out.set i (x + d)) _ (by first | omega | (simp only; omega)) ⟨rfl, by first | omega | (dsimp only; omega), hp.step (by first | omega | (dsimp only; omega)) hx hd, (by first | rfl | simp only [getT, List.map_append, List.map_cons, List.map_nil, digC, digA]), (by first | rfl | simp only [getT, List.map_append, List.map_cons, List.map_nil, digC, digA]), (by first | rfl | simp only [getT, List.map_append, List.map_cons, List.map_nil, digC, digA]), (by first | rfl | simp only [getT, List.map_append, List.map_cons, List.map_nil, digC, digA]), (by first | rfl | simp only [getT, List.map_append, List.map_cons, List.map_nil, digC, digA]), (by first | rfl | simp only [getT, List.map_append, List.map_cons, List.map_nil, digC, digA])⟩
    · have d2 : decide ((i : Int) < ((dig b).length : Int)) = false := by simpa using hlt
      have he : i = (dig b).length := by omega
      subst he
      have hp2 := Plus2.start hp
      clear IH hp
      simp (maxSteps := 1000000) +contextual (disch := first | with_reducible assumption | exact ⟨rfl⟩ | exact ⟨rfl, rfl⟩ | (refine _root_.id ?_; kernel_rfl) | omega) only [evs, ext_mv, nth, put, putT, getT, binInt, binStr, binBool, aUn, outA, resA, mapO, resA1, oneOf, w1, w2, w3, bots, cond_true, cond_false, if_true, if_false, ite_true, ite_false, reduceIte, reduceCtorEq, implies_true, Nat.reduceAdd, Nat.reduceSub, AV.int, AV.bool, AV.str, Nat.reduceBEq, Nat.reduceEqDiff, Nat.reduceMul, Nat.reduceLT, Nat.reduceLeDiff, Int.reduceNeg, BEq.rfl, beq_self_eq_true, tabl, cellsOf, fldA, ldA, stA, entAt, partA, takeN, over, leafOk, Value.oneCell', idxA, nilA, cellsEq, fillA, elemsA, pure1, pure2, reps, chkA, tys, Tryd.results94, KX_draw, KX_drawQ, KX_tail, lastO_one, lastO_more, dropL_one, dropL_more, callP_eq, callM_true, digA, e0, e5, e23, e24, e25, d2]
      refine loop1 (fun x st => st.T.length = 64 ∧ (x.1 ≤ (dig a).length) ∧ (Plus2 (a + b) (dig a).length x.1 x.2) ∧ getT st.T 5 = .sref 0 0 0 ((dig a).length + 1) 1 ∧ getT st.T 39 = .int (dig a).length ∧ getT st.T 40 = .int (x.1 : Nat) ∧ st.S = [⟨0, x.2.map numC⟩]) (fun x => (dig a).length - x.1) (fun x => digA (dig (a + b))) (0, out) ?_ ?_
      case refine_2 => exact ⟨rfl, Nat.zero_le _, hp2, rfl, rfl, rfl, rfl⟩
      rintro ⟨i, out⟩ ⟨T, S', tk', n'⟩ ⟨hl, hi, hp, e5, e39, e40, eS⟩ IH
      simp only at hi hp e5 e39 e40 eS
      subst eS
      obtain ⟨g, hg, hT⟩ := tab_of hl
      rw [hg] at e5 e39 e40
      subst hT
      clear hg hl
      clear hlen
      have hlen := hp.len
      by_cases hlt : i < (dig a).length
      · have d2 : decide ((i : Int) < ((dig a).length : Int)) = true := by simpa using hlt
        have hiw := wrap_add (i := i) (by omega)
        obtain ⟨x, hx⟩ := nth_some (show i < out.length by omega)
        have hx' := nth_num hx
        have hin : i < (dig a).length + 1 := by omega
        have hin2 : i + 1 < (dig a).length + 1 := by omega
        have hk := hp.ok i x hx
        have hx2 := hk.2.2.1 rfl
        by_cases hbig : 10000 ≤ x
        · have d3 : decide (x ≥ 10000) = true := by simpa using hbig
          obtain ⟨y, hy⟩ := nth_some (show i + 1 < (out.set i (x - 10000)).length by rw [List.length_set]; omega)
          have hy' := nth_num hy
          have hyk := hp.ok (i + 1) y (by
            rcases set_same hy with ⟨e, -⟩ | ⟨-, hy⟩
            · omega
            · exact hy)
          have hy2 := hyk.2.2.2.1 (by omega)
          have hw1 : IntKind.i64.wrap (x - 10000) = x - 10000 := wrap_of (by unfold i64; omega)
          have hw2 : IntKind.i64.wrap (y + 1) = y + 1 := wrap_of (by unfold i64; omega)
          have hov := over_num (v := x - 10000) hx
          have hov2 := over_num (v := y + 1) hy
          simp (maxSteps := 1000000) +contextual (disch := first | with_reducible assumption | exact ⟨rfl⟩ | exact ⟨rfl, rfl⟩ | (refine _root_.id ?_; kernel_rfl) | omega) only [evs, ext_mv, nth, put, putT, getT, binInt, binStr, binBool, aUn, outA, resA, mapO, resA1, oneOf, w1, w2, w3, bots, cond_true, cond_false, if_true, if_false, ite_true, ite_false, reduceIte, reduceCtorEq, implies_true, Nat.reduceAdd, Nat.reduceSub, AV.int, AV.bool, AV.str, Nat.reduceBEq, Nat.reduceEqDiff, Nat.reduceMul, Nat.reduceLT, Nat.reduceLeDiff, Int.reduceNeg, BEq.rfl, beq_self_eq_true, tabl, cellsOf, fldA, ldA, stA, entAt, partA, takeN, over, leafOk, Value.oneCell', idxA, nilA, cellsEq, fillA, elemsA, pure1, pure2, reps, chkA, tys, Tryd.results94, KX_draw, KX_drawQ, KX_tail, lastO_one, lastO_more, dropL_one, dropL_more, callP_eq, callM_true, digA, e5, e39, e40, d2, d3, hiw, hx', hy', hin, hin2, hw1, hw2, hov, hov2, Nat.mul_one]
          exact IH (i + 1, (out.set i (x - 10000)).set (i + 1) (y + 1)) _ (by first | omega | (simp only; omega)) ⟨rfl, by first | omega | (dsimp only; omega), hp.big hlt hx hbig hy, (by first | rfl | simp only [getT, List.map_append, List.map_cons, List.map_nil, digC, digA]), (by first | rfl | simp only [getT, List.map_append, List.map_cons, List.map_nil, digC, digA]), (by first | rfl | simp only [getT, List.map_append, List.map_cons, List.map_nil, digC, digA]), (by first | rfl | simp only [getT, List.map_append, List.map_cons, List.map_nil, digC, digA])⟩
        · have d3 : decide (x ≥ 10000) = false := by simp; omega
          simp (maxSteps := 1000000) +contextual (disch := first | with_reducible assumption | exact ⟨rfl⟩ | exact ⟨rfl, rfl⟩ | (refine _root_.id ?_; kernel_rfl) | omega) only [evs, ext_mv, nth, put, putT, getT, binInt, binStr, binBool, aUn, outA, resA, mapO, resA1, oneOf, w1, w2, w3, bots, cond_true, cond_false, if_true, if_false, ite_true, ite_false, reduceIte, reduceCtorEq, implies_true, Nat.reduceAdd, Nat.reduceSub, AV.int, AV.bool, AV.str, Nat.reduceBEq, Nat.reduceEqDiff, Nat.reduceMul, Nat.reduceLT, Nat.reduceLeDiff, Int.reduceNeg, BEq.rfl, beq_self_eq_true, tabl, cellsOf, fldA, ldA, stA, entAt, partA, takeN, over, leafOk, Value.oneCell', idxA, nilA, cellsEq, fillA, elemsA, pure1, pure2, reps, chkA, tys, Tryd.results94, KX_draw, KX_drawQ, KX_tail, lastO_one, lastO_more, dropL_one, dropL_more, callP_eq, callM_true, digA, e5, e39, e40, d2, d3, hiw, hx', hin, Nat.mul_one]
          exact IH (i + 1, out) _ (by first | omega | (simp only; omega)) ⟨rfl, by first | omega | (dsimp only; omega), hp.small hlt hx (by first | omega | (dsimp only; omega)), (by first | rfl | simp only [getT, List.map_append, List.map_cons, List.map_nil, digC, digA]), (by first | rfl | simp only [getT, List.map_append, List.map_cons, List.map_nil, digC, digA]), (by first | rfl | simp only [getT, List.map_append, List.map_cons, List.map_nil, digC, digA]), (by first | rfl | simp only [getT, List.map_append, List.map_cons, List.map_nil, digC, digA])⟩
      · have d2 : decide ((i : Int) < ((dig a).length : Int)) = false := by simpa using hlt
        have he : i = (dig a).length := by omega
        subst he
        have hdone := hp.done
        have hT := fun tk k => big_trim_own [⟨0, out.map numC⟩] tk k out 0 0 (by omega) rfl
        rw [hlen] at hT
        have hfz := fz_num (m := 0) (id := 0) (ep := 0) (S := [⟨0, out.map numC⟩]) (Nat.le_refl _) rfl (trim_len out)
        rw [← trim_is_take, hdone] at hfz
        rw [hdone] at hT
        simp (maxSteps := 1000000) +contextual (disch := first | with_reducible assumption | exact ⟨rfl⟩ | exact ⟨rfl, rfl⟩ | (refine _root_.id ?_; kernel_rfl) | omega) only [evs, ext_mv, nth, put, putT, getT, binInt, binStr, binBool, aUn, outA, resA, mapO, resA1, oneOf, w1, w2, w3, bots, cond_true, cond_false, if_true, if_false, ite_true, ite_false, reduceIte, reduceCtorEq, implies_true, Nat.reduceAdd, Nat.reduceSub, AV.int, AV.bool, AV.str, Nat.reduceBEq, Nat.reduceEqDiff, Nat.reduceMul, Nat.reduceLT, Nat.reduceLeDiff, Int.reduceNeg, BEq.rfl, beq_self_eq_true, tabl, cellsOf, fldA, ldA, stA, entAt, partA, takeN, over, leafOk, Value.oneCell', idxA, nilA, cellsEq, fillA, elemsA, pure1, pure2, reps, chkA, tys, Tryd.results94, KX_draw, KX_drawQ, KX_tail, lastO_one, lastO_more, dropL_one, dropL_more, callP_eq, callM_true, digA, e5, e39, e40, d2, hT, hfz]
end
end Go.Proofs.YtgadegdhfjnoaaaDoor
/-
  What the functions of the numbers compute: differences of digits; sums and differences by the reference.
-/

namespace Go.Proofs.YtgadegdhfjnoaaaDoor
open Go

theorem val_lt {l : List Int} (h : okD l) : val l < 10000 ^ l.length := by
  induction l with
  | nil => simp [val]
  | cons d l ih =>
    have h1 := h d (by simp)
    have h2 := ih fun x hx => h x (by simp [hx])
    simp only [val, List.length_cons, Int.pow_succ]; omega
theorem val_top {l : List Int} {i : Nat} {x : Int} (hl : l.length = i + 1) (hx : nth l i = some x) (hk : ∀ j y, j < i → nth l j = some y → 0 ≤ y ∧ y < 10000) (h0 : x < 0) : val l < 0 := by
  have e : l = l.take i ++ [x] := by
    apply List.ext_getElem?
    intro j
    rcases Nat.lt_trichotomy j i with hj | hj | hj
    · rw [List.getElem?_append_left (by simp; omega), List.getElem?_take_of_lt hj]
    · subst hj
      have hlj : (l.take j).length = j := by simp; omega
      rw [List.getElem?_append_right (by omega), hlj, Nat.sub_self, ← nth_get, hx]; rfl
    · rw [List.getElem?_eq_none (by omega), List.getElem?_eq_none (by simp; omega)]
  have hk' : okD (l.take i) := okD_of fun j y hy => by
    have hj := nth_lt hy
    have hj1 : j < i := by rw [List.length_take] at hj; omega
    refine hk j y hj1 ?_
    rw [nth_get] at hy ⊢
    rw [List.getElem?_take_of_lt hj1] at hy; exact hy
  have h1 := val_lt hk'
  have hlen : (l.take i).length = i := by simp; omega
  rw [hlen] at h1
  rw [e, val_append, hlen]
  have hp := pow_pos4 i
  have : (10000 : Int) ^ i * val [x] ≤ 10000 ^ i * (-1) := Int.mul_le_mul_of_nonneg_left (by simp [val]; omega) (by omega)
  omega
structure Minus1 (a b la i : Nat) (out : List Int) : Prop where
  len : out.length = la
  eqv : val out - 10000 ^ i * val ((dig b).drop i) = (a : Int) - b
  ok : ∀ j x, nth out j = some x → -9999 ≤ x ∧ x ≤ 9999 ∧ (i ≤ j → 0 ≤ x)
theorem Minus1.start {a b : Nat} : Minus1 a b (dig a).length 0 (padL (dig a) (dig a).length) := by
  refine ⟨padL_len (by omega), ?_, fun j x hx => ?_⟩
  · rw [padL_val, val_dig, List.drop_zero, val_dig]; simp
  · rcases padL_at hx with h | ⟨h, rfl⟩
    · have := of_okD (okD_dig a) h; exact ⟨by omega, by omega, fun _ => this.1⟩
    · exact ⟨by omega, by omega, fun _ => by omega⟩
theorem Minus1.step {a b la i : Nat} {out : List Int} {x d : Int} (h : Minus1 a b la i out) (hx : nth out i = some x) (hd : nth (dig b) i = some d) : Minus1 a b la (i + 1) (out.set i (x - d)) := by
  have hdk := of_okD (okD_dig b) hd
  refine ⟨by rw [List.length_set]; exact h.len, ?_, fun j y hy => ?_⟩
  · have hv := h.eqv
    rw [nth_drop hd, val] at hv
    rw [val_set hx, ← hv, Int.pow_succ, Int.mul_add]
    have e1 : x - d - x = -d := by omega
    rw [e1, Int.neg_mul, Int.mul_comm d, Int.mul_assoc]; omega
  · rcases set_same hy with ⟨rfl, rfl⟩ | ⟨hne, hy⟩
    · have := h.ok _ x hx
      exact ⟨by have := this.2.2 (Nat.le_refl _); omega, by omega, by omega⟩
    · have := h.ok j y hy
      exact ⟨this.1, this.2.1, fun hj => this.2.2 (by omega)⟩
structure Minus2 (v : Nat) (la i : Nat) (out : List Int) : Prop where
  len : out.length = la
  eqv : val out = v
  ok : ∀ j x, nth out j = some x → x ≤ 9999 ∧ (j < i → 0 ≤ x) ∧ (j = i → -10000 ≤ x) ∧ (i < j → -9999 ≤ x)
theorem Minus2.start {a b la : Nat} {out : List Int} (h : Minus1 a b la (dig b).length out) (hab : b ≤ a) : Minus2 (a - b) la 0 out := by
  refine ⟨h.len, ?_, fun j x hx => ?_⟩
  · have := h.eqv
    rw [List.drop_length, val] at this; omega
  · have := h.ok j x hx; exact ⟨this.2.1, by omega, by omega, by omega⟩
theorem Minus2.small {v la i : Nat} {out : List Int} {x : Int} (h : Minus2 v la i out) (hx : nth out i = some x) (h1 : 0 ≤ x) : Minus2 v la (i + 1) out := by
  refine ⟨h.len, h.eqv, fun j y hy => ?_⟩
  have := h.ok j y hy
  refine ⟨this.1, fun hj => ?_, fun hj => by have := this.2.2.2 (by omega); omega, fun hj => this.2.2.2 (by omega)⟩
  by_cases e : j = i
  · subst e; rw [hx] at hy; simp only [Option.some.injEq] at hy; omega
  · exact this.2.1 (by omega)
theorem Minus2.room {v la i : Nat} {out : List Int} {x : Int} (h : Minus2 v la i out) (hx : nth out i = some x) (h1 : x < 0) : i + 1 < la := by
  have hi := nth_lt hx
  have hl := h.len
  rcases Nat.lt_or_ge (i + 1) la with h2 | h2
  · exact h2
  · exfalso
    have := val_top (l := out) (i := i) (by omega) hx (fun j y hj hy => by have := h.ok j y hy; exact ⟨this.2.1 hj, by omega⟩) h1
    have := h.eqv; omega
theorem Minus2.neg {v la i : Nat} {out : List Int} {x y : Int} (h : Minus2 v la i out) (hx : nth out i = some x) (h1 : x < 0) (hy : nth (out.set i (x + 10000)) (i + 1) = some y) : Minus2 v la (i + 1) ((out.set i (x + 10000)).set (i + 1) (y - 1)) := by
  have hyo : nth out (i + 1) = some y := by
    rcases set_same hy with ⟨e, -⟩ | ⟨-, hy⟩
    · omega
    · exact hy
  have hk := h.ok i x hx
  have hky := h.ok (i + 1) y hyo
  refine ⟨by rw [List.length_set, List.length_set]; exact h.len, ?_, fun j z hz => ?_⟩
  · rw [val_set hy, val_set hx, ← h.eqv, Int.pow_succ]
    have e1 : x + 10000 - x = 10000 := by omega
    have e2 : y - 1 - y = -1 := by omega
    rw [e1, e2, Int.mul_comm (10000 ^ i) 10000]; omega
  · rcases set_same hz with ⟨rfl, rfl⟩ | ⟨hne, hz⟩
    · exact ⟨by omega, by omega, fun _ => by have := hky.2.2.2 (by omega); omega, by omega⟩
    · rcases set_same hz with ⟨rfl, rfl⟩ | ⟨hne2, hz⟩
      · exact ⟨by omega, fun _ => by have := hk.2.2.1 rfl; omega, by omega, by omega⟩
      · have := h.ok j z hz
        exact ⟨this.1, fun hj => this.2.1 (by omega), fun hj => by omega, fun hj => this.2.2.2 (by omega)⟩
theorem Minus2.done {v la : Nat} {out : List Int} (h : Minus2 v la la out) : trimL out = dig v := by
  have hk : okD out := okD_of fun j x hx => by
    have := h.ok j x hx
    have hl := nth_lt hx
    rw [h.len] at hl
    exact ⟨this.2.1 hl, by omega⟩
  rw [trim_dig hk, h.eqv]; congr 1
theorem val_drop (l : List Int) (i : Nat) : val (l.drop i) = (nth l i).getD 0 + 10000 * val (l.drop (i + 1)) := by
  by_cases h : i < l.length
  · obtain ⟨x, hx⟩ := nth_some h
    rw [nth_drop hx, hx]; rfl
  · rw [List.drop_eq_nil_of_le (by omega), List.drop_eq_nil_of_le (by omega), nth_get, List.getElem?_eq_none (by omega)]; rfl
theorem dig_getD (a i : Nat) : 0 ≤ (nth (dig a) i).getD 0 ∧ (nth (dig a) i).getD 0 < 10000 := by
  cases h : nth (dig a) i with
  | none => simp
  | some x => exact of_okD (okD_dig a) h
theorem okD_snoc {l : List Int} {x : Int} (h : okD l) (h0 : 0 ≤ x) (h1 : x < 10000) : okD (l ++ [x]) := fun d hd => by
  rcases List.mem_append.1 hd with hd | hd
  · exact h d hd
  · simp at hd; subst hd; exact ⟨h0, h1⟩
theorem val_snoc (l : List Int) (x : Int) : val (l ++ [x]) = val l + 10000 ^ l.length * x := by rw [val_append]; simp [val]
theorem pow_step (i : Nat) (x r : Int) : (10000 : Int) ^ i * x + 10000 ^ (i + 1) * r = 10000 ^ i * (x + 10000 * r) := by rw [Int.pow_succ, Int.mul_add, Int.mul_assoc]
/-- the reference's sum, digit by digit -/
structure Sum1 (a b i : Nat) (c : Int) (out : List Int) : Prop where
  len : out.length = i
  ok : okD out
  c0 : 0 ≤ c ∧ c ≤ 1
  eqv : val out + 10000 ^ i * (c + val ((dig a).drop i) + val ((dig b).drop i)) = (a + b : Nat)
theorem Sum1.step {a b i : Nat} {c n : Int} {out : List Int} (h : Sum1 a b i c out) (hn : n = (nth (dig a) i).getD 0 + (nth (dig b) i).getD 0 + c) : Sum1 a b (i + 1) (n.tdiv 10000) (out ++ [n.tmod 10000]) ∧ 0 ≤ n ∧ n ≤ 19999 ∧ 0 ≤ n.tmod 10000 ∧ n.tmod 10000 < 10000 := by
  have h1 := dig_getD a i
  have h2 := dig_getD b i
  have h3 := h.c0
  have e1 : n.tdiv 10000 = n / 10000 := Int.tdiv_eq_ediv_of_nonneg (by omega)
  have e2 : n.tmod 10000 = n % 10000 := Int.tmod_eq_emod_of_nonneg (by omega)
  refine ⟨⟨by simp [h.len], okD_snoc h.ok (by omega) (by omega), by omega, ?_⟩, by omega, by omega, by omega, by omega⟩
  have hv := h.eqv
  rw [val_drop (dig a) i, val_drop (dig b) i] at hv
  have : n.tmod 10000 + 10000 * (n.tdiv 10000 + val ((dig a).drop (i + 1)) + val ((dig b).drop (i + 1))) = c + ((nth (dig a) i).getD 0 + 10000 * val ((dig a).drop (i + 1))) + ((nth (dig b) i).getD 0 + 10000 * val ((dig b).drop (i + 1))) := by omega
  rw [val_snoc, h.len, Int.add_assoc, pow_step, this]
  exact hv
theorem Sum1.done {a b i : Nat} {c : Int} {out : List Int} (h : Sum1 a b i c out) (h1 : (dig a).length ≤ i) (h2 : (dig b).length ≤ i) (h3 : c = 0) : trimL out = dig (a + b) := by
  have hv := h.eqv
  rw [List.drop_eq_nil_of_le h1, List.drop_eq_nil_of_le h2, h3] at hv
  simp only [val] at hv
  rw [trim_dig h.ok]
  congr 1; omega
structure Dif1 (a b i : Nat) (c : Int) (out : List Int) : Prop where
  len : out.length = i
  ok : okD out
  c0 : 0 ≤ c ∧ c ≤ 1
  eqv : val out + 10000 ^ i * (val ((dig a).drop i) - val ((dig b).drop i) - c) = (a : Int) - b
theorem Dif1.step {a b i : Nat} {c n d : Int} {out : List Int} (h : Dif1 a b i c out) (hd : nth (dig a) i = some d) (hn : n = d - (nth (dig b) i).getD 0 - c) : (n < 0 → Dif1 a b (i + 1) 1 (out ++ [n + 10000])) ∧ (¬ n < 0 → Dif1 a b (i + 1) 0 (out ++ [n])) ∧ -10000 ≤ n ∧ n < 10000 := by
  have h1 := of_okD (okD_dig a) hd
  have h2 := dig_getD b i
  have h3 := h.c0
  have hv := h.eqv
  rw [val_drop (dig b) i, nth_drop hd, val] at hv
  refine ⟨fun hn0 => ⟨by simp [h.len], okD_snoc h.ok (by omega) (by omega), by omega, ?_⟩, fun hn0 => ⟨by simp [h.len], okD_snoc h.ok (by omega) (by omega), by omega, ?_⟩, by omega, by omega⟩
  · have : n + 10000 + 10000 * (val ((dig a).drop (i + 1)) - val ((dig b).drop (i + 1)) - 1) = d + 10000 * val ((dig a).drop (i + 1)) - ((nth (dig b) i).getD 0 + 10000 * val ((dig b).drop (i + 1))) - c := by omega
    rw [val_snoc, h.len, Int.add_assoc, pow_step, this]
    exact hv
  · have : n + 10000 * (val ((dig a).drop (i + 1)) - val ((dig b).drop (i + 1)) - 0) = d + 10000 * val ((dig a).drop (i + 1)) - ((nth (dig b) i).getD 0 + 10000 * val ((dig b).drop (i + 1))) - c := by omega
    rw [val_snoc, h.len, Int.add_assoc, pow_step, this]
    exact hv
theorem len_mono {a b : Nat} (h : b ≤ a) : (dig b).length ≤ (dig a).length := by
  rw [dig_len]
  have := (dig_len (n := a) (k := (dig a).length)).1 (Nat.le_refl _)
  omega
theorem Dif1.done {a b : Nat} {c : Int} {out : List Int} (h : Dif1 a b (dig a).length c out) (hab : b ≤ a) : trimL out = dig (a - b) := by
  have hv := h.eqv
  have h3 := h.c0
  rw [List.drop_length, List.drop_eq_nil_of_le (len_mono hab)] at hv
  simp only [val] at hv
  have hlt := val_lt h.ok
  rw [h.len] at hlt
  have hp := pow_pos4 (dig a).length
  have hc : c = 0 := by
    rcases Int.lt_or_le c 1 with h1 | h1
    · omega
    · have : c = 1 := by omega
      subst this
      have : (10000 : Int) ^ (dig a).length * (0 - 0 - 1) = -(10000 ^ (dig a).length) := by omega
      omega
  subst hc
  rw [trim_dig h.ok]
  congr 1
  have : (10000 : Int) ^ (dig a).length * (0 - 0 - 0) = 0 := by simp
  omega
section
variable (S : List Ent) (tk : List Nat) (k : Nat)
set_option maxRecDepth 100000 in
theorem big_minus (a b : Nat) (ha : (dig a).length ≤ 100000) (hab : b ≤ a) : cL Tryd.prog 96 [digA (dig a), digA (dig b)] S tk k = some (digA (dig (a - b)), S, tk, k) := by
  refine call_pure Tryd.func96 rfl rfl (by decide +kernel) (by decide +kernel) Tryd.ntmps96 rfl rfl _ _ _ rfl ?_; rw [RK_KX]
  have hba := len_mono hab
  have hbo : (elemOf Tryd.prog 22).bind (bytesOf Tryd.prog) = some 8 := by kernel_rfl
  have hmk := mk_num (P := Tryd.prog) (t := 22) (n := (dig a).length) (by simp only [tys, Option.bind_some]) (by simp only [tys, Option.bind_some]) hbo (by omega)
  have hcp := cp_num (P := Tryd.prog) (t := 22) (n := (dig a).length) (id := 0) (ep := 0) (l := dig a) (c := .unk) (S := [⟨0, zeroC (dig a).length⟩]) (by simp only [tys, Option.bind_some]) (by omega) rfl
  simp (maxSteps := 1000000) +contextual (disch := first | with_reducible assumption | exact ⟨rfl⟩ | exact ⟨rfl, rfl⟩ | (refine _root_.id ?_; kernel_rfl) | omega) only [evs, ext_mv, nth, put, putT, getT, binInt, binStr, binBool, aUn, outA, resA, mapO, resA1, oneOf, w1, w2, w3, bots, cond_true, cond_false, if_true, if_false, ite_true, ite_false, reduceIte, reduceCtorEq, implies_true, Nat.reduceAdd, Nat.reduceSub, AV.int, AV.bool, AV.str, Nat.reduceBEq, Nat.reduceEqDiff, Nat.reduceMul, Nat.reduceLT, Nat.reduceLeDiff, Int.reduceNeg, BEq.rfl, beq_self_eq_true, tabl, cellsOf, fldA, ldA, stA, entAt, partA, takeN, over, leafOk, Value.oneCell', idxA, nilA, cellsEq, fillA, elemsA, pure1, pure2, reps, chkA, tys, Tryd.results96, KX_draw, KX_drawQ, KX_tail, lastO_one, lastO_more, dropL_one, dropL_more, callP_eq, callM_true, digA, hmk, hcp]
  refine loop1 (fun x st => st.T.length = 56 ∧ (x.1 ≤ (dig b).length) ∧ (Minus1 a b (dig a).length x.1 x.2) ∧ getT st.T 5 = .sref 0 0 0 (dig a).length 1 ∧ getT st.T 15 = digA (dig b) ∧ getT st.T 16 = .int (dig b).length ∧ getT st.T 17 = .int (x.1 : Nat) ∧ st.S = [⟨0, x.2.map numC⟩]) (fun x => (dig b).length - x.1) (fun x => digA (dig (a - b))) (0, padL (dig a) (dig a).length) ?_ ?_
  case refine_2 => exact ⟨rfl, Nat.zero_le _, Minus1.start, rfl, rfl, rfl, rfl, rfl⟩
  rintro ⟨i, out⟩ ⟨T, S', tk', n'⟩ ⟨hl, hi, hp, e5, e15, e16, e17, eS⟩ IH
  simp only at hi hp e5 e15 e16 e17 eS
  subst eS
  obtain ⟨g, hg, hT⟩ := tab_of hl
  rw [hg] at e5 e15 e16 e17
  subst hT
  clear hg hl
  have hlen := hp.len
  by_cases hlt : i < (dig b).length
  · have d2 : decide ((i : Int) < ((dig b).length : Int)) = true := by simpa using hlt
    obtain ⟨d, hd⟩ := nth_some hlt
    have hd' := nth_dig hd
    have hiw := wrap_add (i := i) (by omega)
    obtain ⟨x, hx⟩ := nth_some (show i < out.length by omega)
    have hx' := nth_num hx
    have hin : i < (dig a).length := by omega
    have hxk := hp.ok i x hx
    have hdk := of_okD (okD_dig b) hd
    have hws : IntKind.i64.wrap (x - d) = x - d := wrap_of (by unfold i64; omega)
    have hov := over_num (v := x - d) hx
    simp (maxSteps := 1000000) +contextual (disch := first | with_reducible assumption | exact ⟨rfl⟩ | exact ⟨rfl, rfl⟩ | (refine _root_.id ?_; kernel_rfl) | omega) only [evs, ext_mv, nth, put, putT, getT, binInt, binStr, binBool, aUn, outA, resA, mapO, resA1, oneOf, w1, w2, w3, bots, cond_true, cond_false, if_true, if_false, ite_true, ite_false, reduceIte, reduceCtorEq, implies_true, Nat.reduceAdd, Nat.reduceSub, AV.int, AV.bool, AV.str, Nat.reduceBEq, Nat.reduceEqDiff, Nat.reduceMul, Nat.reduceLT, Nat.reduceLeDiff, Int.reduceNeg, BEq.rfl, beq_self_eq_true, tabl, cellsOf, fldA, ldA, stA, entAt, partA, takeN, over, leafOk, Value.oneCell', idxA, nilA, cellsEq, fillA, elemsA, pure1, pure2, reps, chkA, tys, Tryd.results96, KX_draw, KX_drawQ, KX_tail, lastO_one, lastO_more, dropL_one, dropL_more, callP_eq, callM_true, digA, e5, e15, e16, e17, d2, hd', hiw, hx', hin, hws, hov, Nat.mul_one]
    exact IH (i + 1, out.set i (x - d)) _ (by first | omega | (simp only; omega)) ⟨rfl, by first | omega | (dsimp only; omega), hp.step hx hd, (by first | rfl | simp only [getT, List.map_append, List.map_cons, List.map_nil, digC, digA]), (by first | rfl | simp only [getT, List.map_append, List.map_cons, List.map_nil, digC, digA]), (by first | rfl | simp only [getT, List.map_append, List.map_cons, List.map_nil, digC, digA]), (by first | rfl | simp only [getT, List.map_append, List.map_cons, List.map_nil, digC, digA]), (by first | rfl | simp only [getT, List.map_append, List.map_cons, List.map_nil, digC, digA])⟩
  · have d2 : decide ((i : Int) < ((dig b).length : Int)) = false := by simpa using hlt
    have he : i = (dig b).length := by omega
    subst he
    have hp2 := Minus2.start hp hab
    clear IH hp
    simp (maxSteps := 1000000) +contextual (disch := first | with_reducible assumption | exact ⟨rfl⟩ | exact ⟨rfl, rfl⟩ | (refine _root_.id ?_; kernel_rfl) | omega) only [evs, ext_mv, nth, put, putT, getT, binInt, binStr, binBool, aUn, outA, resA, mapO, resA1, oneOf, w1, w2, w3, bots, cond_true, cond_false, if_true, if_false, ite_true, ite_false, reduceIte, reduceCtorEq, implies_true, Nat.reduceAdd, Nat.reduceSub, AV.int, AV.bool, AV.str, Nat.reduceBEq, Nat.reduceEqDiff, Nat.reduceMul, Nat.reduceLT, Nat.reduceLeDiff, Int.reduceNeg, BEq.rfl, beq_self_eq_true, tabl, cellsOf, fldA, ldA, stA, entAt, partA, takeN, over, leafOk, Value.oneCell', idxA, nilA, cellsEq, fillA, elemsA, pure1, pure2, reps, chkA, tys, Tryd.results96, KX_draw, KX_drawQ, KX_tail, lastO_one, lastO_more, dropL_one, dropL_more, callP_eq, callM_true, digA, e5, e15, e16, e17, d2]
    refine loop1 (fun x st => st.T.length = 56 ∧ (x.1 ≤ (dig a).length) ∧ (Minus2 (a - b) (dig a).length x.1 x.2) ∧ getT st.T 5 = .sref 0 0 0 (dig a).length 1 ∧ getT st.T 31 = .int (dig a).length ∧ getT st.T 32 = .int (x.1 : Nat) ∧ st.S = [⟨0, x.2.map numC⟩]) (fun x => (dig a).length - x.1) (fun x => digA (dig (a - b))) (0, out) ?_ ?_
    case refine_2 => exact ⟨rfl, Nat.zero_le _, hp2, rfl, rfl, rfl, rfl⟩
    rintro ⟨i, out⟩ ⟨T, S', tk', n'⟩ ⟨hl, hi, hp, e5, e31, e32, eS⟩ IH
    simp only at hi hp e5 e31 e32 eS
    subst eS
    obtain ⟨g, hg, hT⟩ := tab_of hl
    rw [hg] at e5 e31 e32
    subst hT
    clear hg hl
    clear hlen
    have hlen := hp.len
    by_cases hlt : i < (dig a).length
    · have d2 : decide ((i : Int) < ((dig a).length : Int)) = true := by simpa using hlt
      have hiw := wrap_add (i := i) (by omega)
      obtain ⟨x, hx⟩ := nth_some (show i < out.length by omega)
      have hx' := nth_num hx
      have hk := hp.ok i x hx
      by_cases hneg : x < 0
      · have d3 : decide (x < 0) = true := by simpa using hneg
        have hin2 := hp.room hx hneg
        obtain ⟨y, hy⟩ := nth_some (show i + 1 < (out.set i (x + 10000)).length by rw [List.length_set]; omega)
        have hy' := nth_num hy
        have hyk := hp.ok (i + 1) y (by
          rcases set_same hy with ⟨e, -⟩ | ⟨-, hy⟩
          · omega
          · exact hy)
        have hy2 := hyk.2.2.2 (by omega)
        have hx2 := hk.2.2.1 rfl
        have hw1 : IntKind.i64.wrap (x + 10000) = x + 10000 := wrap_of (by unfold i64; omega)
        have hw2 : IntKind.i64.wrap (y - 1) = y - 1 := wrap_of (by unfold i64; omega)
        have hov := over_num (v := x + 10000) hx
        have hov2 := over_num (v := y - 1) hy
        simp (maxSteps := 1000000) +contextual (disch := first | with_reducible assumption | exact ⟨rfl⟩ | exact ⟨rfl, rfl⟩ | (refine _root_.id ?_; kernel_rfl) | omega) only [evs, ext_mv, nth, put, putT, getT, binInt, binStr, binBool, aUn, outA, resA, mapO, resA1, oneOf, w1, w2, w3, bots, cond_true, cond_false, if_true, if_false, ite_true, ite_false, reduceIte, reduceCtorEq, implies_true, Nat.reduceAdd, Nat.reduceSub, AV.int, AV.bool, AV.str, Nat.reduceBEq, Nat.reduceEqDiff, Nat.reduceMul, Nat.reduceLT, Nat.reduceLeDiff, Int.reduceNeg, BEq.rfl, beq_self_eq_true, tabl, cellsOf, fldA, ldA, stA, entAt, partA, takeN, over, leafOk, Value.oneCell', idxA, nilA, cellsEq, fillA, elemsA, pure1, pure2, reps, chkA, tys, Tryd.results96, KX_draw, KX_drawQ, KX_tail, lastO_one, lastO_more, dropL_one, dropL_more, callP_eq, callM_true, digA, e5, e31, e32, d2, d3, hiw, hx', hy', hlt, hin2, hw1, hw2, hov, hov2, Nat.mul_one]
        exact IH (i + 1, (out.set i (x + 10000)).set (i + 1) (y - 1)) _ (by first | omega | (simp only; omega)) ⟨rfl, by first | omega | (dsimp only; omega), hp.neg hx hneg hy, (by first | rfl | simp only [getT, List.map_append, List.map_cons, List.map_nil, digC, digA]), (by first | rfl | simp only [getT, List.map_append, List.map_cons, List.map_nil, digC, digA]), (by first | rfl | simp only [getT, List.map_append, List.map_cons, List.map_nil, digC, digA]), (by first | rfl | simp only [getT, List.map_append, List.map_cons, List.map_nil, digC, digA])⟩
      · have d3 : decide (x < 0) = false := by simp; omega
        simp (maxSteps := 1000000) +contextual (disch := first | with_reducible assumption | exact ⟨rfl⟩ | exact ⟨rfl, rfl⟩ | (refine _root_.id ?_; kernel_rfl) | omega) only [evs, ext_mv, nth, put, putT, getT, binInt, binStr, binBool, aUn, outA, resA, mapO, resA1, oneOf, w1, w2, w3, bots, cond_true, cond_false, if_true, if_false, ite_true, ite_false, reduceIte, reduceCtorEq, implies_true, Nat.reduceAdd, Nat.reduceSub, AV.int, AV.bool, AV.str, Nat.reduceBEq, Nat.reduceEqDiff, Nat.reduceMul, Nat.reduceLT, Nat.reduceLeDiff, Int.reduceNeg, BEq.rfl, beq_self_eq_true, tabl, cellsOf, fldA, ldA, stA, entAt, partA, takeN, over, leafOk, Value.oneCell', idxA, nilA, cellsEq, fillA, elemsA, pure1, pure2, reps, chkA, tys, Tryd.results96, KX_draw, KX_drawQ, KX_tail, lastO_one, lastO_more, dropL_one, dropL_more, callP_eq, callM_true, digA, e5, e31, e32, d2, d3, hiw, hx', hlt, Nat.mul_one]
        exact IH (i + 1, out) _ (by first | omega | (simp only; omega)) ⟨rfl, by first | omega | (dsimp only; omega), hp.small hx (by first | omega | (dsimp only; omega)), (by first | rfl | simp only [getT, List.map_append, List.map_cons, List.map_nil, digC, digA]), (by first | rfl | simp only [getT, List.map_append, List.map_cons, List.map_nil, digC, digA]), (by first | rfl | simp only [getT, List.map_append, List.map_cons, List.map_nil, digC, digA]), (by first | rfl | simp only [getT, List.map_append, List.map_cons, List.map_nil, digC, digA])⟩
    · have d2 : decide ((i : Int) < ((dig a).length : Int)) = false := by simpa using hlt
      have he : i = (dig a).length := by omega
      subst he
      have hdone := hp.done
      have hT := fun tk k => big_trim_own [⟨0, out.map numC⟩] tk k out 0 0 (by omega) rfl
      rw [hlen] at hT
      have hfz := fz_num (m := 0) (id := 0) (ep := 0) (S := [⟨0, out.map numC⟩]) (Nat.le_refl _) rfl (trim_len out)
      rw [← trim_is_take, hdone] at hfz
      rw [hdone] at hT
      simp (maxSteps := 1000000) +contextual (disch := first | with_reducible assumption | exact ⟨rfl⟩ | exact ⟨rfl, rfl⟩ | (refine _root_.id ?_; kernel_rfl) | omega) only [evs, ext_mv, nth, put, putT, getT, binInt, binStr, binBool, aUn, outA, resA, mapO, resA1, oneOf, w1, w2, w3, bots, cond_true, cond_false, if_true, if_false, ite_true, ite_false, reduceIte, reduceCtorEq, implies_true, Nat.reduceAdd, Nat.reduceSub, AV.int, AV.bool, AV.str, Nat.reduceBEq, Nat.reduceEqDiff, Nat.reduceMul, Nat.reduceLT, Nat.reduceLeDiff, Int.reduceNeg, BEq.rfl, beq_self_eq_true, tabl, cellsOf, fldA, ldA, stA, entAt, partA, takeN, over, leafOk, Value.oneCell', idxA, nilA, cellsEq, fillA, elemsA, pure1, pure2, reps, chkA, tys, Tryd.results96, KX_draw, KX_drawQ, KX_tail, lastO_one, lastO_more, dropL_one, dropL_more, callP_eq, callM_true, digA, e5, e31, e32, d2, hT, hfz]
end
end Go.Proofs.YtgadegdhfjnoaaaDoor
/-
  What the functions of the numbers compute: products of digits.
-/

namespace Go.Proofs.YtgadegdhfjnoaaaDoor
open Go

theorem okD_set {l : List Int} {i : Nat} {x : Int} (h : okD l) (h0 : 0 ≤ x) (h1 : x < 10000) : okD (l.set i x) := fun d hd => by
  rcases List.mem_or_eq_of_mem_set hd with hd | rfl
  · exact h d hd
  · exact ⟨h0, h1⟩
structure Mul1 (X Y i : Nat) (out : List Int) : Prop where
  len : out.length = (dig X).length + (dig Y).length
  ok : okD out
  zero : ∀ j x, i + (dig Y).length ≤ j → nth out j = some x → x = 0
  eqv : val out + 10000 ^ i * (val ((dig X).drop i) * Y) = X * Y
theorem Mul1.start (X Y : Nat) : Mul1 X Y 0 (List.replicate ((dig X).length + (dig Y).length) 0) := by
  have hz : ∀ (n j : Nat) (x : Int), nth (List.replicate n (0 : Int)) j = some x → x = 0 := fun n j x h => by
    rw [nth_get] at h
    exact (List.mem_replicate.1 (List.mem_of_getElem? h)).2
  refine ⟨by simp, okD_of fun j x hx => by rw [hz _ _ _ hx]; omega, fun j x _ hx => hz _ _ _ hx, ?_⟩
  rw [val_replicate, List.drop_zero, val_dig]; simp
structure Mul2 (X Y i k : Nat) (v d c : Int) (out : List Int) : Prop where
  len : out.length = (dig X).length + (dig Y).length
  ok : okD out
  zero : ∀ j x, i + (dig Y).length ≤ j → (k ≤ (dig Y).length ∨ i + (dig Y).length < j) → nth out j = some x → x = 0
  c0 : 0 ≤ c ∧ c < 10000
  eqv : val out + 10000 ^ (i + k) * (c + d * val ((dig Y).drop k)) = v
theorem Mul2.start {X Y i : Nat} {d : Int} {out : List Int} (h : Mul1 X Y i out) : Mul2 X Y i 0 (val out + 10000 ^ i * (d * Y)) d 0 out :=
  ⟨h.len, h.ok, fun j x hj _ hx => h.zero j x hj hx, by omega, by rw [List.drop_zero, val_dig]; simp⟩
theorem Mul2.step {X Y i k : Nat} {v d c x n : Int} {out : List Int} (h : Mul2 X Y i k v d c out) (hk : k ≤ (dig Y).length) (hd : 0 ≤ d ∧ d < 10000) (hx : nth out (i + k) = some x) (hn : n = c + x + d * (nth (dig Y) k).getD 0) :
    Mul2 X Y i (k + 1) v d (n.tdiv 10000) (out.set (i + k) (n.tmod 10000)) ∧ 0 ≤ n ∧ n ≤ 99999999 ∧ n.tdiv 10000 = n / 10000 := by
  have h1 := dig_getD Y k
  have h2 := of_okD h.ok hx
  have h3 := h.c0
  have hp0 : 0 ≤ d * (nth (dig Y) k).getD 0 := Int.mul_nonneg hd.1 h1.1
  have hp1 : d * (nth (dig Y) k).getD 0 ≤ 9999 * 9999 := Int.mul_le_mul (by omega) (by omega) h1.1 (by omega)
  have e1 : n.tdiv 10000 = n / 10000 := Int.tdiv_eq_ediv_of_nonneg (by omega)
  have e2 : n.tmod 10000 = n % 10000 := Int.tmod_eq_emod_of_nonneg (by omega)
  refine ⟨⟨by rw [List.length_set]; exact h.len, okD_set h.ok (by omega) (by omega), fun j y hj hjk hy => ?_, by omega, ?_⟩, by omega, by omega, e1⟩
  · rcases set_same hy with ⟨rfl, rfl⟩ | ⟨hne, hy⟩
    · have hkk : k = (dig Y).length := by omega
      omega
    · exact h.zero j y hj (by omega) hy
  · have hv := h.eqv
    rw [val_drop (dig Y) k] at hv
    have hmul : d * ((nth (dig Y) k).getD 0 + 10000 * val ((dig Y).drop (k + 1))) = d * (nth (dig Y) k).getD 0 + 10000 * (d * val ((dig Y).drop (k + 1))) := by
      rw [Int.mul_add, Int.mul_left_comm]
    rw [hmul] at hv
    rw [val_set hx, Int.add_assoc, ← Nat.add_assoc, Int.mul_comm (n.tmod 10000 - x), pow_step, ← hv]
    congr 2
    omega
theorem Mul2.next {X Y i : Nat} {d c x : Int} {o out : List Int} (h : Mul2 X Y i (dig Y).length (val o + 10000 ^ i * (d * Y)) d c out) (h0 : Mul1 X Y i o) (hd : nth (dig X) i = some d) (hx : nth out (i + (dig Y).length) = some x) : x = 0 ∧ Mul1 X Y (i + 1) (out.set (i + (dig Y).length) (x + c)) := by
  have hx0 := h.zero _ x (Nat.le_refl _) (.inl (Nat.le_refl _)) hx
  subst hx0
  have h3 := h.c0
  refine ⟨rfl, by rw [List.length_set]; exact h.len, okD_set h.ok (by omega) (by omega), fun j y hj hy => ?_, ?_⟩
  · rcases set_same hy with ⟨rfl, rfl⟩ | ⟨hne, hy⟩
    · omega
    · exact h.zero j y (by omega) (.inl (Nat.le_refl _)) hy
  · have hv := h.eqv
    rw [List.drop_length] at hv
    simp only [val, Int.mul_zero, Int.add_zero] at hv
    have hv0 := h0.eqv
    rw [nth_drop hd, val] at hv0
    rw [val_set hx, ← hv0]
    have e1 : (0 : Int) + c - 0 = c := by omega
    rw [e1, Int.mul_comm c, hv, Int.add_assoc, pow_step]
    congr 2
    rw [Int.add_mul, Int.mul_assoc]
theorem Mul2.last {X Y i k : Nat} {d c : Int} {o out : List Int} (h : Mul2 X Y i k (val o + 10000 ^ i * (d * Y)) d c out) (hk : (dig Y).length ≤ k) (hc : c = 0) (h0 : Mul1 X Y i o) (hd : nth (dig X) i = some d) : Mul1 X Y (i + 1) out := by
  refine ⟨h.len, h.ok, fun j y hj hy => h.zero j y (by omega) (by omega) hy, ?_⟩
  have hv := h.eqv
  rw [List.drop_eq_nil_of_le hk, hc] at hv
  simp only [val, Int.mul_zero, Int.add_zero] at hv
  have hv0 := h0.eqv
  rw [nth_drop hd, val] at hv0
  rw [← hv0, hv, Int.add_assoc, pow_step]
  congr 2
  rw [Int.add_mul, Int.mul_assoc]
theorem Mul1.done {X Y : Nat} {out : List Int} (h : Mul1 X Y (dig X).length out) : trimL out = dig (X * Y) := by
  have hv := h.eqv
  rw [List.drop_length] at hv
  simp only [val, Int.zero_mul, Int.mul_zero, Int.add_zero] at hv
  rw [trim_dig h.ok, hv]
  congr 1
section
variable (S : List Ent) (tk : List Nat) (k : Nat)
theorem cells_take {l : List Int} {n : Nat} : ((l.map numC).take n) = (l.take n).map numC := by rw [← List.map_take]
theorem ap_own {t : TypeId} {c : Cap} {n id ep : Nat} {l : List Int} {tk : List Nat} {S : List Ent} (h : entAt S id ep = some (l.map numC)) (hn : n ≤ l.length) : apB1 Tryd.prog t (.frz [] c) (.sref id ep 0 n 1) tk S = apB (apT Tryd.prog t) [] c ((l.take n).map digC) tk := by
  have hg : (Globs.shAny : Bool) = true := rfl
  have hpure : (((l.take n).map digC).all fun e => e.all fun c => pure1 (w1 c)) = true := by
    rw [List.all_eq_true]
    intro e he
    rw [List.mem_map] at he
    obtain ⟨x, -, rfl⟩ := he
    rfl
  have hw1 : ((l.take n).map digC).map (·.map w1) = (l.take n).map digC := by rw [List.map_map]; exact List.map_congr_left fun _ _ => rfl
  unfold apB1
  simp only [isSref, hg, Bool.and_self, if_true, apR, h, List.drop_zero, rowsAt_num hn, hpure]
  rw [← apA_eq, hw1]
/-- a signed number over digits of one's own -/
def sgnOwn (neg : Bool) (id ep n : Nat) : AV := if 200 < n then .tup [.agg [.bool false, .frz [] .nilc], .bool false] else if n = 0 then .tup [.agg [.bool false, .frz [] .nilc], .bool true] else .tup [.agg [.bool neg, .sref id ep 0 n 1], .bool true]
theorem big_signed_own (neg : Bool) (id ep n : Nat) (hid : id < S.length) : cL Tryd.prog 71 [.bool neg, .sref id ep 0 n 1] S tk k = some (sgnOwn neg id ep n, S, tk, k + 1) := by
  refine call_shared Tryd.func71 rfl rfl (by decide +kernel) Tryd.ntmps71 rfl ?_; rw [RK_KX]
  by_cases h1 : 200 < n
  · have d1 : decide ((n : Int) > 200) = true := by simp; omega
    simp (maxSteps := 1000000) +contextual (disch := first | with_reducible assumption | exact ⟨rfl⟩ | exact ⟨rfl, rfl⟩ | (refine _root_.id ?_; kernel_rfl) | omega) only [evs, ext_mv, nth, put, putT, getT, binInt, binStr, binBool, aUn, outA, resA, mapO, resA1, oneOf, w1, w2, w3, bots, cond_true, cond_false, if_true, if_false, ite_true, ite_false, reduceIte, reduceCtorEq, implies_true, Nat.reduceAdd, Nat.reduceSub, AV.int, AV.bool, AV.str, Nat.reduceBEq, Nat.reduceEqDiff, Nat.reduceMul, Nat.reduceLT, Nat.reduceLeDiff, Int.reduceNeg, BEq.rfl, beq_self_eq_true, tabl, cellsOf, fldA, ldA, stA, entAt_new, entAt_old, entAt_old2, List.take_left, List.take_length, partA, takeN, over, leafOk, Value.oneCell', idxA, nilA, cellsEq, fillA, elemsA, pure1, pure2, reps, chkA, tys, Tryd.results71, KX_draw, KX_drawQ, KX_tail, lastO_one, lastO_more, dropL_one, dropL_more, callP_eq, callM_true, d1]
    simp [sgnOwn, h1]
  have d1 : decide ((n : Int) > 200) = false := by simp; omega
  by_cases h2 : n = 0
  · have d2 : ((n : Int) == 0) = true := by simp; omega
    simp (maxSteps := 1000000) +contextual (disch := first | with_reducible assumption | exact ⟨rfl⟩ | exact ⟨rfl, rfl⟩ | (refine _root_.id ?_; kernel_rfl) | omega) only [evs, ext_mv, nth, put, putT, getT, binInt, binStr, binBool, aUn, outA, resA, mapO, resA1, oneOf, w1, w2, w3, bots, cond_true, cond_false, if_true, if_false, ite_true, ite_false, reduceIte, reduceCtorEq, implies_true, Nat.reduceAdd, Nat.reduceSub, AV.int, AV.bool, AV.str, Nat.reduceBEq, Nat.reduceEqDiff, Nat.reduceMul, Nat.reduceLT, Nat.reduceLeDiff, Int.reduceNeg, BEq.rfl, beq_self_eq_true, tabl, cellsOf, fldA, ldA, stA, entAt_new, entAt_old, entAt_old2, List.take_left, List.take_length, partA, takeN, over, leafOk, Value.oneCell', idxA, nilA, cellsEq, fillA, elemsA, pure1, pure2, reps, chkA, tys, Tryd.results71, KX_draw, KX_drawQ, KX_tail, lastO_one, lastO_more, dropL_one, dropL_more, callP_eq, callM_true, d1, d2]
    simp [sgnOwn, h2]
  · have d2 : ((n : Int) == 0) = false := by simp; omega
    simp (maxSteps := 1000000) +contextual (disch := first | with_reducible assumption | exact ⟨rfl⟩ | exact ⟨rfl, rfl⟩ | (refine _root_.id ?_; kernel_rfl) | omega) only [evs, ext_mv, nth, put, putT, getT, binInt, binStr, binBool, aUn, outA, resA, mapO, resA1, oneOf, w1, w2, w3, bots, cond_true, cond_false, if_true, if_false, ite_true, ite_false, reduceIte, reduceCtorEq, implies_true, Nat.reduceAdd, Nat.reduceSub, AV.int, AV.bool, AV.str, Nat.reduceBEq, Nat.reduceEqDiff, Nat.reduceMul, Nat.reduceLT, Nat.reduceLeDiff, Int.reduceNeg, BEq.rfl, beq_self_eq_true, tabl, cellsOf, fldA, ldA, stA, entAt_new, entAt_old, entAt_old2, List.take_left, List.take_length, partA, takeN, over, leafOk, Value.oneCell', idxA, nilA, cellsEq, fillA, elemsA, pure1, pure2, reps, chkA, tys, Tryd.results71, KX_draw, KX_drawQ, KX_tail, lastO_one, lastO_more, dropL_one, dropL_more, callP_eq, callM_true, d1, d2]
    simp [sgnOwn, h1, h2]
theorem trim_not_nil {l : List Int} (h : l ≠ []) : l.length ≠ 0 := fun h' => h (List.length_eq_zero_iff.1 h')
end
end Go.Proofs.YtgadegdhfjnoaaaDoor
/-
  Products as the document says them.
-/

namespace Go.Proofs.YtgadegdhfjnoaaaDoor
open Go

theorem trimL_dig (n : Nat) : trimL (dig n) = dig n := by rw [trim_dig (okD_dig n), val_dig]; rfl
def sB (l : List Int) : Bool := !decide (200 < l.length)
def sL (l : List Int) : List Int := if 200 < l.length then [] else l
def sN (neg : Bool) (l : List Int) : Bool := if 200 < l.length then false else neg && !decide (l = [])
theorem sgnF_eq (neg : Bool) (l : List Int) : sgnF neg l = .tup [bigA (sN neg l) (sL l), .bool (sB l)] := by
  unfold sgnF sN sL sB
  by_cases h : 200 < l.length <;> simp [h]
theorem sL_len (l : List Int) : (sL l).length ≤ 200 := by
  unfold sL; split
  · simp
  · omega
theorem sgnF_nil (p q : Bool) : sgnF p [] = sgnF q [] := by simp [sgnF]
theorem V_bad {p : Bool} {l : List Int} (h : validF p l = false) : V p l = 0 := by simp [V, h]
theorem mul_signs (p q : Bool) (l r : List Int) : sgnF ((validF p l && p) != (validF q r && q)) (dig ((V p l).natAbs * (V q r).natAbs)) = sgnF (p != q) (dig ((V p l).natAbs * (V q r).natAbs)) := by
  cases h1 : validF p l with
  | false => rw [V_bad h1]; simp only [Int.natAbs_zero, Nat.zero_mul, dig_zero]; exact sgnF_nil _ _
  | true =>
    cases h2 : validF q r with
    | false => rw [V_bad h2]; simp only [Int.natAbs_zero, Nat.mul_zero, dig_zero]; exact sgnF_nil _ _
    | true => simp

section
variable (S : List Ent) (tk : List Nat) (k : Nat)
theorem dig_mul_len {X Y m n : Nat} (ha : (dig X).length ≤ m) (hb : (dig Y).length ≤ n) : (dig (X * Y)).length ≤ m + n := by
  rw [dig_len] at ha hb ⊢
  rw [Nat.pow_add]
  exact Nat.mul_lt_mul'' ha hb
end
end Go.Proofs.YtgadegdhfjnoaaaDoor
