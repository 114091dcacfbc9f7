/-
  What the evaluator gives is what the model does: functions.
-/
import Derived.Test.YtokncdoejnchfaaDoorEvRun
namespace Go.Proofs.YtokncdoejnchfaaDoor
open Go.RowKit

section
variable {P : Program}
def resOne (P : Program) (tmps : Array Value) : ResultVar → Sem Value
  | .tmp t => pure (tmps.getD t undef)
  | .cell a t => do loadVar t (← asAddr (tmps.getD a undef))
theorem VR_get {C : Cx} {T : List AV} {tmps : Array Value} (h : VRs C T tmps.toList) (t : Tmp) : VR C (getT T t) (tmps.getD t undef) :=
  VR_opv (a := ⟨tmps, []⟩) h (.tmp t)
theorem resA1_sound [Globs] {C : Cx} {st : St} {a : Act} (hr : Rel C st a) {rv : ResultVar} {v : AV} (h : resA1 P st rv = some v) : Has P C (resOne P a.tmps rv) v := by
  cases rv with
  | tmp t =>
    simp only [resA1, Option.some.injEq] at h; subst h
    exact ⟨_, rfl, VR_get hr.tmps t⟩
  | cell p t =>
    simp only [resA1] at h
    rw [← hr.S] at h
    obtain ⟨u, h1, h2⟩ := ldA_sound hr.sr (VR_get hr.tmps p) h
    refine ⟨u, ?_, h2⟩
    simp only [resOne]
    generalize a.tmps.getD p undef = x at h1
    cases x with
    | pointer b =>
      cases b with
      | none => simp [Instr.loadAt, Instr.sureAddr] at h1
      | some b => simpa [Instr.loadAt, Instr.sureAddr, asAddr] using h1
    | _ => simp [Instr.loadAt, Instr.sureAddr] at h1
theorem mapO_res [Globs] {C : Cx} {st : St} {a : Act} (hr : Rel C st a) : ∀ {rs : List ResultVar} {vs : List AV}, mapO (resA1 P st) rs = some vs → ∃ us, (rs.mapM (resOne P a.tmps)).run P C.w = .ok us C.w ∧ VRs C vs us
  | [], vs, h => by
    simp only [mapO, Option.some.injEq] at h; subst h
    exact ⟨[], by simp, by simp only [VRs]⟩
  | r :: rs, vs, h => by
    simp only [mapO] at h
    split at h
    · rename_i b l h1 h2
      simp only [Option.some.injEq] at h; subst h
      obtain ⟨u, g1, g2⟩ := resA1_sound hr h1
      obtain ⟨us, g3, g4⟩ := mapO_res hr h2
      exact ⟨u :: us, by rw [List.mapM_cons]; simp only [Sem.run_bind, g1, Result.andThen_ok, g3, Sem.run_pure], by simp only [VRs]; exact ⟨g2, g4⟩⟩
    · simp at h
theorem resA_sound [Globs] {C : Cx} {st : St} {a : Act} (hr : Rel C st a) {fn : Func} {v : AV} (h : resA P fn.results.toList st = some v) : Has P C (results fn a.tmps) v := by
  simp only [resA, Option.map_eq_some_iff] at h
  obtain ⟨vs, h, rfl⟩ := h
  obtain ⟨us, h1, h2⟩ := mapO_res hr h
  have hrun : (results fn a.tmps).run P C.w = .ok (if h : us.toArray.size = 1 then us.toArray[0] else .tuple us.toArray) C.w := by
    have e : results fn a.tmps = (do
      let vs ← fn.results.mapM (resOne P a.tmps)
      pure (if h : vs.size = 1 then vs[0] else .tuple vs)) := by
      unfold results
      congr 1
    rw [e, Sem.run_bind, Array.mapM_eq_mapM_toList, Sem.run_map, h1]
    rfl
  have hlen := VRs_length h2
  match us, vs, h2, hlen, hrun with
  | [u], [v], h2, _, hrun =>
    simp only [VRs] at h2
    exact ⟨u, by rw [hrun]; simp, h2.1⟩
  | [], [], h2, _, hrun => exact ⟨.tuple #[], by rw [hrun]; simp, by simp only [oneOf, VR]; exact ⟨_, rfl, h2⟩⟩
  | u :: u' :: us, v :: v' :: vs, h2, _, hrun => exact ⟨.tuple (u :: u' :: us).toArray, by rw [hrun]; simp, by simp only [oneOf, VR]; exact ⟨_, rfl, h2⟩⟩

theorem VR_w3 {C : Cx} {c x} (h : VR C c x) : VR C (w3 c) x := by
  cases c with
  | tup cs =>
    simp only [w3, VR] at h ⊢
    obtain ⟨vs, e, hr⟩ := h
    exact ⟨vs, e, VRs_w2 hr⟩
  | _ => exact VR_w2 h
/-- pure values are the same to all who let alone what they hang on -/
theorem pure1_move {C C' : Cx} {c x} (hst : Stays C.w C'.w C.Avoid C'.Avoid) (hp : pure1 c = true) (h : VR C c x) : VR C' c x := VR_of_PR (PR.stays hst _ _ (PR_of_VR hp h))
theorem pures1_move {C C' : Cx} (hst : Stays C.w C'.w C.Avoid C'.Avoid) : ∀ {cs vs}, cs.all pure1 = true → VRs C cs vs → VRs C' cs vs
  | [], [], _, _ => by simp only [VRs]
  | c :: cs, v :: vs, hp, h => by
    simp only [List.all_cons, Bool.and_eq_true] at hp
    simp only [VRs] at h ⊢
    exact ⟨pure1_move hst hp.1 h.1, pures1_move hst hp.2 h.2⟩
  | [], _ :: _, _, h => by simp only [VRs] at h
  | _ :: _, [], _, h => by simp only [VRs] at h
theorem pure2_move {C C' : Cx} {c x} (hst : Stays C.w C'.w C.Avoid C'.Avoid) (hp : pure2 c = true) (h : VR C c x) : VR C' c x := by
  cases c with
  | agg cs =>
    simp only [VR] at h ⊢
    obtain ⟨vs, e, hr⟩ := h
    exact ⟨vs, e, pures1_move hst hp hr⟩
  | _ => exact pure1_move hst hp h
theorem pures2_move {C C' : Cx} (hst : Stays C.w C'.w C.Avoid C'.Avoid) : ∀ {cs vs}, cs.all pure2 = true → VRs C cs vs → VRs C' cs vs
  | [], [], _, _ => by simp only [VRs]
  | c :: cs, v :: vs, hp, h => by
    simp only [List.all_cons, Bool.and_eq_true] at hp
    simp only [VRs] at h ⊢
    exact ⟨pure2_move hst hp.1 h.1, pures2_move hst hp.2 h.2⟩
  | [], _ :: _, _, h => by simp only [VRs] at h
  | _ :: _, [], _, h => by simp only [VRs] at h
theorem pure3_move {C C' : Cx} {c x} (hst : Stays C.w C'.w C.Avoid C'.Avoid) (hp : pure3 c = true) (h : VR C c x) : VR C' c x := by
  cases c with
  | tup cs =>
    simp only [VR] at h ⊢
    obtain ⟨vs, e, hr⟩ := h
    exact ⟨vs, e, pures2_move hst hp hr⟩
  | _ => exact pure2_move hst hp h
theorem VRs_bots {C : Cx} : ∀ n : Nat, VRs C (List.replicate n AV.bot) (List.replicate n undef)
  | 0 => by simp [VRs]
  | n + 1 => by simp only [List.replicate_succ, VRs, VR]; exact ⟨trivial, VRs_bots n⟩
/-- one function's code, among these variables -/
theorem body_sound [Globs] [Ext P] {call : CallA} (hc : CallOk P call) (hi : ∀ M, @IndepC (gM M) (@callP (gM M) P _ call)) {ok : St → List Oper → Bool} (hd : DrawOk P ok) {k : Nat} {f : FuncId} {fn : Func} {c : Code} (hf : P.funcs[f]? = some fn) (hb : fn.body = some c) {C : Cx} (hs : SR C) {args : List AV} {vs : Array Value} (hv : VRs C args vs.toList) {r : AV} {st : St}
    (h : outA P fn (evC P call ok k c ⟨args ++ List.replicate (fn.ntmps - args.length) .bot, C.S, C.tk, C.n⟩) = some (r, st)) :
    Calls P f vs C.w fun e w' => ∃ v C', e = .returned v ∧ C'.w = w' ∧ Le C C' ∧ SR C' ∧ C'.S = st.S ∧ C'.tk = st.tk ∧ C'.n = st.n ∧ VR C' r v := by
  have hlen : vs.size = args.length := by have := VRs_length hv; simpa using this.symm
  refine calls_of_wp hf hb ?_
  have hrel : Rel C ⟨args ++ List.replicate (fn.ntmps - args.length) .bot, C.S, C.tk, C.n⟩ { tmps := vs ++ Array.replicate (fn.ntmps - vs.size) undef, defers := [] } :=
    ⟨rfl, rfl, rfl, by rw [hlen]; simpa using VRs_append hv (VRs_bots _), rfl, hs⟩
  have fin : ∀ {ex : Ex} {st' : St}, (ex = .normal ∨ ex = .ret) → (resA P fn.results.toList st').map (fun r => (r, st')) = some (r, st) → ∀ a' C', Le C C' → Rel C' st' a' →
      bodyPost P fn (fun e w' => ∃ v C', e = .returned v ∧ C'.w = w' ∧ Le C C' ∧ SR C' ∧ C'.S = st.S ∧ C'.tk = st.tk ∧ C'.n = st.n ∧ VR C' r v) (exOf ex) a' C'.w := by
    intro ex st' hex he a' C' hle hr
    simp only [Option.map_eq_some_iff, Prod.mk.injEq] at he
    obtain ⟨r', he, rfl, rfl⟩ := he
    obtain ⟨v, h1, h2⟩ := resA_sound hr he
    rcases hex with rfl | rfl
    · exact ⟨hr.defers, v, h1, v, C', rfl, rfl, hle, hr.sr, hr.S, hr.tk, hr.n, h2⟩
    · exact ⟨hr.defers, v, h1, v, C', rfl, rfl, hle, hr.sr, hr.S, hr.tk, hr.n, h2⟩
  generalize he : evC P call ok k c ⟨args ++ List.replicate (fn.ntmps - args.length) .bot, C.S, C.tk, C.n⟩ = out at h
  match out with
  | none => simp [outA] at h
  | some (.exit _, _) => simp [outA] at h
  | some (.normal, st') => exact evC_sound hc hi hd c C _ .normal st' _ _ he hrel (fin (.inl rfl) h)
  | some (.ret, st') => exact evC_sound hc hi hd c C _ .ret st' _ _ he hrel (fin (.inr rfl) h)
/-- the callee's own beginning: nothing is its own, all that the caller may write is to be let alone -/
def Cx.alone (C : Cx) : Cx := { w := C.w, av := C.Avoid, φ := C.φ, ψ := C.ψ, S := [], tk := [], n := 0 }
theorem alone_mut {C : Cx} {b o : Nat} : ¬ C.alone.Mut b o := by
  rintro (⟨i, hi, _⟩ | ⟨i, hi, _⟩) <;> simp [Cx.alone] at hi
theorem SR.alone [Globs] {C : Cx} (hs : SR C) : SR C.alone := by
  refine ⟨fun i e h => by simp [Cx.alone, nth] at h, fun i j hi => by simp [Cx.alone] at hi, fun i j o hi => by simp [Cx.alone] at hi, fun i j o hi => by simp [Cx.alone] at hi, fun b o h => absurd h alone_mut, fun b o h => ?_, fun i o hi => by simp [Cx.alone] at hi, fun g o h => ⟨(hs.glob g o h).1, fun i => .inl ((hs.glob g o h).2 i)⟩⟩
  rcases Nat.lt_or_ge b C.w.heap.size with h' | h'
  · exact h'
  · exact absurd h (hs.fresh h')
theorem fz_own [Globs] {C : Cx} (hs : SR C) {m id o : Nat} (hid : id < C.S.length) (hm : m ≤ id) : ¬ ({ C with S := C.S.take m } : Cx).Avoid (C.φ id) o := by
  rintro (h | ⟨i, hi, h⟩ | ⟨i, hi, h1, h2, h3⟩)
  · exact hs.own _ o (.inl ⟨id, hid, rfl⟩) h
  · simp only [List.length_take] at hi
    have := hs.ne i id (by omega) hid h
    omega
  · exact hs.apart id i o hid hi h1.symm h2 h3
theorem fz1_sound [Globs] {C : Cx} (hs : SR C) (m : Nat) {c x} (h : VR C c x) : VR { C with S := C.S.take m } (fz1 m C.S c) x := by
  have keep : VR { C with S := C.S.take m } c x := VR.mono (Le.take m) _ _ h
  cases c with
  | sref id ep off len sz =>
    simp only [fz1]
    split
    · rename_i hm
      unfold fzB
      split
      · rename_i cs hcs
        obtain ⟨e, h1, h2, rfl⟩ := entAt_some hcs
        unfold rowsFz
        split
        · rename_i es hes
          split
          · rename_i hp
            simp only [VR] at h
            obtain ⟨b, a, cap, rfl, hcap, ha, hn, hb⟩ := h
            obtain rfl := hb e h1 h2
            obtain ⟨hlt, arr, t, h3, h4⟩ := hs.ent id e h1
            obtain ⟨g1, g2, g3, g4⟩ := rowsAt_len hes
            simp only [VR]
            refine ⟨a, len, cap, rfl, by simp [g1], hcap, trivial, ?_⟩
            by_cases h0 : len = 0
            · left
              subst h0
              rw [List.eq_nil_of_length_eq_zero g1]; rfl
            · right
              obtain rfl := ha.resolve_left h0
              have hl4 := VRs_length h4
              simp only [Array.length_toList] at hl4
              refine ⟨C.φ id, off, sz, rfl, PRows_lay (l := (arr.toList.drop off).take (len * sz)) (fun e he => ?_) ?_ (lie_of fun j v hj => ⟨?_, fz_own hs (nth_lt h1) hm⟩)⟩
              · rw [List.mem_map] at he
                obtain ⟨e', he', rfl⟩ := he
                rw [List.length_map]; exact g2 e' he'
              · have hflat : (es.map (·.map w1)).flatten = ((e.cells.drop off).take (len * sz)).map w1 := by rw [← g3, List.map_flatten]
                have hvs : VRs C ((e.cells.drop off).take (len * sz)) ((arr.toList.drop off).take (len * sz)) := (VRs_take (VRs_drop off h4) (takeN_some g4)).1
                rw [hflat]
                refine PRs_of_VRs (C := { C with S := C.S.take m }) ?_ (VRs.mono (Le.take m) _ _ (VRs_w1 hvs))
                rw [← g3, List.all_eq_true]
                intro c hc
                rw [List.mem_map] at hc
                obtain ⟨c', hc', rfl⟩ := hc
                rw [List.mem_flatten] at hc'
                obtain ⟨r, hr, hc'⟩ := hc'
                exact List.all_eq_true.1 (List.all_eq_true.1 hp r hr) c' hc'
              · have hj' : j < len * sz := by
                  have := (List.getElem?_eq_some_iff.1 hj).1
                  simp at this; omega
                rw [List.getElem?_take_of_lt hj', List.getElem?_drop] at hj
                simp [World.cell?, h3]; simpa using hj
          · simp only [VR]
        · simp only [VR]
      · simp only [VR]
    · exact keep
  | _ => exact keep
theorem fz1s_sound [Globs] {C : Cx} (hs : SR C) (m : Nat) : ∀ {cs vs}, VRs C cs vs → VRs { C with S := C.S.take m } (cs.map (fz1 m C.S)) vs
  | [], [], _ => by simp only [List.map_nil, VRs]
  | c :: cs, v :: vs, h => by simp only [VRs, List.map_cons] at h ⊢; exact ⟨fz1_sound hs m h.1, fz1s_sound hs m h.2⟩
  | [], _ :: _, h => by simp only [VRs] at h
  | _ :: _, [], h => by simp only [VRs] at h
theorem fz2_sound [Globs] {C : Cx} (hs : SR C) (m : Nat) {c x} (h : VR C c x) : VR { C with S := C.S.take m } (fz2 m C.S c) x := by
  cases c with
  | agg cs =>
    simp only [fz2, VR] at h ⊢
    obtain ⟨vs, e, hr⟩ := h
    exact ⟨vs, e, fz1s_sound hs m hr⟩
  | _ => exact fz1_sound hs m h
theorem fz2s_sound [Globs] {C : Cx} (hs : SR C) (m : Nat) : ∀ {cs vs}, VRs C cs vs → VRs { C with S := C.S.take m } (cs.map (fz2 m C.S)) vs
  | [], [], _ => by simp only [List.map_nil, VRs]
  | c :: cs, v :: vs, h => by simp only [VRs, List.map_cons] at h ⊢; exact ⟨fz2_sound hs m h.1, fz2s_sound hs m h.2⟩
  | [], _ :: _, h => by simp only [VRs] at h
  | _ :: _, [], h => by simp only [VRs] at h
theorem fz3_sound [Globs] {C : Cx} (hs : SR C) (m : Nat) {c x} (h : VR C c x) : VR { C with S := C.S.take m } (fz3 m C.S c) x := by
  cases c with
  | tup cs =>
    simp only [fz3, VR] at h ⊢
    obtain ⟨vs, e, hr⟩ := h
    exact ⟨vs, e, fz2s_sound hs m hr⟩
  | _ => exact fz2_sound hs m h
theorem evF_ext [Globs] [Ext P] {ok : St → List Oper → Bool} {k : Nat} {f : FuncId} {args : List AV} {S : List Ent} {tk : List Nat} {n : Nat} (hf : Ext.on P f = true) : evF P ok (k + 1) f args S tk n = extC P f args S tk n := by
  simp only [evF, extC, hf, if_true]
/-- code that turns no variable but the function's own -/
structure KeepI (A : Nat → Bool) (m : Nat) (S0 : List Ent) (tk0 : List Nat) (st : St) : Prop where
  S : st.S.take m = S0
  le : m ≤ st.S.length
  tk : st.tk = tk0
  own : ∀ q, A q = true → getT st.T q = .bot ∨ getT st.T q = .prim undef ∨ ∃ id ep off, getT st.T q = .ref id ep off ∧ m ≤ id
theorem gp_same : ∀ {T : List AV} {d : Nat} {v : AV}, d < T.length → getT (put T d v) d = v
  | _ :: _, 0, _, _ => rfl
  | _ :: T, d + 1, _, h => gp_same (T := T) (by simpa using h)
  | [], _, _, h => by simp at h
theorem gp_other : ∀ {T : List AV} {d q : Nat} {v : AV}, d ≠ q → getT (put T d v) q = getT T q
  | [], _, _, _, _ => rfl
  | _ :: _, 0, 0, _, h => absurd rfl h
  | _ :: _, 0, _ + 1, _, _ => rfl
  | _ :: _, _ + 1, 0, _, _ => rfl
  | _ :: T, d + 1, q + 1, _, h => gp_other (T := T) (by omega)
theorem put_out : ∀ {T : List AV} {d : Nat} {v : AV}, T.length ≤ d → put T d v = T
  | [], _, _, _ => rfl
  | _ :: _, 0, _, h => by simp at h
  | _ :: T, d + 1, _, h => by simp only [put]; rw [put_out (T := T) (by simpa using h)]
theorem getT_putT {T : List AV} {d : Option Nat} {v : AV} {q : Nat} : getT (putT T d v) q = getT T q ∨ (d = some q ∧ getT (putT T d v) q = v) := by
  cases d with
  | none => exact .inl rfl
  | some d =>
    simp only [putT]
    by_cases h : d = q
    · subst h
      rcases Nat.lt_or_ge d T.length with hl | hl
      · exact .inr ⟨rfl, gp_same hl⟩
      · left; rw [put_out hl]
    · exact .inl (gp_other h)
theorem take_put {α : Type} : ∀ {l : List α} {i m : Nat} {v : α}, m ≤ i → (put l i v).take m = l.take m
  | [], _, _, _, _ => rfl
  | _ :: _, 0, m, _, h => by
    have : m = 0 := by omega
    subst this; rfl
  | _ :: _, _ + 1, 0, _, _ => rfl
  | _ :: l, i + 1, m + 1, v, h => by simp only [put, List.take_succ_cons, take_put (l := l) (i := i) (m := m) (v := v) (by omega)]
theorem keep_op [Globs] {call : CallA} {o : Oper} {all : List Oper} {nn m : Nat} {S0 : List Ent} {tk0 : List Nat} {st st' : St} {v : AV} (hA : o ∈ all) (hk : keepOp all nn o = true) (hI : KeepI (fun q => decide (nn ≤ q) && ownSlot all q) m S0 tk0 st) (h : evO P call o st = some (v, st')) :
    KeepI (fun q => decide (nn ≤ q) && ownSlot all q) m S0 tk0 { st' with T := putT st'.T o.dst v } := by
  have slot : st'.T = st.T → (makesVar o = true → ∃ id ep off, v = .ref id ep off ∧ m ≤ id) → ∀ q, (decide (nn ≤ q) && ownSlot all q) = true → getT (putT st'.T o.dst v) q = .bot ∨ getT (putT st'.T o.dst v) q = .prim undef ∨ ∃ id ep off, getT (putT st'.T o.dst v) q = .ref id ep off ∧ m ≤ id := by
    intro hT hv q hq
    rcases getT_putT (T := st'.T) (d := o.dst) (v := v) (q := q) with e | ⟨e1, e2⟩
    · rw [e, hT]; exact hI.own q hq
    · simp only [Bool.and_eq_true] at hq
      have := List.all_eq_true.1 hq.2 o hA
      rw [e1] at this
      simp only [bne_self_eq_false, Bool.false_or] at this
      obtain ⟨id, ep, off, rfl, hm⟩ := hv this
      exact .inr (.inr ⟨id, ep, off, e2, hm⟩)
  unfold evO at h
  unfold keepOp at hk
  split at h
  · rename_i t x e
    simp only [Option.map_eq_some_iff, Prod.mk.injEq] at h
    obtain ⟨_, _, rfl, rfl⟩ := h
    exact ⟨hI.S, hI.le, hI.tk, slot rfl (fun hm => by simp [makesVar, e] at hm)⟩
  · rename_i t x y e
    rw [e] at hk
    simp only [Option.map_eq_some_iff, Prod.mk.injEq] at h
    obtain ⟨S', hs, rfl, rfl⟩ := h
    cases x with
    | tmp q =>
      simp only at hk
      unfold stA at hs
      split at hs
      · rename_i id ep off sz vs hx _ _
        simp only [opv] at hx
        split at hs
        · split at hs
          · split at hs
            · simp only [Option.some.injEq] at hs; subst hs
              have hid : m ≤ id := by
                rcases hI.own q hk with h1 | h1 | ⟨id', ep', off', h1, h2⟩
                · rw [h1] at hx; simp at hx
                · rw [h1] at hx; simp at hx
                · rw [h1] at hx; simp only [AV.ref.injEq] at hx; omega
              exact ⟨by show (put st.S id _).take m = S0; rw [take_put hid]; exact hI.S, by show m ≤ (put st.S id _).length; rw [put_len]; exact hI.le, hI.tk, slot rfl (fun hm => by simp [makesVar, e] at hm)⟩
            · simp at hs
          · simp at hs
        · simp at hs
      · simp at hs
    | _ => simp at hk
  · rename_i t e
    simp only [Option.map_eq_some_iff, Prod.mk.injEq] at h
    obtain ⟨cs, _, rfl, rfl⟩ := h
    exact ⟨by show (st.S ++ _).take m = S0; rw [List.take_append_of_le_length hI.le]; exact hI.S, by show m ≤ (st.S ++ _).length; rw [List.length_append]; exact Nat.le_trans hI.le (Nat.le_add_right _ _), hI.tk, slot rfl (fun _ => ⟨_, _, _, rfl, hI.le⟩)⟩
  · rename_i t x e
    simp only [Option.map_eq_some_iff, Prod.mk.injEq] at h
    obtain ⟨cs, _, rfl, rfl⟩ := h
    exact ⟨by show (st.S ++ _).take m = S0; rw [List.take_append_of_le_length hI.le]; exact hI.S, by show m ≤ (st.S ++ _).length; rw [List.length_append]; exact Nat.le_trans hI.le (Nat.le_add_right _ _), hI.tk, slot rfl (fun _ => ⟨_, _, _, rfl, hI.le⟩)⟩
  · rename_i t l c e
    rw [e] at hk
    simp only [Bool.not_eq_true'] at hk
    simp only [Option.map_eq_some_iff, Prod.exists, hk] at h
    obtain ⟨l', sz, cs, _, hh⟩ := h
    rw [if_neg (by simp)] at hh
    simp only [Prod.mk.injEq] at hh
    obtain ⟨rfl, rfl⟩ := hh
    exact ⟨by show (st.S ++ _).take m = S0; rw [List.take_append_of_le_length hI.le]; exact hI.S, by show m ≤ (st.S ++ _).length; rw [List.length_append]; exact Nat.le_trans hI.le (Nat.le_add_right _ _), hI.tk, slot rfl (fun hm => by simp [makesVar, e] at hm)⟩
  · rename_i c e
    rw [e] at hk
    simp only at hk
    split at h
    · rename_i hb; rw [hb] at hk; simp at hk
    · rename_i hb; rw [hb] at hk; simp at hk
    · simp only [Option.map_eq_some_iff, Prod.mk.injEq] at h; obtain ⟨_, _, rfl, rfl⟩ := h
      exact ⟨hI.S, hI.le, hI.tk, slot rfl (fun hm => by simp [makesVar, e] at hm)⟩
    · rename_i h1 h2 h3
      exfalso
      cases hc : c.callee with
      | builtin b => cases b <;> first | exact h1 hc | exact h2 hc | exact h3 _ hc
      | value x => rw [hc] at hk; simp at hk
      | invoke x m => rw [hc] at hk; simp at hk
  · rename_i h1 h2 h3 h4 h5 h6
    simp only [Option.map_eq_some_iff, Prod.mk.injEq] at h; obtain ⟨_, _, rfl, rfl⟩ := h
    refine ⟨hI.S, hI.le, hI.tk, slot rfl (fun hm => ?_)⟩
    unfold makesVar at hm
    split at hm
    · exact absurd (by assumption) (h3 _)
    · exact absurd (by assumption) (h4 _ _)
    · simp at hm
theorem keep_ops [G : Globs] {call : CallA} {allr all : List Oper} {nn m : Nat} {S0 : List Ent} {tk0 : List Nat} : ∀ {l : List Oper} {st st' : St}, (∀ o ∈ l, o ∈ all ∧ keepOp all nn o = true) → KeepI (fun q => decide (nn ≤ q) && ownSlot all q) m S0 tk0 st → evOs P call allr l st = some st' → KeepI (fun q => decide (nn ≤ q) && ownSlot all q) m S0 tk0 st'
  | [], st, st', _, hI, h => by simp only [evOs, Option.some.injEq] at h; subst h; exact hI
  | o :: l, st, st', hq, hI, h => by
    simp only [evOs] at h
    split at h
    · simp at h
    · refine keep_ops (fun o ho => hq o (by simp [ho])) ?_ h
      refine ⟨hI.S, hI.le, hI.tk, fun q hqq => ?_⟩
      rcases getT_putT (T := st.T) (d := o.dst) (v := .prim undef) (q := q) with e | ⟨_, e⟩
      · simp only [e]; exact hI.own q hqq
      · exact .inr (.inl e)
    · split at h
      · rename_i v s1 ho
        obtain ⟨a1, a2⟩ := hq o (by simp)
        exact keep_ops (fun o ho => hq o (by simp [ho])) (keep_op a1 a2 hI ho) h
      · simp at h
theorem keep_loop {A : Nat → Bool} {m : Nat} {S0 : List Ent} {tk0 : List Nat} {f : St → Option (Ex × St)} (hf : ∀ st ex st', KeepI A m S0 tk0 st → f st = some (ex, st') → KeepI A m S0 tk0 st') : ∀ {k : Nat} {st st' : St} {ex : Ex}, KeepI A m S0 tk0 st → loopA f k st = some (ex, st') → KeepI A m S0 tk0 st'
  | 0, _, _, _, _, h => by simp [loopA] at h
  | k + 1, st, st', ex, hI, h => by
    simp only [loopA] at h
    split at h
    · rename_i s1 h1
      have h2 := hf _ _ _ hI h1
      refine keep_loop (st := { s1 with S := s1.S.take st.S.length }) hf ⟨?_, ?_, h2.tk, h2.own⟩ h
      · show (s1.S.take st.S.length).take m = S0
        rw [List.take_take, Nat.min_eq_left hI.le]; exact h2.S
      · show m ≤ (s1.S.take st.S.length).length
        rw [List.length_take]
        exact Nat.le_min.2 ⟨hI.le, h2.le⟩
    · exact hf _ _ _ hI h
theorem keep_code [Globs] [Ext P] {call : CallA} {ok : St → List Oper → Bool} {n nn m : Nat} {all : List Oper} {S0 : List Ent} {tk0 : List Nat} : ∀ (c : Code) (st : St) (ex : Ex) (st' : St), (∀ o ∈ opsOf c, o ∈ all ∧ keepOp all nn o = true) → KeepI (fun q => decide (nn ≤ q) && ownSlot all q) m S0 tk0 st → evC P call ok n c st = some (ex, st') → KeepI (fun q => decide (nn ≤ q) && ownSlot all q) m S0 tk0 st'
  | .skip, st, ex, st', _, hI, h => by simp only [evC, Option.some.injEq, Prod.mk.injEq] at h; obtain ⟨_, rfl⟩ := h; exact hI
  | .exit _, st, ex, st', _, hI, h => by simp only [evC, Option.some.injEq, Prod.mk.injEq] at h; obtain ⟨_, rfl⟩ := h; exact hI
  | .ret, st, ex, st', _, hI, h => by simp only [evC, Option.some.injEq, Prod.mk.injEq] at h; obtain ⟨_, rfl⟩ := h; exact hI
  | .region _ ops draw, st, ex, st', hq, hI, h => by
    simp only [opsOf] at hq
    simp only [evC] at h
    split at h
    · split at h
      · simp only [Option.map_eq_some_iff, Prod.mk.injEq] at h
        obtain ⟨s1, h, _, rfl⟩ := h
        exact keep_ops (G := gM _) hq hI h
      · simp at h
    · simp only [Option.map_eq_some_iff, Prod.mk.injEq] at h
      obtain ⟨s1, h, _, rfl⟩ := h
      exact keep_ops hq hI h
  | .seq a b, st, ex, st', hq, hI, h => by
    simp only [opsOf, List.mem_append] at hq
    simp only [evC] at h
    split at h
    · rename_i s1 h1
      exact keep_code b _ _ _ (fun o ho => hq o (.inr ho)) (keep_code a _ _ _ (fun o ho => hq o (.inl ho)) hI h1) h
    · exact keep_code a _ _ _ (fun o ho => hq o (.inl ho)) hI h
  | .cond x a b, st, ex, st', hq, hI, h => by
    simp only [opsOf, List.mem_append] at hq
    simp only [evC] at h
    split at h
    · split at h
      · exact keep_code a _ _ _ (fun o ho => hq o (.inl ho)) hI h
      · exact keep_code b _ _ _ (fun o ho => hq o (.inr ho)) hI h
    · simp at h
  | .block id c, st, ex, st', hq, hI, h => by
    simp only [opsOf] at hq
    simp only [evC] at h
    split at h
    · rename_i id' s1 h1
      have := keep_code c _ _ _ hq hI h1
      split at h
      · simp only [Option.some.injEq, Prod.mk.injEq] at h; obtain ⟨_, rfl⟩ := h; exact this
      · simp only [Option.some.injEq, Prod.mk.injEq] at h; obtain ⟨_, rfl⟩ := h; exact this
    · exact keep_code c _ _ _ hq hI h
  | .loop c, st, ex, st', hq, hI, h => by
    simp only [opsOf] at hq
    simp only [evC] at h
    exact keep_loop (fun s e s' hs hh => keep_code c s e s' hq hs hh) hI h
  | .rangeFunc _ _ _ _, _, _, _, _, _, h => by simp [evC] at h
  | .scope _, _, _, _, _, _, h => by simp [evC] at h
  | .label _, _, _, _, _, _, h => by simp [evC] at h
  | .goto _, _, _, _, _, _, h => by simp [evC] at h
  | .refuse _, _, _, _, _, _, h => by simp [evC] at h
theorem getT_bots {args : List AV} {q n : Nat} (h : args.length ≤ q) : getT (args ++ List.replicate n .bot) q = .bot := by
  induction args generalizing q with
  | nil =>
    simp only [List.nil_append]
    induction n generalizing q with
    | zero => rfl
    | succ n ih => cases q with
      | zero => rfl
      | succ q => exact ih (by simp)
  | cons x args ih => cases q with
    | zero => simp at h
    | succ q => exact ih (by simpa using h)
theorem evF_indep [Globs] [Ext P] [hX : ExtOk P] {ok : St → List Oper → Bool} : ∀ k M, @IndepC (gM M) (@callP (gM M) P _ (evF P ok k))
  | 0, M => by intro f args S tk n r S' tk' n' h; simp [callP, evF] at h
  | k + 1, M => by
    intro f args S tk n r S' tk' n' h
    by_cases hon : Ext.on P f = true
    · have e : ∀ S tk n, @callP (gM M) P _ (evF P ok (k + 1)) f args S tk n = @callP (gM M) P _ (extC P) f args S tk n := by
        intro S tk n; simp only [callP, evF_ext hon]
      rw [e] at h
      obtain ⟨g1, g2, g4⟩ := hX.indep M _ _ _ _ _ _ _ _ _ h
      exact ⟨g1, g2, g4.imp _root_.id fun g4 => ⟨g4.1, fun S2 tk2 n2 => by rw [e]; exact g4.2 S2 tk2 n2⟩⟩
    unfold callP at h
    split at h
    · rename_i hp
      by_cases hpu : ((args.map w2).all pure2 && !Ext.mv P f) = true
      · have hp' := hpu
        simp only [Bool.and_eq_true, Bool.not_eq_true'] at hp'
        obtain ⟨hp1, hmv⟩ := hp'
        simp only [evF] at h
        rw [if_neg hon] at h
        split at h
        · rename_i fn hf
          split at h
          · rename_i c hb
            split at h
            · simp at h
            · rename_i hname
              simp only [hmv, hp1, if_true, Bool.false_eq_true, if_false] at h
              split at h
              · rename_i r' ho
                simp only [Option.some.injEq, Prod.mk.injEq] at h
                obtain ⟨rfl, rfl, rfl, rfl⟩ := h
                refine ⟨rfl, rfl, .inr ⟨rfl, fun S2 tk2 n2 => ?_⟩⟩
                unfold callP
                rw [if_pos hp]
                simp only [evF, hf, hb]
                rw [if_neg hon, if_neg hname, if_neg (by rw [hmv]; simp), if_pos hp1, ho]
              · simp at h
          · simp at h
        · simp at h
      · have hsh : (@shF (gM M) f && keepFn P f args.length && !Ext.mv P f && !Ext.on P f) = true := by
          cases hx : ((args.map w2).all pure2 && !Ext.mv P f) with
          | true => exact absurd hx hpu
          | false => rw [hx] at hp; simpa using hp
        simp only [Bool.and_eq_true, Bool.not_eq_true'] at hsh
        obtain ⟨⟨⟨h1, h2⟩, hmv⟩, -⟩ := hsh
        have hpp : ¬ (args.map w2).all pure2 = true := fun h => hpu (by simp [h, hmv])
        simp only [evF] at h
        rw [if_neg hon] at h
        unfold keepFn at h2
        split at h
        · rename_i fn hf
          rw [hf] at h2
          simp only at h2
          split at h
          · rename_i c hb
            rw [hb] at h2
            simp only at h2
            split at h
            · simp at h
            · simp only [hmv, hpp, Bool.false_eq_true, if_false] at h
              split at h
              · rename_i r' st ho
                simp only [Option.some.injEq, Prod.mk.injEq] at h
                obtain ⟨rfl, rfl, rfl, rfl⟩ := h
                have hout : ∃ ex, evC P (evF P ok k) ok k c ⟨args ++ List.replicate (fn.ntmps - args.length) .bot, S, tk, n⟩ = some (ex, st) := by
                  generalize evC P (evF P ok k) ok k c ⟨args ++ List.replicate (fn.ntmps - args.length) .bot, S, tk, n⟩ = o at ho
                  unfold outA at ho
                  split at ho
                  · simp only [Option.map_eq_some_iff, Prod.mk.injEq] at ho; obtain ⟨_, _, _, rfl⟩ := ho; exact ⟨_, rfl⟩
                  · simp only [Option.map_eq_some_iff, Prod.mk.injEq] at ho; obtain ⟨_, _, _, rfl⟩ := ho; exact ⟨_, rfl⟩
                  · simp at ho
                obtain ⟨ex, hex⟩ := hout
                have hK := keep_code (all := opsOf c) (nn := args.length) (m := S.length) (S0 := S) (tk0 := tk) c _ _ _ (fun o ho => ⟨ho, List.all_eq_true.1 h2 o ho⟩)
                  ⟨List.take_length, Nat.le_refl _, rfl, fun q hq => .inl (getT_bots (by simp only [Bool.and_eq_true, decide_eq_true_eq] at hq; exact hq.1))⟩ hex
                exact ⟨hK.S, hK.tk, .inl h1⟩
              · simp at h
          · simp at h
        · simp at h
    · simp at h
theorem evF_sound [Globs] [Ext P] [hX : ExtOk P] {ok : St → List Oper → Bool} (hd : DrawOk P ok) : ∀ k, CallOk P (evF P ok k)
  | 0 => by intro f args S tk n r S' tk' n' h; simp [evF] at h
  | k + 1 => by
    have hc := evF_sound hd k
    intro f args S tk n r S' tk' n' h
    by_cases hon : Ext.on P f = true
    · rw [evF_ext hon] at h
      exact hX.ok _ _ _ _ _ _ _ _ _ h
    simp only [evF] at h
    rw [if_neg hon] at h
    split at h
    · rename_i fn hf
      split at h
      · rename_i c hb
        split at h
        · simp at h
        · rename_i hname
          refine ⟨⟨fn, hf, by simpa using hname, by rw [hb]; rfl⟩, ?_⟩
          rintro C vs rfl rfl rfl hs hv
          split at h
          · split at h
            · rename_i r' st ho
              simp only [Option.some.injEq, Prod.mk.injEq] at h
              obtain ⟨rfl, rfl, rfl, rfl⟩ := h
              exact body_sound hc (evF_indep k) hd (k := k) hf hb hs hv ho
            · simp at h
          split at h
          · rename_i hp
            split at h
            · rename_i r' ho
              simp only [Option.some.injEq, Prod.mk.injEq] at h
              obtain ⟨rfl, rfl, rfl, rfl⟩ := h
              have hst : Stays C.w C.alone.w C.Avoid C.alone.Avoid := fun b o v h1 h2 => ⟨h1, fun h3 => h3.elim h2 alone_mut⟩
              have hv' := pures2_move hst hp (VRs_w2 hv)
              have one : ∀ {as : List AV} {r0 : AV}, VRs C.alone as vs.toList → runP P ok (evF P ok k) k fn c as = some r0 → Calls P f vs C.w fun e w' => ∃ v C', e = .returned v ∧ C'.w = w' ∧ Le C C' ∧ SR C' ∧ C'.S = C.S ∧ C'.tk = C.tk ∧ C'.n = C.n ∧ VR C' r0 v := by
                intro as r0 hv' hrun
                unfold runP at hrun
                split at hrun
                · rename_i r' st ho
                  split at hrun
                  · rename_i hp3
                    simp only [Option.some.injEq] at hrun
                    subst hrun
                    refine Calls.mono (body_sound hc (evF_indep k) hd (k := k) hf hb hs.alone hv' ho) ?_
                    rintro e w' ⟨v, C', rfl, rfl, hle, hs', hS', -, -, h2⟩
                    have hbel : Below C.w.heap.size C.w C'.w := ⟨hle.os, hle.tape, hle.output, hle.size, fun b hb => hle.keep b hb fun o => alone_mut⟩
                    refine ⟨v, C.at C'.w, rfl, rfl, Le.of_below hbel, SR.of_below hs hbel, rfl, rfl, rfl, ?_⟩
                    have h3 := fz3_sound hs' 0 h2
                    rw [hS'] at h3
                    refine pure3_move (C := { C' with S := st.S.take 0 }) (fun b o x h1 h2 => ⟨h1, fun h3 => h2 (.inl ?_)⟩) hp3 (VR_w3 h3)
                    show C'.av b o
                    rw [hle.av]; exact h3
                  · simp at hrun
                · simp at hrun
              split at ho
              · unfold runN at ho
                split at ho
                · rename_i l hl
                  split at ho
                  · rename_i q1 q2
                    simp only [Option.some.injEq] at ho
                    subst ho
                    rw [hl] at hv'
                    cases hvl : vs.toList with
                    | nil => rw [hvl] at hv'; simp only [VRs] at hv'
                    | cons x xs =>
                      rw [hvl] at hv'
                      simp only [VRs] at hv'
                      obtain ⟨hx, hxs⟩ := hv'
                      simp only [VR] at hx
                      obtain ⟨a, len, cap, rfl, h1, h2, -, h4⟩ := hx
                      cases a with
                      | none => exact one (as := .frz [] .nl :: l) (by rw [hvl]; simp only [VRs, VR]; exact ⟨⟨none, len, cap, rfl, h1, h2, rfl, .inl trivial⟩, hxs⟩) q1
                      | some a => exact one (as := .frz [] .nn :: l) (by rw [hvl]; simp only [VRs, VR]; exact ⟨⟨some a, len, cap, rfl, h1, h2, rfl, .inl trivial⟩, hxs⟩) q2
                  · simp at ho
                · exact one hv' ho
              · exact one hv' ho
            · simp at h
          · split at h
            · rename_i r' st ho
              simp only [Option.some.injEq, Prod.mk.injEq] at h
              obtain ⟨rfl, rfl, rfl, rfl⟩ := h
              refine Calls.mono (body_sound hc (evF_indep k) hd (k := k) hf hb hs hv ho) ?_
              rintro e w' ⟨v, C', rfl, rfl, hle, hs', e1, e2, e3, h2⟩
              have h3 := fz3_sound hs' C.S.length h2
              rw [e1] at h3
              exact ⟨v, { C' with S := C'.S.take C.S.length }, rfl, rfl, hle.trans (Le.take _), hs'.take _, by rw [← e1], e2, e3, by rw [e1]; exact h3⟩
            · simp at h
      · simp at h
    · simp at h
end
end Go.Proofs.YtokncdoejnchfaaDoor
