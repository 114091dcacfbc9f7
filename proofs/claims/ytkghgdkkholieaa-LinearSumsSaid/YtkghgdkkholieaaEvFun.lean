/-
  What the evaluator gives is what the model does: functions.
-/
import Derived.Test.YtkghgdkkholieaaEvRun
namespace Go.Proofs.Ytkghgdkkholieaa
open Go.RowKit

section
variable {P : Program}
def resOne (P : Program) (tmps : Array Value) : ResultVar → Sem Value
  | .tmp t => pure (tmps.getD t undef)
  | .cell a t => do loadVar t (← asAddr (tmps.getD a undef))
theorem VR_get {C : Cx} {T : List AV} {tmps : Array Value} (h : VRs C T tmps.toList) (t : Tmp) : VR C (getT T t) (tmps.getD t undef) :=
  VR_opv (a := ⟨tmps, []⟩) h (.tmp t)
theorem resA1_sound {C : Cx} {st : St} {a : Act} (hr : Rel C st a) {rv : ResultVar} {v : AV} (h : resA1 P st rv = some v) : Has P C (resOne P a.tmps rv) v := by
  cases rv with
  | tmp t =>
    simp only [resA1, Option.some.injEq] at h; subst h
    exact ⟨_, rfl, VR_get hr.tmps t⟩
  | cell p t =>
    simp only [resA1] at h
    rw [← hr.S] at h
    obtain ⟨u, h1, h2⟩ := ldA_sound hr.sr (VR_get hr.tmps p) h
    refine ⟨u, ?_, h2⟩
    simp only [resOne]
    generalize a.tmps.getD p undef = x at h1
    cases x with
    | pointer b =>
      cases b with
      | none => simp [Instr.loadAt, Instr.sureAddr] at h1
      | some b => simpa [Instr.loadAt, Instr.sureAddr, asAddr] using h1
    | _ => simp [Instr.loadAt, Instr.sureAddr] at h1
theorem mapO_res {C : Cx} {st : St} {a : Act} (hr : Rel C st a) : ∀ {rs : List ResultVar} {vs : List AV}, mapO (resA1 P st) rs = some vs → ∃ us, (rs.mapM (resOne P a.tmps)).run P C.w = .ok us C.w ∧ VRs C vs us
  | [], vs, h => by
    simp only [mapO, Option.some.injEq] at h; subst h
    exact ⟨[], by simp, by simp only [VRs]⟩
  | r :: rs, vs, h => by
    simp only [mapO] at h
    split at h
    · rename_i b l h1 h2
      simp only [Option.some.injEq] at h; subst h
      obtain ⟨u, g1, g2⟩ := resA1_sound hr h1
      obtain ⟨us, g3, g4⟩ := mapO_res hr h2
      exact ⟨u :: us, by rw [List.mapM_cons]; simp only [Sem.run_bind, g1, Result.andThen_ok, g3, Sem.run_pure], by simp only [VRs]; exact ⟨g2, g4⟩⟩
    · simp at h
theorem resA_sound {C : Cx} {st : St} {a : Act} (hr : Rel C st a) {fn : Func} {v : AV} (h : resA P fn.results.toList st = some v) : Has P C (results fn a.tmps) v := by
  simp only [resA, Option.map_eq_some_iff] at h
  obtain ⟨vs, h, rfl⟩ := h
  obtain ⟨us, h1, h2⟩ := mapO_res hr h
  have hrun : (results fn a.tmps).run P C.w = .ok (if h : us.toArray.size = 1 then us.toArray[0] else .tuple us.toArray) C.w := by
    have e : results fn a.tmps = (do
      let vs ← fn.results.mapM (resOne P a.tmps)
      pure (if h : vs.size = 1 then vs[0] else .tuple vs)) := by
      unfold results
      congr 1
    rw [e, Sem.run_bind, Array.mapM_eq_mapM_toList, Sem.run_map, h1]
    rfl
  have hlen := VRs_length h2
  match us, vs, h2, hlen, hrun with
  | [u], [v], h2, _, hrun =>
    simp only [VRs] at h2
    exact ⟨u, by rw [hrun]; simp, h2.1⟩
  | [], [], h2, _, hrun => exact ⟨.tuple #[], by rw [hrun]; simp, by simp only [oneOf, VR]; exact ⟨_, rfl, h2⟩⟩
  | u :: u' :: us, v :: v' :: vs, h2, _, hrun => exact ⟨.tuple (u :: u' :: us).toArray, by rw [hrun]; simp, by simp only [oneOf, VR]; exact ⟨_, rfl, h2⟩⟩

theorem VR_w3 {C : Cx} {c x} (h : VR C c x) : VR C (w3 c) x := by
  cases c with
  | tup cs =>
    simp only [w3, VR] at h ⊢
    obtain ⟨vs, e, hr⟩ := h
    exact ⟨vs, e, VRs_w2 hr⟩
  | _ => exact VR_w2 h
/-- pure values are the same to all who let alone what they hang on -/
theorem pure1_move {C C' : Cx} {c x} (hst : Stays C.w C'.w C.Avoid C'.Avoid) (hp : pure1 c = true) (h : VR C c x) : VR C' c x := VR_of_PR (PR.stays hst _ _ (PR_of_VR hp h))
theorem pures1_move {C C' : Cx} (hst : Stays C.w C'.w C.Avoid C'.Avoid) : ∀ {cs vs}, cs.all pure1 = true → VRs C cs vs → VRs C' cs vs
  | [], [], _, _ => by simp only [VRs]
  | c :: cs, v :: vs, hp, h => by
    simp only [List.all_cons, Bool.and_eq_true] at hp
    simp only [VRs] at h ⊢
    exact ⟨pure1_move hst hp.1 h.1, pures1_move hst hp.2 h.2⟩
  | [], _ :: _, _, h => by simp only [VRs] at h
  | _ :: _, [], _, h => by simp only [VRs] at h
theorem pure2_move {C C' : Cx} {c x} (hst : Stays C.w C'.w C.Avoid C'.Avoid) (hp : pure2 c = true) (h : VR C c x) : VR C' c x := by
  cases c with
  | agg cs =>
    simp only [VR] at h ⊢
    obtain ⟨vs, e, hr⟩ := h
    exact ⟨vs, e, pures1_move hst hp hr⟩
  | _ => exact pure1_move hst hp h
theorem pures2_move {C C' : Cx} (hst : Stays C.w C'.w C.Avoid C'.Avoid) : ∀ {cs vs}, cs.all pure2 = true → VRs C cs vs → VRs C' cs vs
  | [], [], _, _ => by simp only [VRs]
  | c :: cs, v :: vs, hp, h => by
    simp only [List.all_cons, Bool.and_eq_true] at hp
    simp only [VRs] at h ⊢
    exact ⟨pure2_move hst hp.1 h.1, pures2_move hst hp.2 h.2⟩
  | [], _ :: _, _, h => by simp only [VRs] at h
  | _ :: _, [], _, h => by simp only [VRs] at h
theorem pure3_move {C C' : Cx} {c x} (hst : Stays C.w C'.w C.Avoid C'.Avoid) (hp : pure3 c = true) (h : VR C c x) : VR C' c x := by
  cases c with
  | tup cs =>
    simp only [VR] at h ⊢
    obtain ⟨vs, e, hr⟩ := h
    exact ⟨vs, e, pures2_move hst hp hr⟩
  | _ => exact pure2_move hst hp h
theorem VRs_bots {C : Cx} : ∀ n : Nat, VRs C (List.replicate n AV.bot) (List.replicate n undef)
  | 0 => by simp [VRs]
  | n + 1 => by simp only [List.replicate_succ, VRs, VR]; exact ⟨trivial, VRs_bots n⟩
/-- one function's code, among these variables -/
theorem body_sound {call : CallA} (hc : CallOk P call) (hi : IndepC (callP call)) {ok : St → List Oper → Bool} (hd : DrawOk P ok) {k : Nat} {f : FuncId} {fn : Func} {c : Code} (hf : P.funcs[f]? = some fn) (hb : fn.body = some c) {C : Cx} (hs : SR C) {args : List AV} {vs : Array Value} (hv : VRs C args vs.toList) {r : AV} {st : St}
    (h : outA P fn (evC P call ok k c ⟨args ++ List.replicate (fn.ntmps - args.length) .bot, C.S, C.tk, C.n⟩) = some (r, st)) :
    Calls P f vs C.w fun e w' => ∃ v C', e = .returned v ∧ C'.w = w' ∧ Le C C' ∧ SR C' ∧ C'.S = st.S ∧ C'.tk = st.tk ∧ C'.n = st.n ∧ VR C' r v := by
  have hlen : vs.size = args.length := by have := VRs_length hv; simpa using this.symm
  refine calls_of_wp hf hb ?_
  have hrel : Rel C ⟨args ++ List.replicate (fn.ntmps - args.length) .bot, C.S, C.tk, C.n⟩ { tmps := vs ++ Array.replicate (fn.ntmps - vs.size) undef, defers := [] } :=
    ⟨rfl, rfl, rfl, by rw [hlen]; simpa using VRs_append hv (VRs_bots _), rfl, hs⟩
  have fin : ∀ {ex : Ex} {st' : St}, (ex = .normal ∨ ex = .ret) → (resA P fn.results.toList st').map (fun r => (r, st')) = some (r, st) → ∀ a' C', Le C C' → Rel C' st' a' →
      bodyPost P fn (fun e w' => ∃ v C', e = .returned v ∧ C'.w = w' ∧ Le C C' ∧ SR C' ∧ C'.S = st.S ∧ C'.tk = st.tk ∧ C'.n = st.n ∧ VR C' r v) (exOf ex) a' C'.w := by
    intro ex st' hex he a' C' hle hr
    simp only [Option.map_eq_some_iff, Prod.mk.injEq] at he
    obtain ⟨r', he, rfl, rfl⟩ := he
    obtain ⟨v, h1, h2⟩ := resA_sound hr he
    rcases hex with rfl | rfl
    · exact ⟨hr.defers, v, h1, v, C', rfl, rfl, hle, hr.sr, hr.S, hr.tk, hr.n, h2⟩
    · exact ⟨hr.defers, v, h1, v, C', rfl, rfl, hle, hr.sr, hr.S, hr.tk, hr.n, h2⟩
  generalize he : evC P call ok k c ⟨args ++ List.replicate (fn.ntmps - args.length) .bot, C.S, C.tk, C.n⟩ = out at h
  match out with
  | none => simp [outA] at h
  | some (.exit _, _) => simp [outA] at h
  | some (.normal, st') => exact evC_sound hc hi hd c C _ .normal st' _ _ he hrel (fin (.inl rfl) h)
  | some (.ret, st') => exact evC_sound hc hi hd c C _ .ret st' _ _ he hrel (fin (.inr rfl) h)
/-- the callee's own beginning: nothing is its own, all that the caller may write is to be let alone -/
def Cx.alone (C : Cx) : Cx := { w := C.w, av := C.Avoid, φ := C.φ, ψ := C.ψ, S := [], tk := [], n := 0 }
theorem alone_mut {C : Cx} {b o : Nat} : ¬ C.alone.Mut b o := by
  rintro (⟨i, hi, _⟩ | ⟨i, hi, _⟩) <;> simp [Cx.alone] at hi
theorem SR.alone {C : Cx} (hs : SR C) : SR C.alone := by
  refine ⟨fun i e h => by simp [Cx.alone, nth] at h, fun i j hi => by simp [Cx.alone] at hi, fun i j o hi => by simp [Cx.alone] at hi, fun i j o hi => by simp [Cx.alone] at hi, fun b o h => absurd h alone_mut, fun b o h => ?_, fun i o hi => by simp [Cx.alone] at hi⟩
  rcases Nat.lt_or_ge b C.w.heap.size with h' | h'
  · exact h'
  · exact absurd h (hs.fresh h')
theorem evF_indep {ok : St → List Oper → Bool} : ∀ k, IndepC (callP (evF P ok k))
  | 0 => by intro f args S tk n r S' tk' n' h; simp [callP, evF] at h
  | k + 1 => by
    intro f args S tk n r S' tk' n' h
    unfold callP at h
    split at h
    · rename_i hp
      simp only [evF] at h
      split at h
      · rename_i fn hf
        split at h
        · rename_i c hb
          split at h
          · simp at h
          · rename_i hname
            split at h
            · rename_i r' ho
              simp only [Option.some.injEq, Prod.mk.injEq] at h
              obtain ⟨rfl, rfl, rfl, rfl⟩ := h
              refine ⟨rfl, rfl, rfl, fun S2 tk2 n2 => ?_⟩
              unfold callP
              rw [if_pos hp]
              simp only [evF, hf, hb]
              rw [if_neg hname, if_pos hp, ho]
            · simp at h
        · simp at h
      · simp at h
    · simp at h
theorem evF_sound {ok : St → List Oper → Bool} (hd : DrawOk P ok) : ∀ k, CallOk P (evF P ok k)
  | 0 => by intro f args S tk n r S' tk' n' h; simp [evF] at h
  | k + 1 => by
    have hc := evF_sound hd k
    intro f args S tk n r S' tk' n' h
    simp only [evF] at h
    split at h
    · rename_i fn hf
      split at h
      · rename_i c hb
        split at h
        · simp at h
        · rename_i hname
          refine ⟨⟨fn, hf, by simpa using hname, by rw [hb]; rfl⟩, ?_⟩
          rintro C vs rfl rfl rfl hs hv
          split at h
          · rename_i hp
            split at h
            · rename_i r' ho
              simp only [Option.some.injEq, Prod.mk.injEq] at h
              obtain ⟨rfl, rfl, rfl, rfl⟩ := h
              have hst : Stays C.w C.alone.w C.Avoid C.alone.Avoid := fun b o v h1 h2 => ⟨h1, fun h3 => h3.elim h2 alone_mut⟩
              have hv' := pures2_move hst hp (VRs_w2 hv)
              have one : ∀ {as : List AV} {r0 : AV}, VRs C.alone as vs.toList → runP P ok (evF P ok k) k fn c as = some r0 → Calls P f vs C.w fun e w' => ∃ v C', e = .returned v ∧ C'.w = w' ∧ Le C C' ∧ SR C' ∧ C'.S = C.S ∧ C'.tk = C.tk ∧ C'.n = C.n ∧ VR C' r0 v := by
                intro as r0 hv' hrun
                unfold runP at hrun
                split at hrun
                · rename_i r' st ho
                  split at hrun
                  · rename_i hp3
                    simp only [Option.some.injEq] at hrun
                    subst hrun
                    refine Calls.mono (body_sound hc (evF_indep k) hd (k := k) hf hb hs.alone hv' ho) ?_
                    rintro e w' ⟨v, C', rfl, rfl, hle, hs', -, -, -, h2⟩
                    have hbel : Below C.w.heap.size C.w C'.w := ⟨hle.os, hle.tape, hle.output, hle.size, fun b hb => hle.keep b hb fun o => alone_mut⟩
                    refine ⟨v, C.at C'.w, rfl, rfl, Le.of_below hbel, SR.of_below hs hbel, rfl, rfl, rfl, ?_⟩
                    refine pure3_move (C := C') (fun b o x h1 h2 => ⟨h1, fun h3 => h2 (.inl ?_)⟩) hp3 (VR_w3 h2)
                    rw [hle.av]; exact h3
                  · simp at hrun
                · simp at hrun
              split at ho
              · unfold runN at ho
                split at ho
                · rename_i l hl
                  split at ho
                  · rename_i q1 q2
                    simp only [Option.some.injEq] at ho
                    subst ho
                    rw [hl] at hv'
                    cases hvl : vs.toList with
                    | nil => rw [hvl] at hv'; simp only [VRs] at hv'
                    | cons x xs =>
                      rw [hvl] at hv'
                      simp only [VRs] at hv'
                      obtain ⟨hx, hxs⟩ := hv'
                      simp only [VR] at hx
                      obtain ⟨a, len, cap, rfl, h1, h2, -, h4⟩ := hx
                      cases a with
                      | none => exact one (as := .frz [] .nl :: l) (by rw [hvl]; simp only [VRs, VR]; exact ⟨⟨none, len, cap, rfl, h1, h2, rfl, .inl trivial⟩, hxs⟩) q1
                      | some a => exact one (as := .frz [] .nn :: l) (by rw [hvl]; simp only [VRs, VR]; exact ⟨⟨some a, len, cap, rfl, h1, h2, rfl, .inl trivial⟩, hxs⟩) q2
                  · simp at ho
                · exact one hv' ho
              · exact one hv' ho
            · simp at h
          · split at h
            · rename_i r' st ho
              simp only [Option.some.injEq, Prod.mk.injEq] at h
              obtain ⟨rfl, rfl, rfl, rfl⟩ := h
              refine Calls.mono (body_sound hc (evF_indep k) hd (k := k) hf hb hs hv ho) ?_
              rintro e w' ⟨v, C', rfl, rfl, hle, hs', e1, e2, e3, h2⟩
              exact ⟨v, { C' with S := C'.S.take C.S.length }, rfl, rfl, hle.trans (Le.take _), hs'.take _, by rw [← e1], e2, e3, VR.mono (Le.take _) _ _ h2⟩
            · simp at h
      · simp at h
    · simp at h
end
end Go.Proofs.Ytkghgdkkholieaa
