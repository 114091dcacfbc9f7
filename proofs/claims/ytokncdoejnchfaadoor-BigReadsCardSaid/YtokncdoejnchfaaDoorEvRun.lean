/-
  What the evaluator gives is what the model does: operations in order, code, functions.
-/
import Derived.Test.YtokncdoejnchfaaDoorEvApp
namespace Go.Proofs.YtokncdoejnchfaaDoor
open Go.RowKit

section
variable {P : Program}
/-- fewer variables -/
theorem Le.take {C : Cx} (k : Nat) : Le C { C with S := C.S.take k } := by
  refine ⟨rfl, rfl, rfl, Nat.le_refl _, rfl, Nat.le_refl _, ?_, fun _ _ _ h _ => h, fun _ _ _ => rfl, fun _ cs _ _ h => ⟨cs, h, rfl⟩, ?_, fun _ q h => ⟨q, h, Nat.le_refl _, fun _ => rfl⟩⟩
  · rintro b o - (⟨i, hi, h⟩ | h)
    · exact .inl ⟨i, by simp at hi; omega, h⟩
    · exact .inr h
  · intro i e h _
    rw [nth_get, List.getElem?_take] at h
    split at h
    · exact ⟨e, by rw [nth_get]; exact h, rfl, rfl⟩
    · simp at h
theorem SR.take [Globs] {C : Cx} (hs : SR C) (k : Nat) : SR { C with S := C.S.take k } := by
  have hle := Le.take (C := C) k
  refine ⟨fun i e h => ?_, fun i j hi hj h => hs.ne i j (by simp at hi; omega) (by simp at hj; omega) h, hs.tok, fun i j o hi => hs.apart i j o (by simp at hi; omega), ?_, hs.avlt, hs.tlt, glob_le hs hle⟩
  · rw [nth_get, List.getElem?_take] at h
    split at h
    · obtain ⟨h1, cs, t, h2, h3⟩ := hs.ent i e (by rw [nth_get]; exact h)
      exact ⟨h1, cs, t, h2, VRs.mono hle _ _ h3⟩
    · simp at h
  · rintro b o (⟨i, hi, h⟩ | h)
    · exact hs.own b o (.inl ⟨i, by simp at hi; omega, h⟩)
    · exact hs.own b o (.inr h)

/-- what a call of the evaluator stands for -/
def CallOk [Globs] (P : Program) (call : CallA) : Prop :=
  ∀ f args S tk n r S' tk' n', call f args S tk n = some (r, S', tk', n') → (∃ fn, P.funcs[f]? = some fn ∧ (fn.name == "runtime.NumGoroutine") = false ∧ fn.body.isNone = false) ∧
    ∀ (C : Cx) (vs : Array Value), C.S = S → C.tk = tk → C.n = n → SR C → VRs C args vs.toList →
      Calls P f vs C.w fun e w' => ∃ v C', e = .returned v ∧ C'.w = w' ∧ Le C C' ∧ SR C' ∧ C'.S = S' ∧ C'.tk = tk' ∧ C'.n = n' ∧ VR C' r v

theorem wp_value {o : Oper} {a : Act} {w w' : World} {v : Value} {next : Act → World → Prop} {Q : Exit → Act → World → Prop} (h : (execOp a.eval o).run P w = .ok (.value v) w') (hn : next (a.put o.dst v) w') : o.wp P a w next Q := by
  unfold Oper.wp; rw [h]; exact hn
theorem evO_sound [Globs] {call : CallA} (hc : CallOk P call) {C : Cx} {st st' : St} {a : Act} {o : Oper} {av : AV} (hr : Rel C st a) (h : evO P call o st = some (av, st')) {next : Act → World → Prop} {Q : Exit → Act → World → Prop}
    (hn : ∀ v C', Le C C' → SR C' → C'.S = st'.S → C'.tk = st'.tk → C'.n = st'.n → VR C' av v → next (a.put o.dst v) C'.w) : o.wp P a C.w next Q ∧ st'.T = st.T := by
  have hρ := VR_opv hr.tmps
  have quiet : ∀ av', evQ P o (opv st.T) = some av' → (av', st) = (av, st') → o.wp P a C.w next Q ∧ st'.T = st.T := by
    intro av' hq e
    simp only [Prod.mk.injEq] at e
    obtain ⟨rfl, rfl⟩ := e
    obtain ⟨v, w', h1, h2, h3⟩ := evQ_sound hr.sr hρ hq
    exact ⟨wp_value h1 (hn v (C.at w') (Le.of_below h2) (SR.of_below hr.sr h2) hr.S hr.tk hr.n h3), rfl⟩
  unfold evO at h
  split at h
  · rename_i t x e
    simp only [Option.map_eq_some_iff, Prod.mk.injEq] at h
    obtain ⟨v, h, rfl, rfl⟩ := h
    rw [← hr.S] at h
    obtain ⟨u, h1, h2⟩ := ldA_sound hr.sr (hρ x) h
    exact ⟨wp_value (v := u) (w' := C.w) (by simp [execOp, e, h1]) (hn u C (Le.refl C) hr.sr hr.S hr.tk hr.n h2), rfl⟩
  · rename_i t x y e
    simp only [Option.map_eq_some_iff, Prod.mk.injEq] at h
    obtain ⟨S', h, rfl, rfl⟩ := h
    rw [← hr.S] at h
    obtain ⟨C', h1, h2, h3, h4, h5, h6⟩ := stA_sound hr.sr (hρ x) (hρ y) h
    refine ⟨?_, rfl⟩
    unfold Oper.wp
    have : (execOp a.eval o).run P C.w = .ok .skip C'.w := by simp [execOp, e, h1]
    rw [this]
    exact hn undef C' h2 h3 h4 (h5.trans hr.tk) (h6.trans hr.n) (by simp only [VR])
  · rename_i t e
    simp only [Option.map_eq_some_iff, Prod.mk.injEq] at h
    obtain ⟨cs, h, rfl, rfl⟩ := h
    obtain ⟨zv, h1, rfl⟩ := zeroOf_run (w := C.w) h
    refine ⟨wp_value (v := .pointer (some ⟨C.w.heap.size, 0, none⟩)) (w' := C.w.alloc (.cells zv.cells t)) ?_ ?_, rfl⟩
    · simp only [execOp, e, Instr.alloc, Sem.run_bind, h1, Result.andThen_ok, newVar, run_newRow, Sem.run_pure]
    · have := hn (.pointer (some ⟨C.w.heap.size, 0, none⟩)) (C.more zv.cells t (zv.cells.toList.map cst1)) (Le.more hr.sr _ _ _) (SR.more hr.sr (VRs_cst1 _)) (by simp [Cx.more, hr.S, hr.n]) hr.tk (by simp [Cx.more, hr.n]) (by rw [← hr.S, ← hr.n]; exact VR_new)
      exact this
  · rename_i t x e
    simp only [Option.map_eq_some_iff, Prod.mk.injEq] at h
    obtain ⟨cs, h, rfl, rfl⟩ := h
    have hv := cellsOf_sound h (hρ x)
    refine ⟨wp_value (v := .pointer (some ⟨C.w.heap.size, 0, none⟩)) (w' := C.w.alloc (.cells (a.eval x).cells t)) ?_ ?_, rfl⟩
    · simp only [execOp, e, Instr.box, Sem.run_bind, Result.andThen_ok, newVar, run_newRow, Sem.run_pure]
    · have := hn (.pointer (some ⟨C.w.heap.size, 0, none⟩)) (C.more (a.eval x).cells t cs) (Le.more hr.sr _ _ _) (SR.more hr.sr hv) (by simp [Cx.more, hr.S, hr.n]) hr.tk (by simp [Cx.more, hr.n]) (by rw [← hr.S, ← hr.n]; exact VR_new)
      exact this
  · rename_i t l c e
    simp only [Option.map_eq_some_iff, Prod.exists] at h
    obtain ⟨l', sz, cs, h, hh⟩ := h
    obtain ⟨el, m, arr, r1, r2, r3, r4, r5⟩ := mkA_sound (hρ l) (hρ c) h
    have hrun : (execOp a.eval o).run P C.w = .ok (.value (.slice (some ⟨C.w.heap.size, 0, none⟩) l' m)) (C.w.alloc (.cells arr el)) := by simp [execOp, e, r1]
    have hb : Below C.w.heap.size C.w (C.w.alloc (.cells arr el)) := (Below.refl _ _).alloc (Nat.le_refl _) _
    have harr : cs.length = arr.size := by rw [← r2]; simp
    split at hh
    · rename_i hl0
      simp only [Prod.mk.injEq] at hh
      obtain ⟨rfl, rfl⟩ := hh
      have hl' : l' = 0 := by
        cases l with
        | const v => cases v with
          | int k z =>
            unfold len0 at hl0
            split at hl0
            · rename_i k' he
              simp only [Operand.const.injEq, Value.int.injEq] at he
              obtain ⟨rfl, rfl⟩ := he
              simp [opv, cst, cst1, intN] at r5; exact r5.symm
            · simp at hl0
          | _ => simp [len0] at hl0
        | _ => simp [len0] at hl0
      subst hl'
      have hok : okCap C.tk .tight sz = true := rfl
      have hn' : NewTok C .tight C.w.heap.size 0 (m * sz) := .inr (.inl (Nat.le_refl _))
      have hle : Le C (C.tok (C.w.alloc (.cells arr el)) .tight (C.w.heap.size, 0, m * sz)) :=
        Le.of_tok hok hn' rfl rfl rfl hb.size (fun x o v hv _ => by rw [Below.cell hb (cell_lt hv)]; exact hv) (fun x hlt _ => hb.block x hlt) (fun b d t fz hd => ⟨d, below_shape hb hd, rfl⟩)
      have hsr := SR.of_tok hr.sr hok hn' (fun _ => (Array.getElem?_eq_some_iff.1 (heap_alloc_same C.w (.cells arr el))).1) hle (fun i hi => hb.block _ (phi_lt hr.sr hi))
      have hv : VR (C.tok (C.w.alloc (.cells arr el)) .tight (C.w.heap.size, 0, m * sz)) (.frz [] (.tok st.tk.length 0 sz)) (.slice (some ⟨C.w.heap.size, 0, none⟩) 0 m) := by
        simp only [VR]
        refine ⟨_, 0, m, rfl, rfl, Nat.zero_le _, ?_, .inl trivial⟩
        rw [← hr.tk]
        exact capR_new (c := .tight) hok (.inr ⟨arr, el, rfl, by simp, heap_alloc_same _ _, by omega⟩)
      exact ⟨wp_value hrun (hn _ _ hle hsr hr.S (by show C.tk ++ [0] = _; rw [hr.tk]) hr.n hv), rfl⟩
    · simp only [Prod.mk.injEq] at hh
      obtain ⟨rfl, rfl⟩ := hh
      subst r2
      refine ⟨wp_value hrun (hn _ (C.more arr el (arr.toList.map cst1)) (Le.more hr.sr _ _ _) (SR.more hr.sr (VRs_cst1 _)) (by simp [Cx.more, hr.S, hr.n]) hr.tk (by simp [Cx.more, hr.n]) ?_), rfl⟩
      simp only [VR]
      refine ⟨C.w.heap.size, some ⟨C.w.heap.size, 0, none⟩, m, rfl, r3, .inr rfl, by rw [← hr.n]; exact Nat.lt_succ_self _, fun e' he' hep => ?_⟩
      rw [← hr.S]
      simp [Cx.more]
  · rename_i c e
    split at h
    · rename_i hb
      split at h
      · rename_i x y t t' hxy ht
        split at h
        · rename_i htt
          subst htt
          simp only [Option.map_eq_some_iff, Prod.mk.injEq, Prod.exists] at h
          obtain ⟨v, tk', h, rfl, rfl⟩ := h
          have hargs := VRs_map hr.tmps c.args.toList
          rw [hxy] at hargs
          obtain ⟨ux, uy, hu⟩ : ∃ ux uy, c.args.toList.map a.eval = [ux, uy] := by
            have := VRs_length hargs
            match hl : c.args.toList.map a.eval with
            | [p, q] => exact ⟨p, q, rfl⟩
            | [] => rw [hl] at this; simp at this
            | [_] => rw [hl] at this; simp at this
            | _ :: _ :: _ :: _ => rw [hl] at this; simp at this
          rw [hu] at hargs
          simp only [VRs, and_true] at hargs
          rw [← hr.tk, ← hr.S] at h
          obtain ⟨w, C', h1, h2, h3, h4, h5, h6, h7⟩ := apB1_sound (ty := o.type) hr.sr hargs.1 hargs.2 h
          have ha : c.args.map a.eval = #[ux, uy] := by rw [← Array.toList_inj]; simp [hu]
          have hat : c.argTypes = #[t, t] := by rw [← Array.toList_inj]; simp [ht]
          exact ⟨wp_value (v := w) (w' := C'.w) (by simp [execOp, e, resolve, hb, ha, invoke, builtin, hat, h1]) (hn w C' h2 h3 (h4.trans hr.S) h5 (h6.trans hr.n) h7), rfl⟩
        · simp only [Option.map_eq_some_iff, Prod.mk.injEq, Prod.exists] at h
          obtain ⟨v, tk', h, rfl, rfl⟩ := h
          have hargs := VRs_map hr.tmps c.args.toList
          rw [hxy] at hargs
          obtain ⟨ux, uy, hu⟩ := two_of hargs
          rw [hu] at hargs
          simp only [VRs, and_true] at hargs
          rw [← hr.tk] at h
          obtain ⟨w, C', h1, h2, h3, h4, h5, h6, h7⟩ := apS_sound (ty := o.type) hr.sr hargs.1 hargs.2 h
          have ha : c.args.map a.eval = #[ux, uy] := by rw [← Array.toList_inj]; simp [hu]
          have hat : c.argTypes = #[t, t'] := by rw [← Array.toList_inj]; simp [ht]
          exact ⟨wp_value (v := w) (w' := C'.w) (by simp [execOp, e, resolve, hb, ha, invoke, builtin, hat, h1]) (hn w C' h2 h3 (h4.trans hr.S) h5 (h6.trans hr.n) h7), rfl⟩
      · simp at h
    · rename_i hb
      split at h
      · rename_i x y t t' hxy ht
        simp only [Option.map_eq_some_iff, Prod.mk.injEq, Prod.exists] at h
        obtain ⟨m, S', h, rfl, rfl⟩ := h
        have hargs := VRs_map hr.tmps c.args.toList
        rw [hxy] at hargs
        obtain ⟨ux, uy, hu⟩ := two_of hargs
        rw [hu] at hargs
        simp only [VRs, and_true] at hargs
        rw [← hr.S] at h
        obtain ⟨C', h1, h2, h3, h4, h5, h6⟩ := cpA_sound (ty := o.type) (t' := t') hr.sr hargs.1 hargs.2 h
        have ha : c.args.map a.eval = #[ux, uy] := by rw [← Array.toList_inj]; simp [hu]
        have hat : c.argTypes = #[t, t'] := by rw [← Array.toList_inj]; simp [ht]
        exact ⟨wp_value (v := .int .i64 (m : Int)) (w' := C'.w) (by simp [execOp, e, resolve, hb, ha, invoke, builtin, hat, h1]) (hn _ C' h2 h3 h4 (h5.trans hr.tk) (h6.trans hr.n) (by simp only [VR])), rfl⟩
      · simp at h
    · simp only [Option.map_eq_some_iff] at h
      obtain ⟨v, h, hh⟩ := h
      exact quiet v h hh
    · split at h
      · rename_i f args hca
        simp only [Option.map_eq_some_iff, Prod.mk.injEq, Prod.exists] at h
        obtain ⟨r, S', tk', n', h, rfl, rfl⟩ := h
        refine ⟨?_, rfl⟩
        unfold calleeA at hca
        split at hca
        · rename_i x hx
          split at hca
          · rename_i f' caps hfx
            simp only [Option.some.injEq, Prod.mk.injEq] at hca
            obtain ⟨rfl, rfl⟩ := hca
            have hfv := hρ x
            rw [hfx] at hfv
            simp only [VR] at hfv
            obtain ⟨us, hfv, hcaps⟩ := hfv
            obtain ⟨⟨fn, g1, g2, g3⟩, hcall⟩ := hc _ _ _ _ _ _ _ _ _ h
            have hargs := VRs_append (VRs_map hr.tmps c.args.toList) hcaps
            have hC := hcall C (c.args.map a.eval ++ us) hr.S hr.tk hr.n hr.sr (by simpa using hargs)
            have hrun : (execOp a.eval o).run P C.w = .ok (.enter f' (c.args.map a.eval ++ us)) C.w := by
              have hn1 : ¬ fn.name = "runtime.NumGoroutine" := by simpa using g2
              have hn3 : ¬ fn.body = none := by intro hh; rw [hh] at g3; simp at g3
              simp [execOp, e, resolve, hx, hfv, Deferred.ofValue, invoke, callFunc, g1, hn1, hn3]
            unfold Oper.wp
            rw [hrun]
            refine Calls.mono hC ?_
            rintro e' w' ⟨v, C', rfl, rfl, k1, k2, k3, k4, k5, k6⟩
            exact hn v C' k1 k2 k3 k4 k5 k6
          · simp at hca
        · simp at hca
      · simp at h
  · simp only [Option.map_eq_some_iff] at h
    obtain ⟨v, h, hh⟩ := h
    exact quiet v h hh

theorem wantA_sound {C : Cx} {T : List AV} {a : Act} {ops : Array Oper} {o : Oper} {b : Bool} (ht : VRs C T a.tmps.toList) (h : wantA ops.toList T o = some b) : Region.wanted o (yielded ops a.tmps) = b := by
  unfold wantA at h
  unfold Region.wanted
  split at h
  · rename_i hg; rw [hg]; simpa using h
  · rename_i g want hg
    rw [hg]
    simp only
    split at h
    · simp at h
    · rename_i d hd
      have hd' : (ops[g]?).bind (·.dst) = some d := by rw [nth_get] at hd; simpa using hd
      unfold yielded
      rw [hd']
      simp only [Option.bind_some]
      by_cases hlt : d < T.length
      · obtain ⟨v, h1, h2⟩ := VRs_at ht (getT_at hlt)
        have h1' : a.tmps[d]? = some v := by simpa using h1
        rw [h1']
        split at h
        · rename_i x hx
          rw [hx] at h2; simp only [VR] at h2; subst h2
          simpa using h
        · rename_i x hx
          rw [hx] at h2; simp only [VR] at h2; subst h2
          simpa using h
        · simp at h
      · rw [getT_out (Nat.le_of_not_lt hlt)] at h
        simp at h
theorem Rel.put [Globs] {C C' : Cx} {st st' : St} {a : Act} {d : Option Tmp} {v : Value} {av : AV} (hr : Rel C st a) (hle : Le C C') (hs : SR C') (h1 : C'.S = st'.S) (h2 : C'.tk = st'.tk) (h3 : C'.n = st'.n) (hv : VR C' av v) (hT : st'.T = st.T) :
    Rel C' { st' with T := putT st'.T d av } (a.put d v) :=
  ⟨h1, h2, h3, VRs_putT (by rw [hT]; exact VRs.mono hle _ _ hr.tmps) hv, by cases d <;> exact hr.defers, hs⟩
theorem evOs_sound [Globs] {call : CallA} (hc : CallOk P call) {ops : Array Oper} {Q : Exit → Act → World → Prop} : ∀ {l : List Oper} {C : Cx} {st st' : St} {a : Act}, Rel C st a → evOs P call ops.toList l st = some st' →
    (∀ a' C', Le C C' → Rel C' st' a' → Q .normal a' C'.w) → wpList P ops Q l a C.w
  | [], C, st, st', a, hr, h, hQ => by
    simp only [evOs, Option.some.injEq] at h; subst h
    exact hQ a C (Le.refl C) hr
  | o :: l, C, st, st', a, hr, h, hQ => by
    simp only [evOs] at h
    split at h
    · simp at h
    · rename_i hw
      have := wantA_sound hr.tmps hw
      unfold wpList
      rw [if_neg (by rw [this]; simp)]
      exact evOs_sound hc (hr.put (Le.refl C) hr.sr hr.S hr.tk hr.n (by simp only [VR]) rfl) h hQ
    · rename_i hw
      have := wantA_sound hr.tmps hw
      unfold wpList
      rw [if_pos this]
      split at h
      · rename_i v st1 ho
        have hT : st1.T = st.T := (evO_sound (next := fun _ _ => True) (Q := Q) hc hr ho (fun _ _ _ _ _ _ _ _ => trivial)).2
        refine .inl (evO_sound hc hr ho fun u C' k1 k2 k3 k4 k5 k6 => ?_).1
        exact evOs_sound hc (hr.put k1 k2 k3 k4 k5 k6 hT) h fun a' C'' k hr' => hQ a' C'' (k1.trans k) hr'
      · simp at h

/-- a loop, by the number of its rounds -/
theorem wp_loop_idx {c : Code} {Q : Exit → Act → World → Prop} (J : Nat → Act → World → Prop) (round : ∀ n a w, J n a w → c.wp P (Exit.then (fun a' w' => ∃ m, m < n ∧ J m a' w') Q) a w) {n : Nat} {a : Act} {w : World} (h0 : J n a w) : (Code.loop c).wp P Q a w := by
  intro b k cs
  have key : ∀ n a w, J n a w → ∃ e a' w', Q e a' w' ∧ Arrives P (lone (b.at a (.code c :: .inLoop c :: k)) cs w) b k cs e a' w' := by
    intro n
    induction n using Nat.strongRecOn with
    | _ n ih =>
      intro a w hJ
      obtain ⟨e, a₁, w₁, hq, harr⟩ := round n a w hJ b (.inLoop c :: k) cs
      cases e with
      | normal =>
        obtain ⟨m, hlt, hJ₁⟩ := hq
        obtain ⟨e₂, a₂, w₂, hq₂, harr₂⟩ := ih m hlt a₁ w₁ hJ₁
        exact ⟨e₂, a₂, w₂, hq₂, .of_steps (Steps.trans harr (.one step_inLoop)) harr₂⟩
      | exit id => exact ⟨_, a₁, w₁, hq, .pass (x := .inLoop c) rfl (fun _ _ => .inl (by simp)) harr⟩
      | goto l => exact ⟨_, a₁, w₁, hq, .pass (x := .inLoop c) rfl (fun _ _ => .inl (by simp)) harr⟩
      | ret => exact ⟨_, a₁, w₁, hq, .pass (x := .inLoop c) rfl (fun _ _ => .inl (by simp)) harr⟩
      | panic ch => exact ⟨_, a₁, w₁, hq, .pass (x := .inLoop c) rfl (fun _ _ => .inl (by simp)) harr⟩
      | outgrown => exact ⟨_, a₁, w₁, hq, .pass (x := .inLoop c) rfl (fun _ _ => .inl (by simp)) harr⟩
  obtain ⟨e, a', w', hq, harr⟩ := key n a w h0
  exact ⟨e, a', w', hq, .of_steps (.one step_loop) harr⟩
def exOf : Ex → Exit
  | .normal => .normal
  | .exit id => .exit id
  | .ret => .ret
/-- regions whose order is drawn, of which 'ok' says that it does not matter -/
def IndepC [Globs] (call : CallA) : Prop := ∀ f args S tk n r S' tk' n', call f args S tk n = some (r, S', tk', n') → S' = S ∧ tk' = tk ∧ (shF f = true ∨ (n' = n ∧ ∀ S2 tk2 n2, call f args S2 tk2 n2 = some (r, S2, tk2, n2)))
/-- what is asked of the functions that are told from outside -/
def extC (P : Program) [Ext P] : CallA := fun f args S tk n => if Ext.on P f = true then Ext.call P f args S tk n else none
class ExtOk [Globs] (P : Program) [Ext P] : Prop where
  ok : CallOk P (extC P)
  indep : ∀ M, @IndepC (gM M) (@callP (gM M) P _ (extC P))
theorem callP_ok [Globs] [Ext P] {M : Bool} {call : CallA} (h : CallOk P call) : CallOk P (@callP (gM M) P _ call) := by
  intro f args S tk n r S' tk' n' hh
  unfold callP at hh
  split at hh
  · exact h f args S tk n r S' tk' n' hh
  · simp at hh
def DrawOk [Globs] (P : Program) (ok : St → List Oper → Bool) : Prop :=
  ∀ (call : CallA), CallOk P call → ∀ (ops : Array Oper), @IndepC (gM (qm ops.toList)) call → ∀ (id : Nat) (C : Cx) (st st' : St) (a : Act) (Q : Exit → Act → World → Prop), ok st ops.toList = true → Rel C st a → @evOs (gM (qm ops.toList)) P call ops.toList ops.toList st = some st' →
    (∀ a' C', Le C C' → Rel C' st' a' → Q .normal a' C'.w) → (Code.region id ops true).wp P Q a C.w
theorem loopA_sound [Globs] {f : St → Option (Ex × St)} {c : Code} (hf : ∀ (C : Cx) (st : St) (ex : Ex) (st' : St) (a : Act) (Q : Exit → Act → World → Prop), f st = some (ex, st') → Rel C st a → (∀ a' C', Le C C' → Rel C' st' a' → Q (exOf ex) a' C'.w) → c.wp P Q a C.w)
    {k : Nat} {C : Cx} {st st' : St} {ex : Ex} {a : Act} {Q : Exit → Act → World → Prop} (h : loopA f k st = some (ex, st')) (hr : Rel C st a) (hQ : ∀ a' C', Le C C' → Rel C' st' a' → Q (exOf ex) a' C'.w) : (Code.loop c).wp P Q a C.w := by
  refine wp_loop_idx (fun n a w => ∃ C1 st1, C1.w = w ∧ Le C C1 ∧ Rel C1 st1 a ∧ loopA f n st1 = some (ex, st')) ?_ (n := k) ⟨C, st, rfl, Le.refl C, hr, h⟩
  rintro n a1 w1 ⟨C1, st1, rfl, hle, hr1, h1⟩
  cases n with
  | zero => simp [loopA] at h1
  | succ n =>
    simp only [loopA] at h1
    split at h1
    · rename_i st2 h2
      refine hf C1 st1 .normal st2 a1 _ h2 hr1 fun a2 C2 hle2 hr2 => ?_
      refine ⟨n, Nat.lt_succ_self n, { C2 with S := C2.S.take st1.S.length }, { st2 with S := st2.S.take st1.S.length }, rfl, (hle.trans hle2).trans (Le.take _), ⟨by rw [hr2.S], hr2.tk, hr2.n, VRs.mono (Le.take _) _ _ hr2.tmps, hr2.defers, hr2.sr.take _⟩, h1⟩
    · rename_i hne
      refine hf C1 st1 ex st' a1 _ h1 hr1 fun a2 C2 hle2 hr2 => ?_
      have := hQ a2 C2 (hle.trans hle2) hr2
      cases ex with
      | normal => exact absurd h1 (hne st')
      | exit id => exact this
      | ret => exact this
theorem evC_sound [Globs] [Ext P] {call : CallA} (hc : CallOk P call) (hi : ∀ M, @IndepC (gM M) (@callP (gM M) P _ call)) {ok : St → List Oper → Bool} (hd : DrawOk P ok) {n : Nat} : ∀ (c : Code) (C : Cx) (st : St) (ex : Ex) (st' : St) (a : Act) (Q : Exit → Act → World → Prop), evC P call ok n c st = some (ex, st') → Rel C st a →
    (∀ a' C', Le C C' → Rel C' st' a' → Q (exOf ex) a' C'.w) → c.wp P Q a C.w
  | .skip, C, st, ex, st', a, Q, h, hr, hQ => by
    simp only [evC, Option.some.injEq, Prod.mk.injEq] at h
    obtain ⟨rfl, rfl⟩ := h
    exact wp_skip (hQ a C (Le.refl C) hr)
  | .region id ops draw, C, st, ex, st', a, Q, h, hr, hQ => by
    simp only [evC] at h
    cases draw with
    | false =>
      rw [if_neg (by simp)] at h
      simp only [Option.map_eq_some_iff, Prod.mk.injEq] at h
      obtain ⟨st1, h, rfl, rfl⟩ := h
      refine wp_region ?_
      have := evOs_sound (Q := Q) hc hr h hQ
      have e := wpOps_eq_wpList (P := P) (ops := ops) (Q := Q) ops.toList 0 (fun j => by simp)
      rw [List.range_eq_range']
      simp only [Array.length_toList] at e
      rw [e]; exact this
    | true =>
      rw [if_pos rfl] at h
      split at h
      · rename_i hok
        simp only [Option.map_eq_some_iff, Prod.mk.injEq] at h
        obtain ⟨st1, h, rfl, rfl⟩ := h
        exact hd _ (callP_ok hc) ops (hi _) id C st st1 a Q hok hr h hQ
      · simp at h
  | .seq x y, C, st, ex, st', a, Q, h, hr, hQ => by
    simp only [evC] at h
    split at h
    · rename_i st1 h1
      refine wp_seq (evC_sound hc hi hd x C st .normal st1 a _ h1 hr fun a1 C1 hle1 hr1 => ?_)
      exact evC_sound hc hi hd y C1 st1 ex st' a1 Q h hr1 fun a2 C2 hle2 hr2 => hQ a2 C2 (hle1.trans hle2) hr2
    · rename_i hne
      refine wp_seq (evC_sound hc hi hd x C st ex st' a _ h hr fun a1 C1 hle1 hr1 => ?_)
      have := hQ a1 C1 hle1 hr1
      cases ex with
      | normal => exact absurd h (hne st')
      | exit id => exact this
      | ret => exact this
  | .cond x y z, C, st, ex, st', a, Q, h, hr, hQ => by
    simp only [evC] at h
    split at h
    · rename_i t ht
      have hv := VR_opv hr.tmps x
      rw [ht] at hv; simp only [VR] at hv
      cases t with
      | true =>
        rw [if_pos rfl] at h
        exact wp_cond_true hv (evC_sound hc hi hd y C st ex st' a Q h hr hQ)
      | false =>
        rw [if_neg (by simp)] at h
        exact wp_cond_false hv (evC_sound hc hi hd z C st ex st' a Q h hr hQ)
    · simp at h
  | .block id x, C, st, ex, st', a, Q, h, hr, hQ => by
    simp only [evC] at h
    split at h
    · rename_i id' st1 h1
      refine wp_block (evC_sound hc hi hd x C st (.exit id') st1 a _ h1 hr fun a1 C1 hle1 hr1 => ?_)
      simp only [exOf, Exit.inBlock]
      split at h
      · rename_i hid
        simp only [Option.some.injEq, Prod.mk.injEq] at h
        obtain ⟨rfl, rfl⟩ := h
        rw [if_pos hid]; exact hQ a1 C1 hle1 hr1
      · rename_i hid
        simp only [Option.some.injEq, Prod.mk.injEq] at h
        obtain ⟨rfl, rfl⟩ := h
        rw [if_neg hid]; exact hQ a1 C1 hle1 hr1
    · rename_i hne
      refine wp_block (evC_sound hc hi hd x C st ex st' a _ h hr fun a1 C1 hle1 hr1 => ?_)
      have := hQ a1 C1 hle1 hr1
      cases ex with
      | normal => exact this
      | exit id => exact absurd h (hne id st')
      | ret => exact this
  | .loop x, C, st, ex, st', a, Q, h, hr, hQ => by
    simp only [evC] at h
    exact loopA_sound (fun C st ex st' a Q => evC_sound hc hi hd x C st ex st' a Q) h hr hQ
  | .exit id, C, st, ex, st', a, Q, h, hr, hQ => by
    simp only [evC, Option.some.injEq, Prod.mk.injEq] at h
    obtain ⟨rfl, rfl⟩ := h
    exact wp_exit (hQ a C (Le.refl C) hr)
  | .ret, C, st, ex, st', a, Q, h, hr, hQ => by
    simp only [evC, Option.some.injEq, Prod.mk.injEq] at h
    obtain ⟨rfl, rfl⟩ := h
    exact wp_ret (hQ a C (Le.refl C) hr)
  | .rangeFunc _ _ _ _, _, _, _, _, _, _, h, _, _ => by simp [evC] at h
  | .scope _, _, _, _, _, _, _, h, _, _ => by simp [evC] at h
  | .label _, _, _, _, _, _, _, h, _, _ => by simp [evC] at h
  | .goto _, _, _, _, _, _, _, h, _, _ => by simp [evC] at h
  | .refuse _, _, _, _, _, _, _, h, _, _ => by simp [evC] at h
end
end Go.Proofs.YtokncdoejnchfaaDoor
