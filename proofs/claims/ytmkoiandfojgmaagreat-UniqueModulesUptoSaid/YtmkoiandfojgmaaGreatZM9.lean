/-
  Texts laid together: EvLim, EvSim.
-/
import Derived.Test.YtmkoiandfojgmaaGreatZM8
namespace Go.Proofs.YtmkoiandfojgmaaGreat
open Go.RowKit
section
variable {P : Program}
def CLe (a b : CallA) : Prop := ∀ f args S tk n r, a f args S tk n = some r → b f args S tk n = some r
theorem evO_mono [Globs] {a b : CallA} (h : CLe a b) {o : Oper} {st : St} {r : AV × St} (he : evO P a o st = some r) : evO P b o st = some r := by
  unfold evO at he ⊢
  split <;> simp_all only
  · rename_i c _
    split <;> simp_all only
    split <;> simp_all only
    · rename_i f args hca
      simp only [Option.map_eq_some_iff] at he ⊢
      obtain ⟨x, h1, h2⟩ := he
      exact ⟨x, h _ _ _ _ _ _ h1, h2⟩
theorem evOs_mono [G : Globs] {a b : CallA} (h : CLe a b) {all : List Oper} : ∀ {l : List Oper} {st st' : St}, evOs P a all l st = some st' → evOs P b all l st = some st'
  | [], _, _, he => he
  | o :: l, st, st', he => by
    simp only [evOs] at he ⊢
    split at he
    · simp at he
    · exact evOs_mono h he
    · split at he
      · rename_i v s1 ho
        rw [evO_mono h ho]
        simp only
        split at he
        · rename_i hck
          rw [if_pos hck]; exact evOs_mono h he
        · simp at he
      · simp at he
theorem CLe.pure [Globs] [Ext P] {M : Md} {a b : CallA} (h : CLe a b) : CLe (@callP (gM M) P _ a) (@callP (gM M) P _ b) := by
  intro f args S tk n r he
  unfold callP at he ⊢
  split at he
  · rename_i hp; rw [if_pos hp]; exact h _ _ _ _ _ _ he
  · simp at he
theorem loopA_mono {kp : Bool} {f g : St → Option (Ex × St)} (h : ∀ s r, f s = some r → g s = some r) : ∀ {k m : Nat} {s : St} {r : Ex × St}, k ≤ m → loopA kp f k s = some r → loopA kp g m s = some r
  | 0, _, _, _, _, he => by simp [loopA] at he
  | k + 1, 0, _, _, hkm, _ => by omega
  | k + 1, m + 1, s, r, hkm, he => by
    simp only [loopA] at he ⊢
    split at he
    · rename_i s1 h1
      rw [h _ _ h1]
      exact loopA_mono h (by omega) he
    · rename_i hne
      rw [h _ _ he]
      obtain ⟨ex, s2⟩ := r
      cases ex with
      | normal => exact absurd he (hne s2)
      | exit id => rfl
      | ret => rfl
theorem evC_mono [Globs] [Ext P] {a b : CallA} (h : CLe a b) {ok : St → List Oper → Bool} {n m : Nat} (hnm : n ≤ m) : ∀ (c : Code) (st : St) (r : Ex × St), evC P a ok n c st = some r → evC P b ok m c st = some r
  | .skip, _, _, he => by simpa only [evC] using he
  | .region _ ops draw, st, r, he => by
    simp only [evC] at he ⊢
    split at he
    · rename_i hd
      rw [if_pos hd]
      split at he
      · rename_i ini o hsp
        split at he
        · rename_i hok
          simp only [hok, if_true]
          split at he
          · rename_i s1 h1
            rw [evOs_mono (G := gM _) h.pure h1]
            simp only [Option.map_eq_some_iff] at he ⊢
            obtain ⟨x, h1, h2⟩ := he
            exact ⟨x, evOs_mono h h1, h2⟩
          · simp at he
        · simp at he
      · split at he
        · split at he
          · rename_i hok
            simp only [hok, if_true]
            split at he
            · rename_i s1 h1
              rw [evOs_mono (G := gM _) h.pure h1]
              simp only [Option.map_eq_some_iff] at he ⊢
              obtain ⟨x, h1, h2⟩ := he
              exact ⟨x, evOs_mono h h1, h2⟩
            · simp at he
          · simp at he
        · split at he
          · rename_i hok
            simp only [hok, if_true]
            simp only [Option.map_eq_some_iff] at he ⊢
            obtain ⟨x, h1, h2⟩ := he
            exact ⟨x, evOs_mono (G := gM _) h.pure h1, h2⟩
          · simp at he
    · rename_i hd
      rw [if_neg hd]
      simp only [Option.map_eq_some_iff] at he ⊢
      obtain ⟨x, h1, h2⟩ := he
      exact ⟨x, evOs_mono h h1, h2⟩
  | .seq x y, st, r, he => by
    simp only [evC] at he ⊢
    cases hrg : rngT (.seq x y) with
    | true => rw [hrg] at he; exact he
    | false =>
    rw [hrg] at he
    simp only [cond_false] at he ⊢
    split at he
    · rename_i s1 h1
      rw [evC_mono h hnm x st _ h1]
      exact evC_mono h hnm y s1 r he
    · rename_i hne
      rw [evC_mono h hnm x st _ he]
      obtain ⟨ex, s2⟩ := r
      cases ex with
      | normal => exact absurd he (hne s2)
      | exit id => rfl
      | ret => rfl
  | .cond x y z, st, r, he => by
    simp only [evC] at he ⊢
    split at he
    · rename_i t ht
      split at he
      · rename_i h1; rw [if_pos h1]; exact evC_mono h hnm y st r he
      · rename_i h1; rw [if_neg h1]; exact evC_mono h hnm z st r he
    · simp at he
  | .block id x, st, r, he => by
    simp only [evC] at he ⊢
    split at he
    · rename_i id' s1 h1
      rw [evC_mono h hnm x st _ h1]; exact he
    · rename_i hne
      rw [evC_mono h hnm x st _ he]
      obtain ⟨ex, s2⟩ := r
      cases ex with
      | normal => rfl
      | exit id => exact absurd he (hne id s2)
      | ret => rfl
  | .loop x, st, r, he => by
    simp only [evC] at he ⊢
    exact loopA_mono (fun s r => evC_mono h hnm x s r) hnm he
  | .exit id, _, _, he => by simpa only [evC] using he
  | .ret, _, _, he => by simpa only [evC] using he
  | .rangeFunc _ _ _ _, _, _, he => by simp [evC] at he
  | .scope c, st, r, he => by
    simp only [evC] at he ⊢
    exact evC_mono h hnm c st r he
  | .label _, _, _, he => by simpa only [evC] using he
  | .goto _, _, _, he => by simp [evC] at he
  | .refuse _, _, _, he => by simp [evC] at he
theorem outA_mono {fn : Func} {x y : Option (Ex × St)} {r : AV × St} (h : ∀ z, x = some z → y = some z) (he : outA P fn x = some r) : outA P fn y = some r := by
  match x with
  | none => simp [outA] at he
  | some z => rw [h z rfl]; exact he
theorem evF_mono [Globs] [Ext P] {ok : St → List Oper → Bool} : ∀ {k m : Nat}, k ≤ m → CLe (evF P ok k) (evF P ok m)
  | 0, _, _ => by intro f args S tk n r he; simp [evF] at he
  | k + 1, 0, h => by omega
  | k + 1, m + 1, h => by
    have ih : CLe (evF P ok k) (evF P ok m) := evF_mono (by omega)
    intro f args S tk n r he
    simp only [evF] at he ⊢
    split at he
    · rename_i hon; rw [if_pos hon]; exact he
    rename_i hon
    rw [if_neg hon]
    split at he
    · rename_i fn hf
      split at he
      · rename_i c hb
        split at he
        · simp at he
        · rename_i hname
          rw [if_neg hname]
          split at he
          · rename_i hmv
            rw [if_pos hmv]
            split at he
            · rename_i r' s1 ho
              rw [outA_mono (fun z hz => evC_mono ih (by omega) c _ z hz) ho]
              exact he
            · simp at he
          rename_i hmv
          rw [if_neg hmv]
          split at he
          · rename_i hp
            rw [if_pos hp]
            have one : ∀ {as : List AV} {r0 : AV}, runP P ok (evF P ok k) k fn c as = some r0 → runP P ok (evF P ok m) m fn c as = some r0 := by
              intro as r0 hrun
              unfold runP at hrun ⊢
              split at hrun
              · rename_i r' s1 ho
                rw [outA_mono (fun z hz => evC_mono ih (by omega) c _ z hz) ho]
                exact hrun
              · simp at hrun
            split at he
            · rename_i r' ho
              have : (if nilCmp c = true then runN (runP P ok (evF P ok m) m fn c) (args.map w2) else runP P ok (evF P ok m) m fn c (args.map w2)) = some r' := by
                split at ho
                · rename_i hn
                  rw [if_pos hn]
                  unfold runN at ho ⊢
                  split at ho
                  · split at ho
                    · rename_i q1 q2
                      rw [one q1, one q2]; exact ho
                    · simp at ho
                  · exact one ho
                · rename_i hn
                  rw [if_neg hn]
                  exact one ho
              rw [this]; exact he
            · simp at he
          · rename_i hp
            rw [if_neg hp]
            split at he
            · rename_i r' s1 ho
              rw [outA_mono (fun z hz => evC_mono ih (by omega) c _ z hz) ho]
              exact he
            · simp at he
      · simp at he
    · simp at he
noncomputable def lim {α : Type} (F : Nat → Option α) : Option α := by
  classical
  exact if h : ∃ x, ∃ k, F k = some x then some h.choose else none
theorem lim_iff {α : Type} {F : Nat → Option α} (hm : ∀ k m x, k ≤ m → F k = some x → F m = some x) {x : α} : lim F = some x ↔ ∃ k, F k = some x := by
  unfold lim
  constructor
  · intro h
    split at h
    · rename_i hx
      simp only [Option.some.injEq] at h; subst h
      exact hx.choose_spec
    · simp at h
  · rintro ⟨k, hk⟩
    have hx : ∃ x, ∃ k, F k = some x := ⟨x, k, hk⟩
    rw [dif_pos hx]
    obtain ⟨m, hm'⟩ := hx.choose_spec
    have h1 := hm _ _ _ (Nat.le_max_left k m) hk
    have h2 := hm _ _ _ (Nat.le_max_right k m) hm'
    rw [h1] at h2
    simp only [Option.some.injEq] at h2
    rw [← h2]
theorem opt_ext {α : Type} {a b : Option α} (h : ∀ x, a = some x ↔ b = some x) : a = b := by
  cases a with
  | none =>
    cases b with
    | none => rfl
    | some y => have := (h y).2 rfl; simp at this
  | some x => exact ((h x).1 rfl).symm
noncomputable def cL [Globs] (P : Program) [Ext P] : CallA := fun f args S tk n => lim fun k => evF P drawOk k f args S tk n
noncomputable def eL [Globs] (P : Program) [Ext P] (c : Code) (st : St) : Option (Ex × St) := lim fun k => evC P (evF P drawOk k) drawOk k c st
theorem cL_iff [Globs] [Ext P] {f args S tk n x} : cL P f args S tk n = some x ↔ ∃ k, evF P drawOk k f args S tk n = some x := lim_iff fun _ _ _ h he => evF_mono h _ _ _ _ _ _ he
theorem eL_iff [Globs] [Ext P] {c : Code} {st : St} {x : Ex × St} : eL P c st = some x ↔ ∃ k, evC P (evF P drawOk k) drawOk k c st = some x := lim_iff fun _ _ _ h he => evC_mono (evF_mono h) h _ _ _ he
theorem cL_le [Globs] [Ext P] (k : Nat) : CLe (evF P drawOk k) (cL P) := fun _ _ _ _ _ _ h => cL_iff.2 ⟨k, h⟩
section
variable {F : Nat → CallA} {L : CallA} (hF : ∀ k m, k ≤ m → CLe (F k) (F m)) (hL : ∀ f args S tk n x, L f args S tk n = some x → ∃ k, F k f args S tk n = some x)
include hL
theorem evO_lim [Globs] {o : Oper} {st : St} {r : AV × St} (h : evO P L o st = some r) : ∃ k, evO P (F k) o st = some r := by
  by_cases hc : ∃ c f args, o.op = .call c ∧ calleeA P st.T c = some (f, args) ∧ (∀ b, c.callee ≠ .builtin b)
  · obtain ⟨c, f, args, ho, hca, hb⟩ := hc
    have e : ∀ call : CallA, evO P call o st = (call f args st.S st.tk st.n).map fun (v, S, tk, n) => (v, { st with S := S, tk := tk, n := n }) := by
      intro call
      unfold evO
      rw [ho]
      simp only
      split
      · rename_i h'; exact absurd h' (hb _)
      · rename_i h'; exact absurd h' (hb _)
      · rename_i h'; exact absurd h' (hb _)
      · rename_i b _ _ _ h'; exact absurd h' (hb _)
      · rw [hca]
    rw [e] at h
    simp only [Option.map_eq_some_iff] at h
    obtain ⟨x, h1, h2⟩ := h
    obtain ⟨k, hk⟩ := hL _ _ _ _ _ _ h1
    exact ⟨k, by rw [e, hk]; simp [h2]⟩
  · refine ⟨0, ?_⟩
    have e : ∀ call call' : CallA, evO P call o st = evO P call' o st := by
      intro call call'
      unfold evO
      split <;> try rfl
      rename_i c ho
      split <;> try rfl
      rename_i h1 h2 h3 h4
      split
      · rename_i f args hca
        exact absurd ⟨c, f, args, ho, hca, fun b hb => by cases b <;> first | exact h1 hb | exact h2 hb | exact h3 hb | exact h4 _ hb⟩ hc
      · rfl
    rw [e _ L]; exact h
include hF
theorem evOs_lim [G : Globs] {all : List Oper} : ∀ {l : List Oper} {st st' : St}, evOs P L all l st = some st' → ∃ k, evOs P (F k) all l st = some st'
  | [], _, _, h => ⟨0, h⟩
  | o :: l, st, st', h => by
    simp only [evOs] at h
    split at h
    · simp at h
    · rename_i hw
      obtain ⟨k, hk⟩ := evOs_lim h
      exact ⟨k, by simp only [evOs, hw]; exact hk⟩
    · rename_i hw
      split at h
      · rename_i v s1 ho
        split at h
        case isFalse => simp at h
        rename_i hck
        obtain ⟨k, hk⟩ := evO_lim hL ho
        obtain ⟨m, hm⟩ := evOs_lim h
        refine ⟨max k m, ?_⟩
        simp only [evOs, hw]
        rw [evO_mono (hF _ _ (Nat.le_max_left k m)) hk]
        simp only
        rw [if_pos hck]
        exact evOs_mono (hF _ _ (Nat.le_max_right k m)) hm
      · simp at h
end
theorem evOs_cL [Globs] [Ext P] {all l : List Oper} {st st' : St} (h : evOs P (cL P) all l st = some st') : ∃ k, evOs P (evF P drawOk k) all l st = some st' :=
  evOs_lim (fun _ _ h => evF_mono h) (fun _ _ _ _ _ _ h => cL_iff.1 h) h
theorem evOs_cP [Globs] [Ext P] {M : Md} {all l : List Oper} {st st' : St} (h : @evOs (gM M) P (@callP (gM M) P _ (cL P)) all l st = some st') : ∃ k, @evOs (gM M) P (@callP (gM M) P _ (evF P drawOk k)) all l st = some st' := by
  refine evOs_lim (F := fun k => @callP (gM M) P _ (evF P drawOk k)) (G := gM M) (fun _ _ h => (evF_mono h).pure) (fun f args S tk n x h => ?_) h
  unfold callP at h
  split at h
  · rename_i hp
    obtain ⟨k, hk⟩ := cL_iff.1 h
    exact ⟨k, by unfold callP; rw [if_pos hp]; exact hk⟩
  · simp at h
inductive Kont where
  | seq (c : Code) | block (id : Nat) | loop (c : Code) (k : Nat)
noncomputable def cont [Globs] (P : Program) [Ext P] (fn : Func) : Ex → St → List Kont → Option (AV × St)
  | e, st, [] => outA P fn (some (e, st))
  | .normal, st, .seq c :: k => match eL P c st with | some (e, st') => cont P fn e st' k | none => none
  | .normal, st, .block _ :: k => cont P fn .normal st k
  | .normal, st, .loop c n :: k => match eL P (.loop c) { st with S := cutS (keepL c) n st.S } with | some (e, st') => cont P fn e st' k | none => none
  | .exit id, st, .seq _ :: k => cont P fn (.exit id) st k
  | .exit id, st, .block id' :: k => if id = id' then cont P fn .normal st k else cont P fn (.exit id) st k
  | .exit id, st, .loop _ _ :: k => cont P fn (.exit id) st k
  | .ret, st, _ :: k => cont P fn .ret st k
noncomputable def RK [Globs] (P : Program) [Ext P] (fn : Func) (c : Code) (st : St) (k : List Kont) : Option (AV × St) := match eL P c st with | some (e, st') => cont P fn e st' k | none => none
noncomputable def callM [Globs] (M : Md) (P : Program) [Ext P] (call : CallA) : CallA := @callP (gM M) P _ call
noncomputable def RO [Globs] (P : Program) [Ext P] (fn : Func) (M : Md) (call : CallA) (all l : List Oper) (st : St) (k : List Kont) : Option (AV × St) := match @evOs (gM M) P call all l st with | some st' => cont P fn .normal st' k | none => none
def br {α : Type} (w : Option Bool) (a b : Option α) : Option α := match w with | some true => a | some false => b | none => none
theorem br_congr {α : Type} {w w' : Option Bool} {a b : Option α} (h : w = w') : br w a b = br w' a b := by rw [h]
theorem br_some {α : Type} (t : Bool) (a b : Option α) : br (some t) a b = if t = true then a else b := by cases t <;> rfl
variable {fn : Func} {st : St} {k : List Kont}
theorem RK_skip [Globs] [Ext P] : RK P fn .skip st k = cont P fn .normal st k := by
  have : eL P .skip st = some (.normal, st) := eL_iff.2 ⟨0, rfl⟩
  simp only [RK, this]
theorem RK_exit [Globs] [Ext P] {id : Nat} : RK P fn (.exit id) st k = cont P fn (.exit id) st k := by
  have : eL P (.exit id) st = some (.exit id, st) := eL_iff.2 ⟨0, rfl⟩
  simp only [RK, this]
theorem RK_ret [Globs] [Ext P] : RK P fn .ret st k = cont P fn .ret st k := by
  have : eL P .ret st = some (.ret, st) := eL_iff.2 ⟨0, rfl⟩
  simp only [RK, this]
theorem eL_seq [Globs] [Ext P] {a b : Code} (hrg : rngT (.seq a b) = false) : eL P (.seq a b) st = match eL P a st with | some (.normal, st') => eL P b st' | r => r := by
  apply opt_ext
  intro x
  constructor
  · intro h
    obtain ⟨n, h⟩ := eL_iff.1 h
    simp only [evC, hrg, cond_false] at h
    split at h
    · rename_i s1 h1
      rw [eL_iff.2 ⟨n, h1⟩]
      exact eL_iff.2 ⟨n, h⟩
    · rename_i hne
      rw [eL_iff.2 ⟨n, h⟩]
      obtain ⟨ex, s2⟩ := x
      cases ex with
      | normal => exact absurd h (hne s2)
      | exit id => rfl
      | ret => rfl
  · intro h
    split at h
    · rename_i s1 h1
      obtain ⟨n, h1⟩ := eL_iff.1 h1
      obtain ⟨m, h⟩ := eL_iff.1 h
      refine eL_iff.2 ⟨max n m, ?_⟩
      simp only [evC, hrg, cond_false]
      rw [evC_mono (evF_mono (Nat.le_max_left n m)) (Nat.le_max_left n m) _ _ _ h1]
      exact evC_mono (evF_mono (Nat.le_max_right n m)) (Nat.le_max_right n m) _ _ _ h
    · rename_i hne
      obtain ⟨n, h1⟩ := eL_iff.1 h
      refine eL_iff.2 ⟨n, ?_⟩
      simp only [evC, hrg, cond_false]
      rw [h1]
      obtain ⟨ex, s2⟩ := x
      cases ex with
      | normal => exact absurd h (hne s2)
      | exit id => rfl
      | ret => rfl
theorem RK_seq [Globs] [Ext P] {a b : Code} (hrg : rngT (.seq a b) = false) : RK P fn (.seq a b) st k = RK P fn a st (.seq b :: k) := by
  simp only [RK, eL_seq hrg]
  cases h : eL P a st with
  | none => rfl
  | some x =>
    obtain ⟨e, s⟩ := x
    cases e <;> simp only [cont]
theorem eL_told [Globs] [Ext P] {a b : Code} (hrg : rngT (.seq a b) = true) : eL P (.seq a b) st = (Ext.lp P (.seq a b) st).map fun st => (.normal, st) := by
  apply opt_ext
  intro x
  rw [eL_iff]
  simp only [evC, hrg, cond_true, exists_const]
def rngIn : Code → Option Code
  | .seq a b => bif rngT (.seq a b) then some (.seq a b) else (match rngIn a with | some c => some c | none => rngIn b)
  | .cond _ a b => match rngIn a with | some c => some c | none => rngIn b
  | .block _ c => rngIn c
  | .loop c => rngIn c
  | .scope c => rngIn c
  | _ => none
noncomputable def lpF (P : Program) [Ext P] (fn : Func) (st : St) : Option St := match fn.body.bind rngIn with | some c => Ext.lp P c st | none => none
theorem RK_told [Globs] [Ext P] {a b : Code} (hrg : rngT (.seq a b) = true) (hc : fn.body.bind rngIn = some (.seq a b)) : RK P fn (.seq a b) st k = match lpF P fn st with | some st' => cont P fn .normal st' k | none => none := by
  simp only [RK, eL_told hrg, lpF, hc]
  cases Ext.lp P (.seq a b) st <;> rfl
theorem eL_cond [Globs] [Ext P] {c : Operand} {a b : Code} : eL P (.cond c a b) st = match opv st.T c with | .prim (.bool t) => if t = true then eL P a st else eL P b st | _ => none := by
  apply opt_ext
  intro x
  rw [eL_iff]
  simp only [evC]
  generalize opv st.T c = v
  cases v with
  | prim u =>
    cases u with
    | bool t => cases t <;> simp [eL_iff]
    | _ => simp
  | _ => simp
theorem RK_cond [Globs] [Ext P] {c : Operand} {a b : Code} : RK P fn (.cond c a b) st k = match opv st.T c with | .prim (.bool t) => if t = true then RK P fn a st k else RK P fn b st k | _ => none := by
  simp only [RK, eL_cond]
  generalize opv st.T c = v
  cases v with
  | prim u =>
    cases u with
    | bool t => cases t <;> simp
    | _ => rfl
  | _ => rfl
theorem eL_block [Globs] [Ext P] {id : Nat} {c : Code} : eL P (.block id c) st = match eL P c st with | some (.exit id', st') => if id' = id then some (.normal, st') else some (.exit id', st') | r => r := by
  apply opt_ext
  intro x
  constructor
  · intro h
    obtain ⟨n, h⟩ := eL_iff.1 h
    simp only [evC] at h
    split at h
    · rename_i s1 h1
      rw [eL_iff.2 ⟨n, h1⟩]; exact h
    · rename_i hne
      rw [eL_iff.2 ⟨n, h⟩]
      obtain ⟨ex, s2⟩ := x
      cases ex with
      | normal => rfl
      | exit id => exact absurd h (hne id s2)
      | ret => rfl
  · intro h
    split at h
    · rename_i id' s1 h1
      obtain ⟨n, h1⟩ := eL_iff.1 h1
      exact eL_iff.2 ⟨n, by simp only [evC]; rw [h1]; exact h⟩
    · rename_i hne
      obtain ⟨n, h1⟩ := eL_iff.1 h
      refine eL_iff.2 ⟨n, ?_⟩
      simp only [evC]
      rw [h1]
      obtain ⟨ex, s2⟩ := x
      cases ex with
      | normal => rfl
      | exit id => exact absurd h (hne id s2)
      | ret => rfl
theorem RK_block [Globs] [Ext P] {id : Nat} {c : Code} : RK P fn (.block id c) st k = RK P fn c st (.block id :: k) := by
  simp only [RK, eL_block]
  cases h : eL P c st with
  | none => rfl
  | some x =>
    obtain ⟨e, s⟩ := x
    cases e with
    | exit id' => by_cases hid : id' = id <;> simp [cont, hid]
    | normal => simp only [cont]
    | ret => simp only [cont]
theorem eL_loop [Globs] [Ext P] {c : Code} : eL P (.loop c) st = match eL P c st with | some (.normal, st') => eL P (.loop c) { st' with S := cutS (keepL c) st.S.length st'.S } | r => r := by
  apply opt_ext
  intro x
  constructor
  · intro h
    obtain ⟨n, h⟩ := eL_iff.1 h
    simp only [evC] at h
    cases n with
    | zero => simp [loopA] at h
    | succ n =>
      simp only [loopA] at h
      split at h
      · rename_i s1 h1
        rw [eL_iff.2 ⟨n + 1, h1⟩]
        exact eL_iff.2 ⟨n + 1, by simp only [evC]; exact loopA_mono (fun _ _ h => h) (Nat.le_succ n) h⟩
      · rename_i hne
        rw [eL_iff.2 ⟨n + 1, h⟩]
        obtain ⟨ex, s2⟩ := x
        cases ex with
        | normal => exact absurd h (hne s2)
        | exit id => rfl
        | ret => rfl
  · intro h
    split at h
    · rename_i s1 h1
      obtain ⟨n, h1⟩ := eL_iff.1 h1
      obtain ⟨m, h⟩ := eL_iff.1 h
      simp only [evC] at h
      refine eL_iff.2 ⟨max n m + 1, ?_⟩
      simp only [evC, loopA]
      rw [evC_mono (evF_mono (show n ≤ max n m + 1 by omega)) (show n ≤ max n m + 1 by omega) _ _ _ h1]
      exact loopA_mono (fun s r => evC_mono (evF_mono (show m ≤ max n m + 1 by omega)) (show m ≤ max n m + 1 by omega) c s r) (show m ≤ max n m by omega) h
    · rename_i hne
      obtain ⟨n, h1⟩ := eL_iff.1 h
      refine eL_iff.2 ⟨n + 1, ?_⟩
      simp only [evC, loopA]
      rw [evC_mono (evF_mono (Nat.le_succ n)) (Nat.le_succ n) _ _ _ h1]
      obtain ⟨ex, s2⟩ := x
      cases ex with
      | normal => exact absurd h (hne s2)
      | exit id => rfl
      | ret => rfl
theorem RK_loop [Globs] [Ext P] {c : Code} : RK P fn (.loop c) st k = RK P fn c st (.loop c st.S.length :: k) := by
  rw [RK, eL_loop, RK]
  cases h : eL P c st with
  | none => rfl
  | some x =>
    obtain ⟨e, s⟩ := x
    cases e <;> simp only [cont]
theorem eL_region [Globs] [Ext P] {id : Nat} {ops : Array Oper} : eL P (.region id ops false) st = (evOs P (cL P) ops.toList ops.toList st).map fun st => (.normal, st) := by
  apply opt_ext
  intro x
  rw [eL_iff]
  simp only [evC, Option.map_eq_some_iff, Bool.false_eq_true, if_false]
  constructor
  · rintro ⟨n, s, h1, h2⟩; exact ⟨s, evOs_mono (cL_le n) h1, h2⟩
  · rintro ⟨s, h1, h2⟩
    obtain ⟨n, hn⟩ := evOs_cL h1
    exact ⟨n, s, hn, h2⟩
theorem eL_draw [Globs] [Ext P] {id : Nat} {ops : Array Oper} (hs : splitT ops.toList = none) (hl : lateT ops.toList = none) : eL P (.region id ops true) st = if drawOk st ops.toList = true then (@evOs (gM (mdOf ops.toList)) P (callM (mdOf ops.toList) P (cL P)) ops.toList ops.toList st).map fun st => (.normal, st) else none := by
  apply opt_ext
  intro x
  rw [eL_iff]
  simp only [evC, if_true, hs, hl]
  by_cases hok : drawOk st ops.toList = true
  · simp only [hok, if_true, Option.map_eq_some_iff]
    constructor
    · rintro ⟨n, s, h1, h2⟩; exact ⟨s, evOs_mono (G := gM _) (cL_le n).pure h1, h2⟩
    · rintro ⟨s, h1, h2⟩
      obtain ⟨n, hn⟩ := evOs_cP h1
      exact ⟨n, s, hn, h2⟩
  · simp [hok]
theorem eL_tail [Globs] [Ext P] {id : Nat} {ops : Array Oper} {a : List Oper} {o : Oper} (hs : splitT ops.toList = some (a, o)) : eL P (.region id ops true) st = if drawOk st a = true then (match @evOs (gM (mdOf a)) P (callM (mdOf a) P (cL P)) a a st with | some st1 => (evOs P (cL P) [o] [o] st1).map fun st => (.normal, st) | none => none) else none := by
  apply opt_ext
  intro x
  rw [eL_iff]
  simp only [evC, if_true, hs]
  by_cases hok : drawOk st a = true
  · simp only [hok, if_true]
    constructor
    · rintro ⟨n, h⟩
      split at h
      · rename_i s1 h1
        have e : @evOs (gM (mdOf a)) P (callM (mdOf a) P (cL P)) a a st = some s1 := evOs_mono (G := gM _) (cL_le n).pure h1
        rw [e]
        simp only [Option.map_eq_some_iff] at h ⊢
        obtain ⟨s, h1, h2⟩ := h
        exact ⟨s, evOs_mono (cL_le n) h1, h2⟩
      · simp at h
    · intro h
      split at h
      · rename_i s1 h1
        simp only [Option.map_eq_some_iff] at h
        obtain ⟨s, h2, h3⟩ := h
        obtain ⟨n, hn⟩ := evOs_cP h1
        obtain ⟨m, hm⟩ := evOs_cL h2
        refine ⟨max n m, ?_⟩
        rw [evOs_mono (G := gM _) (evF_mono (show n ≤ max n m by omega)).pure hn]
        simp only [Option.map_eq_some_iff]
        exact ⟨s, evOs_mono (evF_mono (show m ≤ max n m by omega)) hm, h3⟩
      · simp at h
  · simp [hok]
theorem eL_late [Globs] [Ext P] {id : Nat} {ops : Array Oper} {p : Nat} {al o : Oper} (hs : splitT ops.toList = none) (hl : lateT ops.toList = some (p, al, o)) : eL P (.region id ops true) st = if drawOk st (openL ops.toList) = true then (match @evOs (gM (mdOf (openL ops.toList))) P (callM (mdOf (openL ops.toList)) P (cL P)) (openL ops.toList) (openL ops.toList) st with | some st1 => (evOs P (cL P) [al, o] [al, o] st1).map fun st => (.normal, st) | none => none) else none := by
  apply opt_ext
  intro x
  rw [eL_iff]
  simp only [evC, if_true, hs, hl]
  generalize openL ops.toList = a
  by_cases hok : drawOk st a = true
  · simp only [hok, if_true]
    constructor
    · rintro ⟨n, h⟩
      split at h
      · rename_i s1 h1
        have e : @evOs (gM (mdOf a)) P (callM (mdOf a) P (cL P)) a a st = some s1 := evOs_mono (G := gM _) (cL_le n).pure h1
        rw [e]
        simp only [Option.map_eq_some_iff] at h ⊢
        obtain ⟨s, h1, h2⟩ := h
        exact ⟨s, evOs_mono (cL_le n) h1, h2⟩
      · simp at h
    · intro h
      split at h
      · rename_i s1 h1
        simp only [Option.map_eq_some_iff] at h
        obtain ⟨s, h2, h3⟩ := h
        obtain ⟨n, hn⟩ := evOs_cP h1
        obtain ⟨m, hm⟩ := evOs_cL h2
        refine ⟨max n m, ?_⟩
        rw [evOs_mono (G := gM _) (evF_mono (show n ≤ max n m by omega)).pure hn]
        simp only [Option.map_eq_some_iff]
        exact ⟨s, evOs_mono (evF_mono (show m ≤ max n m by omega)) hm, h3⟩
      · simp at h
  · simp [hok]
theorem RK_scope [Globs] [Ext P] {c : Code} : RK P fn (.scope c) st k = RK P fn c st k := by
  have : eL P (.scope c) st = eL P c st := by
    apply opt_ext
    intro x
    rw [eL_iff, eL_iff]
    simp only [evC]
  simp only [RK, this]
theorem RK_label [Globs] [Ext P] {l : Nat} : RK P fn (.label l) st k = cont P fn .normal st k := by
  have : eL P (.label l) st = some (.normal, st) := eL_iff.2 ⟨0, by simp only [evC]⟩
  simp only [RK, this]
theorem RK_region [Globs] [Ext P] {id : Nat} {ops : Array Oper} : RK P fn (.region id ops false) st k = RO P fn .no (cL P) ops.toList ops.toList st k := by
  simp only [RK, eL_region]
  show _ = match evOs P (cL P) ops.toList ops.toList st with | some st' => cont P fn .normal st' k | none => none
  cases evOs P (cL P) ops.toList ops.toList st <;> rfl
theorem RK_draw [Globs] [Ext P] {id : Nat} {ops : Array Oper} (hs : splitT ops.toList = none) (hl : lateT ops.toList = none) (h : drawOk st ops.toList = true) : RK P fn (.region id ops true) st k = RO P fn (mdOf ops.toList) (callM (mdOf ops.toList) P (cL P)) ops.toList ops.toList st k := by
  simp only [RK, RO, eL_draw hs hl, if_true, h]
  cases @evOs (gM (mdOf ops.toList)) P (callM (mdOf ops.toList) P (cL P)) ops.toList ops.toList st <;> rfl
theorem RK_tail [Globs] [Ext P] {id : Nat} {ops : Array Oper} {a : List Oper} {o : Oper} (hs : splitT ops.toList = some (a, o)) (hs2 : splitT a = none) (hl2 : lateT a = none) (h : drawOk st a = true) : RK P fn (.region id ops true) st k = RK P fn (.region id a.toArray true) st (.seq (.region id #[o] false) :: k) := by
  rw [RK_draw (ops := a.toArray) (by simpa using hs2) (by simpa using hl2) (by simpa using h)]
  simp only [RK, RO, eL_tail hs, if_true, h]
  cases @evOs (gM (mdOf a)) P (callM (mdOf a) P (cL P)) a a st with
  | none => rfl
  | some s1 =>
    simp only [cont, RK, eL_region]
theorem RK_late [Globs] [Ext P] {id : Nat} {ops : Array Oper} {p : Nat} {al o : Oper} (hs : splitT ops.toList = none) (hl : lateT ops.toList = some (p, al, o)) (h : drawOk st (openL ops.toList) = true) : RK P fn (.region id ops true) st k = RO P fn (mdOf (openL ops.toList)) (callM (mdOf (openL ops.toList)) P (cL P)) (openL ops.toList) (openL ops.toList) st (.seq (.region id #[al, o] false) :: k) := by
  simp only [RK, RO, eL_late hs hl, if_true, h]
  cases @evOs (gM (mdOf (openL ops.toList))) P (callM (mdOf (openL ops.toList)) P (cL P)) (openL ops.toList) (openL ops.toList) st with
  | none => rfl
  | some s1 =>
    simp only [cont, RK, eL_region]
theorem RO_nil [Globs] [Ext P] {M : Md} {call : CallA} {all : List Oper} : RO P fn M call all [] st k = cont P fn .normal st k := rfl
theorem RO_cons [Globs] [Ext P] {M : Md} {call : CallA} {all l : List Oper} {o : Oper} : RO P fn M call all (o :: l) st k = br (wantA all st.T o) (match @evO (gM M) P call o st with | some (v, st') => if @chkO (gM M) P all o st v st' = true then RO P fn M call all l { st' with T := putT st'.T o.dst v } k else none | none => none) (RO P fn M call all l { st with T := putT st.T o.dst (.prim undef) } k) := by
  simp only [RO, evOs]
  cases wantA all st.T o with
  | none => rfl
  | some b =>
    cases b with
    | false => rfl
    | true =>
      simp only [br]
      cases @evO (gM M) P call o st with
      | none => rfl
      | some x =>
        obtain ⟨v, s1⟩ := x
        simp only
        cases @chkO (gM M) P all o st v s1 <;> rfl
theorem cont_seq [Globs] [Ext P] {c : Code} : cont P fn .normal st (.seq c :: k) = RK P fn c st k := rfl
theorem cont_block [Globs] [Ext P] {id : Nat} : cont P fn .normal st (.block id :: k) = cont P fn .normal st k := rfl
theorem cont_loop [Globs] [Ext P] {c : Code} {n : Nat} : cont P fn .normal st (.loop c n :: k) = RK P fn (.loop c) { st with S := cutS (keepL c) n st.S } k := rfl
theorem cont_exit_seq [Globs] [Ext P] {c : Code} {id : Nat} : cont P fn (.exit id) st (.seq c :: k) = cont P fn (.exit id) st k := rfl
theorem cont_exit_block [Globs] [Ext P] {id id' : Nat} : cont P fn (.exit id) st (.block id' :: k) = if id = id' then cont P fn .normal st k else cont P fn (.exit id) st k := rfl
theorem cont_exit_loop [Globs] [Ext P] {c : Code} {id n : Nat} : cont P fn (.exit id) st (.loop c n :: k) = cont P fn (.exit id) st k := rfl
theorem cont_ret [Globs] [Ext P] {x : Kont} : cont P fn .ret st (x :: k) = cont P fn .ret st k := by cases x <;> rfl
theorem cont_ret_nil [Globs] [Ext P] : cont P fn .ret st [] = outA P fn (some (.ret, st)) := rfl
theorem cont_normal_nil [Globs] [Ext P] : cont P fn .normal st [] = outA P fn (some (.normal, st)) := rfl
theorem outA_lim [Globs] [Ext P] {x : Code} {r : AV × St} (h : RK P fn x st [] = some r) : ∃ n, outA P fn (evC P (evF P drawOk n) drawOk n x st) = some r := by
  unfold RK at h
  cases he : eL P x st with
  | none => rw [he] at h; simp at h
  | some z =>
    rw [he] at h
    obtain ⟨n, hn⟩ := eL_iff.1 he
    obtain ⟨e, s⟩ := z
    refine ⟨n, ?_⟩
    rw [hn]
    cases e <;> exact h
def asB : AV → Option Bool | .prim (.bool t) => some t | _ => none
theorem asB_bool {t : Bool} : asB (.prim (.bool t)) = some t := rfl
theorem RK_if [Globs] [Ext P] {c : Operand} {a b : Code} : RK P fn (.cond c a b) st k = br (asB (opv st.T c)) (RK P fn a st k) (RK P fn b st k) := by
  rw [RK_cond]
  generalize opv st.T c = v
  cases v with
  | prim u =>
    cases u with
    | bool t => cases t <;> rfl
    | _ => rfl
  | _ => rfl
def fin1 (x : Option (AV × St)) : Option AV := match x with | some (r, s) => some (w3 (fz3 0 s.S r)) | none => none
theorem fin1_some {r : AV} {s : St} : fin1 (some (r, s)) = some (w3 (fz3 0 s.S r)) := rfl
theorem fin1_ite {c : Prop} [Decidable c] {a b : Option (AV × St)} : fin1 (if c then a else b) = if c then fin1 a else fin1 b := by split <;> rfl
def finS (b : Nat) (x : Option (AV × St)) : Option (AV × List Ent × List Nat × Nat) := match x with | some (r, s) => some (fz3 b s.S r, s.S.take b, s.tk, s.n) | none => none
theorem finS_some {b : Nat} {r : AV} {s : St} : finS b (some (r, s)) = some (fz3 b s.S r, s.S.take b, s.tk, s.n) := rfl
theorem finS_ite {b : Nat} {c : Prop} [Decidable c] {x y : Option (AV × St)} : finS b (if c then x else y) = if c then finS b x else finS b y := by split <;> rfl
theorem fin1_br {t : Bool} {a b : Option (AV × St)} {r : AV} : fin1 (br (some t) a b) = some r ↔ (t = true → fin1 a = some r) ∧ (t = false → fin1 b = some r) := by cases t <;> simp [br]
theorem finS_br {n : Nat} {t : Bool} {a b : Option (AV × St)} {r : AV × List Ent × List Nat × Nat} : finS n (br (some t) a b) = some r ↔ (t = true → finS n a = some r) ∧ (t = false → finS n b = some r) := by cases t <;> simp [br]
theorem br_not {α : Type} {t : Bool} {a b : Option α} : br (some (!t)) a b = br (some t) b a := by cases t <;> rfl
theorem br_true {α : Type} {a b : Option α} : br (some true) a b = a := rfl
theorem br_false {α : Type} {a b : Option α} : br (some false) a b = b := rfl
theorem loop_rule [Globs] [Ext P] {ι : Type} {c : Code} (I : ι → St → Prop) (μ : ι → Nat) (G : ι → AV) (h : ∀ x st, I x st → (∀ y st', μ y < μ x → I y st' → fin1 (RK P fn (.loop c) st' k) = some (G y)) → fin1 (RK P fn c st (.loop c st.S.length :: k)) = some (G x)) {x : ι} {st : St} (h0 : I x st) : fin1 (RK P fn (.loop c) st k) = some (G x) := by
  have key : ∀ n x st, μ x = n → I x st → fin1 (RK P fn (.loop c) st k) = some (G x) := by
    intro n
    induction n using Nat.strongRecOn with
    | _ n ih =>
      intro x st hn hI
      rw [RK_loop]
      exact h x st hI fun y st' hlt hy => ih (μ y) (hn ▸ hlt) y st' rfl hy
  exact key _ x st rfl h0
theorem loop_ruleS [Globs] [Ext P] {ι : Type} {c : Code} {m : Nat} (I : ι → St → Prop) (μ : ι → Nat) (G : ι → AV × List Ent × List Nat × Nat) (h : ∀ x st, I x st → (∀ y st', μ y < μ x → I y st' → finS m (RK P fn (.loop c) st' k) = some (G y)) → finS m (RK P fn c st (.loop c st.S.length :: k)) = some (G x)) {x : ι} {st : St} (h0 : I x st) : finS m (RK P fn (.loop c) st k) = some (G x) := by
  have key : ∀ n x st, μ x = n → I x st → finS m (RK P fn (.loop c) st k) = some (G x) := by
    intro n
    induction n using Nat.strongRecOn with
    | _ n ih =>
      intro x st hn hI
      rw [RK_loop]
      exact h x st hI fun y st' hlt hy => ih (μ y) (hn ▸ hlt) y st' rfl hy
  exact key _ x st rfl h0
theorem runP_lim [Globs] [Ext P] {c : Code} {as : List AV} {r : AV} (hp3 : pure3 r = true) (h : fin1 (RK P fn c ⟨as ++ bots (fn.ntmps - as.length), [], [], 0⟩ []) = some r) : ∃ m, runP P drawOk (evF P drawOk m) m fn c as = some r := by
  rw [bots_eq] at h
  cases hr : RK P fn c ⟨as ++ List.replicate (fn.ntmps - as.length) .bot, [], [], 0⟩ [] with
  | none => rw [hr] at h; simp [fin1] at h
  | some x =>
    obtain ⟨r', s⟩ := x
    rw [hr, fin1_some] at h
    simp only [Option.some.injEq] at h
    obtain ⟨m, hm⟩ := outA_lim hr
    refine ⟨m, ?_⟩
    unfold runP
    rw [hm]
    simp only [h, hp3, if_true]
theorem runP_mono [Globs] [Ext P] {k m : Nat} (h : k ≤ m) {c : Code} {as : List AV} {r : AV} (hr : runP P drawOk (evF P drawOk k) k fn c as = some r) : runP P drawOk (evF P drawOk m) m fn c as = some r := by
  unfold runP at hr ⊢
  split at hr
  · rename_i r' s1 ho
    rw [outA_mono (fun z hz => evC_mono (evF_mono h) h c _ z hz) ho]
    exact hr
  · simp at hr
theorem call_pure [Globs] [Ext P] {f : FuncId} {c : Code} (hf : P.funcs[f]? = some fn) (hx : (Ext.on P f || Ext.mv P f) = false) (hb : fn.body = some c) (hnil : nilCmp c = false) (hname : (fn.name == "runtime.NumGoroutine") = false) {args args' : List AV} {nt : Nat} (hnt : fn.ntmps = nt) (hargs : args.map w2 = args') (hp : args'.all pure2 = true) {r : AV}
    (S : List Ent) (tk : List Nat) (n : Nat) (hp3 : pure3 r = true) (h : fin1 (RK P fn c ⟨args' ++ bots (nt - args.length), [], [], 0⟩ []) = some r) : cL P f args S tk n = some (r, S, tk, n) := by
  subst hargs hnt
  obtain ⟨m, hm⟩ := runP_lim (as := args.map w2) hp3 (by rw [List.length_map]; exact h)
  refine cL_iff.2 ⟨m + 1, ?_⟩
  have hn : ¬ fn.name = "runtime.NumGoroutine" := by simpa using hname
  simp only [Bool.or_eq_false_iff] at hx
  simp only [evF, hf, hb]
  rw [if_neg (by rw [hx.1]; simp), if_neg hn, if_neg (by rw [hx.2]; simp), if_pos hp, if_neg (by rw [hnil]; simp), hm]
theorem call_nil_cons [Globs] [Ext P] {f : FuncId} {c : Code} (hf : P.funcs[f]? = some fn) (hx : (Ext.on P f || Ext.mv P f) = false) (hb : fn.body = some c) (hnil : nilCmp c = true) (hname : (fn.name == "runtime.NumGoroutine") = false) {e : List AV} {es : List (List AV)} {args args' : List AV} {nt : Nat} (hnt : fn.ntmps = nt) (hargs : args.map w2 = .frz (e :: es) .unk :: args') (hp : (AV.frz (e :: es) .unk :: args').all pure2 = true) {r : AV}
    (S : List Ent) (tk : List Nat) (n : Nat) (hp3 : pure3 r = true) (h : fin1 (RK P fn c ⟨(.frz (e :: es) .unk :: args') ++ bots (nt - (args'.length + 1)), [], [], 0⟩ []) = some r) : cL P f args S tk n = some (r, S, tk, n) := by
  subst hnt
  obtain ⟨m, hm⟩ := runP_lim (as := .frz (e :: es) .unk :: args') hp3 h
  refine cL_iff.2 ⟨m + 1, ?_⟩
  have hn : ¬ fn.name = "runtime.NumGoroutine" := by simpa using hname
  simp only [Bool.or_eq_false_iff] at hx
  simp only [evF, hf, hb]
  rw [if_neg (by rw [hx.1]; simp), if_neg hn, if_neg (by rw [hx.2]; simp), if_pos (by rw [hargs]; exact hp), if_pos hnil, hargs]
  simp only [runN, hm]
theorem call_nil_nil [Globs] [Ext P] {f : FuncId} {c : Code} (hf : P.funcs[f]? = some fn) (hx : (Ext.on P f || Ext.mv P f) = false) (hb : fn.body = some c) (hnil : nilCmp c = true) (hname : (fn.name == "runtime.NumGoroutine") = false) {args args' : List AV} {nt : Nat} (hnt : fn.ntmps = nt) (hargs : args.map w2 = .frz [] .unk :: args') (hp : args'.all pure2 = true)
    (S : List Ent) (tk : List Nat) (n : Nat) (h1 : fin1 (RK P fn c ⟨(.frz [] .nl :: args') ++ bots (nt - (args'.length + 1)), [], [], 0⟩ []) = some (.frz [] .unk)) (h2 : fin1 (RK P fn c ⟨(.frz [] .nn :: args') ++ bots (nt - (args'.length + 1)), [], [], 0⟩ []) = some (.frz [] .unk)) : cL P f args S tk n = some (.frz [] .unk, S, tk, n) := by
  subst hnt
  obtain ⟨m1, hm1⟩ := runP_lim (as := .frz [] .nl :: args') rfl h1
  obtain ⟨m2, hm2⟩ := runP_lim (as := .frz [] .nn :: args') rfl h2
  refine cL_iff.2 ⟨max m1 m2 + 1, ?_⟩
  have hn : ¬ fn.name = "runtime.NumGoroutine" := by simpa using hname
  simp only [Bool.or_eq_false_iff] at hx
  simp only [evF, hf, hb]
  rw [if_neg (by rw [hx.1]; simp), if_neg hn, if_neg (by rw [hx.2]; simp), if_pos (by rw [hargs]; simpa [pure2, pure1] using hp), if_pos hnil, hargs]
  simp only [runN, runP_mono (Nat.le_max_left m1 m2) hm1, runP_mono (Nat.le_max_right m1 m2) hm2]
theorem call_shared [Globs] [Ext P] {f : FuncId} {c : Code} (hf : P.funcs[f]? = some fn) (hx : (Ext.on P f || Ext.mv P f) = false) (hb : fn.body = some c) (hname : (fn.name == "runtime.NumGoroutine") = false) {args : List AV} {nt : Nat} (hnt : fn.ntmps = nt) (hp : (args.map w2).all pure2 = false) {S : List Ent} {tk : List Nat} {n : Nat} {r : AV × List Ent × List Nat × Nat}
    (h : finS S.length (RK P fn c ⟨args ++ bots (nt - args.length), S, tk, n⟩ []) = some r) : cL P f args S tk n = some r := by
  subst hnt
  rw [bots_eq] at h
  cases hr : RK P fn c ⟨args ++ List.replicate (fn.ntmps - args.length) .bot, S, tk, n⟩ [] with
  | none => rw [hr] at h; simp [finS] at h
  | some x =>
    obtain ⟨r', s⟩ := x
    rw [hr, finS_some] at h
    obtain ⟨m, hm⟩ := outA_lim hr
    refine cL_iff.2 ⟨m + 1, ?_⟩
    have hn : ¬ fn.name = "runtime.NumGoroutine" := by simpa using hname
    simp only [Bool.or_eq_false_iff] at hx
    simp only [evF, hf, hb]
    rw [if_neg (by rw [hx.1]; simp), if_neg hn, if_neg (by rw [hx.2]; simp), if_neg (by rw [hp]; simp), hm]
    exact h
def finM (x : Option (AV × St)) : Option (AV × List Ent × List Nat × Nat) := match x with | some (r, s) => some (r, s.S, s.tk, s.n) | none => none
theorem finM_some {r : AV} {s : St} : finM (some (r, s)) = some (r, s.S, s.tk, s.n) := rfl
theorem finM_br {t : Bool} {a b : Option (AV × St)} {r : AV × List Ent × List Nat × Nat} : finM (br (some t) a b) = some r ↔ (t = true → finM a = some r) ∧ (t = false → finM b = some r) := by cases t <;> simp [br]
theorem call_mv [Globs] [Ext P] {f : FuncId} {c : Code} (hf : P.funcs[f]? = some fn) (hx : (!Ext.on P f && Ext.mv P f) = true) (hb : fn.body = some c) (hname : (fn.name == "runtime.NumGoroutine") = false) {args : List AV} {nt : Nat} (hnt : fn.ntmps = nt) {S : List Ent} {tk : List Nat} {n : Nat} {r : AV × List Ent × List Nat × Nat}
    (h : finM (RK P fn c ⟨args ++ bots (nt - args.length), S, tk, n⟩ []) = some r) : cL P f args S tk n = some r := by
  subst hnt
  rw [bots_eq] at h
  cases hr : RK P fn c ⟨args ++ List.replicate (fn.ntmps - args.length) .bot, S, tk, n⟩ [] with
  | none => rw [hr] at h; simp [finM] at h
  | some x =>
    obtain ⟨r', s⟩ := x
    rw [hr, finM_some] at h
    obtain ⟨m, hm⟩ := outA_lim hr
    refine cL_iff.2 ⟨m + 1, ?_⟩
    have hn : ¬ fn.name = "runtime.NumGoroutine" := by simpa using hname
    simp only [Bool.and_eq_true, Bool.not_eq_true'] at hx
    simp only [evF, hf, hb]
    rw [if_neg (by rw [hx.1]; simp), if_neg hn, if_pos hx.2, hm]
    exact h
theorem call_ext [Globs] [Ext P] {f : FuncId} (hf : Ext.on P f = true) {args : List AV} {S : List Ent} {tk : List Nat} {n : Nat} {r : AV × List Ent × List Nat × Nat} (h : Ext.call P f args S tk n = some r) : cL P f args S tk n = some r := by
  refine cL_iff.2 ⟨1, ?_⟩
  rw [evF_ext hf]
  unfold extC
  rw [if_pos hf]; exact h
theorem calls_of [Ext P] [Globs] [ExtOk P] {f : FuncId} {args : List AV} {S : List Ent} {tk : List Nat} {n : Nat} {r : AV} {S' : List Ent} {tk' : List Nat} {n' : Nat} (hm : P.follows .mixedOrders = true) (h : cL P f args S tk n = some (r, S', tk', n')) {C : Cx} {vs : Array Value} (h1 : C.S = S) (h2 : C.tk = tk) (h3 : C.n = n) (hs : SR C) (hv : VRs C args vs.toList) :
    Calls P f vs C.w fun e w' => ∃ v C', e = .returned v ∧ C'.w = w' ∧ Le C C' ∧ SR C' ∧ C'.S = S' ∧ C'.tk = tk' ∧ C'.n = n' ∧ VR C' r v := by
  obtain ⟨k, hk⟩ := cL_iff.1 h
  exact (evF_sound (drawOk_sound hm) k _ _ _ _ _ _ _ _ _ hk).2 C vs h1 h2 h3 hs hv
end
end Go.Proofs.YtmkoiandfojgmaaGreat
namespace Go.Proofs.YtmkoiandfojgmaaGreat
section
variable {P : Program} {fn : Func} {M : Md} {call : CallA} {all l : List Oper} {d : Option Tmp} {ty : TypeId} {pos : String} {af : Array Edge} {T : List AV} {S : List Ent} {tk : List Nat} {n : Nat} {k : List Kont}
def nx {β : Type} (x : Option AV) (f : AV → Option β) : Option β := match x with | some v => f v | none => none
theorem nx_congr {β : Type} {x x' : Option AV} {f : AV → Option β} (h : x = x') : nx x f = nx x' f := by rw [h]
theorem nx_some {β : Type} {v : AV} {f : AV → Option β} : nx (some v) f = f v := rfl
def ns {α β : Type} (x : Option α) (f : α → Option β) : Option β := match x with | some v => f v | none => none
theorem ns_congr {α β : Type} {x x' : Option α} {f : α → Option β} (h : x = x') : ns x f = ns x' f := by rw [h]
theorem ns_some {α β : Type} {v : α} {f : α → Option β} : ns (some v) f = f v := rfl
theorem RK_congr [Globs] [Ext P] {c : Code} {st st' : St} (h : st = st') : RK P fn c st k = RK P fn c st' k := by rw [h]
theorem RO_congr [Globs] [Ext P] {st st' : St} (h : st = st') : RO P fn M call all l st k = RO P fn M call all l st' k := by rw [h]
theorem cont_congr [Globs] [Ext P] {e : Ex} {st st' : St} (h : st = st') : cont P fn e st k = cont P fn e st' k := by rw [h]
def wantG (all : List Oper) (T : List AV) (g : Nat) (w : Bool) : Option Bool :=
  match (nth all g).bind (·.dst) with
  | none => none
  | some d => match getT T d with
    | .prim (.bool b) => some (b == w)
    | .prim (.tuple _) => some false
    | _ => none
def wantD (T : List AV) (d : Option Tmp) (w : Bool) : Option Bool :=
  match d with
  | none => none
  | some d => match getT T d with
    | .prim (.bool b) => some (b == w)
    | .prim (.tuple _) => some false
    | _ => none
def dstAt (all : List Oper) (g : Nat) : Option Tmp := (nth all g).bind (·.dst)
theorem dstAt_congr {g g' : Nat} (h : g = g') : dstAt all g = dstAt all g' := by rw [h]
theorem dstAt_zero {o : Oper} : dstAt (o :: l) 0 = o.dst := rfl
theorem dstAt_succ {o : Oper} {g : Nat} : dstAt (o :: l) (g + 1) = dstAt l g := rfl
def wantV (v : AV) (w : Bool) : Option Bool := match v with | .prim (.bool b) => some (b == w) | .prim (.tuple _) => some false | _ => none
theorem wantV_bool {b w : Bool} : wantV (.prim (.bool b)) w = some (b == w) := rfl
theorem wantV_undef {w : Bool} : wantV (.prim undef) w = some false := rfl
theorem wantD_some {t : Tmp} {w : Bool} : wantD T (some t) w = wantV (getT T t) w := rfl
theorem RO_guard [Globs] [Ext P] {op : Op} {g : Nat} {w : Bool} : RO P fn M call all (⟨d, op, ty, pos, af, some (g, w)⟩ :: l) ⟨T, S, tk, n⟩ k =
    br (wantD T (dstAt all g) w) (RO P fn M call all (⟨d, op, ty, pos, af, none⟩ :: l) ⟨T, S, tk, n⟩ k) (RO P fn M call all l ⟨putT T d (.prim undef), S, tk, n⟩ k) := by
  rw [RO_cons, RO_cons]
  have e : wantA all T ⟨d, op, ty, pos, af, some (g, w)⟩ = wantD T (dstAt all g) w := by
    unfold wantA wantD dstAt
    simp only
    cases (nth all g).bind (·.dst) <;> rfl
  rw [e]
  rfl
theorem RO_plain [Globs] [Ext P] {op : Op} : RO P fn M call all (⟨d, op, ty, pos, af, none⟩ :: l) ⟨T, S, tk, n⟩ k =
    match @evO (gM M) P call ⟨d, op, ty, pos, af, none⟩ ⟨T, S, tk, n⟩ with | some (v, st') => if @chkO (gM M) P all ⟨d, op, ty, pos, af, none⟩ ⟨T, S, tk, n⟩ v st' = true then RO P fn M call all l { st' with T := putT st'.T d v } k else none | none => none := by
  rw [RO_cons]; rfl
theorem chkO_q [G : Globs] {o : Oper} {st st' : St} {v : AV} (hx : xOp o = false) (hl : isLd o = false) : chkO P all o st v st' = true := by
  unfold chkO
  rw [hx, hl]
  cases (Globs.dr : Bool) <;> rfl
theorem chkO_off [G : Globs] {o : Oper} {st st' : St} {v : AV} (h : (Globs.dr : Bool) = false) : chkO P all o st v st' = true := by
  unfold chkO
  rw [h]; rfl
theorem RO_plainQ [Globs] [Ext P] {op : Op} (hx : @xOp (gM M) ⟨d, op, ty, pos, af, none⟩ = false) (hl : isLd ⟨d, op, ty, pos, af, none⟩ = false) : RO P fn M call all (⟨d, op, ty, pos, af, none⟩ :: l) ⟨T, S, tk, n⟩ k =
    match @evO (gM M) P call ⟨d, op, ty, pos, af, none⟩ ⟨T, S, tk, n⟩ with | some (v, st') => RO P fn M call all l { st' with T := putT st'.T d v } k | none => none := by
  rw [RO_plain]
  cases @evO (gM M) P call ⟨d, op, ty, pos, af, none⟩ ⟨T, S, tk, n⟩ with
  | none => rfl
  | some x =>
    simp only
    rw [if_pos (chkO_q (G := gM M) hx hl)]
theorem RO_plainD [Globs] [Ext P] {op : Op} (hd : @Globs.dr (gM M) = false) : RO P fn M call all (⟨d, op, ty, pos, af, none⟩ :: l) ⟨T, S, tk, n⟩ k =
    match @evO (gM M) P call ⟨d, op, ty, pos, af, none⟩ ⟨T, S, tk, n⟩ with | some (v, st') => RO P fn M call all l { st' with T := putT st'.T d v } k | none => none := by
  rw [RO_plain]
  cases @evO (gM M) P call ⟨d, op, ty, pos, af, none⟩ ⟨T, S, tk, n⟩ with
  | none => rfl
  | some x =>
    simp only
    rw [if_pos (chkO_off (G := gM M) hd)]
theorem RO_quiet [Globs] [Ext P] {op : Op} {x : Option AV} (h : @evO (gM M) P call ⟨d, op, ty, pos, af, none⟩ ⟨T, S, tk, n⟩ = x.map fun v => (v, ⟨T, S, tk, n⟩)) (hx : @xOp (gM M) ⟨d, op, ty, pos, af, none⟩ = false := by rfl) (hl : isLd ⟨d, op, ty, pos, af, none⟩ = false := by rfl) :
    RO P fn M call all (⟨d, op, ty, pos, af, none⟩ :: l) ⟨T, S, tk, n⟩ k = nx x fun v => RO P fn M call all l ⟨putT T d v, S, tk, n⟩ k := by
  rw [RO_plainQ hx hl, h]; cases x <;> rfl
theorem RO_move [Globs] [Ext P] {x : Operand} : RO P fn M call all (⟨d, .move x, ty, pos, af, none⟩ :: l) ⟨T, S, tk, n⟩ k = RO P fn M call all l ⟨putT T d (opv T x), S, tk, n⟩ k := by rw [RO_plainQ rfl rfl]; rfl
theorem RO_assign [Globs] [Ext P] {x : Operand} : RO P fn M call all (⟨d, .assign x, ty, pos, af, none⟩ :: l) ⟨T, S, tk, n⟩ k = RO P fn M call all l ⟨putT T d (opv T x), S, tk, n⟩ k := by rw [RO_plainQ rfl rfl]; rfl
def pickA (c a b : AV) : Option AV := match c with | .prim (.bool t) => some (if t then a else b) | _ => none
theorem pickA_true {a b : AV} : pickA (.prim (.bool true)) a b = some a := rfl
theorem pickA_false {a b : AV} : pickA (.prim (.bool false)) a b = some b := rfl
theorem pickA_bool {t x y : Bool} : pickA (.prim (.bool t)) (.prim (.bool x)) (.prim (.bool y)) = some (.prim (.bool (bif t then x else y))) := by cases t <;> rfl
theorem RO_pick [Globs] [Ext P] {c a b : Operand} : RO P fn M call all (⟨d, .pick c a b, ty, pos, af, none⟩ :: l) ⟨T, S, tk, n⟩ k = nx (pickA (opv T c) (opv T a) (opv T b)) fun v => RO P fn M call all l ⟨putT T d v, S, tk, n⟩ k := RO_quiet rfl
theorem RO_bin [Globs] [Ext P] {b : BinOp} {t u : TypeId} {x y : Operand} : RO P fn M call all (⟨d, .binOp b t x y u, ty, pos, af, none⟩ :: l) ⟨T, S, tk, n⟩ k = nx (aBin P b t (opv T x) (opv T y)) fun v => RO P fn M call all l ⟨putT T d v, S, tk, n⟩ k := RO_quiet rfl
theorem RO_un [Globs] [Ext P] {u : UnOp} {t : TypeId} {x : Operand} : RO P fn M call all (⟨d, .unOp u t x, ty, pos, af, none⟩ :: l) ⟨T, S, tk, n⟩ k = nx (aUn u (opv T x)) fun v => RO P fn M call all l ⟨putT T d v, S, tk, n⟩ k := RO_quiet rfl
theorem RO_conv [Globs] [Ext P] {s t : TypeId} {x : Operand} : RO P fn M call all (⟨d, .convert s t x, ty, pos, af, none⟩ :: l) ⟨T, S, tk, n⟩ k = nx (cvA P s t (opv T x)) fun v => RO P fn M call all l ⟨putT T d v, S, tk, n⟩ k := RO_quiet rfl
def extA (v : AV) (i : Nat) : Option AV := match v with | .tup vs => nth vs i | _ => none
theorem extA_tup {vs : List AV} {i : Nat} : extA (.tup vs) i = nth vs i := rfl
theorem RO_extract [Globs] [Ext P] {x : Operand} {i : Nat} : RO P fn M call all (⟨d, .extract x i, ty, pos, af, none⟩ :: l) ⟨T, S, tk, n⟩ k = nx (extA (opv T x) i) fun v => RO P fn M call all l ⟨putT T d v, S, tk, n⟩ k := RO_quiet rfl
def fldV (f : Option (Nat × Nat × Bool)) (x : AV) : Option AV := match f, x with | some (off, sz, b), .agg cs => partA b sz (cs.drop off) | _, _ => none
theorem fldV_agg {off sz : Nat} {b : Bool} {cs : List AV} : fldV (some (off, sz, b)) (.agg cs) = partA b sz (cs.drop off) := rfl
theorem RO_field [Globs] [Ext P] {t : TypeId} {x : Operand} {i : Nat} : RO P fn M call all (⟨d, .field t x i, ty, pos, af, none⟩ :: l) ⟨T, S, tk, n⟩ k = nx (fldV (fieldOf P t i) (opv T x)) fun v => RO P fn M call all l ⟨putT T d v, S, tk, n⟩ k := RO_quiet (by
  simp only [evO, evQ, fldV]
  rfl)
theorem RO_indexAddr [Globs] [Ext P] {t : TypeId} {x i : Operand} : RO P fn M call all (⟨d, .indexAddr t x i, ty, pos, af, none⟩ :: l) ⟨T, S, tk, n⟩ k = nx (idxA P t (opv T x) (opv T i)) fun v => RO P fn M call all l ⟨putT T d v, S, tk, n⟩ k := RO_quiet rfl
theorem RO_fieldAddr [Globs] [Ext P] {t : TypeId} {x : Operand} {i : Nat} : RO P fn M call all (⟨d, .fieldAddr t x i, ty, pos, af, none⟩ :: l) ⟨T, S, tk, n⟩ k = nx (fldA P t (opv T x) i) fun v => RO P fn M call all l ⟨putT T d v, S, tk, n⟩ k := RO_quiet rfl
def strIdx (ok : Bool) (x : AV) (i : Option Nat) : Option AV := match x, i with | .prim (.string s), some k => if ok then (s[k]?).map fun b => .prim (.int .u8 b.toNat) else none | _, _ => none
theorem RO_index [Globs] [Ext P] {t : TypeId} {x i : Operand} : RO P fn M call all (⟨d, .index t x i, ty, pos, af, none⟩ :: l) ⟨T, S, tk, n⟩ k = nx (strIdx (isStr P t) (opv T x) (intN (opv T i))) fun v => RO P fn M call all l ⟨putT T d v, S, tk, n⟩ k := RO_quiet (by
  simp only [evO, evQ, strIdx]
  rfl)
def bldA (z : Option (List AV)) (pl : Option (List (Nat × Nat))) (ps : List (Nat × AV)) : Option AV := match z, pl with | some z, some pl => (fillA pl z ps).map .agg | _, _ => none
theorem bldA_some {z : List AV} {pl : List (Nat × Nat)} {ps : List (Nat × AV)} : bldA (some z) (some pl) ps = (fillA pl z ps).map .agg := rfl
theorem RO_build [Globs] [Ext P] {t : TypeId} {ps : Array (Nat × Operand)} : RO P fn M call all (⟨d, .build t ps, ty, pos, af, none⟩ :: l) ⟨T, S, tk, n⟩ k = nx (bldA (zeroOf P t) (fieldsOf P t) (ps.toList.map fun (i, x) => (i, opv T x))) fun v => RO P fn M call all l ⟨putT T d v, S, tk, n⟩ k := RO_quiet (by
  simp only [evO, evQ, bldA]
  rfl)
def litA (sz : Option Nat) (z : Option (List AV)) (len : Nat) (ps : List (Nat × AV)) : Option AV := match sz, z with
  | some (sz + 1), some z => if z.length = sz + 1 ∧ z.all (fun c => pure1 (w1 c)) = true ∧ len * (sz + 1) ≤ 4096 then orLit (elemsA (sz + 1) (List.replicate len (z.map w1)) ps) (lit1 (sz + 1) len ps) else none
  | _, _ => none
theorem orLit_some {es : List (List AV)} {x : Option AV} : orLit (some es) x = some (.frz es .tight) := rfl
theorem orLit_none {x : Option AV} : orLit none x = x := rfl
def reps {α : Type} (x : α) : Nat → List α | 0 => [] | n + 1 => x :: reps x n
theorem reps_eq {α : Type} (x : α) : ∀ n, List.replicate n x = reps x n | 0 => rfl | n + 1 => by rw [List.replicate_succ, reps_eq x n]; rfl
theorem litA_some {sz : Nat} {z : List AV} {len : Nat} {ps : List (Nat × AV)} : litA (some (sz + 1)) (some z) len ps = if z.length = sz + 1 ∧ z.all (fun c => pure1 (w1 c)) = true ∧ len * (sz + 1) ≤ 4096 then orLit (elemsA (sz + 1) (reps (z.map w1) len) ps) (lit1 (sz + 1) len ps) else none := by
  rw [← reps_eq]; rfl
theorem RO_buildSlice [Globs] [Ext P] {t : TypeId} {len : Nat} {ps : Array (Nat × Operand)} (ho : @Globs.own (gM M) d ty pos = false) : RO P fn M call all (⟨d, .buildSlice t len ps, ty, pos, af, none⟩ :: l) ⟨T, S, tk, n⟩ k =
    nx (litA ((elemOf P t).bind (szOf P)) ((elemOf P t).bind (zeroOf P)) len (ps.toList.map fun (i, x) => (i, opv T x))) fun v => RO P fn M call all l ⟨putT T d v, S, tk, n⟩ k := RO_quiet (by
  simp only [evO, evQ, ho, Bool.false_eq_true, if_false]
  congr 1
  cases he : elemOf P t with
  | none => rfl
  | some e =>
    simp only [Option.bind_some]
    unfold litA
    cases szOf P e with
    | none => rfl
    | some s => cases s <;> cases zeroOf P e <;> rfl)
theorem RO_slice [Globs] [Ext P] {t : TypeId} {x : Operand} {lo hi mx : Option Operand} : RO P fn M call all (⟨d, .slice t x lo hi mx, ty, pos, af, none⟩ :: l) ⟨T, S, tk, n⟩ k = nx (sliceA P t (opv T x) (lo.map (opv T)) (hi.map (opv T)) (mx.map (opv T))) fun v => RO P fn M call all l ⟨putT T d v, S, tk, n⟩ k := RO_quiet rfl
theorem RO_makeFunc [Globs] [Ext P] {f : FuncId} {caps : Array Operand} : RO P fn M call all (⟨d, .makeFunc (.func f) #[] caps, ty, pos, af, none⟩ :: l) ⟨T, S, tk, n⟩ k =
    nx (if ((caps.toList.map (opv T)).all capsOk) = true then some (.fn f (caps.toList.map (opv T))) else none) fun v => RO P fn M call all l ⟨putT T d v, S, tk, n⟩ k := RO_quiet (by
  simp only [evO, evQ, List.all_map]
  have : (caps.toList.all fun x => capsOk (opv T x)) = caps.toList.all (capsOk ∘ opv T) := rfl
  rw [this]
  by_cases hc : caps = #[]
  · subst hc; simp
  · have hc' : caps.isEmpty = false := by simpa using hc
    simp [hc'])
theorem RO_makeBound [Globs] [Ext P] {f : FuncId} {x : Operand} : RO P fn M call all (⟨d, .makeFunc (.func f) #[x] #[], ty, pos, af, none⟩ :: l) ⟨T, S, tk, n⟩ k =
    RO P fn M call all l ⟨putT T d (.bfn f [opv T x]), S, tk, n⟩ k := by
  rw [RO_plainQ rfl rfl]
  simp [evO, evQ]
structure CkF (b : Bool) : Prop where
  h : b = false
structure CkT (b : Bool) : Prop where
  h : b = true
def ldG (d : Bool) (x : Option AV) : Option AV := match x with | some v => if (d && isB v) = true then none else some v | none => none
theorem ldG_off {d : Bool} {x : Option AV} (h' : CkF d) : ldG d x = x := by have h := h'.h; subst h; cases x <;> rfl
theorem ldG_on {d : Bool} {v : AV} (h : CkF (isB v)) : ldG d (some v) = some v := by simp [ldG, h.h]
theorem RO_load [Globs] [Ext P] {t : TypeId} {a : Operand} : RO P fn M call all (⟨d, .load t a, ty, pos, af, none⟩ :: l) ⟨T, S, tk, n⟩ k = nx (ldG (@Globs.dr (gM M)) (ldA P t (opv T a) S)) fun v => RO P fn M call all l ⟨putT T d v, S, tk, n⟩ k := by
  rw [RO_plain]
  simp only [evO]
  cases ldA P t (opv T a) S with
  | none => rfl
  | some v =>
    simp only [Option.map_some, nx, ldG]
    have : @chkO (gM M) P all ⟨d, .load t a, ty, pos, af, none⟩ ⟨T, S, tk, n⟩ v ⟨T, S, tk, n⟩ = !(@Globs.dr (gM M) && isB v) := by
      unfold chkO
      cases @Globs.dr (gM M) <;> rfl
    rw [this]
    cases (@Globs.dr (gM M) && isB v) <;> rfl
theorem RO_store [Globs] [Ext P] {t : TypeId} {a x : Operand} : RO P fn M call all (⟨none, .store t a x, ty, pos, af, none⟩ :: l) ⟨T, S, tk, n⟩ k = ns (stA P t (opv T a) (opv T x) S) fun S' => RO P fn M call all l ⟨T, S', tk, n⟩ k := by
  rw [RO_plainQ rfl rfl]
  simp only [evO]
  cases stA P t (opv T a) (opv T x) S <;> rfl
theorem RO_alloc [Globs] [Ext P] {t : TypeId} : RO P fn M call all (⟨d, .alloc t, ty, pos, af, none⟩ :: l) ⟨T, S, tk, n⟩ k = ns (zeroOf P t) fun cs => RO P fn M call all l ⟨putT T d (.ref S.length n 0), S ++ [⟨n, cs⟩], tk, n + 1⟩ k := by
  rw [RO_plainQ rfl rfl]
  simp only [evO]
  cases zeroOf P t <;> rfl
theorem RO_box [Globs] [Ext P] {t : TypeId} {x : Operand} : RO P fn M call all (⟨d, .box t x, ty, pos, af, none⟩ :: l) ⟨T, S, tk, n⟩ k = ns (cellsOf (opv T x)) fun cs => RO P fn M call all l ⟨putT T d (.ref S.length n 0), S ++ [⟨n, cs⟩], tk, n + 1⟩ k := by
  rw [RO_plainQ rfl rfl]
  simp only [evO]
  cases cellsOf (opv T x) <;> rfl
def apM [Globs] (M : Md) (P : Program) (t : TypeId) (x y : AV) (tk : List Nat) (S : List Ent) : Option (AV × List Nat) := @apB1 (gM M) P t x y tk S
theorem apM_false [Globs] {t : TypeId} {x y : AV} : apM .no P t x y tk S = apB1 P t x y tk S := rfl
theorem apM_true [Globs] {t : TypeId} {x y : AV} : apM .quiet P t x y tk S = apA P t x y tk := by simp [apM, apB1]
theorem apM_vals [Globs] {t : TypeId} {x y : AV} : apM .vals P t x y tk S = apB1 P t x y tk S := rfl
theorem apM_look [Globs] {t : TypeId} {x y : AV} : apM .look P t x y tk S = apB1 P t x y tk S := rfl
theorem RO_appendO [Globs] [Ext P] {x y : Operand} {t : TypeId} (ho : @Globs.own (gM M) d ty pos = true) : RO P fn M call all (⟨d, .call ⟨.builtin .append, #[x, y], #[t, t]⟩, ty, pos, af, none⟩ :: l) ⟨T, S, tk, n⟩ k = ns (apO P t (opv T x) (opv T y) S n) fun (v, S', n') => RO P fn M call all l ⟨putT T d v, S', tk, n'⟩ k := by
  rw [RO_plainQ rfl rfl]
  simp only [evO, List.map_cons, List.map_nil, if_true, ho]
  cases apO P t (opv T x) (opv T y) S n <;> rfl
theorem RO_append [Globs] [Ext P] {x y : Operand} {t : TypeId} (ho : @Globs.own (gM M) d ty pos = false) : RO P fn M call all (⟨d, .call ⟨.builtin .append, #[x, y], #[t, t]⟩, ty, pos, af, none⟩ :: l) ⟨T, S, tk, n⟩ k = ns (apM M P t (opv T x) (opv T y) tk S) fun (v, tk') => RO P fn M call all l ⟨putT T d v, S, tk', n⟩ k := by
  rw [RO_plainQ rfl rfl]
  simp only [evO, List.map_cons, List.map_nil, if_true, ho, Bool.false_eq_true, if_false]
  unfold apM
  cases @apB1 (gM M) P t (opv T x) (opv T y) tk S <;> rfl
def lenV (st sl : Bool) (x : AV) : Option AV := match x with
  | .prim (.string s) => if st then some (.int s.size) else none
  | x => if sl then (lenA x).map fun (n : Nat) => AV.int (n : Int) else none
theorem lenV_str {sl : Bool} {s : ByteArray} : lenV true sl (.prim (.string s)) = some (.int s.size) := rfl
theorem lenV_frz {st : Bool} {es : List (List AV)} {c : Cap} : lenV st true (.frz es c) = some (.int es.length) := rfl
theorem lenV_sref {st : Bool} {id ep off len sz : Nat} : lenV st true (.sref id ep off len sz) = some (.int len) := rfl
theorem RO_len [Globs] [Ext P] {x : Operand} {t : TypeId} : RO P fn M call all (⟨d, .call ⟨.builtin .len, #[x], #[t]⟩, ty, pos, af, none⟩ :: l) ⟨T, S, tk, n⟩ k = nx (lenV (isStr P t) (elemOf P t).isSome (opv T x)) fun v => RO P fn M call all l ⟨putT T d v, S, tk, n⟩ k := RO_quiet (by
  simp only [evO, evQ, List.map_cons, List.map_nil]
  congr 1
  unfold lenV
  cases opv T x with
  | prim v => cases v <;> rfl
  | _ => rfl)
theorem RO_call [Globs] [Ext P] {f : FuncId} {args : Array Operand} {ats : Array TypeId} (hx : (@Globs.dr (gM M) && @xF (gM M) f) = false) : RO P fn M call all (⟨d, .call ⟨.value (.func f), args, ats⟩, ty, pos, af, none⟩ :: l) ⟨T, S, tk, n⟩ k =
    ns (call f (args.toList.map (opv T)) S tk n) fun (v, S', tk', n') => RO P fn M call all l ⟨putT T d v, S', tk', n'⟩ k := by
  rw [RO_plain]
  simp only [evO, calleeA, opv, List.append_nil]
  cases call f (args.toList.map (opv T)) S tk n with
  | none => rfl
  | some x =>
    obtain ⟨v, S', tk', n'⟩ := x
    simp only [Option.map_some, ns]
    rw [if_pos]
    unfold chkO
    cases hd : @Globs.dr (gM M) with
    | false => rfl
    | true =>
      rw [hd] at hx
      have hx' : @xOp (gM M) ⟨d, .call ⟨.value (.func f), args, ats⟩, ty, pos, af, none⟩ = false := hx
      rw [hx']; rfl
noncomputable def gO (S S' : List Ent) : Option Unit := by classical exact if gOnly S S' then some () else none
theorem gO_some {S S' : List Ent} (h : gOnly S S') : gO S S' = some () := by unfold gO; rw [if_pos h]
theorem gO_refl {S : List Ent} : gO S S = some () := gO_some ⟨rfl, fun _ => .inl rfl⟩
noncomputable def reA (P : Program) (all : List Oper) (d : Option Tmp) (T : List AV) (S S' : List Ent) : Option Unit := by classical exact if S.length ≤ S'.length ∧ (d.isSome = true → ∀ q ∈ loadsB all d, sameLd P T S' q) then some () else none
theorem reA_some {S S' : List Ent} {L : List (TypeId × Operand × Option Tmp × Bool)} (hL : loadsB all d = L) (h2 : S.length ≤ S'.length) (h3 : ∀ q ∈ L, sameLd P T S' q) : reA P all d T S S' = some () := by
  subst hL; unfold reA; rw [if_pos ⟨h2, fun _ => h3⟩]
theorem reA_none {S S' : List Ent} (h2 : S.length ≤ S'.length) : reA P all none T S S' = some () := by
  unfold reA; rw [if_pos ⟨h2, fun h => by simp at h⟩]
open Classical in
theorem chkO_L [G : Globs] {o : Oper} {st st' : St} {v : AV} (h : lkOp o = true) : chkO P all o st v st' = (gO st.S st'.S).isSome := by
  obtain ⟨hd, hx⟩ := lk_x h
  have ha : anOp o = false := by simp [anOp, h]
  unfold chkO gO chkX
  rw [hd, hx, h, ha]
  by_cases hg : gOnly st.S st'.S
  · rw [if_pos hg]
    exact @decide_eq_true _ (propDecidable _) ⟨fun _ => hg, fun h => by simp at h, fun h => by simp [mkOp, ha] at h⟩
  · rw [if_neg hg]
    exact @decide_eq_false _ (propDecidable _) fun h => hg (h.1 rfl)
open Classical in
theorem chkO_A [G : Globs] {o : Oper} {st st' : St} {v : AV} (h : anOp o = true) (hm : mkOp o = false) : chkO P all o st v st' = (reA P all o.dst st.T st.S st'.S).isSome := by
  obtain ⟨hd, hx⟩ := an_x h
  have hl : lkOp o = false := by
    unfold anOp at h
    simp only [Bool.and_eq_true, Bool.not_eq_true'] at h
    exact h.2
  unfold chkO reA chkX
  rw [hd, hx, h, hl]
  by_cases hg : st.S.length ≤ st'.S.length ∧ (o.dst.isSome = true → ∀ q ∈ loadsB all o.dst, sameLd P st.T st'.S q)
  · rw [if_pos hg]
    exact @decide_eq_true _ (propDecidable _) ⟨fun h => by simp at h, fun _ => hg, fun h => by rw [hm] at h; cases h⟩
  · rw [if_neg hg]
    exact @decide_eq_false _ (propDecidable _) fun h => hg (h.2.1 rfl)
open Classical in
noncomputable def reM (P : Program) (all : List Oper) (d : Option Tmp) (T : List AV) (S S' : List Ent) : Option Unit := if S <+: S' ∧ ∀ x ∈ behindB all d, wasAt T S x then reA P all d T S S' else none
theorem reM_app {S X : List Ent} (hB' : CkT (behindB all d).isEmpty) : reM P all d T S (S ++ X) = reA P all d T S (S ++ X) := by
  have hB := hB'.h
  unfold reM; rw [if_pos ⟨List.prefix_append S X, fun x hx => by rw [List.isEmpty_iff.1 hB] at hx; simp at hx⟩]
open Classical in
theorem chkO_M [G : Globs] {o : Oper} {st st' : St} {v : AV} (hm : mkOp o = true) (hds : o.dst.isSome = true) : chkO P all o st v st' = (reM P all o.dst st.T st.S st'.S).isSome := by
  have h : anOp o = true := by unfold mkOp at hm; simp only [Bool.and_eq_true] at hm; exact hm.1
  obtain ⟨hd, hx⟩ := an_x h
  have hl : lkOp o = false := by
    unfold anOp at h
    simp only [Bool.and_eq_true, Bool.not_eq_true'] at h
    exact h.2
  unfold chkO reM reA chkX
  rw [hd, hx, h, hl, hm]
  by_cases hg : st.S.length ≤ st'.S.length ∧ (o.dst.isSome = true → ∀ q ∈ loadsB all o.dst, sameLd P st.T st'.S q)
  · by_cases hp : st.S <+: st'.S ∧ ∀ x ∈ behindB all o.dst, wasAt st.T st.S x
    · rw [if_pos hp, if_pos hg]
      exact @decide_eq_true _ (propDecidable _) ⟨fun h => by simp at h, fun _ => hg, fun _ _ => hp⟩
    · rw [if_neg hp]
      exact @decide_eq_false _ (propDecidable _) fun h => hp (h.2.2 rfl hds)
  · rw [if_neg hg, ite_self]
    exact @decide_eq_false _ (propDecidable _) fun h => hg (h.2.1 rfl)
theorem ite_isSome {α β : Type} {x : Option α} {b : Option β} : (if x.isSome = true then b else none) = ns x fun _ => b := by cases x <;> rfl
theorem RO_callL [Globs] [Ext P] {f : FuncId} {args : Array Operand} {ats : Array TypeId} (hx : @lkOp (gM M) ⟨d, .call ⟨.value (.func f), args, ats⟩, ty, pos, af, none⟩ = true) : RO P fn M call all (⟨d, .call ⟨.value (.func f), args, ats⟩, ty, pos, af, none⟩ :: l) ⟨T, S, tk, n⟩ k =
    ns (call f (args.toList.map (opv T)) S tk n) fun (v, S', tk', n') => ns (gO S S') fun _ => RO P fn M call all l ⟨putT T d v, S', tk', n'⟩ k := by
  rw [RO_plain]
  simp only [evO, calleeA, opv, List.append_nil]
  cases call f (args.toList.map (opv T)) S tk n with
  | none => rfl
  | some x =>
    obtain ⟨v, S', tk', n'⟩ := x
    simp only [Option.map_some, ns]
    rw [chkO_L (G := gM M) hx, ite_isSome]; rfl
theorem RO_callX [Globs] [Ext P] {f : FuncId} {args : Array Operand} {ats : Array TypeId} (hx : @anOp (gM M) ⟨d, .call ⟨.value (.func f), args, ats⟩, ty, pos, af, none⟩ = true) (hm : @mkOp (gM M) ⟨d, .call ⟨.value (.func f), args, ats⟩, ty, pos, af, none⟩ = false) : RO P fn M call all (⟨d, .call ⟨.value (.func f), args, ats⟩, ty, pos, af, none⟩ :: l) ⟨T, S, tk, n⟩ k =
    ns (call f (args.toList.map (opv T)) S tk n) fun (v, S', tk', n') => ns (reA P all d T S S') fun _ => RO P fn M call all l ⟨putT T d v, S', tk', n'⟩ k := by
  rw [RO_plain]
  simp only [evO, calleeA, opv, List.append_nil]
  cases call f (args.toList.map (opv T)) S tk n with
  | none => rfl
  | some x =>
    obtain ⟨v, S', tk', n'⟩ := x
    simp only [Option.map_some, ns]
    rw [chkO_A (G := gM M) hx hm, ite_isSome]; rfl
theorem RO_callM [Globs] [Ext P] {f : FuncId} {args : Array Operand} {ats : Array TypeId} {d : Tmp} (hm : @mkOp (gM M) ⟨some d, .call ⟨.value (.func f), args, ats⟩, ty, pos, af, none⟩ = true) : RO P fn M call all (⟨some d, .call ⟨.value (.func f), args, ats⟩, ty, pos, af, none⟩ :: l) ⟨T, S, tk, n⟩ k =
    ns (call f (args.toList.map (opv T)) S tk n) fun (v, S', tk', n') => ns (reM P all (some d) T S S') fun _ => RO P fn M call all l ⟨putT T (some d) v, S', tk', n'⟩ k := by
  rw [RO_plain]
  simp only [evO, calleeA, opv, List.append_nil]
  cases call f (args.toList.map (opv T)) S tk n with
  | none => rfl
  | some x =>
    obtain ⟨v, S', tk', n'⟩ := x
    simp only [Option.map_some, ns]
    rw [chkO_M (G := gM M) hm rfl, ite_isSome]; rfl
def invF (call : CallA) (f : Option FuncId) (args : List AV) (S : List Ent) (tk : List Nat) (n : Nat) : Option (AV × List Ent × List Nat × Nat) := match f with | some f => call f args S tk n | none => none
def invV (P : Program) (call : CallA) (x : AV) (m : String) (args : List AV) (S : List Ent) (tk : List Nat) (n : Nat) : Option (AV × List Ent × List Nat × Nat) := match x with | .ifc t v => invF call (mRow P t m) (v :: args) S tk n | _ => none
theorem invV_ifc {t : TypeId} {v : AV} {m : String} {args : List AV} : invV P call (.ifc t v) m args S tk n = invF call (mRow P t m) (v :: args) S tk n := rfl
theorem invF_some {f : FuncId} {args : List AV} : invF call (some f) args S tk n = call f args S tk n := rfl
theorem evO_inv [G : Globs] {x : Operand} {m : String} {args : Array Operand} {ats : Array TypeId} : evO P call ⟨d, .call ⟨.invoke x m, args, ats⟩, ty, pos, af, none⟩ ⟨T, S, tk, n⟩ = (invV P call (opv T x) m (args.toList.map (opv T)) S tk n).map fun (v, S', tk', n') => (v, ⟨T, S', tk', n'⟩) := by
  simp only [evO, calleeA, invV, invF]
  cases opv T x with
  | ifc t v =>
    simp only
    cases mRow P t m <;> rfl
  | _ => rfl
theorem RO_invoke [Globs] [Ext P] {x : Operand} {m : String} {args : Array Operand} {ats : Array TypeId} (hd : @Globs.dr (gM M) = false) : RO P fn M call all (⟨d, .call ⟨.invoke x m, args, ats⟩, ty, pos, af, none⟩ :: l) ⟨T, S, tk, n⟩ k =
    ns (invV P call (opv T x) m (args.toList.map (opv T)) S tk n) fun (v, S', tk', n') => RO P fn M call all l ⟨putT T d v, S', tk', n'⟩ k := by
  rw [RO_plainD hd, evO_inv (G := gM M)]
  cases invV P call (opv T x) m (args.toList.map (opv T)) S tk n <;> rfl
theorem RO_invokeL [Globs] [Ext P] {x : Operand} {m : String} {args : Array Operand} {ats : Array TypeId} (hd : @Globs.dr (gM M) = true) : RO P fn M call all (⟨d, .call ⟨.invoke x m, args, ats⟩, ty, pos, af, none⟩ :: l) ⟨T, S, tk, n⟩ k =
    ns (invV P call (opv T x) m (args.toList.map (opv T)) S tk n) fun (v, S', tk', n') => ns (gO S S') fun _ => RO P fn M call all l ⟨putT T d v, S', tk', n'⟩ k := by
  have hl : @lkOp (gM M) ⟨d, .call ⟨.invoke x m, args, ats⟩, ty, pos, af, none⟩ = true := by
    unfold lkOp
    rw [hd]; rfl
  rw [RO_plain, evO_inv (G := gM M)]
  cases invV P call (opv T x) m (args.toList.map (opv T)) S tk n with
  | none => rfl
  | some x =>
    obtain ⟨v, S', tk', n'⟩ := x
    simp only [Option.map_some, ns]
    rw [chkO_L (G := gM M) hl, ite_isSome]; rfl
theorem RO_makeM [Globs] [Ext P] {m : String} {x : Operand} : RO P fn M call all (⟨d, .makeFunc (.method m) #[x] #[], ty, pos, af, none⟩ :: l) ⟨T, S, tk, n⟩ k = nx (mthA m (opv T x)) fun v => RO P fn M call all l ⟨putT T d v, S, tk, n⟩ k := RO_quiet (by simp [evO, evQ])
theorem mthA_ifc {m : String} {t : TypeId} {v : AV} : mthA m (.ifc t v) = some (.mfn t m v) := rfl
def ifcA (b : Bool) (t : TypeId) (v : AV) : Option AV := if b = true then none else some (.ifc t v)
theorem ifcA_ok {t : TypeId} {v : AV} : ifcA false t v = some (.ifc t v) := rfl
theorem RO_makeI [Globs] [Ext P] {t : TypeId} {x : Operand} : RO P fn M call all (⟨d, .makeInterface t x, ty, pos, af, none⟩ :: l) ⟨T, S, tk, n⟩ k = nx (ifcA (isIfc P t) t (opv T x)) fun v => RO P fn M call all l ⟨putT T d v, S, tk, n⟩ k := RO_quiet rfl
def callV (call : CallA) (f : AV) (args : List AV) (S : List Ent) (tk : List Nat) (n : Nat) : Option (AV × List Ent × List Nat × Nat) := match f with | .fn f caps => call f (args ++ caps) S tk n | .bfn f first => call f (first ++ args) S tk n | _ => none
theorem callV_bfn {f : FuncId} {first args : List AV} : callV call (.bfn f first) args S tk n = call f (first ++ args) S tk n := rfl
theorem callV_fn {f : FuncId} {caps args : List AV} : callV call (.fn f caps) args S tk n = call f (args ++ caps) S tk n := rfl
theorem RO_callV [Globs] [Ext P] {x : Tmp} {args : Array Operand} {ats : Array TypeId} (hx : (@Globs.dr (gM M) && @Globs.xAny (gM M)) = false) : RO P fn M call all (⟨d, .call ⟨.value (.tmp x), args, ats⟩, ty, pos, af, none⟩ :: l) ⟨T, S, tk, n⟩ k =
    ns (callV call (getT T x) (args.toList.map (opv T)) S tk n) fun (v, S', tk', n') => RO P fn M call all l ⟨putT T d v, S', tk', n'⟩ k := by
  have hp : RO P fn M call all (⟨d, .call ⟨.value (.tmp x), args, ats⟩, ty, pos, af, none⟩ :: l) ⟨T, S, tk, n⟩ k = match @evO (gM M) P call ⟨d, .call ⟨.value (.tmp x), args, ats⟩, ty, pos, af, none⟩ ⟨T, S, tk, n⟩ with | some (v, st') => RO P fn M call all l { st' with T := putT st'.T d v } k | none => none := by
    cases hd : @Globs.dr (gM M) with
    | false => exact RO_plainD hd
    | true =>
      rw [hd] at hx
      exact RO_plainQ hx rfl
  rw [hp]
  simp only [evO, calleeA, opv, callV]
  cases getT T x with
  | fn f caps =>
    simp only
    cases call f (args.toList.map (opv T) ++ caps) S tk n <;> rfl
  | bfn f first =>
    simp only
    cases call f (first ++ args.toList.map (opv T)) S tk n <;> rfl
  | _ => rfl
theorem aBin_int {b : BinOp} {t : TypeId} {q : IntKind} {x y : Int} : aBin P b t (.prim (.int q x)) (.prim (.int q y)) = binInt b q x y := by simp [aBin]
theorem aBin_str {b : BinOp} {t : TypeId} {x y : ByteArray} : aBin P b t (.prim (.string x)) (.prim (.string y)) = binStr b x y := rfl
def isBool (P : Program) (t : TypeId) : Bool := match P.underlying t with | some .bool => true | _ => false
theorem aBin_bool {b : BinOp} {t : TypeId} {x y : Bool} (h : isBool P t = true) : aBin P b t (.prim (.bool x)) (.prim (.bool y)) = binBool b x y := by
  unfold isBool at h
  split at h
  · rename_i h'; simp [aBin, h']
  · simp at h
theorem callP_eq [Globs] [Ext P] {f : FuncId} {args : List AV} : callP P call f args S tk n = if (((args.map w2).all pure2 && !Ext.mv P f) || (shF f && keepFn P f args.length && !Ext.mv P f && !Ext.on P f) || (xF f && Globs.dr)) = true then call f args S tk n else none := rfl
theorem callM_vals [Globs] [Ext P] {f : FuncId} {args : List AV} : callM .vals P call f args S tk n = if (((args.map w2).all pure2 && !Ext.mv P f) || (shF f && keepFn P f args.length && !Ext.mv P f && !Ext.on P f)) = true then call f args S tk n else none := by
  have : @callP (gM .vals) P _ call f args S tk n = if (((args.map w2).all pure2 && !Ext.mv P f) || (shF f && keepFn P f args.length && !Ext.mv P f && !Ext.on P f) || (false && true)) = true then call f args S tk n else none := rfl
  rw [Bool.false_and, Bool.or_false] at this
  exact this
theorem callM_look [Globs] [Ext P] {f : FuncId} {args : List AV} : callM .look P call f args S tk n = if (((args.map w2).all pure2 && !Ext.mv P f) || (shF f && keepFn P f args.length && !Ext.mv P f && !Ext.on P f) || xF f) = true then call f args S tk n else none := by
  have : @callP (gM .look) P _ call f args S tk n = if (((args.map w2).all pure2 && !Ext.mv P f) || (shF f && keepFn P f args.length && !Ext.mv P f && !Ext.on P f) || (xF f && true)) = true then call f args S tk n else none := rfl
  rw [Bool.and_true] at this
  exact this
theorem callM_true [Globs] [Ext P] {f : FuncId} {args : List AV} : callM .quiet P call f args S tk n = if ((args.map w2).all pure2 && !Ext.mv P f) = true then call f args S tk n else none := by
  simp [callM, callP, shF, xF]
theorem opv_tmp {t : Tmp} : opv T (.tmp t) = getT T t := rfl
theorem opv_const {v : Value} : opv T (.const v) = cst v := rfl
theorem opv_func {f : FuncId} : opv T (.func f) = .fn f [] := rfl
theorem cst_int {q : IntKind} {x : Int} : cst (.int q x) = .prim (.int q x) := rfl
theorem cst_bool {b : Bool} : cst (.bool b) = .prim (.bool b) := rfl
theorem cst_string {s : ByteArray} : cst (.string s) = .prim (.string s) := rfl
theorem cst_nil : cst (.slice none 0 0) = .frz [] .nilc := rfl
theorem cst_ptr : cst (.pointer none) = .prim (.pointer none) := rfl
theorem intN_cast {q : IntKind} {m : Nat} : intN (.prim (.int q (m : Int))) = some m := by simp [intN]
theorem intN_zero {q : IntKind} : intN (.prim (.int q 0)) = some 0 := rfl
theorem idxA_frz {t : TypeId} {es : List (List AV)} {c : Cap} {i : AV} {m sz : Nat} {cs : List AV} (hi : intN i = some m) (hn : nth es m = some cs) (hs : (elemOf P t).bind (szOf P) = some sz) (hl : cs.length = sz) : idxA P t (.frz es c) i = some (.fptr cs) := by
  simp [idxA, hi, hn, hs, hl]
inductive Tag {α : Type} (a : α) : Type where | mk
def BR {β : Type} (w : Option Bool) (a b : Option β) (_ : Tag (a, b)) : Option β := br w a b
def NX {β : Type} (x : Option AV) (f : AV → Option β) (_ : Tag f) : Option β := nx x f
def NS {α β : Type} (x : Option α) (f : α → Option β) (_ : Tag f) : Option β := ns x f
noncomputable def RX [Globs] (P : Program) [Ext P] (fn : Func) (M : Md) (call : CallA) (all l : List Oper) (st : St) (k : List Kont) (_ : Tag (all, l, k)) : Option (AV × St) := RO P fn M call all l st k
noncomputable def KX [Globs] (P : Program) [Ext P] (fn : Func) (c : Code) (st : St) (k : List Kont) (_ : Tag (c, k)) : Option (AV × St) := RK P fn c st k
noncomputable def CX [Globs] (P : Program) [Ext P] (fn : Func) (e : Ex) (st : St) (k : List Kont) (_ : Tag k) : Option (AV × St) := cont P fn e st k
theorem NX_some {β : Type} {v : AV} {f : AV → Option β} {t : Tag f} : NX (some v) f t = f v := rfl
theorem NS_some {α β : Type} {v : α} {f : α → Option β} {t : Tag f} : NS (some v) f t = f v := rfl
theorem BR_true {β : Type} {a b : Option β} {t : Tag (a, b)} : BR (some true) a b t = a := rfl
theorem BR_false {β : Type} {a b : Option β} {t : Tag (a, b)} : BR (some false) a b t = b := rfl
theorem BR_not {β : Type} {x : Bool} {a b : Option β} {t : Tag (a, b)} : BR (some (!x)) a b t = BR (some x) b a .mk := br_not
theorem fin1_BR {x : Bool} {a b : Option (AV × St)} {r : AV} {t : Tag (a, b)} : fin1 (BR (some x) a b t) = some r ↔ (x = true → fin1 a = some r) ∧ (x = false → fin1 b = some r) := fin1_br
theorem finS_BR {m : Nat} {x : Bool} {a b : Option (AV × St)} {r : AV × List Ent × List Nat × Nat} {t : Tag (a, b)} : finS m (BR (some x) a b t) = some r ↔ (x = true → finS m a = some r) ∧ (x = false → finS m b = some r) := finS_br
theorem finM_BR {x : Bool} {a b : Option (AV × St)} {r : AV × List Ent × List Nat × Nat} {t : Tag (a, b)} : finM (BR (some x) a b t) = some r ↔ (x = true → finM a = some r) ∧ (x = false → finM b = some r) := finM_br
variable {st : St}
theorem KX_seq [Globs] [Ext P] {a b : Code} {t : Tag (Code.seq a b, k)} (h : CkF (rngT (.seq a b))) : KX P fn (.seq a b) st k t = KX P fn a st (.seq b :: k) .mk := RK_seq h.h
theorem KX_skip [Globs] [Ext P] {t : Tag (Code.skip, k)} : KX P fn .skip st k t = CX P fn .normal st k .mk := RK_skip
theorem KX_exit [Globs] [Ext P] {id : Nat} {t : Tag (Code.exit id, k)} : KX P fn (.exit id) st k t = CX P fn (.exit id) st k .mk := RK_exit
theorem KX_ret [Globs] [Ext P] {t : Tag (Code.ret, k)} : KX P fn .ret st k t = CX P fn .ret st k .mk := RK_ret
theorem KX_if [Globs] [Ext P] {c : Operand} {a b : Code} {t : Tag (Code.cond c a b, k)} : KX P fn (.cond c a b) st k t = BR (asB (opv st.T c)) (KX P fn a st k .mk) (KX P fn b st k .mk) .mk := RK_if
theorem KX_block [Globs] [Ext P] {id : Nat} {c : Code} {t : Tag (Code.block id c, k)} : KX P fn (.block id c) st k t = KX P fn c st (.block id :: k) .mk := RK_block
theorem KX_scope [Globs] [Ext P] {c : Code} {t : Tag (Code.scope c, k)} : KX P fn (.scope c) st k t = KX P fn c st k .mk := RK_scope
theorem KX_label [Globs] [Ext P] {l : Nat} {t : Tag (Code.label l, k)} : KX P fn (.label l) st k t = CX P fn .normal st k .mk := RK_label
theorem KX_region [Globs] [Ext P] {id : Nat} {ops : List Oper} {t : Tag (Code.region id ops.toArray false, k)} : KX P fn (.region id ops.toArray false) st k t = RX P fn .no (cL P) ops ops st k .mk := RK_region
structure QmF [Globs] (ops : List Oper) : Prop where
  h : mdOf ops = .no
structure QmT [Globs] (ops : List Oper) : Prop where
  h : mdOf ops = .quiet
structure QmL [Globs] (ops : List Oper) : Prop where
  h : mdOf ops = .look
structure QmV [Globs] (ops : List Oper) : Prop where
  h : mdOf ops = .vals
structure TlF [Globs] (ops : List Oper) : Prop where
  b : ((splitT ops).isNone && (lateT ops).isNone) = true
theorem TlF.h [Globs] {ops : List Oper} (t : TlF ops) : splitT ops = none := by have := t.b; simp only [Bool.and_eq_true, Option.isNone_iff_eq_none] at this; exact this.1
theorem TlF.h2 [Globs] {ops : List Oper} (t : TlF ops) : lateT ops = none := by have := t.b; simp only [Bool.and_eq_true, Option.isNone_iff_eq_none] at this; exact this.2
def lastO : List Oper → List Oper
  | [] => []
  | [o] => [o]
  | _ :: b :: l => lastO (b :: l)
theorem lastO_one {o : Oper} : lastO [o] = [o] := rfl
theorem lastO_more {a b : Oper} {l : List Oper} : lastO (a :: b :: l) = lastO (b :: l) := rfl
theorem dropL_one {o : Oper} : List.dropLast [o] = [] := rfl
theorem dropL_more {a b : Oper} {l : List Oper} : List.dropLast (a :: b :: l) = a :: List.dropLast (b :: l) := rfl
structure TlT [Globs] (ops : List Oper) : Prop where
  b : ((splitT ops).isSome && ((splitT ops.dropLast).isNone && (lateT ops.dropLast).isNone)) = true
theorem TlT.h [Globs] {ops : List Oper} (t : TlT ops) : (splitT ops).isSome = true := by have := t.b; simp only [Bool.and_eq_true, Option.isNone_iff_eq_none] at this; exact this.1
theorem TlT.h2 [Globs] {ops : List Oper} (t : TlT ops) : splitT ops.dropLast = none := by have := t.b; simp only [Bool.and_eq_true, Option.isNone_iff_eq_none] at this; exact this.2.1
theorem TlT.h3 [Globs] {ops : List Oper} (t : TlT ops) : lateT ops.dropLast = none := by have := t.b; simp only [Bool.and_eq_true, Option.isNone_iff_eq_none] at this; exact this.2.2
theorem KX_draw [Globs] [Ext P] {id : Nat} {ops : List Oper} {t : Tag (Code.region id ops.toArray true, k)} (hq' : QmF ops) (hs : TlF ops) (h : drawOk st ops = true) : KX P fn (.region id ops.toArray true) st k t = RX P fn .no (callP P (cL P)) ops ops st k .mk := by
  have hq := hq'.h
  have e : callP P (cL P) = callM .no P (cL P) := rfl
  rw [e, ← hq]; exact RK_draw (by simpa using hs.h) (by simpa using hs.h2) (by simpa using h)
theorem KX_drawL [Globs] [Ext P] {id : Nat} {ops : List Oper} {t : Tag (Code.region id ops.toArray true, k)} (hq' : QmL ops) (hs : TlF ops) (h : drawOk st ops = true) : KX P fn (.region id ops.toArray true) st k t = RX P fn .look (callM .look P (cL P)) ops ops st k .mk := by
  have hq := hq'.h
  have := RK_draw (P := P) (fn := fn) (st := st) (k := k) (id := id) (ops := ops.toArray) (by simpa using hs.h) (by simpa using hs.h2) (by simpa using h)
  simp only [List.toList_toArray, hq] at this
  exact this
theorem KX_drawV [Globs] [Ext P] {id : Nat} {ops : List Oper} {t : Tag (Code.region id ops.toArray true, k)} (hq' : QmV ops) (hs : TlF ops) (h : drawOk st ops = true) : KX P fn (.region id ops.toArray true) st k t = RX P fn .vals (callM .vals P (cL P)) ops ops st k .mk := by
  have hq := hq'.h
  have := RK_draw (P := P) (fn := fn) (st := st) (k := k) (id := id) (ops := ops.toArray) (by simpa using hs.h) (by simpa using hs.h2) (by simpa using h)
  simp only [List.toList_toArray, hq] at this
  exact this
theorem KX_drawQ [Globs] [Ext P] {id : Nat} {ops : List Oper} {t : Tag (Code.region id ops.toArray true, k)} (hq' : QmT ops) (hs : TlF ops) (h : drawOk st ops = true) : KX P fn (.region id ops.toArray true) st k t = RX P fn .quiet (callM .quiet P (cL P)) ops ops st k .mk := by
  have hq := hq'.h
  have := RK_draw (P := P) (fn := fn) (st := st) (k := k) (id := id) (ops := ops.toArray) (by simpa using hs.h) (by simpa using hs.h2) (by simpa using h)
  simp only [List.toList_toArray, hq] at this
  exact this
theorem last_of {L : List Oper} {o : Oper} {a : List Oper} (h : L = a ++ [o]) : lastO L = [o] := by
  subst h
  induction a with
  | nil => rfl
  | cons x a ih => cases a with
    | nil => rfl
    | cons y a => exact ih
theorem KX_tail [Globs] [Ext P] {id : Nat} {ops : List Oper} {t : Tag (Code.region id ops.toArray true, k)} (hs : TlT ops) (h : drawOk st ops.dropLast = true) : KX P fn (.region id ops.toArray true) st k t = KX P fn (.region id ops.dropLast.toArray true) st (.seq (.region id (lastO ops).toArray false) :: k) .mk := by
  have h1 := hs.h; have h2 := hs.h2; have h3 := hs.h3
  cases hsp : splitT ops with
  | none => rw [hsp] at h1; cases h1
  | some x =>
    obtain ⟨a, o⟩ := x
    obtain ⟨hL, -⟩ := splitT_some hsp
    have hd : ops.dropLast = a := by rw [hL]; simp
    rw [last_of hL, hd]
    rw [hd] at h2 h3 h
    exact RK_tail (by simpa using hsp) h2 h3 h
structure TlL [Globs] (ops : List Oper) : Prop where
  b : ((splitT ops).isNone && (lateT ops).isSome) = true
theorem TlL.h [Globs] {ops : List Oper} (t : TlL ops) : splitT ops = none := by have := t.b; simp only [Bool.and_eq_true, Option.isNone_iff_eq_none] at this; exact this.1
theorem TlL.h2 [Globs] {ops : List Oper} (t : TlL ops) : (lateT ops).isSome = true := by have := t.b; simp only [Bool.and_eq_true, Option.isNone_iff_eq_none] at this; exact this.2
structure NotMk (o : Oper) : Prop where
  h : isMk o = false
def lastL (ops : List Oper) : List Oper := (ops.filter isMk) ++ lastO ops
theorem openL_one {o : Oper} : openL [o] = [] := rfl
theorem openL_mk {ds : Tmp} {t ty : TypeId} {pos : String} {af : Array Edge} {b : Oper} {l : List Oper} : openL (⟨some ds, .alloc t, ty, pos, af, none⟩ :: b :: l) = ⟨some ds, .move (.global 0), ty, pos, af, none⟩ :: openL (b :: l) := rfl
theorem openL_old {o b : Oper} {l : List Oper} (h : NotMk o) : openL (o :: b :: l) = o :: openL (b :: l) := by
  show openO o :: _ = _
  unfold openO; rw [if_neg (by rw [h.h]; simp)]
theorem filtL_nil : List.filter isMk [] = [] := rfl
theorem filtL_mk {ds : Tmp} {t ty : TypeId} {pos : String} {af : Array Edge} {l : List Oper} : List.filter isMk (⟨some ds, .alloc t, ty, pos, af, none⟩ :: l) = ⟨some ds, .alloc t, ty, pos, af, none⟩ :: List.filter isMk l := by rw [List.filter_cons_of_pos rfl]
theorem filtL_old {o : Oper} {l : List Oper} (h : NotMk o) : List.filter isMk (o :: l) = List.filter isMk l := by rw [List.filter_cons_of_neg (by rw [h.h]; simp)]
theorem lateIx_filter : ∀ {L : List Oper} {p : Nat} {al : Oper}, lateIx L = some (p, al) → L.filter isMk = [al]
  | [], _, _, h => by simp [lateIx] at h
  | o :: l, p, al, h => by
    unfold lateIx at h
    split at h
    · rename_i hm
      split at h
      · rename_i hc
        simp only [Bool.and_eq_true, Bool.not_eq_true'] at hc
        simp only [Option.some.injEq, Prod.mk.injEq] at h
        obtain ⟨-, rfl⟩ := h
        rw [List.filter_cons_of_pos hm, List.filter_eq_nil_iff.2 fun x hx => by simpa using List.any_eq_false.1 hc.2 x hx]
      · cases h
    · rename_i hm
      simp only [Option.map_eq_some_iff, Prod.mk.injEq, Prod.exists] at h
      obtain ⟨p', al', h, -, rfl⟩ := h
      rw [List.filter_cons_of_neg hm]; exact lateIx_filter h
noncomputable def LX [Globs] (P : Program) [Ext P] (fn : Func) (id : Nat) (a z : List Oper) (st : St) (k : List Kont) (_ : Tag (st, k)) : Option (AV × St) := RX P fn .look (callM .look P (cL P)) a a st (.seq (.region id z.toArray false) :: k) .mk
theorem LX_eq [Globs] [Ext P] {id : Nat} {a : Oper} {l z : List Oper} {tg : Tag (st, k)} : LX P fn id (a :: l) z st k tg = RX P fn .look (callM .look P (cL P)) (a :: l) (a :: l) st (.seq (.region id z.toArray false) :: k) .mk := rfl
theorem KX_late [Globs] [Ext P] {id : Nat} {ops : List Oper} {t : Tag (Code.region id ops.toArray true, k)} (hs : TlL ops) (hq' : QmL (openL ops)) (h : drawOk st (openL ops) = true) : KX P fn (.region id ops.toArray true) st k t = LX P fn id (openL ops) (lastL ops) st k .mk := by
  unfold LX
  have h1 := hs.h; have h2 := hs.h2
  have hq := hq'.h
  cases hl : lateT ops with
  | none => rw [hl] at h2; cases h2
  | some x =>
    obtain ⟨p, al, o⟩ := x
    obtain ⟨a, hL, -, hst, hix⟩ := lateT_some hl
    have e : lastL ops = [al, o] := by
      have hm : isMk o = false := by
        unfold isSt at hst
        unfold isMk
        split at hst
        · rename_i h; rw [h]
        · cases hst
      unfold lastL
      rw [last_of hL, hL, List.filter_append, lateIx_filter hix, List.filter_cons_of_neg (by rw [hm]; simp)]; rfl
    rw [e]
    have := RK_late (P := P) (fn := fn) (st := st) (k := k) (id := id) (ops := ops.toArray) (by simpa using h1) (by simpa using hl) (by simpa using h)
    simp only [List.toList_toArray, hq] at this
    exact this
theorem CX_seq [Globs] [Ext P] {c : Code} {t : Tag (Kont.seq c :: k)} : CX P fn .normal st (.seq c :: k) t = KX P fn c st k .mk := rfl
theorem KX_told [Globs] [Ext P] {a b : Code} {t : Tag (Code.seq a b, k)} (h : CkT (rngT (.seq a b))) (hc : fn.body.bind rngIn = some (.seq a b)) : KX P fn (.seq a b) st k t = NS (lpF P fn st) (fun st' => CX P fn .normal st' k .mk) .mk := by
  show RK P fn (.seq a b) st k = _
  rw [RK_told h.h hc]
  cases lpF P fn st <;> rfl
theorem CX_block [Globs] [Ext P] {id : Nat} {t : Tag (Kont.block id :: k)} : CX P fn .normal st (.block id :: k) t = CX P fn .normal st k .mk := rfl
theorem CX_loop [Globs] [Ext P] {c : Code} {m : Nat} {t : Tag (Kont.loop c m :: k)} (hk : CkF (keepL c)) : CX P fn .normal st (.loop c m :: k) t = KX P fn (.loop c) { st with S := st.S.take m } k .mk := by
  show RK P fn (.loop c) { st with S := cutS (keepL c) m st.S } k = _
  rw [hk.h]; rfl
theorem CX_loopK [Globs] [Ext P] {c : Code} {m : Nat} {t : Tag (Kont.loop c m :: k)} (hk : CkT (keepL c)) : CX P fn .normal st (.loop c m :: k) t = KX P fn (.loop c) st k .mk := by
  show RK P fn (.loop c) { st with S := cutS (keepL c) m st.S } k = _
  rw [hk.h]; rfl
theorem CX_exit_seq [Globs] [Ext P] {c : Code} {id : Nat} {t : Tag (Kont.seq c :: k)} : CX P fn (.exit id) st (.seq c :: k) t = CX P fn (.exit id) st k .mk := rfl
theorem CX_exit_block [Globs] [Ext P] {id id' : Nat} {t : Tag (Kont.block id' :: k)} : CX P fn (.exit id) st (.block id' :: k) t = BR (some (id == id')) (CX P fn .normal st k .mk) (CX P fn (.exit id) st k .mk) .mk := by
  show (if id = id' then cont P fn .normal st k else cont P fn (.exit id) st k) = br _ _ _
  by_cases h : id = id'
  · subst h; simp [br, CX]
  · have e : (id == id') = false := by simpa using h
    rw [if_neg h, e]; rfl
theorem CX_exit_loop [Globs] [Ext P] {c : Code} {id m : Nat} {t : Tag (Kont.loop c m :: k)} : CX P fn (.exit id) st (.loop c m :: k) t = CX P fn (.exit id) st k .mk := rfl
theorem CX_ret [Globs] [Ext P] {x : Kont} {t : Tag (x :: k)} : CX P fn .ret st (x :: k) t = CX P fn .ret st k .mk := cont_ret
theorem CX_ret_nil [Globs] [Ext P] {t : Tag ([] : List Kont)} : CX P fn .ret st [] t = outA P fn (some (.ret, st)) := rfl
theorem CX_normal_nil [Globs] [Ext P] {t : Tag ([] : List Kont)} : CX P fn .normal st [] t = outA P fn (some (.normal, st)) := rfl
theorem RX_nil [Globs] [Ext P] {t : Tag (all, ([] : List Oper), k)} : RX P fn M call all [] st k t = CX P fn .normal st k .mk := rfl
theorem RK_KX [Globs] [Ext P] {c : Code} : RK P fn c st k = KX P fn c st k .mk := rfl
def DX (all : List Oper) (g : Nat) (_ : Tag all) : Option Tmp := dstAt all g
theorem DX_zero {o : Oper} {tg : Tag (o :: l)} : DX (o :: l) 0 tg = o.dst := rfl
theorem DX_succ {o : Oper} {g : Nat} {tg : Tag (o :: l)} : DX (o :: l) (g + 1) tg = DX l g .mk := rfl
theorem RX_guard [Globs] [Ext P] {op : Op} {g : Nat} {w : Bool} {tg : Tag (all, ((⟨d, op, ty, pos, af, some (g, w)⟩ : Oper) :: l), k)} : RX P fn M call all (⟨d, op, ty, pos, af, some (g, w)⟩ :: l) ⟨T, S, tk, n⟩ k tg = BR (wantD T (DX all g .mk) w) (RX P fn M call all (⟨d, op, ty, pos, af, none⟩ :: l) ⟨T, S, tk, n⟩ k .mk) (RX P fn M call all l ⟨putT T d (.prim undef), S, tk, n⟩ k .mk) .mk := RO_guard
theorem RX_move [Globs] [Ext P] {x : Operand} {tg : Tag (all, ((⟨d, .move x, ty, pos, af, none⟩ : Oper) :: l), k)} : RX P fn M call all (⟨d, .move x, ty, pos, af, none⟩ :: l) ⟨T, S, tk, n⟩ k tg = RX P fn M call all l ⟨putT T d (opv T x), S, tk, n⟩ k .mk := RO_move
theorem RX_assign [Globs] [Ext P] {x : Operand} {tg : Tag (all, ((⟨d, .assign x, ty, pos, af, none⟩ : Oper) :: l), k)} : RX P fn M call all (⟨d, .assign x, ty, pos, af, none⟩ :: l) ⟨T, S, tk, n⟩ k tg = RX P fn M call all l ⟨putT T d (opv T x), S, tk, n⟩ k .mk := RO_assign
theorem RX_pick [Globs] [Ext P] {c a b : Operand} {tg : Tag (all, ((⟨d, .pick c a b, ty, pos, af, none⟩ : Oper) :: l), k)} : RX P fn M call all (⟨d, .pick c a b, ty, pos, af, none⟩ :: l) ⟨T, S, tk, n⟩ k tg = NX (pickA (opv T c) (opv T a) (opv T b)) (fun v => RX P fn M call all l ⟨putT T d v, S, tk, n⟩ k .mk) .mk := RO_pick
theorem RX_bin [Globs] [Ext P] {b : BinOp} {t u : TypeId} {x y : Operand} {tg : Tag (all, ((⟨d, .binOp b t x y u, ty, pos, af, none⟩ : Oper) :: l), k)} : RX P fn M call all (⟨d, .binOp b t x y u, ty, pos, af, none⟩ :: l) ⟨T, S, tk, n⟩ k tg = NX (aBin P b t (opv T x) (opv T y)) (fun v => RX P fn M call all l ⟨putT T d v, S, tk, n⟩ k .mk) .mk := RO_bin
theorem RX_un [Globs] [Ext P] {u : UnOp} {t : TypeId} {x : Operand} {tg : Tag (all, ((⟨d, .unOp u t x, ty, pos, af, none⟩ : Oper) :: l), k)} : RX P fn M call all (⟨d, .unOp u t x, ty, pos, af, none⟩ :: l) ⟨T, S, tk, n⟩ k tg = NX (aUn u (opv T x)) (fun v => RX P fn M call all l ⟨putT T d v, S, tk, n⟩ k .mk) .mk := RO_un
theorem RX_conv [Globs] [Ext P] {s t : TypeId} {x : Operand} {tg : Tag (all, ((⟨d, .convert s t x, ty, pos, af, none⟩ : Oper) :: l), k)} : RX P fn M call all (⟨d, .convert s t x, ty, pos, af, none⟩ :: l) ⟨T, S, tk, n⟩ k tg = NX (cvA P s t (opv T x)) (fun v => RX P fn M call all l ⟨putT T d v, S, tk, n⟩ k .mk) .mk := RO_conv
theorem RX_extract [Globs] [Ext P] {x : Operand} {i : Nat} {tg : Tag (all, ((⟨d, .extract x i, ty, pos, af, none⟩ : Oper) :: l), k)} : RX P fn M call all (⟨d, .extract x i, ty, pos, af, none⟩ :: l) ⟨T, S, tk, n⟩ k tg = NX (extA (opv T x) i) (fun v => RX P fn M call all l ⟨putT T d v, S, tk, n⟩ k .mk) .mk := RO_extract
theorem RX_field [Globs] [Ext P] {t : TypeId} {x : Operand} {i : Nat} {tg : Tag (all, ((⟨d, .field t x i, ty, pos, af, none⟩ : Oper) :: l), k)} : RX P fn M call all (⟨d, .field t x i, ty, pos, af, none⟩ :: l) ⟨T, S, tk, n⟩ k tg = NX (fldV (fieldOf P t i) (opv T x)) (fun v => RX P fn M call all l ⟨putT T d v, S, tk, n⟩ k .mk) .mk := RO_field
theorem RX_indexAddr [Globs] [Ext P] {t : TypeId} {x i : Operand} {tg : Tag (all, ((⟨d, .indexAddr t x i, ty, pos, af, none⟩ : Oper) :: l), k)} : RX P fn M call all (⟨d, .indexAddr t x i, ty, pos, af, none⟩ :: l) ⟨T, S, tk, n⟩ k tg = NX (idxA P t (opv T x) (opv T i)) (fun v => RX P fn M call all l ⟨putT T d v, S, tk, n⟩ k .mk) .mk := RO_indexAddr
theorem RX_fieldAddr [Globs] [Ext P] {t : TypeId} {x : Operand} {i : Nat} {tg : Tag (all, ((⟨d, .fieldAddr t x i, ty, pos, af, none⟩ : Oper) :: l), k)} : RX P fn M call all (⟨d, .fieldAddr t x i, ty, pos, af, none⟩ :: l) ⟨T, S, tk, n⟩ k tg = NX (fldA P t (opv T x) i) (fun v => RX P fn M call all l ⟨putT T d v, S, tk, n⟩ k .mk) .mk := RO_fieldAddr
theorem RX_index [Globs] [Ext P] {t : TypeId} {x i : Operand} {tg : Tag (all, ((⟨d, .index t x i, ty, pos, af, none⟩ : Oper) :: l), k)} : RX P fn M call all (⟨d, .index t x i, ty, pos, af, none⟩ :: l) ⟨T, S, tk, n⟩ k tg = NX (strIdx (isStr P t) (opv T x) (intN (opv T i))) (fun v => RX P fn M call all l ⟨putT T d v, S, tk, n⟩ k .mk) .mk := RO_index
theorem RX_build [Globs] [Ext P] {t : TypeId} {ps : Array (Nat × Operand)} {tg : Tag (all, ((⟨d, .build t ps, ty, pos, af, none⟩ : Oper) :: l), k)} : RX P fn M call all (⟨d, .build t ps, ty, pos, af, none⟩ :: l) ⟨T, S, tk, n⟩ k tg = NX (bldA (zeroOf P t) (fieldsOf P t) (ps.toList.map fun (i, x) => (i, opv T x))) (fun v => RX P fn M call all l ⟨putT T d v, S, tk, n⟩ k .mk) .mk := RO_build
theorem RX_buildSlice [Globs] [Ext P] {t : TypeId} {len : Nat} {ps : Array (Nat × Operand)} {tg : Tag (all, ((⟨d, .buildSlice t len ps, ty, pos, af, none⟩ : Oper) :: l), k)} (ho : CkF (@Globs.own (gM M) d ty pos)) : RX P fn M call all (⟨d, .buildSlice t len ps, ty, pos, af, none⟩ :: l) ⟨T, S, tk, n⟩ k tg = NX (litA ((elemOf P t).bind (szOf P)) ((elemOf P t).bind (zeroOf P)) len (ps.toList.map fun (i, x) => (i, opv T x))) (fun v => RX P fn M call all l ⟨putT T d v, S, tk, n⟩ k .mk) .mk := RO_buildSlice ho.h
theorem RX_slice [Globs] [Ext P] {t : TypeId} {x : Operand} {lo hi mx : Option Operand} {tg : Tag (all, ((⟨d, .slice t x lo hi mx, ty, pos, af, none⟩ : Oper) :: l), k)} : RX P fn M call all (⟨d, .slice t x lo hi mx, ty, pos, af, none⟩ :: l) ⟨T, S, tk, n⟩ k tg = NX (sliceA P t (opv T x) (lo.map (opv T)) (hi.map (opv T)) (mx.map (opv T))) (fun v => RX P fn M call all l ⟨putT T d v, S, tk, n⟩ k .mk) .mk := RO_slice
theorem RX_makeFunc [Globs] [Ext P] {f : FuncId} {caps : Array Operand} {tg : Tag (all, ((⟨d, .makeFunc (.func f) #[] caps, ty, pos, af, none⟩ : Oper) :: l), k)} : RX P fn M call all (⟨d, .makeFunc (.func f) #[] caps, ty, pos, af, none⟩ :: l) ⟨T, S, tk, n⟩ k tg = NX (if ((caps.toList.map (opv T)).all capsOk) = true then some (.fn f (caps.toList.map (opv T))) else none) (fun v => RX P fn M call all l ⟨putT T d v, S, tk, n⟩ k .mk) .mk := RO_makeFunc
theorem RX_makeBound [Globs] [Ext P] {f : FuncId} {x : Operand} {tg : Tag (all, ((⟨d, .makeFunc (.func f) #[x] #[], ty, pos, af, none⟩ : Oper) :: l), k)} : RX P fn M call all (⟨d, .makeFunc (.func f) #[x] #[], ty, pos, af, none⟩ :: l) ⟨T, S, tk, n⟩ k tg = RX P fn M call all l ⟨putT T d (.bfn f [opv T x]), S, tk, n⟩ k .mk := RO_makeBound
theorem RX_load [Globs] [Ext P] {t : TypeId} {a : Operand} {tg : Tag (all, ((⟨d, .load t a, ty, pos, af, none⟩ : Oper) :: l), k)} : RX P fn M call all (⟨d, .load t a, ty, pos, af, none⟩ :: l) ⟨T, S, tk, n⟩ k tg = NX (ldG (@Globs.dr (gM M)) (ldA P t (opv T a) S)) (fun v => RX P fn M call all l ⟨putT T d v, S, tk, n⟩ k .mk) .mk := RO_load
theorem RX_store [Globs] [Ext P] {t : TypeId} {a x : Operand} {tg : Tag (all, ((⟨none, .store t a x, ty, pos, af, none⟩ : Oper) :: l), k)} : RX P fn M call all (⟨none, .store t a x, ty, pos, af, none⟩ :: l) ⟨T, S, tk, n⟩ k tg = NS (stA P t (opv T a) (opv T x) S) (fun S' => RX P fn M call all l ⟨T, S', tk, n⟩ k .mk) .mk := RO_store
theorem RX_alloc [Globs] [Ext P] {t : TypeId} {tg : Tag (all, ((⟨d, .alloc t, ty, pos, af, none⟩ : Oper) :: l), k)} : RX P fn M call all (⟨d, .alloc t, ty, pos, af, none⟩ :: l) ⟨T, S, tk, n⟩ k tg = NS (zeroOf P t) (fun cs => RX P fn M call all l ⟨putT T d (.ref S.length n 0), S ++ [⟨n, cs⟩], tk, n + 1⟩ k .mk) .mk := RO_alloc
theorem RX_box [Globs] [Ext P] {t : TypeId} {x : Operand} {tg : Tag (all, ((⟨d, .box t x, ty, pos, af, none⟩ : Oper) :: l), k)} : RX P fn M call all (⟨d, .box t x, ty, pos, af, none⟩ :: l) ⟨T, S, tk, n⟩ k tg = NS (cellsOf (opv T x)) (fun cs => RX P fn M call all l ⟨putT T d (.ref S.length n 0), S ++ [⟨n, cs⟩], tk, n + 1⟩ k .mk) .mk := RO_box
theorem RX_appendO [Globs] [Ext P] {x y : Operand} {t : TypeId} {tg : Tag (all, ((⟨d, .call ⟨.builtin .append, #[x, y], #[t, t]⟩, ty, pos, af, none⟩ : Oper) :: l), k)} (ho : CkT (@Globs.own (gM M) d ty pos)) : RX P fn M call all (⟨d, .call ⟨.builtin .append, #[x, y], #[t, t]⟩, ty, pos, af, none⟩ :: l) ⟨T, S, tk, n⟩ k tg = NS (apO P t (opv T x) (opv T y) S n) (fun (v, S', n') => RX P fn M call all l ⟨putT T d v, S', tk, n'⟩ k .mk) .mk := RO_appendO ho.h
theorem RX_append [Globs] [Ext P] {x y : Operand} {t : TypeId} {tg : Tag (all, ((⟨d, .call ⟨.builtin .append, #[x, y], #[t, t]⟩, ty, pos, af, none⟩ : Oper) :: l), k)} (ho : CkF (@Globs.own (gM M) d ty pos)) : RX P fn M call all (⟨d, .call ⟨.builtin .append, #[x, y], #[t, t]⟩, ty, pos, af, none⟩ :: l) ⟨T, S, tk, n⟩ k tg = NS (apM M P t (opv T x) (opv T y) tk S) (fun (v, tk') => RX P fn M call all l ⟨putT T d v, S, tk', n⟩ k .mk) .mk := RO_append ho.h
theorem RX_len [Globs] [Ext P] {x : Operand} {t : TypeId} {tg : Tag (all, ((⟨d, .call ⟨.builtin .len, #[x], #[t]⟩, ty, pos, af, none⟩ : Oper) :: l), k)} : RX P fn M call all (⟨d, .call ⟨.builtin .len, #[x], #[t]⟩, ty, pos, af, none⟩ :: l) ⟨T, S, tk, n⟩ k tg = NX (lenV (isStr P t) (elemOf P t).isSome (opv T x)) (fun v => RX P fn M call all l ⟨putT T d v, S, tk, n⟩ k .mk) .mk := RO_len
theorem RX_call [Globs] [Ext P] {f : FuncId} {args : Array Operand} {ats : Array TypeId} {tg : Tag (all, ((⟨d, .call ⟨.value (.func f), args, ats⟩, ty, pos, af, none⟩ : Oper) :: l), k)} (hx : CkF ((@Globs.dr (gM M) && @xF (gM M) f))) : RX P fn M call all (⟨d, .call ⟨.value (.func f), args, ats⟩, ty, pos, af, none⟩ :: l) ⟨T, S, tk, n⟩ k tg = NS (call f (args.toList.map (opv T)) S tk n) (fun (v, S', tk', n') => RX P fn M call all l ⟨putT T d v, S', tk', n'⟩ k .mk) .mk := RO_call hx.h
theorem RX_callL [Globs] [Ext P] {f : FuncId} {args : Array Operand} {ats : Array TypeId} {tg : Tag (all, ((⟨d, .call ⟨.value (.func f), args, ats⟩, ty, pos, af, none⟩ : Oper) :: l), k)} (hx : CkT (@lkOp (gM M) ⟨d, .call ⟨.value (.func f), args, ats⟩, ty, pos, af, none⟩)) : RX P fn M call all (⟨d, .call ⟨.value (.func f), args, ats⟩, ty, pos, af, none⟩ :: l) ⟨T, S, tk, n⟩ k tg = NS (call f (args.toList.map (opv T)) S tk n) (fun (v, S', tk', n') => NS (gO S S') (fun _ => RX P fn M call all l ⟨putT T d v, S', tk', n'⟩ k .mk) .mk) .mk := RO_callL hx.h
theorem RX_callX [Globs] [Ext P] {f : FuncId} {args : Array Operand} {ats : Array TypeId} {tg : Tag (all, ((⟨d, .call ⟨.value (.func f), args, ats⟩, ty, pos, af, none⟩ : Oper) :: l), k)} (hx : CkT (@anOp (gM M) ⟨d, .call ⟨.value (.func f), args, ats⟩, ty, pos, af, none⟩)) (hm : CkF (@mkOp (gM M) ⟨d, .call ⟨.value (.func f), args, ats⟩, ty, pos, af, none⟩)) : RX P fn M call all (⟨d, .call ⟨.value (.func f), args, ats⟩, ty, pos, af, none⟩ :: l) ⟨T, S, tk, n⟩ k tg = NS (call f (args.toList.map (opv T)) S tk n) (fun (v, S', tk', n') => NS (reA P all d T S S') (fun _ => RX P fn M call all l ⟨putT T d v, S', tk', n'⟩ k .mk) .mk) .mk := RO_callX hx.h hm.h
theorem RX_callM [Globs] [Ext P] {f : FuncId} {args : Array Operand} {ats : Array TypeId} {d : Tmp} {tg : Tag (all, ((⟨some d, .call ⟨.value (.func f), args, ats⟩, ty, pos, af, none⟩ : Oper) :: l), k)} (hm : CkT (@mkOp (gM M) ⟨some d, .call ⟨.value (.func f), args, ats⟩, ty, pos, af, none⟩)) : RX P fn M call all (⟨some d, .call ⟨.value (.func f), args, ats⟩, ty, pos, af, none⟩ :: l) ⟨T, S, tk, n⟩ k tg = NS (call f (args.toList.map (opv T)) S tk n) (fun (v, S', tk', n') => NS (reM P all (some d) T S S') (fun _ => RX P fn M call all l ⟨putT T (some d) v, S', tk', n'⟩ k .mk) .mk) .mk := RO_callM hm.h
theorem RX_invoke [Globs] [Ext P] {x : Operand} {m : String} {args : Array Operand} {ats : Array TypeId} {tg : Tag (all, ((⟨d, .call ⟨.invoke x m, args, ats⟩, ty, pos, af, none⟩ : Oper) :: l), k)} (hd : CkF (@Globs.dr (gM M))) : RX P fn M call all (⟨d, .call ⟨.invoke x m, args, ats⟩, ty, pos, af, none⟩ :: l) ⟨T, S, tk, n⟩ k tg = NS (invV P call (opv T x) m (args.toList.map (opv T)) S tk n) (fun (v, S', tk', n') => RX P fn M call all l ⟨putT T d v, S', tk', n'⟩ k .mk) .mk := RO_invoke hd.h
theorem RX_invokeL [Globs] [Ext P] {x : Operand} {m : String} {args : Array Operand} {ats : Array TypeId} {tg : Tag (all, ((⟨d, .call ⟨.invoke x m, args, ats⟩, ty, pos, af, none⟩ : Oper) :: l), k)} (hd : CkT (@Globs.dr (gM M))) : RX P fn M call all (⟨d, .call ⟨.invoke x m, args, ats⟩, ty, pos, af, none⟩ :: l) ⟨T, S, tk, n⟩ k tg = NS (invV P call (opv T x) m (args.toList.map (opv T)) S tk n) (fun (v, S', tk', n') => NS (gO S S') (fun _ => RX P fn M call all l ⟨putT T d v, S', tk', n'⟩ k .mk) .mk) .mk := RO_invokeL hd.h
theorem RX_makeM [Globs] [Ext P] {m : String} {x : Operand} {tg : Tag (all, ((⟨d, .makeFunc (.method m) #[x] #[], ty, pos, af, none⟩ : Oper) :: l), k)} : RX P fn M call all (⟨d, .makeFunc (.method m) #[x] #[], ty, pos, af, none⟩ :: l) ⟨T, S, tk, n⟩ k tg = NX (mthA m (opv T x)) (fun v => RX P fn M call all l ⟨putT T d v, S, tk, n⟩ k .mk) .mk := RO_makeM
theorem RX_makeI [Globs] [Ext P] {t : TypeId} {x : Operand} {tg : Tag (all, ((⟨d, .makeInterface t x, ty, pos, af, none⟩ : Oper) :: l), k)} : RX P fn M call all (⟨d, .makeInterface t x, ty, pos, af, none⟩ :: l) ⟨T, S, tk, n⟩ k tg = NX (ifcA (isIfc P t) t (opv T x)) (fun v => RX P fn M call all l ⟨putT T d v, S, tk, n⟩ k .mk) .mk := RO_makeI
theorem RX_callV [Globs] [Ext P] {x : Tmp} {args : Array Operand} {ats : Array TypeId} {tg : Tag (all, ((⟨d, .call ⟨.value (.tmp x), args, ats⟩, ty, pos, af, none⟩ : Oper) :: l), k)} (hx : CkF ((@Globs.dr (gM M) && @Globs.xAny (gM M)))) : RX P fn M call all (⟨d, .call ⟨.value (.tmp x), args, ats⟩, ty, pos, af, none⟩ :: l) ⟨T, S, tk, n⟩ k tg = NS (callV call (getT T x) (args.toList.map (opv T)) S tk n) (fun (v, S', tk', n') => RX P fn M call all l ⟨putT T d v, S', tk', n'⟩ k .mk) .mk := RO_callV hx.h
theorem fin1_NX_not {c : Prop} [Decidable c] {v : AV} {f : AV → Option (AV × St)} {tg : Tag f} {r : AV} : fin1 (NX (if c then none else some v) f tg) = some r ↔ ¬ c ∧ fin1 (f v) = some r := by
  by_cases h : c
  · simp [h]; intro h'; cases h'
  · simp [h]; rfl
theorem fin1_NX_if {c : Prop} [Decidable c] {v : AV} {f : AV → Option (AV × St)} {tg : Tag f} {r : AV} : fin1 (NX (if c then some v else none) f tg) = some r ↔ c ∧ fin1 (f v) = some r := by
  by_cases h : c
  · simp [h]; rfl
  · simp [h]; intro h'; cases h'
theorem fin1_NS_not {α : Type} {c : Prop} [Decidable c] {v : α} {f : α → Option (AV × St)} {tg : Tag f} {r : AV} : fin1 (NS (if c then none else some v) f tg) = some r ↔ ¬ c ∧ fin1 (f v) = some r := by
  by_cases h : c
  · simp [h]; intro h'; cases h'
  · simp [h]; rfl
theorem fin1_NS_if {α : Type} {c : Prop} [Decidable c] {v : α} {f : α → Option (AV × St)} {tg : Tag f} {r : AV} : fin1 (NS (if c then some v else none) f tg) = some r ↔ c ∧ fin1 (f v) = some r := by
  by_cases h : c
  · simp [h]; rfl
  · simp [h]; intro h'; cases h'
theorem finS_NX_not {m : Nat} {c : Prop} [Decidable c] {v : AV} {f : AV → Option (AV × St)} {tg : Tag f} {r : AV × List Ent × List Nat × Nat} : finS m (NX (if c then none else some v) f tg) = some r ↔ ¬ c ∧ finS m (f v) = some r := by
  by_cases h : c
  · simp [h]; intro h'; cases h'
  · simp [h]; rfl
theorem finS_NX_if {m : Nat} {c : Prop} [Decidable c] {v : AV} {f : AV → Option (AV × St)} {tg : Tag f} {r : AV × List Ent × List Nat × Nat} : finS m (NX (if c then some v else none) f tg) = some r ↔ c ∧ finS m (f v) = some r := by
  by_cases h : c
  · simp [h]; rfl
  · simp [h]; intro h'; cases h'
theorem finS_NS_not {m : Nat} {α : Type} {c : Prop} [Decidable c] {v : α} {f : α → Option (AV × St)} {tg : Tag f} {r : AV × List Ent × List Nat × Nat} : finS m (NS (if c then none else some v) f tg) = some r ↔ ¬ c ∧ finS m (f v) = some r := by
  by_cases h : c
  · simp [h]; intro h'; cases h'
  · simp [h]; rfl
theorem finS_NS_if {m : Nat} {α : Type} {c : Prop} [Decidable c] {v : α} {f : α → Option (AV × St)} {tg : Tag f} {r : AV × List Ent × List Nat × Nat} : finS m (NS (if c then some v else none) f tg) = some r ↔ c ∧ finS m (f v) = some r := by
  by_cases h : c
  · simp [h]; rfl
  · simp [h]; intro h'; cases h'
theorem loop1 [Globs] [Ext P] {ι : Type} {c : Code} {tg : Tag (Code.loop c, k)} (I : ι → St → Prop) (μ : ι → Nat) (G : ι → AV) (x : ι)
    (h : ∀ x st, I x st → (∀ y st', μ y < μ x → I y st' → fin1 (KX P fn (.loop c) st' k .mk) = some (G y)) → fin1 (KX P fn c st (.loop c st.S.length :: k) .mk) = some (G x)) {st : St} (h0 : I x st) : fin1 (KX P fn (.loop c) st k tg) = some (G x) :=
  loop_rule I μ G h h0
theorem loopS [Globs] [Ext P] {ι : Type} {c : Code} {m : Nat} {tg : Tag (Code.loop c, k)} (I : ι → St → Prop) (μ : ι → Nat) (G : ι → AV × List Ent × List Nat × Nat) (x : ι)
    (h : ∀ x st, I x st → (∀ y st', μ y < μ x → I y st' → finS m (KX P fn (.loop c) st' k .mk) = some (G y)) → finS m (KX P fn c st (.loop c st.S.length :: k) .mk) = some (G x)) {st : St} (h0 : I x st) : finS m (KX P fn (.loop c) st k tg) = some (G x) :=
  loop_ruleS I μ G h h0
def tabl : Nat → (Nat → AV) → List AV
  | 0, _ => []
  | n + 1, g => g 0 :: tabl n fun i => g (i + 1)
theorem tab_of : ∀ {n : Nat} {T : List AV}, T.length = n → ∃ g, (∀ t, getT T t = g t) ∧ T = tabl n g
  | 0, [], _ => ⟨fun _ => .bot, fun _ => rfl, rfl⟩
  | n + 1, x :: T, h => by
    obtain ⟨g, h1, h2⟩ := tab_of (n := n) (T := T) (by simpa using h)
    exact ⟨fun | 0 => x | i + 1 => g i, fun | 0 => rfl | i + 1 => h1 i, by rw [h2]; rfl⟩
  | 0, _ :: _, h => by simp at h
  | _ + 1, [], h => by simp at h
theorem tabl_len : ∀ (n : Nat) (g : Nat → AV), (tabl n g).length = n
  | 0, _ => rfl
  | n + 1, g => by simp [tabl, tabl_len n]
theorem entAt_new {S : List Ent} {n : Nat} {cs : List AV} (hm : notM cs = true) : entAt (S ++ [⟨n, cs⟩]) S.length n = some cs := by
  unfold entAt
  rw [nth_get, List.getElem?_append_right (Nat.le_refl _)]
  simp [hm]
theorem entAt_old {S : List Ent} {e : Ent} {id ep : Nat} {cs : List AV} (h : entAt S id ep = some cs) : entAt (S ++ [e]) id ep = some cs := by
  obtain ⟨x, h1, h2, h3⟩ := entAt_some h
  unfold entAt
  have hl := nth_lt h1
  rw [nth_get] at h1 ⊢
  rw [List.getElem?_append_left hl, h1]
  simp [h2, h3, entAt_notM h]
theorem mapAt_new {S : List Ent} {n : Nat} {s : ByteArray → Bool} : mapAt (S ++ [⟨n, [.mset s]⟩]) S.length n = some s := by
  unfold mapAt
  rw [nth_get, List.getElem?_append_right (Nat.le_refl _)]
  simp [msOf]
theorem mapAt_nth {S S' : List Ent} {id ep : Nat} (h : nth S' id = nth S id) : mapAt S' id ep = mapAt S id ep := by unfold mapAt; rw [h]
theorem mapAt_of {S : List Ent} {id ep : Nat} {s : ByteArray → Bool} (h : nth S id = some ⟨ep, [.mset s]⟩) : mapAt S id ep = some s := by unfold mapAt; rw [h]; simp [msOf]
theorem mapAt_old {S : List Ent} {e : Ent} {id ep : Nat} {s : ByteArray → Bool} (h : mapAt S id ep = some s) : mapAt (S ++ [e]) id ep = some s := by
  have h1 := mapAt_some h
  have hl := nth_lt h1
  refine mapAt_of ?_
  rw [nth_get] at h1 ⊢
  rw [List.getElem?_append_left hl, h1]
theorem lkM_eq {t : TypeId} {id ep : Nat} {k : ByteArray} : lkM P t (.mref id ep) (.prim (.string k)) S = if setT P t = true then (mapAt S id ep).map fun s => .bool (s k) else none := rfl
theorem upM_eq {t : TypeId} {id ep : Nat} {k : ByteArray} : upM P t (.mref id ep) (.prim (.string k)) (.prim (.bool true)) S = if setT P t = true then (mapAt S id ep).map fun s => put S id ⟨ep, [.mset (addK s k)]⟩ else none := rfl
theorem dlM_eq {t : TypeId} {id ep : Nat} {k : ByteArray} : dlM P t (.mref id ep) (.prim (.string k)) S = if setT P t = true then (mapAt S id ep).map fun s => put S id ⟨ep, [.mset (delK s k)]⟩ else none := rfl
theorem mkM_eq {t : TypeId} : mkM P t = if setT P t = true then some () else none := rfl
theorem lit2_eq {x y : AV} : lit2 [(0, x), (1, y)] = if (leafOk x && leafOk y) = true then some [x, y] else none := rfl
theorem bsO_eq {t : TypeId} {len : Nat} {ps : List (Nat × AV)} : bsO P t len ps S n = if (two1 P t && len == 2) = true then (lit2 ps).map fun cs => (.sref S.length n 0 2 1, S ++ [⟨n, cs⟩], n + 1) else none := rfl
theorem RO_buildSliceO [Globs] [Ext P] {t : TypeId} {len : Nat} {ps : Array (Nat × Operand)} (ho : @Globs.own (gM M) d ty pos = true) : RO P fn M call all (⟨d, .buildSlice t len ps, ty, pos, af, none⟩ :: l) ⟨T, S, tk, n⟩ k =
    ns (bsO P t len (ps.toList.map fun (i, x) => (i, opv T x)) S n) fun (v, S', n') => RO P fn M call all l ⟨putT T d v, S', tk, n'⟩ k := by
  rw [RO_plainQ rfl rfl]
  simp only [evO, ho, if_true]
  cases bsO P t len (ps.toList.map fun (i, x) => (i, opv T x)) S n <;> rfl
theorem RX_buildSliceO [Globs] [Ext P] {t : TypeId} {len : Nat} {ps : Array (Nat × Operand)} {tg : Tag (all, ((⟨d, .buildSlice t len ps, ty, pos, af, none⟩ : Oper) :: l), k)} (ho : CkT (@Globs.own (gM M) d ty pos)) : RX P fn M call all (⟨d, .buildSlice t len ps, ty, pos, af, none⟩ :: l) ⟨T, S, tk, n⟩ k tg = NS (bsO P t len (ps.toList.map fun (i, x) => (i, opv T x)) S n) (fun (v, S', n') => RX P fn M call all l ⟨putT T d v, S', tk, n'⟩ k .mk) .mk := RO_buildSliceO ho.h
theorem RO_makeMap [Globs] [Ext P] {t : TypeId} : RO P fn M call all (⟨d, .makeMap t none, ty, pos, af, none⟩ :: l) ⟨T, S, tk, n⟩ k =
    ns (mkM P t) fun _ => RO P fn M call all l ⟨putT T d (.mref S.length n), S ++ [⟨n, [.mset noK]⟩], tk, n + 1⟩ k := by
  rw [RO_plainQ rfl rfl]
  simp only [evO]
  cases mkM P t <;> rfl
theorem RO_lookup [Globs] [Ext P] {t : TypeId} {x y : Operand} : RO P fn M call all (⟨d, .lookup t x y false, ty, pos, af, none⟩ :: l) ⟨T, S, tk, n⟩ k =
    nx (lkM P t (opv T x) (opv T y) S) fun v => RO P fn M call all l ⟨putT T d v, S, tk, n⟩ k := by
  rw [RO_plainQ rfl rfl]
  simp only [evO]
  cases lkM P t (opv T x) (opv T y) S <;> rfl
theorem RO_mapUpdate [Globs] [Ext P] {t : TypeId} {x y z : Operand} : RO P fn M call all (⟨none, .mapUpdate t x y z, ty, pos, af, none⟩ :: l) ⟨T, S, tk, n⟩ k =
    ns (upM P t (opv T x) (opv T y) (opv T z) S) fun S' => RO P fn M call all l ⟨T, S', tk, n⟩ k := by
  rw [RO_plainQ rfl rfl]
  simp only [evO]
  cases upM P t (opv T x) (opv T y) (opv T z) S <;> rfl
theorem RO_delete [Globs] [Ext P] {x y : Operand} {t t' : TypeId} : RO P fn M call all (⟨d, .call ⟨.builtin .delete, #[x, y], #[t, t']⟩, ty, pos, af, none⟩ :: l) ⟨T, S, tk, n⟩ k =
    ns (dlM P t (opv T x) (opv T y) S) fun S' => RO P fn M call all l ⟨putT T d (.tup []), S', tk, n⟩ k := by
  rw [RO_plainQ rfl rfl]
  simp only [evO, List.map_cons, List.map_nil]
  cases dlM P t (opv T x) (opv T y) S <;> rfl
theorem RX_makeMap [Globs] [Ext P] {t : TypeId} {tg : Tag (all, ((⟨d, .makeMap t none, ty, pos, af, none⟩ : Oper) :: l), k)} : RX P fn M call all (⟨d, .makeMap t none, ty, pos, af, none⟩ :: l) ⟨T, S, tk, n⟩ k tg = NS (mkM P t) (fun _ => RX P fn M call all l ⟨putT T d (.mref S.length n), S ++ [⟨n, [.mset noK]⟩], tk, n + 1⟩ k .mk) .mk := RO_makeMap
theorem RX_lookup [Globs] [Ext P] {t : TypeId} {x y : Operand} {tg : Tag (all, ((⟨d, .lookup t x y false, ty, pos, af, none⟩ : Oper) :: l), k)} : RX P fn M call all (⟨d, .lookup t x y false, ty, pos, af, none⟩ :: l) ⟨T, S, tk, n⟩ k tg = NX (lkM P t (opv T x) (opv T y) S) (fun v => RX P fn M call all l ⟨putT T d v, S, tk, n⟩ k .mk) .mk := RO_lookup
theorem RX_mapUpdate [Globs] [Ext P] {t : TypeId} {x y z : Operand} {tg : Tag (all, ((⟨none, .mapUpdate t x y z, ty, pos, af, none⟩ : Oper) :: l), k)} : RX P fn M call all (⟨none, .mapUpdate t x y z, ty, pos, af, none⟩ :: l) ⟨T, S, tk, n⟩ k tg = NS (upM P t (opv T x) (opv T y) (opv T z) S) (fun S' => RX P fn M call all l ⟨T, S', tk, n⟩ k .mk) .mk := RO_mapUpdate
theorem RX_delete [Globs] [Ext P] {x y : Operand} {t t' : TypeId} {tg : Tag (all, ((⟨d, .call ⟨.builtin .delete, #[x, y], #[t, t']⟩, ty, pos, af, none⟩ : Oper) :: l), k)} : RX P fn M call all (⟨d, .call ⟨.builtin .delete, #[x, y], #[t, t']⟩, ty, pos, af, none⟩ :: l) ⟨T, S, tk, n⟩ k tg = NS (dlM P t (opv T x) (opv T y) S) (fun S' => RX P fn M call all l ⟨putT T d (.tup []), S', tk, n⟩ k .mk) .mk := RO_delete
theorem fz3_mref {m i e : Nat} : fz3 m S (.mref i e) = .mref i e := rfl
theorem fz2_mref {m i e : Nat} : fz2 m S (.mref i e) = .mref i e := rfl
theorem fz1_mref {m i e : Nat} : fz1 m S (.mref i e) = .mref i e := rfl
theorem notM_nil : notM [] = true := rfl
theorem notM_prim {v : Value} {cs : List AV} : notM (.prim v :: cs) = true := rfl
theorem notM_frz {es : List (List AV)} {c : Cap} {cs : List AV} : notM (.frz es c :: cs) = true := rfl
theorem notM_mref {i e : Nat} {cs : List AV} : notM (.mref i e :: cs) = true := rfl
theorem notM_ref {i e o : Nat} {cs : List AV} : notM (.ref i e o :: cs) = true := rfl
theorem notM_sref {i e o len sz : Nat} {cs : List AV} : notM (.sref i e o len sz :: cs) = true := rfl
theorem notM_fn {f : FuncId} {c cs : List AV} : notM (.fn f c :: cs) = true := rfl
theorem notM_fptr {c cs : List AV} : notM (.fptr c :: cs) = true := rfl
theorem notM_ifc {t : TypeId} {v : AV} {cs : List AV} : notM (.ifc t v :: cs) = true := rfl
theorem notM_app {a b : List AV} (h : notM a = true) (hb : notM b = true) : notM (a ++ b) = true := by cases a <;> first | exact hb | exact h
theorem chkM_ref {i e o : Nat} : chkM P (.ref i e o) = some (.ref i e o) := rfl
theorem chkM_fptr {cs : List AV} : chkM P (.fptr cs) = some (.fptr cs) := rfl
theorem chkM_fn {f : FuncId} {cs : List AV} : chkM P (.fn f cs) = some (.fn f cs) := rfl
theorem chkM_bfn {f : FuncId} {cs : List AV} : chkM P (.bfn f cs) = some (.bfn f cs) := rfl
theorem chkM_ifc {t : TypeId} {v : AV} : chkM P (.ifc t v) = some (.ifc t v) := rfl
theorem chkM_mfn {t : TypeId} {m : String} {v : AV} (h : (mRow P t m).isSome = true) : chkM P (.mfn t m v) = some (.mfn t m v) := by simp [chkM, h]
theorem cL_closed [Globs] [Ext P] [ExtOk P] {m : Nat} {f : FuncId} {r : AV} (h : evF P drawOk m f [] [] [] 0 = some (r, [], [], 0)) (hmv : Ext.mv P f = false) (hsh : shF f = false) (hxf : xF f = false) (S : List Ent) (tk : List Nat) (n : Nat) (htk : tkF f = false := by rfl) : cL P f [] S tk n = some (r, S, tk, n) := by
  have e : (((List.map w2 ([] : List AV)).all pure2 && !Ext.mv P f) || (shF f && keepFn P f ([] : List AV).length && !Ext.mv P f && !Ext.on P f) || (xF f && Globs.dr)) = true := by rw [hmv]; rfl
  have h' : callP P (evF P drawOk m) f [] [] [] 0 = some (r, [], [], 0) := by rw [callP_eq, if_pos e]; exact h
  have h2 := ((((evF_indep m .no _ _ _ _ _ _ _ _ _ h').resolve_left (by simp [hxf])).resolve_left (fun h => by rw [show tkF f = true from h.1] at htk; cases htk)).2.2.resolve_left (by rw [hsh]; simp)).2 S tk n
  rw [callP_eq, if_pos e] at h2
  exact cL_iff.2 ⟨m, h2⟩
theorem RO_makeSlice [Globs] [Ext P] {t : TypeId} {x y : Operand} (hz : growL ⟨d, .makeSlice t x y, ty, pos, af, none⟩ x = false) : RO P fn M call all (⟨d, .makeSlice t x y, ty, pos, af, none⟩ :: l) ⟨T, S, tk, n⟩ k =
    ns (mkA P t (opv T x) (opv T y)) fun (m, sz, cs) => RO P fn M call all l ⟨putT T d (.sref S.length n 0 m sz), S ++ [⟨n, cs⟩], tk, n + 1⟩ k := by
  rw [RO_plainQ rfl rfl]
  simp only [evO, hz]
  cases mkA P t (opv T x) (opv T y) <;> rfl
theorem RO_makeSlice0 [Globs] [Ext P] {t : TypeId} {x y : Operand} (hz : len0 x = true) : RO P fn M call all (⟨d, .makeSlice t x y, ty, pos, af, none⟩ :: l) ⟨T, S, tk, n⟩ k =
    ns (mkA P t (opv T x) (opv T y)) fun (m, sz, cs) => RO P fn M call all l ⟨putT T d (.frz [] (.tok tk.length 0 sz)), S, tk ++ [0], n⟩ k := by
  rw [RO_plainQ rfl rfl]
  simp only [evO, growL, hz, Bool.true_or]
  cases mkA P t (opv T x) (opv T y) <;> rfl
theorem RO_makeSliceF [Globs] [Ext P] {t : TypeId} {y : Operand} (hz : fzL ⟨d, .makeSlice t (.tmp 10) y, ty, pos, af, none⟩ (.tmp 10) = true) : RO P fn M call all (⟨d, .makeSlice t (.tmp 10) y, ty, pos, af, none⟩ :: l) ⟨T, S, tk, n⟩ k =
    ns (mkA P t (opv T (.tmp 10)) (opv T y)) fun (m, sz, cs) => RO P fn M call all l ⟨putT T d (tokA tk.length sz (rowsFz (rowsAt sz m cs))), S, tk ++ [0], n⟩ k := by
  rw [RO_plainQ rfl rfl]
  simp only [evO, growL, len0, hz, Bool.false_or]
  cases mkA P t (opv T (.tmp 10)) (opv T y) <;> rfl
theorem RO_copy [Globs] [Ext P] {x y : Operand} {t t' : TypeId} : RO P fn M call all (⟨d, .call ⟨.builtin .copy, #[x, y], #[t, t']⟩, ty, pos, af, none⟩ :: l) ⟨T, S, tk, n⟩ k =
    ns (cpA P t (opv T x) (opv T y) S) fun (m, S') => RO P fn M call all l ⟨putT T d (.int (m : Int)), S', tk, n⟩ k := by
  rw [RO_plainQ rfl rfl]
  simp only [evO, List.map_cons, List.map_nil]
  cases cpA P t (opv T x) (opv T y) S <;> rfl
theorem RO_appendS [Globs] [Ext P] {x y : Operand} {t t' : TypeId} (ht : (t == t') = false) (ho : @Globs.own (gM M) d ty pos = false) : RO P fn M call all (⟨d, .call ⟨.builtin .append, #[x, y], #[t, t']⟩, ty, pos, af, none⟩ :: l) ⟨T, S, tk, n⟩ k =
    ns (apS P t t' (opv T x) (opv T y) tk) fun (v, tk') => RO P fn M call all l ⟨putT T d v, S, tk', n⟩ k := by
  have ht' : ¬ t = t' := by simpa using ht
  rw [RO_plainQ rfl rfl]
  simp only [evO, List.map_cons, List.map_nil, if_neg ht', ho, Bool.false_eq_true, if_false]
  cases apS P t t' (opv T x) (opv T y) tk <;> rfl
theorem RO_nilCheck [Globs] [Ext P] {x : Operand} : RO P fn M call all (⟨d, .nilCheck x, ty, pos, af, none⟩ :: l) ⟨T, S, tk, n⟩ k = nx (chkM P (opv T x)) fun v => RO P fn M call all l ⟨putT T d v, S, tk, n⟩ k := RO_quiet rfl
theorem RO_min [Globs] [Ext P] {x y : Operand} {ats : Array TypeId} : RO P fn M call all (⟨d, .call ⟨.builtin .min, #[x, y], ats⟩, ty, pos, af, none⟩ :: l) ⟨T, S, tk, n⟩ k = nx (minA (opv T x) (opv T y)) fun v => RO P fn M call all l ⟨putT T d v, S, tk, n⟩ k := RO_quiet rfl
theorem RO_max [Globs] [Ext P] {x y : Operand} {ats : Array TypeId} : RO P fn M call all (⟨d, .call ⟨.builtin .max, #[x, y], ats⟩, ty, pos, af, none⟩ :: l) ⟨T, S, tk, n⟩ k = nx (maxA (opv T x) (opv T y)) fun v => RO P fn M call all l ⟨putT T d v, S, tk, n⟩ k := RO_quiet rfl
theorem RX_makeSlice [Globs] [Ext P] {t : TypeId} {x y : Operand} {tg : Tag (all, ((⟨d, .makeSlice t x y, ty, pos, af, none⟩ : Oper) :: l), k)} (hz : CkF (growL ⟨d, .makeSlice t x y, ty, pos, af, none⟩ x)) : RX P fn M call all (⟨d, .makeSlice t x y, ty, pos, af, none⟩ :: l) ⟨T, S, tk, n⟩ k tg = NS (mkA P t (opv T x) (opv T y)) (fun (m, sz, cs) => RX P fn M call all l ⟨putT T d (.sref S.length n 0 m sz), S ++ [⟨n, cs⟩], tk, n + 1⟩ k .mk) .mk := RO_makeSlice hz.h
theorem RX_makeSlice0 [Globs] [Ext P] {t : TypeId} {x y : Operand} {tg : Tag (all, ((⟨d, .makeSlice t x y, ty, pos, af, none⟩ : Oper) :: l), k)} (hz : CkT (len0 x)) : RX P fn M call all (⟨d, .makeSlice t x y, ty, pos, af, none⟩ :: l) ⟨T, S, tk, n⟩ k tg = NS (mkA P t (opv T x) (opv T y)) (fun (m, sz, cs) => RX P fn M call all l ⟨putT T d (.frz [] (.tok tk.length 0 sz)), S, tk ++ [0], n⟩ k .mk) .mk := RO_makeSlice0 hz.h
theorem RX_makeSliceF [Globs] [Ext P] {t : TypeId} {y : Operand} {tg : Tag (all, ((⟨d, .makeSlice t (.tmp 10) y, ty, pos, af, none⟩ : Oper) :: l), k)} (hz : CkT (fzL ⟨d, .makeSlice t (.tmp 10) y, ty, pos, af, none⟩ (.tmp 10))) : RX P fn M call all (⟨d, .makeSlice t (.tmp 10) y, ty, pos, af, none⟩ :: l) ⟨T, S, tk, n⟩ k tg = NS (mkA P t (opv T (.tmp 10)) (opv T y)) (fun (m, sz, cs) => RX P fn M call all l ⟨putT T d (tokA tk.length sz (rowsFz (rowsAt sz m cs))), S, tk ++ [0], n⟩ k .mk) .mk := RO_makeSliceF hz.h
theorem RX_copy [Globs] [Ext P] {x y : Operand} {t t' : TypeId} {tg : Tag (all, ((⟨d, .call ⟨.builtin .copy, #[x, y], #[t, t']⟩, ty, pos, af, none⟩ : Oper) :: l), k)} : RX P fn M call all (⟨d, .call ⟨.builtin .copy, #[x, y], #[t, t']⟩, ty, pos, af, none⟩ :: l) ⟨T, S, tk, n⟩ k tg = NS (cpA P t (opv T x) (opv T y) S) (fun (m, S') => RX P fn M call all l ⟨putT T d (.int (m : Int)), S', tk, n⟩ k .mk) .mk := RO_copy
theorem RX_appendS [Globs] [Ext P] {x y : Operand} {t t' : TypeId} {tg : Tag (all, ((⟨d, .call ⟨.builtin .append, #[x, y], #[t, t']⟩, ty, pos, af, none⟩ : Oper) :: l), k)} (ht : CkF ((t == t'))) (ho : CkF (@Globs.own (gM M) d ty pos)) : RX P fn M call all (⟨d, .call ⟨.builtin .append, #[x, y], #[t, t']⟩, ty, pos, af, none⟩ :: l) ⟨T, S, tk, n⟩ k tg = NS (apS P t t' (opv T x) (opv T y) tk) (fun (v, tk') => RX P fn M call all l ⟨putT T d v, S, tk', n⟩ k .mk) .mk := RO_appendS ht.h ho.h
theorem RX_nilCheck [Globs] [Ext P] {x : Operand} {tg : Tag (all, ((⟨d, .nilCheck x, ty, pos, af, none⟩ : Oper) :: l), k)} : RX P fn M call all (⟨d, .nilCheck x, ty, pos, af, none⟩ :: l) ⟨T, S, tk, n⟩ k tg = NX (chkM P (opv T x)) (fun v => RX P fn M call all l ⟨putT T d v, S, tk, n⟩ k .mk) .mk := RO_nilCheck
theorem RX_min [Globs] [Ext P] {x y : Operand} {ats : Array TypeId} {tg : Tag (all, ((⟨d, .call ⟨.builtin .min, #[x, y], ats⟩, ty, pos, af, none⟩ : Oper) :: l), k)} : RX P fn M call all (⟨d, .call ⟨.builtin .min, #[x, y], ats⟩, ty, pos, af, none⟩ :: l) ⟨T, S, tk, n⟩ k tg = NX (minA (opv T x) (opv T y)) (fun v => RX P fn M call all l ⟨putT T d v, S, tk, n⟩ k .mk) .mk := RO_min
theorem RX_max [Globs] [Ext P] {x y : Operand} {ats : Array TypeId} {tg : Tag (all, ((⟨d, .call ⟨.builtin .max, #[x, y], ats⟩, ty, pos, af, none⟩ : Oper) :: l), k)} : RX P fn M call all (⟨d, .call ⟨.builtin .max, #[x, y], ats⟩, ty, pos, af, none⟩ :: l) ⟨T, S, tk, n⟩ k tg = NX (maxA (opv T x) (opv T y)) (fun v => RX P fn M call all l ⟨putT T d v, S, tk, n⟩ k .mk) .mk := RO_max
theorem cvA_int {s t : TypeId} {q : IntKind} {x : Int} : cvA P s t (.prim (.int q x)) = aConv P s t (.prim (.int q x)) := rfl
theorem cvA_str {s t : TypeId} {b : ByteArray} : cvA P s t (.prim (.string b)) = if (isStr P s && isBytes P t && decide (b.size ≤ 1048576)) = true then some (.frz (bytesL b) .unk) else aConv P s t (.prim (.string b)) := rfl
theorem minA_int {q : IntKind} {x y : Int} : minA (.prim (.int q x)) (.prim (.int q y)) = some (.prim (.int q (if y < x then y else x))) := by simp [minA]
theorem maxA_int {q : IntKind} {x y : Int} : maxA (.prim (.int q x)) (.prim (.int q y)) = some (.prim (.int q (if y > x then y else x))) := by simp [maxA]
theorem aBin_refNil {b : BinOp} {t : TypeId} {i e o : Nat} : aBin P b t (.ref i e o) (.prim (.pointer none)) = ptrNil b (isPtr P t) false := rfl
theorem aBin_fptrNil {b : BinOp} {t : TypeId} {cs : List AV} : aBin P b t (.fptr cs) (.prim (.pointer none)) = ptrNil b (isPtr P t) false := rfl
theorem aBin_nilNil {b : BinOp} {t : TypeId} : aBin P b t (.prim (.pointer none)) (.prim (.pointer none)) = ptrNil b (isPtr P t) true := rfl
theorem ptrNil_eql {r : Bool} : ptrNil .eql true r = some (.bool r) := rfl
theorem ptrNil_neq {r : Bool} : ptrNil .neq true r = some (.bool !r) := rfl
theorem fz3_tup {m : Nat} {vs : List AV} : fz3 m S (.tup vs) = .tup (vs.map (fz2 m S)) := rfl
theorem fz3_agg {m : Nat} {cs : List AV} : fz3 m S (.agg cs) = .agg (cs.map (fz1 m S)) := rfl
theorem fz3_prim {m : Nat} {v : Value} : fz3 m S (.prim v) = .prim v := rfl
theorem fz3_frz {m : Nat} {es : List (List AV)} {c : Cap} : fz3 m S (.frz es c) = .frz es c := rfl
theorem fz3_ref {m i e o : Nat} : fz3 m S (.ref i e o) = .ref i e o := rfl
theorem fz3_fn {m : Nat} {f : FuncId} {cs : List AV} : fz3 m S (.fn f cs) = .fn f cs := rfl
theorem fz3_sref {m i e o len sz : Nat} : fz3 m S (.sref i e o len sz) = fz1 m S (.sref i e o len sz) := rfl
theorem fz2_agg {m : Nat} {cs : List AV} : fz2 m S (.agg cs) = .agg (cs.map (fz1 m S)) := rfl
theorem fz2_prim {m : Nat} {v : Value} : fz2 m S (.prim v) = .prim v := rfl
theorem fz2_frz {m : Nat} {es : List (List AV)} {c : Cap} : fz2 m S (.frz es c) = .frz es c := rfl
theorem fz2_ref {m i e o : Nat} : fz2 m S (.ref i e o) = .ref i e o := rfl
theorem fz2_fn {m : Nat} {f : FuncId} {cs : List AV} : fz2 m S (.fn f cs) = .fn f cs := rfl
theorem fz2_sref {m i e o len sz : Nat} : fz2 m S (.sref i e o len sz) = fz1 m S (.sref i e o len sz) := rfl
theorem fz1_prim {m : Nat} {v : Value} : fz1 m S (.prim v) = .prim v := rfl
theorem fz1_frz {m : Nat} {es : List (List AV)} {c : Cap} : fz1 m S (.frz es c) = .frz es c := rfl
theorem fz1_ref {m i e o : Nat} : fz1 m S (.ref i e o) = .ref i e o := rfl
theorem fz1_fn {m : Nat} {f : FuncId} {cs : List AV} : fz1 m S (.fn f cs) = .fn f cs := rfl
theorem fz1_sref {m i e o len sz : Nat} (h : m ≤ i) : fz1 m S (.sref i e o len sz) = fzB (entAt S i e) o len sz := by simp [fz1, h]
theorem fz1_old {m i e o len sz : Nat} (h : i < m) : fz1 m S (.sref i e o len sz) = .sref i e o len sz := by simp [fz1]; omega
theorem fzB_some {cs : List AV} {o len sz : Nat} : fzB (some cs) o len sz = rowsFz (rowsAt sz len (cs.drop o)) := rfl
end
end Go.Proofs.YtmkoiandfojgmaaGreat
