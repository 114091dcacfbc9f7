/-
  The evaluator without a bound on the rounds: its equations.
-/
import Derived.Test.YtokncdoejnchfaaDoorEvDraw
namespace Go.Proofs.YtokncdoejnchfaaDoor
open Go.RowKit

section
variable {P : Program}
/-- it answers at least what the other does -/
def CLe (a b : CallA) : Prop := ∀ f args S tk n r, a f args S tk n = some r → b f args S tk n = some r
theorem evO_mono [Globs] {a b : CallA} (h : CLe a b) {o : Oper} {st : St} {r : AV × St} (he : evO P a o st = some r) : evO P b o st = some r := by
  unfold evO at he ⊢
  split <;> simp_all only
  · rename_i c _
    split <;> simp_all only
    split <;> simp_all only
    · rename_i f args hca
      simp only [Option.map_eq_some_iff] at he ⊢
      obtain ⟨x, h1, h2⟩ := he
      exact ⟨x, h _ _ _ _ _ _ h1, h2⟩
theorem evOs_mono [G : Globs] {a b : CallA} (h : CLe a b) {all : List Oper} : ∀ {l : List Oper} {st st' : St}, evOs P a all l st = some st' → evOs P b all l st = some st'
  | [], _, _, he => he
  | o :: l, st, st', he => by
    simp only [evOs] at he ⊢
    split at he
    · simp at he
    · exact evOs_mono h he
    · split at he
      · rename_i v s1 ho
        rw [evO_mono h ho]; exact evOs_mono h he
      · simp at he
theorem CLe.pure [Globs] [Ext P] {M : Bool} {a b : CallA} (h : CLe a b) : CLe (@callP (gM M) P _ a) (@callP (gM M) P _ b) := by
  intro f args S tk n r he
  unfold callP at he ⊢
  split at he
  · rename_i hp; rw [if_pos hp]; exact h _ _ _ _ _ _ he
  · simp at he
theorem loopA_mono {f g : St → Option (Ex × St)} (h : ∀ s r, f s = some r → g s = some r) : ∀ {k m : Nat} {s : St} {r : Ex × St}, k ≤ m → loopA f k s = some r → loopA g m s = some r
  | 0, _, _, _, _, he => by simp [loopA] at he
  | k + 1, 0, _, _, hkm, _ => by omega
  | k + 1, m + 1, s, r, hkm, he => by
    simp only [loopA] at he ⊢
    split at he
    · rename_i s1 h1
      rw [h _ _ h1]
      exact loopA_mono h (by omega) he
    · rename_i hne
      rw [h _ _ he]
      obtain ⟨ex, s2⟩ := r
      cases ex with
      | normal => exact absurd he (hne s2)
      | exit id => rfl
      | ret => rfl
theorem evC_mono [Globs] [Ext P] {a b : CallA} (h : CLe a b) {ok : St → List Oper → Bool} {n m : Nat} (hnm : n ≤ m) : ∀ (c : Code) (st : St) (r : Ex × St), evC P a ok n c st = some r → evC P b ok m c st = some r
  | .skip, _, _, he => by simpa only [evC] using he
  | .region _ ops draw, st, r, he => by
    simp only [evC] at he ⊢
    split at he
    · rename_i hd
      rw [if_pos hd]
      split at he
      · rename_i hok
        rw [if_pos hok]
        simp only [Option.map_eq_some_iff] at he ⊢
        obtain ⟨x, h1, h2⟩ := he
        exact ⟨x, evOs_mono (G := gM _) h.pure h1, h2⟩
      · simp at he
    · rename_i hd
      rw [if_neg hd]
      simp only [Option.map_eq_some_iff] at he ⊢
      obtain ⟨x, h1, h2⟩ := he
      exact ⟨x, evOs_mono h h1, h2⟩
  | .seq x y, st, r, he => by
    simp only [evC] at he ⊢
    split at he
    · rename_i s1 h1
      rw [evC_mono h hnm x st _ h1]
      exact evC_mono h hnm y s1 r he
    · rename_i hne
      rw [evC_mono h hnm x st _ he]
      obtain ⟨ex, s2⟩ := r
      cases ex with
      | normal => exact absurd he (hne s2)
      | exit id => rfl
      | ret => rfl
  | .cond x y z, st, r, he => by
    simp only [evC] at he ⊢
    split at he
    · rename_i t ht
      split at he
      · rename_i h1; rw [if_pos h1]; exact evC_mono h hnm y st r he
      · rename_i h1; rw [if_neg h1]; exact evC_mono h hnm z st r he
    · simp at he
  | .block id x, st, r, he => by
    simp only [evC] at he ⊢
    split at he
    · rename_i id' s1 h1
      rw [evC_mono h hnm x st _ h1]; exact he
    · rename_i hne
      rw [evC_mono h hnm x st _ he]
      obtain ⟨ex, s2⟩ := r
      cases ex with
      | normal => rfl
      | exit id => exact absurd he (hne id s2)
      | ret => rfl
  | .loop x, st, r, he => by
    simp only [evC] at he ⊢
    exact loopA_mono (fun s r => evC_mono h hnm x s r) hnm he
  | .exit id, _, _, he => by simpa only [evC] using he
  | .ret, _, _, he => by simpa only [evC] using he
  | .rangeFunc _ _ _ _, _, _, he => by simp [evC] at he
  | .scope _, _, _, he => by simp [evC] at he
  | .label _, _, _, he => by simp [evC] at he
  | .goto _, _, _, he => by simp [evC] at he
  | .refuse _, _, _, he => by simp [evC] at he
theorem outA_mono {fn : Func} {x y : Option (Ex × St)} {r : AV × St} (h : ∀ z, x = some z → y = some z) (he : outA P fn x = some r) : outA P fn y = some r := by
  match x with
  | none => simp [outA] at he
  | some z => rw [h z rfl]; exact he
theorem evF_mono [Globs] [Ext P] {ok : St → List Oper → Bool} : ∀ {k m : Nat}, k ≤ m → CLe (evF P ok k) (evF P ok m)
  | 0, _, _ => by intro f args S tk n r he; simp [evF] at he
  | k + 1, 0, h => by omega
  | k + 1, m + 1, h => by
    have ih : CLe (evF P ok k) (evF P ok m) := evF_mono (by omega)
    intro f args S tk n r he
    simp only [evF] at he ⊢
    split at he
    · rename_i hon; rw [if_pos hon]; exact he
    rename_i hon
    rw [if_neg hon]
    split at he
    · rename_i fn hf
      split at he
      · rename_i c hb
        split at he
        · simp at he
        · rename_i hname
          rw [if_neg hname]
          split at he
          · rename_i hmv
            rw [if_pos hmv]
            split at he
            · rename_i r' s1 ho
              rw [outA_mono (fun z hz => evC_mono ih (by omega) c _ z hz) ho]
              exact he
            · simp at he
          rename_i hmv
          rw [if_neg hmv]
          split at he
          · rename_i hp
            rw [if_pos hp]
            have one : ∀ {as : List AV} {r0 : AV}, runP P ok (evF P ok k) k fn c as = some r0 → runP P ok (evF P ok m) m fn c as = some r0 := by
              intro as r0 hrun
              unfold runP at hrun ⊢
              split at hrun
              · rename_i r' s1 ho
                rw [outA_mono (fun z hz => evC_mono ih (by omega) c _ z hz) ho]
                exact hrun
              · simp at hrun
            split at he
            · rename_i r' ho
              have : (if nilCmp c = true then runN (runP P ok (evF P ok m) m fn c) (args.map w2) else runP P ok (evF P ok m) m fn c (args.map w2)) = some r' := by
                split at ho
                · rename_i hn
                  rw [if_pos hn]
                  unfold runN at ho ⊢
                  split at ho
                  · split at ho
                    · rename_i q1 q2
                      rw [one q1, one q2]; exact ho
                    · simp at ho
                  · exact one ho
                · rename_i hn
                  rw [if_neg hn]
                  exact one ho
              rw [this]; exact he
            · simp at he
          · rename_i hp
            rw [if_neg hp]
            split at he
            · rename_i r' s1 ho
              rw [outA_mono (fun z hz => evC_mono ih (by omega) c _ z hz) ho]
              exact he
            · simp at he
      · simp at he
    · simp at he

/-- what a growing sequence comes to -/
noncomputable def lim {α : Type} (F : Nat → Option α) : Option α := by
  classical
  exact if h : ∃ x, ∃ k, F k = some x then some h.choose else none
theorem lim_iff {α : Type} {F : Nat → Option α} (hm : ∀ k m x, k ≤ m → F k = some x → F m = some x) {x : α} : lim F = some x ↔ ∃ k, F k = some x := by
  unfold lim
  constructor
  · intro h
    split at h
    · rename_i hx
      simp only [Option.some.injEq] at h; subst h
      exact hx.choose_spec
    · simp at h
  · rintro ⟨k, hk⟩
    have hx : ∃ x, ∃ k, F k = some x := ⟨x, k, hk⟩
    rw [dif_pos hx]
    obtain ⟨m, hm'⟩ := hx.choose_spec
    have h1 := hm _ _ _ (Nat.le_max_left k m) hk
    have h2 := hm _ _ _ (Nat.le_max_right k m) hm'
    rw [h1] at h2
    simp only [Option.some.injEq] at h2
    rw [← h2]
theorem opt_ext {α : Type} {a b : Option α} (h : ∀ x, a = some x ↔ b = some x) : a = b := by
  cases a with
  | none =>
    cases b with
    | none => rfl
    | some y => have := (h y).2 rfl; simp at this
  | some x => exact ((h x).1 rfl).symm

/-- calls and code, without a bound -/
noncomputable def cL [Globs] (P : Program) [Ext P] : CallA := fun f args S tk n => lim fun k => evF P drawOk k f args S tk n
noncomputable def eL [Globs] (P : Program) [Ext P] (c : Code) (st : St) : Option (Ex × St) := lim fun k => evC P (evF P drawOk k) drawOk k c st
theorem cL_iff [Globs] [Ext P] {f args S tk n x} : cL P f args S tk n = some x ↔ ∃ k, evF P drawOk k f args S tk n = some x := lim_iff fun _ _ _ h he => evF_mono h _ _ _ _ _ _ he
theorem eL_iff [Globs] [Ext P] {c : Code} {st : St} {x : Ex × St} : eL P c st = some x ↔ ∃ k, evC P (evF P drawOk k) drawOk k c st = some x := lim_iff fun _ _ _ h he => evC_mono (evF_mono h) h _ _ _ he
theorem cL_le [Globs] [Ext P] (k : Nat) : CLe (evF P drawOk k) (cL P) := fun _ _ _ _ _ _ h => cL_iff.2 ⟨k, h⟩
section
variable {F : Nat → CallA} {L : CallA} (hF : ∀ k m, k ≤ m → CLe (F k) (F m)) (hL : ∀ f args S tk n x, L f args S tk n = some x → ∃ k, F k f args S tk n = some x)
include hL
theorem evO_lim [Globs] {o : Oper} {st : St} {r : AV × St} (h : evO P L o st = some r) : ∃ k, evO P (F k) o st = some r := by
  by_cases hc : ∃ c f args, o.op = .call c ∧ calleeA st.T c = some (f, args) ∧ (∀ b, c.callee ≠ .builtin b)
  · obtain ⟨c, f, args, ho, hca, hb⟩ := hc
    have e : ∀ call : CallA, evO P call o st = (call f args st.S st.tk st.n).map fun (v, S, tk, n) => (v, { st with S := S, tk := tk, n := n }) := by
      intro call
      unfold evO
      rw [ho]
      simp only
      split
      · rename_i h'; exact absurd h' (hb _)
      · rename_i h'; exact absurd h' (hb _)
      · rename_i b _ _ h'; exact absurd h' (hb _)
      · rw [hca]
    rw [e] at h
    simp only [Option.map_eq_some_iff] at h
    obtain ⟨x, h1, h2⟩ := h
    obtain ⟨k, hk⟩ := hL _ _ _ _ _ _ h1
    exact ⟨k, by rw [e, hk]; simp [h2]⟩
  · refine ⟨0, ?_⟩
    have e : ∀ call call' : CallA, evO P call o st = evO P call' o st := by
      intro call call'
      unfold evO
      split <;> try rfl
      rename_i c ho
      split <;> try rfl
      rename_i h1 h2 h3
      split
      · rename_i f args hca
        exact absurd ⟨c, f, args, ho, hca, fun b hb => by cases b <;> first | exact h1 hb | exact h2 hb | exact h3 _ hb⟩ hc
      · rfl
    rw [e _ L]; exact h
include hF
theorem evOs_lim [G : Globs] {all : List Oper} : ∀ {l : List Oper} {st st' : St}, evOs P L all l st = some st' → ∃ k, evOs P (F k) all l st = some st'
  | [], _, _, h => ⟨0, h⟩
  | o :: l, st, st', h => by
    simp only [evOs] at h
    split at h
    · simp at h
    · rename_i hw
      obtain ⟨k, hk⟩ := evOs_lim h
      exact ⟨k, by simp only [evOs, hw]; exact hk⟩
    · rename_i hw
      split at h
      · rename_i v s1 ho
        obtain ⟨k, hk⟩ := evO_lim hL ho
        obtain ⟨m, hm⟩ := evOs_lim h
        refine ⟨max k m, ?_⟩
        simp only [evOs, hw]
        rw [evO_mono (hF _ _ (Nat.le_max_left k m)) hk]
        exact evOs_mono (hF _ _ (Nat.le_max_right k m)) hm
      · simp at h
end
theorem evOs_cL [Globs] [Ext P] {all l : List Oper} {st st' : St} (h : evOs P (cL P) all l st = some st') : ∃ k, evOs P (evF P drawOk k) all l st = some st' :=
  evOs_lim (fun _ _ h => evF_mono h) (fun _ _ _ _ _ _ h => cL_iff.1 h) h
theorem evOs_cP [Globs] [Ext P] {M : Bool} {all l : List Oper} {st st' : St} (h : @evOs (gM M) P (@callP (gM M) P _ (cL P)) all l st = some st') : ∃ k, @evOs (gM M) P (@callP (gM M) P _ (evF P drawOk k)) all l st = some st' := by
  refine evOs_lim (F := fun k => @callP (gM M) P _ (evF P drawOk k)) (G := gM M) (fun _ _ h => (evF_mono h).pure) (fun f args S tk n x h => ?_) h
  unfold callP at h
  split at h
  · rename_i hp
    obtain ⟨k, hk⟩ := cL_iff.1 h
    exact ⟨k, by unfold callP; rw [if_pos hp]; exact hk⟩
  · simp at h

/-- what comes behind a piece of code -/
inductive Kont where
  | seq (c : Code) | block (id : Nat) | loop (c : Code) (k : Nat)
noncomputable def cont [Globs] (P : Program) [Ext P] (fn : Func) : Ex → St → List Kont → Option (AV × St)
  | e, st, [] => outA P fn (some (e, st))
  | .normal, st, .seq c :: k => match eL P c st with | some (e, st') => cont P fn e st' k | none => none
  | .normal, st, .block _ :: k => cont P fn .normal st k
  | .normal, st, .loop c n :: k => match eL P (.loop c) { st with S := st.S.take n } with | some (e, st') => cont P fn e st' k | none => none
  | .exit id, st, .seq _ :: k => cont P fn (.exit id) st k
  | .exit id, st, .block id' :: k => if id = id' then cont P fn .normal st k else cont P fn (.exit id) st k
  | .exit id, st, .loop _ _ :: k => cont P fn (.exit id) st k
  | .ret, st, _ :: k => cont P fn .ret st k
/-- a piece of code and what comes behind it -/
noncomputable def RK [Globs] (P : Program) [Ext P] (fn : Func) (c : Code) (st : St) (k : List Kont) : Option (AV × St) := match eL P c st with | some (e, st') => cont P fn e st' k | none => none
noncomputable def callM [Globs] (M : Bool) (P : Program) [Ext P] (call : CallA) : CallA := @callP (gM M) P _ call
noncomputable def RO [Globs] (P : Program) [Ext P] (fn : Func) (M : Bool) (call : CallA) (all l : List Oper) (st : St) (k : List Kont) : Option (AV × St) := match @evOs (gM M) P call all l st with | some st' => cont P fn .normal st' k | none => none
def br {α : Type} (w : Option Bool) (a b : Option α) : Option α := match w with | some true => a | some false => b | none => none
/-- simp is to look at the test alone, till that is known -/
theorem br_congr {α : Type} {w w' : Option Bool} {a b : Option α} (h : w = w') : br w a b = br w' a b := by rw [h]
theorem br_some {α : Type} (t : Bool) (a b : Option α) : br (some t) a b = if t = true then a else b := by cases t <;> rfl

variable {fn : Func} {st : St} {k : List Kont}
theorem RK_skip [Globs] [Ext P] : RK P fn .skip st k = cont P fn .normal st k := by
  have : eL P .skip st = some (.normal, st) := eL_iff.2 ⟨0, rfl⟩
  simp only [RK, this]
theorem RK_exit [Globs] [Ext P] {id : Nat} : RK P fn (.exit id) st k = cont P fn (.exit id) st k := by
  have : eL P (.exit id) st = some (.exit id, st) := eL_iff.2 ⟨0, rfl⟩
  simp only [RK, this]
theorem RK_ret [Globs] [Ext P] : RK P fn .ret st k = cont P fn .ret st k := by
  have : eL P .ret st = some (.ret, st) := eL_iff.2 ⟨0, rfl⟩
  simp only [RK, this]
theorem eL_seq [Globs] [Ext P] {a b : Code} : eL P (.seq a b) st = match eL P a st with | some (.normal, st') => eL P b st' | r => r := by
  apply opt_ext
  intro x
  constructor
  · intro h
    obtain ⟨n, h⟩ := eL_iff.1 h
    simp only [evC] at h
    split at h
    · rename_i s1 h1
      rw [eL_iff.2 ⟨n, h1⟩]
      exact eL_iff.2 ⟨n, h⟩
    · rename_i hne
      rw [eL_iff.2 ⟨n, h⟩]
      obtain ⟨ex, s2⟩ := x
      cases ex with
      | normal => exact absurd h (hne s2)
      | exit id => rfl
      | ret => rfl
  · intro h
    split at h
    · rename_i s1 h1
      obtain ⟨n, h1⟩ := eL_iff.1 h1
      obtain ⟨m, h⟩ := eL_iff.1 h
      refine eL_iff.2 ⟨max n m, ?_⟩
      simp only [evC]
      rw [evC_mono (evF_mono (Nat.le_max_left n m)) (Nat.le_max_left n m) _ _ _ h1]
      exact evC_mono (evF_mono (Nat.le_max_right n m)) (Nat.le_max_right n m) _ _ _ h
    · rename_i hne
      obtain ⟨n, h1⟩ := eL_iff.1 h
      refine eL_iff.2 ⟨n, ?_⟩
      simp only [evC]
      rw [h1]
      obtain ⟨ex, s2⟩ := x
      cases ex with
      | normal => exact absurd h (hne s2)
      | exit id => rfl
      | ret => rfl
theorem RK_seq [Globs] [Ext P] {a b : Code} : RK P fn (.seq a b) st k = RK P fn a st (.seq b :: k) := by
  simp only [RK, eL_seq]
  cases h : eL P a st with
  | none => rfl
  | some x =>
    obtain ⟨e, s⟩ := x
    cases e <;> simp only [cont]
theorem eL_cond [Globs] [Ext P] {c : Operand} {a b : Code} : eL P (.cond c a b) st = match opv st.T c with | .prim (.bool t) => if t = true then eL P a st else eL P b st | _ => none := by
  apply opt_ext
  intro x
  rw [eL_iff]
  simp only [evC]
  generalize opv st.T c = v
  cases v with
  | prim u =>
    cases u with
    | bool t => cases t <;> simp [eL_iff]
    | _ => simp
  | _ => simp
theorem RK_cond [Globs] [Ext P] {c : Operand} {a b : Code} : RK P fn (.cond c a b) st k = match opv st.T c with | .prim (.bool t) => if t = true then RK P fn a st k else RK P fn b st k | _ => none := by
  simp only [RK, eL_cond]
  generalize opv st.T c = v
  cases v with
  | prim u =>
    cases u with
    | bool t => cases t <;> simp
    | _ => rfl
  | _ => rfl
theorem eL_block [Globs] [Ext P] {id : Nat} {c : Code} : eL P (.block id c) st = match eL P c st with | some (.exit id', st') => if id' = id then some (.normal, st') else some (.exit id', st') | r => r := by
  apply opt_ext
  intro x
  constructor
  · intro h
    obtain ⟨n, h⟩ := eL_iff.1 h
    simp only [evC] at h
    split at h
    · rename_i s1 h1
      rw [eL_iff.2 ⟨n, h1⟩]; exact h
    · rename_i hne
      rw [eL_iff.2 ⟨n, h⟩]
      obtain ⟨ex, s2⟩ := x
      cases ex with
      | normal => rfl
      | exit id => exact absurd h (hne id s2)
      | ret => rfl
  · intro h
    split at h
    · rename_i id' s1 h1
      obtain ⟨n, h1⟩ := eL_iff.1 h1
      exact eL_iff.2 ⟨n, by simp only [evC]; rw [h1]; exact h⟩
    · rename_i hne
      obtain ⟨n, h1⟩ := eL_iff.1 h
      refine eL_iff.2 ⟨n, ?_⟩
      simp only [evC]
      rw [h1]
      obtain ⟨ex, s2⟩ := x
      cases ex with
      | normal => rfl
      | exit id => exact absurd h (hne id s2)
      | ret => rfl
theorem RK_block [Globs] [Ext P] {id : Nat} {c : Code} : RK P fn (.block id c) st k = RK P fn c st (.block id :: k) := by
  simp only [RK, eL_block]
  cases h : eL P c st with
  | none => rfl
  | some x =>
    obtain ⟨e, s⟩ := x
    cases e with
    | exit id' => by_cases hid : id' = id <;> simp [cont, hid]
    | normal => simp only [cont]
    | ret => simp only [cont]
theorem eL_loop [Globs] [Ext P] {c : Code} : eL P (.loop c) st = match eL P c st with | some (.normal, st') => eL P (.loop c) { st' with S := st'.S.take st.S.length } | r => r := by
  apply opt_ext
  intro x
  constructor
  · intro h
    obtain ⟨n, h⟩ := eL_iff.1 h
    simp only [evC] at h
    cases n with
    | zero => simp [loopA] at h
    | succ n =>
      simp only [loopA] at h
      split at h
      · rename_i s1 h1
        rw [eL_iff.2 ⟨n + 1, h1⟩]
        exact eL_iff.2 ⟨n + 1, by simp only [evC]; exact loopA_mono (fun _ _ h => h) (Nat.le_succ n) h⟩
      · rename_i hne
        rw [eL_iff.2 ⟨n + 1, h⟩]
        obtain ⟨ex, s2⟩ := x
        cases ex with
        | normal => exact absurd h (hne s2)
        | exit id => rfl
        | ret => rfl
  · intro h
    split at h
    · rename_i s1 h1
      obtain ⟨n, h1⟩ := eL_iff.1 h1
      obtain ⟨m, h⟩ := eL_iff.1 h
      simp only [evC] at h
      refine eL_iff.2 ⟨max n m + 1, ?_⟩
      simp only [evC, loopA]
      rw [evC_mono (evF_mono (show n ≤ max n m + 1 by omega)) (show n ≤ max n m + 1 by omega) _ _ _ h1]
      exact loopA_mono (fun s r => evC_mono (evF_mono (show m ≤ max n m + 1 by omega)) (show m ≤ max n m + 1 by omega) c s r) (show m ≤ max n m by omega) h
    · rename_i hne
      obtain ⟨n, h1⟩ := eL_iff.1 h
      refine eL_iff.2 ⟨n + 1, ?_⟩
      simp only [evC, loopA]
      rw [evC_mono (evF_mono (Nat.le_succ n)) (Nat.le_succ n) _ _ _ h1]
      obtain ⟨ex, s2⟩ := x
      cases ex with
      | normal => exact absurd h (hne s2)
      | exit id => rfl
      | ret => rfl
/-- one round of a loop -/
theorem RK_loop [Globs] [Ext P] {c : Code} : RK P fn (.loop c) st k = RK P fn c st (.loop c st.S.length :: k) := by
  rw [RK, eL_loop, RK]
  cases h : eL P c st with
  | none => rfl
  | some x =>
    obtain ⟨e, s⟩ := x
    cases e <;> simp only [cont]
theorem eL_region [Globs] [Ext P] {id : Nat} {ops : Array Oper} {draw : Bool} : eL P (.region id ops draw) st = if draw = true then (if drawOk st ops.toList = true then (@evOs (gM (qm ops.toList)) P (callM (qm ops.toList) P (cL P)) ops.toList ops.toList st).map fun st => (.normal, st) else none) else (evOs P (cL P) ops.toList ops.toList st).map fun st => (.normal, st) := by
  apply opt_ext
  intro x
  rw [eL_iff]
  simp only [evC]
  by_cases hd : draw = true
  · simp only [hd, if_true]
    by_cases hok : drawOk st ops.toList = true
    · simp only [hok, if_true, Option.map_eq_some_iff]
      constructor
      · rintro ⟨n, s, h1, h2⟩; exact ⟨s, evOs_mono (G := gM _) (cL_le n).pure h1, h2⟩
      · rintro ⟨s, h1, h2⟩
        obtain ⟨n, hn⟩ := evOs_cP h1
        exact ⟨n, s, hn, h2⟩
    · simp [hok]
  · simp only [hd, Option.map_eq_some_iff, Bool.false_eq_true, if_false]
    constructor
    · rintro ⟨n, s, h1, h2⟩; exact ⟨s, evOs_mono (cL_le n) h1, h2⟩
    · rintro ⟨s, h1, h2⟩
      obtain ⟨n, hn⟩ := evOs_cL h1
      exact ⟨n, s, hn, h2⟩
theorem RK_region [Globs] [Ext P] {id : Nat} {ops : Array Oper} : RK P fn (.region id ops false) st k = RO P fn false (cL P) ops.toList ops.toList st k := by
  simp only [RK, eL_region, Bool.false_eq_true, if_false]
  show _ = match evOs P (cL P) ops.toList ops.toList st with | some st' => cont P fn .normal st' k | none => none
  cases evOs P (cL P) ops.toList ops.toList st <;> rfl
theorem RK_draw [Globs] [Ext P] {id : Nat} {ops : Array Oper} (h : drawOk st ops.toList = true) : RK P fn (.region id ops true) st k = RO P fn (qm ops.toList) (callM (qm ops.toList) P (cL P)) ops.toList ops.toList st k := by
  simp only [RK, RO, eL_region, if_true, h]
  cases @evOs (gM (qm ops.toList)) P (callM (qm ops.toList) P (cL P)) ops.toList ops.toList st <;> rfl
theorem RO_nil [Globs] [Ext P] {M : Bool} {call : CallA} {all : List Oper} : RO P fn M call all [] st k = cont P fn .normal st k := rfl
theorem RO_cons [Globs] [Ext P] {M : Bool} {call : CallA} {all l : List Oper} {o : Oper} : RO P fn M call all (o :: l) st k = br (wantA all st.T o) (match @evO (gM M) P call o st with | some (v, st') => RO P fn M call all l { st' with T := putT st'.T o.dst v } k | none => none) (RO P fn M call all l { st with T := putT st.T o.dst (.prim undef) } k) := by
  simp only [RO, evOs]
  cases wantA all st.T o with
  | none => rfl
  | some b =>
    cases b with
    | false => rfl
    | true =>
      simp only [br]
      cases @evO (gM M) P call o st with
      | none => rfl
      | some x => rfl
theorem cont_seq [Globs] [Ext P] {c : Code} : cont P fn .normal st (.seq c :: k) = RK P fn c st k := rfl
theorem cont_block [Globs] [Ext P] {id : Nat} : cont P fn .normal st (.block id :: k) = cont P fn .normal st k := rfl
theorem cont_loop [Globs] [Ext P] {c : Code} {n : Nat} : cont P fn .normal st (.loop c n :: k) = RK P fn (.loop c) { st with S := st.S.take n } k := rfl
theorem cont_exit_seq [Globs] [Ext P] {c : Code} {id : Nat} : cont P fn (.exit id) st (.seq c :: k) = cont P fn (.exit id) st k := rfl
theorem cont_exit_block [Globs] [Ext P] {id id' : Nat} : cont P fn (.exit id) st (.block id' :: k) = if id = id' then cont P fn .normal st k else cont P fn (.exit id) st k := rfl
theorem cont_exit_loop [Globs] [Ext P] {c : Code} {id n : Nat} : cont P fn (.exit id) st (.loop c n :: k) = cont P fn (.exit id) st k := rfl
theorem cont_ret [Globs] [Ext P] {x : Kont} : cont P fn .ret st (x :: k) = cont P fn .ret st k := by cases x <;> rfl
theorem cont_ret_nil [Globs] [Ext P] : cont P fn .ret st [] = outA P fn (some (.ret, st)) := rfl
theorem cont_normal_nil [Globs] [Ext P] : cont P fn .normal st [] = outA P fn (some (.normal, st)) := rfl

theorem outA_lim [Globs] [Ext P] {x : Code} {r : AV × St} (h : RK P fn x st [] = some r) : ∃ n, outA P fn (evC P (evF P drawOk n) drawOk n x st) = some r := by
  unfold RK at h
  cases he : eL P x st with
  | none => rw [he] at h; simp at h
  | some z =>
    rw [he] at h
    obtain ⟨n, hn⟩ := eL_iff.1 he
    obtain ⟨e, s⟩ := z
    refine ⟨n, ?_⟩
    rw [hn]
    cases e <;> exact h
/-- a value that is a bool -/
def asB : AV → Option Bool | .prim (.bool t) => some t | _ => none
theorem asB_bool {t : Bool} : asB (.prim (.bool t)) = some t := rfl
theorem RK_if [Globs] [Ext P] {c : Operand} {a b : Code} : RK P fn (.cond c a b) st k = br (asB (opv st.T c)) (RK P fn a st k) (RK P fn b st k) := by
  rw [RK_cond]
  generalize opv st.T c = v
  cases v with
  | prim u =>
    cases u with
    | bool t => cases t <;> rfl
    | _ => rfl
  | _ => rfl
/-- the result of a function that hangs on no variable -/
def fin1 (x : Option (AV × St)) : Option AV := match x with | some (r, s) => some (w3 (fz3 0 s.S r)) | none => none
theorem fin1_some {r : AV} {s : St} : fin1 (some (r, s)) = some (w3 (fz3 0 s.S r)) := rfl
theorem fin1_ite {c : Prop} [Decidable c] {a b : Option (AV × St)} : fin1 (if c then a else b) = if c then fin1 a else fin1 b := by split <;> rfl
/-- the result of a function among its caller's variables -/
def finS (b : Nat) (x : Option (AV × St)) : Option (AV × List Ent × List Nat × Nat) := match x with | some (r, s) => some (fz3 b s.S r, s.S.take b, s.tk, s.n) | none => none
theorem finS_some {b : Nat} {r : AV} {s : St} : finS b (some (r, s)) = some (fz3 b s.S r, s.S.take b, s.tk, s.n) := rfl
theorem finS_ite {b : Nat} {c : Prop} [Decidable c] {x y : Option (AV × St)} : finS b (if c then x else y) = if c then finS b x else finS b y := by split <;> rfl
theorem fin1_br {t : Bool} {a b : Option (AV × St)} {r : AV} : fin1 (br (some t) a b) = some r ↔ (t = true → fin1 a = some r) ∧ (t = false → fin1 b = some r) := by cases t <;> simp [br]
theorem finS_br {n : Nat} {t : Bool} {a b : Option (AV × St)} {r : AV × List Ent × List Nat × Nat} : finS n (br (some t) a b) = some r ↔ (t = true → finS n a = some r) ∧ (t = false → finS n b = some r) := by cases t <;> simp [br]
theorem br_not {α : Type} {t : Bool} {a b : Option α} : br (some (!t)) a b = br (some t) b a := by cases t <;> rfl
theorem br_true {α : Type} {a b : Option α} : br (some true) a b = a := rfl
theorem br_false {α : Type} {a b : Option α} : br (some false) a b = b := rfl
/-- a loop: what holds of each round holds of all -/
theorem loop_rule [Globs] [Ext P] {ι : Type} {c : Code} (I : ι → St → Prop) (μ : ι → Nat) (G : ι → AV) (h : ∀ x st, I x st → (∀ y st', μ y < μ x → I y st' → fin1 (RK P fn (.loop c) st' k) = some (G y)) → fin1 (RK P fn c st (.loop c st.S.length :: k)) = some (G x)) {x : ι} {st : St} (h0 : I x st) : fin1 (RK P fn (.loop c) st k) = some (G x) := by
  have key : ∀ n x st, μ x = n → I x st → fin1 (RK P fn (.loop c) st k) = some (G x) := by
    intro n
    induction n using Nat.strongRecOn with
    | _ n ih =>
      intro x st hn hI
      rw [RK_loop]
      exact h x st hI fun y st' hlt hy => ih (μ y) (hn ▸ hlt) y st' rfl hy
  exact key _ x st rfl h0
theorem loop_ruleS [Globs] [Ext P] {ι : Type} {c : Code} {m : Nat} (I : ι → St → Prop) (μ : ι → Nat) (G : ι → AV × List Ent × List Nat × Nat) (h : ∀ x st, I x st → (∀ y st', μ y < μ x → I y st' → finS m (RK P fn (.loop c) st' k) = some (G y)) → finS m (RK P fn c st (.loop c st.S.length :: k)) = some (G x)) {x : ι} {st : St} (h0 : I x st) : finS m (RK P fn (.loop c) st k) = some (G x) := by
  have key : ∀ n x st, μ x = n → I x st → finS m (RK P fn (.loop c) st k) = some (G x) := by
    intro n
    induction n using Nat.strongRecOn with
    | _ n ih =>
      intro x st hn hI
      rw [RK_loop]
      exact h x st hI fun y st' hlt hy => ih (μ y) (hn ▸ hlt) y st' rfl hy
  exact key _ x st rfl h0
theorem runP_lim [Globs] [Ext P] {c : Code} {as : List AV} {r : AV} (hp3 : pure3 r = true) (h : fin1 (RK P fn c ⟨as ++ bots (fn.ntmps - as.length), [], [], 0⟩ []) = some r) : ∃ m, runP P drawOk (evF P drawOk m) m fn c as = some r := by
  rw [bots_eq] at h
  cases hr : RK P fn c ⟨as ++ List.replicate (fn.ntmps - as.length) .bot, [], [], 0⟩ [] with
  | none => rw [hr] at h; simp [fin1] at h
  | some x =>
    obtain ⟨r', s⟩ := x
    rw [hr, fin1_some] at h
    simp only [Option.some.injEq] at h
    obtain ⟨m, hm⟩ := outA_lim hr
    refine ⟨m, ?_⟩
    unfold runP
    rw [hm]
    simp only [h, hp3, if_true]
theorem runP_mono [Globs] [Ext P] {k m : Nat} (h : k ≤ m) {c : Code} {as : List AV} {r : AV} (hr : runP P drawOk (evF P drawOk k) k fn c as = some r) : runP P drawOk (evF P drawOk m) m fn c as = some r := by
  unfold runP at hr ⊢
  split at hr
  · rename_i r' s1 ho
    rw [outA_mono (fun z hz => evC_mono (evF_mono h) h c _ z hz) ho]
    exact hr
  · simp at hr
/-- a call of a function that hangs on no variable -/
theorem call_pure [Globs] [Ext P] {f : FuncId} {c : Code} (hf : P.funcs[f]? = some fn) (hx : (Ext.on P f || Ext.mv P f) = false) (hb : fn.body = some c) (hnil : nilCmp c = false) (hname : (fn.name == "runtime.NumGoroutine") = false) {args args' : List AV} {nt : Nat} (hnt : fn.ntmps = nt) (hargs : args.map w2 = args') (hp : args'.all pure2 = true) {r : AV}
    (S : List Ent) (tk : List Nat) (n : Nat) (hp3 : pure3 r = true) (h : fin1 (RK P fn c ⟨args' ++ bots (nt - args.length), [], [], 0⟩ []) = some r) : cL P f args S tk n = some (r, S, tk, n) := by
  subst hargs hnt
  obtain ⟨m, hm⟩ := runP_lim (as := args.map w2) hp3 (by rw [List.length_map]; exact h)
  refine cL_iff.2 ⟨m + 1, ?_⟩
  have hn : ¬ fn.name = "runtime.NumGoroutine" := by simpa using hname
  simp only [Bool.or_eq_false_iff] at hx
  simp only [evF, hf, hb]
  rw [if_neg (by rw [hx.1]; simp), if_neg hn, if_neg (by rw [hx.2]; simp), if_pos hp, if_neg (by rw [hnil]; simp), hm]
/-- a call of a function that asks whether its first argument is nil, with an argument that is not empty -/
theorem call_nil_cons [Globs] [Ext P] {f : FuncId} {c : Code} (hf : P.funcs[f]? = some fn) (hx : (Ext.on P f || Ext.mv P f) = false) (hb : fn.body = some c) (hnil : nilCmp c = true) (hname : (fn.name == "runtime.NumGoroutine") = false) {e : List AV} {es : List (List AV)} {args args' : List AV} {nt : Nat} (hnt : fn.ntmps = nt) (hargs : args.map w2 = .frz (e :: es) .unk :: args') (hp : (AV.frz (e :: es) .unk :: args').all pure2 = true) {r : AV}
    (S : List Ent) (tk : List Nat) (n : Nat) (hp3 : pure3 r = true) (h : fin1 (RK P fn c ⟨(.frz (e :: es) .unk :: args') ++ bots (nt - (args'.length + 1)), [], [], 0⟩ []) = some r) : cL P f args S tk n = some (r, S, tk, n) := by
  subst hnt
  obtain ⟨m, hm⟩ := runP_lim (as := .frz (e :: es) .unk :: args') hp3 h
  refine cL_iff.2 ⟨m + 1, ?_⟩
  have hn : ¬ fn.name = "runtime.NumGoroutine" := by simpa using hname
  simp only [Bool.or_eq_false_iff] at hx
  simp only [evF, hf, hb]
  rw [if_neg (by rw [hx.1]; simp), if_neg hn, if_neg (by rw [hx.2]; simp), if_pos (by rw [hargs]; exact hp), if_pos hnil, hargs]
  simp only [runN, hm]
/-- .. and with an empty one -/
theorem call_nil_nil [Globs] [Ext P] {f : FuncId} {c : Code} (hf : P.funcs[f]? = some fn) (hx : (Ext.on P f || Ext.mv P f) = false) (hb : fn.body = some c) (hnil : nilCmp c = true) (hname : (fn.name == "runtime.NumGoroutine") = false) {args args' : List AV} {nt : Nat} (hnt : fn.ntmps = nt) (hargs : args.map w2 = .frz [] .unk :: args') (hp : args'.all pure2 = true)
    (S : List Ent) (tk : List Nat) (n : Nat) (h1 : fin1 (RK P fn c ⟨(.frz [] .nl :: args') ++ bots (nt - (args'.length + 1)), [], [], 0⟩ []) = some (.frz [] .unk)) (h2 : fin1 (RK P fn c ⟨(.frz [] .nn :: args') ++ bots (nt - (args'.length + 1)), [], [], 0⟩ []) = some (.frz [] .unk)) : cL P f args S tk n = some (.frz [] .unk, S, tk, n) := by
  subst hnt
  obtain ⟨m1, hm1⟩ := runP_lim (as := .frz [] .nl :: args') rfl h1
  obtain ⟨m2, hm2⟩ := runP_lim (as := .frz [] .nn :: args') rfl h2
  refine cL_iff.2 ⟨max m1 m2 + 1, ?_⟩
  have hn : ¬ fn.name = "runtime.NumGoroutine" := by simpa using hname
  simp only [Bool.or_eq_false_iff] at hx
  simp only [evF, hf, hb]
  rw [if_neg (by rw [hx.1]; simp), if_neg hn, if_neg (by rw [hx.2]; simp), if_pos (by rw [hargs]; simpa [pure2, pure1] using hp), if_pos hnil, hargs]
  simp only [runN, runP_mono (Nat.le_max_left m1 m2) hm1, runP_mono (Nat.le_max_right m1 m2) hm2]
theorem call_shared [Globs] [Ext P] {f : FuncId} {c : Code} (hf : P.funcs[f]? = some fn) (hx : (Ext.on P f || Ext.mv P f) = false) (hb : fn.body = some c) (hname : (fn.name == "runtime.NumGoroutine") = false) {args : List AV} {nt : Nat} (hnt : fn.ntmps = nt) (hp : (args.map w2).all pure2 = false) {S : List Ent} {tk : List Nat} {n : Nat} {r : AV × List Ent × List Nat × Nat}
    (h : finS S.length (RK P fn c ⟨args ++ bots (nt - args.length), S, tk, n⟩ []) = some r) : cL P f args S tk n = some r := by
  subst hnt
  rw [bots_eq] at h
  cases hr : RK P fn c ⟨args ++ List.replicate (fn.ntmps - args.length) .bot, S, tk, n⟩ [] with
  | none => rw [hr] at h; simp [finS] at h
  | some x =>
    obtain ⟨r', s⟩ := x
    rw [hr, finS_some] at h
    obtain ⟨m, hm⟩ := outA_lim hr
    refine cL_iff.2 ⟨m + 1, ?_⟩
    have hn : ¬ fn.name = "runtime.NumGoroutine" := by simpa using hname
    simp only [Bool.or_eq_false_iff] at hx
    simp only [evF, hf, hb]
    rw [if_neg (by rw [hx.1]; simp), if_neg hn, if_neg (by rw [hx.2]; simp), if_neg (by rw [hp]; simp), hm]
    exact h
/-- a function whose own variables become the caller's -/
def finM (x : Option (AV × St)) : Option (AV × List Ent × List Nat × Nat) := match x with | some (r, s) => some (r, s.S, s.tk, s.n) | none => none
theorem finM_some {r : AV} {s : St} : finM (some (r, s)) = some (r, s.S, s.tk, s.n) := rfl
theorem finM_br {t : Bool} {a b : Option (AV × St)} {r : AV × List Ent × List Nat × Nat} : finM (br (some t) a b) = some r ↔ (t = true → finM a = some r) ∧ (t = false → finM b = some r) := by cases t <;> simp [br]
theorem call_mv [Globs] [Ext P] {f : FuncId} {c : Code} (hf : P.funcs[f]? = some fn) (hx : (!Ext.on P f && Ext.mv P f) = true) (hb : fn.body = some c) (hname : (fn.name == "runtime.NumGoroutine") = false) {args : List AV} {nt : Nat} (hnt : fn.ntmps = nt) {S : List Ent} {tk : List Nat} {n : Nat} {r : AV × List Ent × List Nat × Nat}
    (h : finM (RK P fn c ⟨args ++ bots (nt - args.length), S, tk, n⟩ []) = some r) : cL P f args S tk n = some r := by
  subst hnt
  rw [bots_eq] at h
  cases hr : RK P fn c ⟨args ++ List.replicate (fn.ntmps - args.length) .bot, S, tk, n⟩ [] with
  | none => rw [hr] at h; simp [finM] at h
  | some x =>
    obtain ⟨r', s⟩ := x
    rw [hr, finM_some] at h
    obtain ⟨m, hm⟩ := outA_lim hr
    refine cL_iff.2 ⟨m + 1, ?_⟩
    have hn : ¬ fn.name = "runtime.NumGoroutine" := by simpa using hname
    simp only [Bool.and_eq_true, Bool.not_eq_true'] at hx
    simp only [evF, hf, hb]
    rw [if_neg (by rw [hx.1]; simp), if_neg hn, if_pos hx.2, hm]
    exact h
/-- a function told from outside -/
theorem call_ext [Globs] [Ext P] {f : FuncId} (hf : Ext.on P f = true) {args : List AV} {S : List Ent} {tk : List Nat} {n : Nat} {r : AV × List Ent × List Nat × Nat} (h : Ext.call P f args S tk n = some r) : cL P f args S tk n = some r := by
  refine cL_iff.2 ⟨1, ?_⟩
  rw [evF_ext hf]
  unfold extC
  rw [if_pos hf]; exact h
/-- what is shown of a call of the evaluator holds of the model -/
theorem calls_of [Ext P] [Globs] [ExtOk P] {f : FuncId} {args : List AV} {S : List Ent} {tk : List Nat} {n : Nat} {r : AV} {S' : List Ent} {tk' : List Nat} {n' : Nat} (hm : P.follows .mixedOrders = true) (h : cL P f args S tk n = some (r, S', tk', n')) {C : Cx} {vs : Array Value} (h1 : C.S = S) (h2 : C.tk = tk) (h3 : C.n = n) (hs : SR C) (hv : VRs C args vs.toList) :
    Calls P f vs C.w fun e w' => ∃ v C', e = .returned v ∧ C'.w = w' ∧ Le C C' ∧ SR C' ∧ C'.S = S' ∧ C'.tk = tk' ∧ C'.n = n' ∧ VR C' r v := by
  obtain ⟨k, hk⟩ := cL_iff.1 h
  exact (evF_sound (drawOk_sound hm) k _ _ _ _ _ _ _ _ _ hk).2 C vs h1 h2 h3 hs hv
end
end Go.Proofs.YtokncdoejnchfaaDoor
