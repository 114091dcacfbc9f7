/-
  Texts laid together: EvDraw, EvLim.
-/
import Derived.Test.YtkghgdkkholieaaZL6
/-
  Regions whose order is drawn: where a test of their text says so, each order gives what the text's order gives.
-/

namespace Go.Proofs.Ytkghgdkkholieaa
open Go.RowKit

section
/-- it reads variables, it writes variables, it appends -/
def rdS (o : Oper) : Bool := match o.op with | .load _ _ => true | _ => false
def wrS [Globs] (o : Oper) : Bool := match o.op with | .store _ _ _ | .alloc _ | .box _ _ => true | .makeSlice _ l _ => !growL o l | .call c => (match c.callee with | .builtin .copy => true | .value (.func f) => shF f | .value _ => Globs.shAny | _ => false) | _ => false
def wrT (o : Oper) : Bool := match o.op with | .makeSlice _ l _ => growL o l | .call c => (match c.callee with | .builtin .append => true | _ => false) | _ => false
/-- it may look at all variables -/
def rdA [Globs] (o : Oper) : Bool := match o.op with | .call c => (match c.callee with | .value (.func f) => shF f | .value _ => Globs.shAny | .builtin .append => Globs.shAny | _ => false) | _ => false
def conf [Globs] (p o : Oper) : Bool := (wrS p && wrS o) || (wrT p && wrT o) || (rdA p && (wrS o || wrT o)) || ((wrS p || wrT p) && rdA o)
/-- nothing in the region writes this slot -/
def unwr (ops : Array Oper) (t : Tmp) : Bool := (List.range ops.size).all fun j => dstOf ops j != some t
/-- what a load looks at, if that can be seen: nothing that can be written, or this variable -/
def ldBase (st : St) (ops : Array Oper) (i : Nat) (o : Oper) : Option (Option Nat) :=
  match o.op with
  | .load _ (.tmp q) =>
    if unwr ops q = true then (match getT st.T q with | .ref id _ _ => if id < st.S.length then some (some id) else none | .fptr _ => some none | _ => none)
    else ((List.range i).findSome? fun (m : Nat) => match (ops[m]? : Option Oper) with
      | some o' => (match o'.dst, o'.op with
        | some d, .fieldAddr _ (.tmp x) _ => if d = q ∧ unwr ops x = true then (match getT st.T x with | .ref id _ _ => if id < st.S.length then some (some id) else none | .fptr _ => some none | _ => none) else none
        | _, _ => none)
      | none => none)
  | _ => none
/-- what is written does not touch what is looked at -/
def apartS (st : St) (ops : Array Oper) (i : Nat) (o p : Oper) : Bool :=
  match ldBase st ops i o with
  | none => false
  | some none => true
  | some (some id) => match p.op with
    | .store _ (.tmp q) _ => unwr ops q && (match getT st.T q with | .ref id' _ _ => decide (id ≠ id') | _ => false)
    | .alloc _ => true
    | .box _ _ => true
    | .makeSlice _ _ _ => true
    | .call c => (match c.callee with | .value _ => true | _ => false)
    | _ => false
/-- it makes a variable: what is there is left alone -/
def isMkS (o : Oper) : Bool := match o.op with | .alloc _ | .box _ _ | .makeSlice _ _ _ => true | _ => false
def opOk (ops : Array Oper) (i : Nat) (o : Oper) : Bool :=
  (match o.op with | .select .. => false | _ => true) && (depsOf ops i).all (fun j => decide (j < i)) &&
  (match o.guard with | none => true | some (g, _) => (depsOf ops i).contains g) &&
  (o.dst.all fun d => (List.range i).all fun j => dstOf ops j != some d) &&
  (o.op.operands.all fun x => match x with
    | .tmp t => (List.range ops.size).all fun j => dstOf ops j != some t || j == i || (reachAt ops i).contains j || (reachAt ops j).contains i
    | _ => true)
def isAl (o : Oper) : Bool := (match o.op with | .alloc _ => true | _ => false) && o.guard.isNone
/-- two variables are made in an order that is drawn; what comes behind waits for both or for none -/
def pairAt (ops : Array Oper) (j i : Nat) : Bool :=
  decide (i = j + 1) && (match ops[j]?, ops[i]? with | some p, some o => isAl p && isAl o | _, _ => false) &&
  (List.range ops.size).all fun k => k == j || k == i || (reachAt ops k).contains j == (reachAt ops k).contains i
def drawOk0 [Globs] (st : St) (L : List Oper) : Bool :=
  (List.range L.length).all fun i => match L.toArray[i]? with
    | none => false
    | some o => opOk L.toArray i o && (List.range i).all fun j => match L.toArray[j]? with
      | none => false
      | some p => (!conf p o && !(wrS p && rdS o) && !(rdS p && wrS o)) || (reachAt L.toArray i).contains j || (!conf p o && (if rdS o = true then apartS st L.toArray i o p else (isMkS o || apartS st L.toArray j p o))) || pairAt L.toArray j i

def drawOk [Globs] (st : St) (L : List Oper) : Bool := @drawOk0 (gM (qm L)) st L
theorem SR_M [Globs] {C : Cx} : ∀ {M : Bool}, @SR (gM M) C ↔ SR C
  | false => Iff.rfl
  | true => ⟨fun h => ⟨@SR.ent (gM true) _ h, @SR.ne (gM true) _ h, @SR.tok (gM true) _ h, @SR.apart (gM true) _ h, @SR.own (gM true) _ h, @SR.avlt (gM true) _ h, @SR.tlt (gM true) _ h, @SR.glob (gM true) _ h⟩, fun h => @SR.mk (gM true) _ h.ent h.ne h.tok h.apart h.own h.avlt h.tlt h.glob⟩
theorem Rel_M [Globs] {C : Cx} {st : St} {a : Act} {M : Bool} : @Rel (gM M) C st a ↔ Rel C st a :=
  ⟨fun h => ⟨@Rel.S (gM M) _ _ _ h, @Rel.tk (gM M) _ _ _ h, @Rel.n (gM M) _ _ _ h, @Rel.tmps (gM M) _ _ _ h, @Rel.defers (gM M) _ _ _ h, SR_M.1 (@Rel.sr (gM M) _ _ _ h)⟩, fun h => @Rel.mk (gM M) _ _ _ h.S h.tk h.n h.tmps h.defers (SR_M.2 h.sr)⟩
theorem CallOk_M [Globs] {P : Program} {call : CallA} {M : Bool} (h : CallOk P call) : @CallOk (gM M) P call := by
  intro f args S tk n r S' tk' n' e
  refine ⟨(h _ _ _ _ _ _ _ _ _ e).1, fun C vs h1 h2 h3 hs hv => ((h _ _ _ _ _ _ _ _ _ e).2 C vs h1 h2 h3 (SR_M.1 hs) hv).mono ?_⟩
  rintro e w' ⟨v, C', g1, g2, g3, g4, g5⟩
  exact ⟨v, C', g1, g2, g3, SR_M.2 g4, g5⟩
theorem getD_set_ne' {l : Array Bool} {i j : Nat} {b d : Bool} (h : i ≠ j) : (l.setIfInBounds i b).getD j d = l.getD j d := by
  simp [Array.getD_eq_getD_getElem?, Array.getElem?_setIfInBounds_ne h]
theorem getD_set_same' {l : Array Bool} {i : Nat} {b d : Bool} (h : i < l.size) : (l.setIfInBounds i b).getD i d = b := by
  simp [Array.getD, h]
theorem cpA_len {P : Program} {t : TypeId} {d s : AV} {S S' : List Ent} {n : Nat} (h : cpA P t d s S = some (n, S')) : S'.length = S.length := by
  unfold cpA at h
  split at h
  · split at h
    · split at h
      · split at h
        · split at h
          · simp only [Option.some.injEq, Prod.mk.injEq] at h
            obtain ⟨-, rfl⟩ := h
            exact put_len
          · simp at h
        · simp at h
      · simp at h
    · simp at h
  · simp at h
theorem stA_other {P : Program} {t : TypeId} {v : AV} {S S' : List Ent} {i e o id : Nat} (h : stA P t (.ref i e o) v S = some S') (hne : i ≠ id) : nth S' id = nth S id := by
  unfold stA at h
  cases h1 : szOf P t with
  | none => rw [h1] at h; simp at h
  | some sz =>
    cases h2 : cellsOf v with
    | none => rw [h1, h2] at h; simp at h
    | some vs =>
      rw [h1, h2] at h
      simp only at h
      split at h
      · cases h3 : entAt S i e with
        | none => rw [h3] at h; simp at h
        | some cs =>
          rw [h3] at h
          simp only at h
          cases h4 : over cs o vs with
          | none => rw [h4] at h; simp at h
          | some cs' => rw [h4] at h; simp only [Option.some.injEq] at h; subst h; exact nth_put_other hne
      · simp at h
variable {P : Program} {ops : Array Oper}
theorem unlisted_false {listed : Array Bool} {i : Nat} (h : listed.getD i true = false) : listed.getD i false = false ∧ i < listed.size := by
  by_cases hi : i < listed.size
  · exact ⟨by simpa [Array.getD, hi] using h, hi⟩
  · simp [Array.getD, hi] at h
def unlistedCount (listed : Array Bool) (n : Nat) : Nat := (List.range n).countP fun j => listed.getD j false = false
theorem unlisted_set {listed : Array Bool} {n i : Nat} (hi : i < n) (hl : listed.size = n) (hu : listed.getD i false = false) : unlistedCount (listed.setIfInBounds i true) n + 1 ≤ unlistedCount listed n := by
  have key : ∀ (l : List Nat), l.Nodup → (l.countP fun j => (listed.setIfInBounds i true).getD j false = false) + (if i ∈ l then 1 else 0) = l.countP fun j => listed.getD j false = false := by
    intro l
    induction l with
    | nil => intro _; simp
    | cons x l ih =>
      intro hn
      rw [List.nodup_cons] at hn
      have ih := ih hn.2
      by_cases e : x = i
      · subst e
        have h1 : (listed.setIfInBounds x true).getD x false = true := getD_set_same' (by omega)
        rw [List.countP_cons, List.countP_cons, h1, hu, if_neg hn.1] at *
        simp at ih ⊢
        omega
      · have h1 : (listed.setIfInBounds i true).getD x false = listed.getD x false := getD_set_ne' (fun y => e y.symm)
        rw [List.countP_cons, List.countP_cons, h1]
        have : (i ∈ x :: l) ↔ i ∈ l := by rw [List.mem_cons]; exact ⟨fun h => h.resolve_left fun y => e y.symm, .inr⟩
        simp only [this]
        omega
  have := key (List.range n) List.nodup_range
  rw [if_pos (by simpa using hi)] at this
  unfold unlistedCount
  omega

theorem evQ_congr {o : Oper} {ρ ρ' : Operand → AV} (h : ∀ x ∈ o.op.operands, ρ x = ρ' x) : evQ P o ρ = evQ P o ρ' := by
  obtain ⟨dst, op, type, pos, after, guard⟩ := o
  have pairs : ∀ ps : Array (Nat × Operand), (∀ x ∈ ps.map (·.2), ρ x = ρ' x) → (ps.toList.map fun (i, x) => (i, ρ x)) = (ps.toList.map fun (i, x) => (i, ρ' x)) := fun ps hp =>
    List.map_congr_left fun p hm => by
      obtain ⟨i, x⟩ := p
      simp only [hp x (Array.mem_map.2 ⟨(i, x), by simpa using hm, rfl⟩)]
  have lists : ∀ xs : Array Operand, (∀ x ∈ xs, ρ x = ρ' x) → xs.toList.map ρ = xs.toList.map ρ' := fun xs hx => List.map_congr_left fun x hm => hx x (by simpa using hm)
  cases op <;> simp only [Op.operands] at h <;> simp only [evQ]
  case build t ps => rw [pairs ps fun x hx => h x (by simpa using hx)]
  case buildSlice t n ps => rw [pairs ps fun x hx => h x (by simpa using hx)]
  case slice t x lo hi mx => cases lo <;> cases hi <;> cases mx <;> simp_all
  case makeFunc fn first caps =>
    have h1 := lists caps fun x hx => h x (by simp [hx])
    have h2 : (caps.toList.all fun x => capsOk (ρ x)) = (caps.toList.all fun x => capsOk (ρ' x)) := by
      have : ∀ f : Operand → AV, (caps.toList.all fun x => capsOk (f x)) = (caps.toList.map f).all capsOk := fun f => by rw [List.all_map]; rfl
      rw [this, this, h1]
    have h3 := lists first fun x hx => h x (by simp [hx])
    cases fn with
    | func f => simp only [h1, h2, h3]
    | _ => rfl
  case call c =>
    have h1 := lists c.args fun x hx => h x (by simp [Call.operands, hx])
    rw [h1]
  all_goals first | rfl | (simp_all; done) | skip

/-- an operation of which this is all that it looks at and turns -/
def FrameO [Globs] (P : Program) (call : CallA) (o : Oper) (s s' : St) (v : AV) : Prop :=
    s'.T = s.T ∧ (wrS o = false → s'.S = s.S ∧ s'.n = s.n) ∧ (wrT o = false → s'.tk = s.tk) ∧
    ∀ s2 : St, (∀ x ∈ o.op.operands, opv s2.T x = opv s.T x) → (∀ t x id ep off, o.op = .load t x → opv s.T x = .ref id ep off → nth s2.S id = nth s.S id) → (wrS o = true → s2.S = s.S ∧ s2.n = s.n) → (wrT o = true → s2.tk = s.tk) → (rdA o = true → s2.S = s.S ∧ s2.n = s.n ∧ s2.tk = s.tk) →
      ∃ s2', evO P call o s2 = some (v, s2') ∧ s2'.T = s2.T ∧ (wrS o = true → s2'.S = s'.S ∧ s2'.n = s'.n) ∧ (wrS o = false → s2'.S = s2.S ∧ s2'.n = s2.n) ∧ (wrT o = true → s2'.tk = s'.tk) ∧ (wrT o = false → s2'.tk = s2.tk)
theorem frame_quiet [Globs] {call : CallA} {o : Oper} {s s' : St} {v v' : AV} (hq : evQ P o (opv s.T) = some v') (e : (v', s) = (v, s')) (hw : wrS o = false) (ht : wrT o = false) (hev : ∀ s2 : St, evO P call o s2 = (evQ P o (opv s2.T)).map fun v => (v, s2)) : FrameO P call o s s' v := by
  simp only [Prod.mk.injEq] at e
  obtain ⟨rfl, rfl⟩ := e
  exact ⟨rfl, fun _ => ⟨rfl, rfl⟩, fun _ => rfl, fun s2 h2 _ _ _ _ => ⟨s2, by rw [hev, evQ_congr h2, hq]; rfl, rfl, fun h => by rw [hw] at h; simp at h, fun _ => ⟨rfl, rfl⟩, fun h => by rw [ht] at h; simp at h, fun _ => rfl⟩⟩
theorem evO_frame [Globs] {call : CallA} (hi : IndepC call) {o : Oper} {s s' : St} {v : AV} (hsel : (match o.op with | .select .. => false | _ => true) = true) (h : evO P call o s = some (v, s')) : FrameO P call o s s' v := by
  obtain ⟨dst, op, type, pos, after, guard⟩ := o
  cases op
  case load t x =>
    simp only [evO, Option.map_eq_some_iff, Prod.mk.injEq] at h
    obtain ⟨u, h, rfl, rfl⟩ := h
    refine ⟨rfl, fun _ => ⟨rfl, rfl⟩, fun _ => rfl, fun s2 h2 hR _ _ _ => ⟨s2, ?_, rfl, by simp [wrS], fun _ => ⟨rfl, rfl⟩, by simp [wrT], fun _ => rfl⟩⟩
    have e : ldA P t (opv s.T x) s2.S = ldA P t (opv s.T x) s.S := by
      unfold ldA
      cases hx : opv s.T x with
      | ref id ep off =>
        have : entAt s2.S id ep = entAt s.S id ep := by unfold entAt; rw [hR t x id ep off rfl hx]
        simp only [this]
      | _ => rfl
    simp only [evO, h2 x (by simp [Op.operands]), e, h, Option.map_some]
  case store t x y =>
    simp only [evO, Option.map_eq_some_iff, Prod.mk.injEq] at h
    obtain ⟨u, h, rfl, rfl⟩ := h
    refine ⟨rfl, by simp [wrS], fun _ => rfl, fun s2 h2 _ hS _ _ => ⟨{ s2 with S := u }, ?_, rfl, fun _ => ⟨rfl, (hS (by simp [wrS])).2⟩, by simp [wrS], by simp [wrT], fun _ => rfl⟩⟩
    simp only [evO, h2 x (by simp [Op.operands]), h2 y (by simp [Op.operands]), (hS (by simp [wrS])).1, h, Option.map_some]
  case alloc t =>
    simp only [evO, Option.map_eq_some_iff, Prod.mk.injEq] at h
    obtain ⟨u, h, rfl, rfl⟩ := h
    refine ⟨rfl, by simp [wrS], fun _ => rfl, fun s2 h2 _ hS _ _ => ?_⟩
    obtain ⟨e1, e2⟩ := hS (by simp [wrS])
    exact ⟨{ s2 with S := s2.S ++ [⟨s2.n, u⟩], n := s2.n + 1 }, by simp only [evO, h, Option.map_some, e1, e2], rfl, fun _ => by simp [e1, e2], by simp [wrS], by simp [wrT], fun _ => rfl⟩
  case box t x =>
    simp only [evO, Option.map_eq_some_iff, Prod.mk.injEq] at h
    obtain ⟨u, h, rfl, rfl⟩ := h
    refine ⟨rfl, by simp [wrS], fun _ => rfl, fun s2 h2 _ hS _ _ => ?_⟩
    obtain ⟨e1, e2⟩ := hS (by simp [wrS])
    exact ⟨{ s2 with S := s2.S ++ [⟨s2.n, u⟩], n := s2.n + 1 }, by simp only [evO, h2 x (by simp [Op.operands]), h, Option.map_some, e1, e2], rfl, fun _ => by simp [e1, e2], by simp [wrS], by simp [wrT], fun _ => rfl⟩
  case makeSlice t l c =>
    simp only [evO, Option.map_eq_some_iff, Prod.exists] at h
    obtain ⟨l', sz, cs, h, hh⟩ := h
    split at hh
    · rename_i hl
      simp only [Prod.mk.injEq] at hh
      obtain ⟨rfl, rfl⟩ := hh
      refine ⟨rfl, fun _ => ⟨rfl, rfl⟩, by simp [wrT, hl], fun s2 h2 _ _ hT _ => ?_⟩
      have e := hT (by simp [wrT, hl])
      exact ⟨{ s2 with tk := s2.tk ++ [0] }, by simp only [evO, h2 l (by simp [Op.operands]), h2 c (by simp [Op.operands]), h, Option.map_some, hl, if_true, e], rfl, by simp [wrS, hl], fun _ => ⟨rfl, rfl⟩, fun _ => by simp [e], by simp [wrT, hl]⟩
    · rename_i hl
      simp only [Prod.mk.injEq] at hh
      obtain ⟨rfl, rfl⟩ := hh
      have hl' : growL ⟨dst, .makeSlice t l c, type, pos, after, guard⟩ l = false := by simpa using hl
      refine ⟨rfl, by simp [wrS, hl'], fun _ => rfl, fun s2 h2 _ hS _ _ => ?_⟩
      obtain ⟨e1, e2⟩ := hS (by simp [wrS, hl'])
      exact ⟨{ s2 with S := s2.S ++ [⟨s2.n, cs⟩], n := s2.n + 1 }, by simp only [evO, h2 l (by simp [Op.operands]), h2 c (by simp [Op.operands]), h, Option.map_some, hl', e1, e2]; rfl, rfl, fun _ => by simp [e1, e2], by simp [wrS, hl'], by simp [wrT, hl'], fun _ => rfl⟩
  case call c =>
    have hargs : ∀ s2 : St, (∀ x ∈ (Op.call c).operands, opv s2.T x = opv s.T x) → c.args.toList.map (opv s2.T) = c.args.toList.map (opv s.T) := fun s2 h2 => List.map_congr_left fun x hx => h2 x (by simp [Op.operands, Call.operands]; right; simpa using hx)
    cases hcal : c.callee with
    | builtin b =>
      by_cases hb : b = .append
      · subst hb
        simp only [evO, hcal] at h
        split at h
        · rename_i x y t t' hxy ht
          split at h
          · rename_i htt
            simp only [Option.map_eq_some_iff, Prod.mk.injEq, Prod.exists] at h
            obtain ⟨u, tk', h, rfl, rfl⟩ := h
            refine ⟨rfl, fun _ => ⟨rfl, rfl⟩, by simp [wrT, hcal], fun s2 h2 _ _ hT hA => ⟨{ s2 with tk := tk' }, ?_, rfl, by simp [wrS, hcal], fun _ => ⟨rfl, rfl⟩, fun _ => rfl, by simp [wrT, hcal]⟩⟩
            have e := hT (by simp [wrT, hcal])
            have hS2 : apB1 P t x y s.tk s2.S = apB1 P t x y s.tk s.S := by
              cases hsh : (Globs.shAny : Bool) with
              | true => rw [(hA (by simp [rdA, hcal, hsh])).1]
              | false => unfold apB1; simp [hsh]
            simp only [evO, hcal, hargs s2 h2, hxy, ht, htt, if_true, e]
            subst htt
            rw [hS2]
            simp only [h, Option.map_some]
          · rename_i htt
            simp only [Option.map_eq_some_iff, Prod.mk.injEq, Prod.exists] at h
            obtain ⟨u, tk', h, rfl, rfl⟩ := h
            refine ⟨rfl, fun _ => ⟨rfl, rfl⟩, by simp [wrT, hcal], fun s2 h2 _ _ hT _ => ⟨{ s2 with tk := tk' }, ?_, rfl, by simp [wrS, hcal], fun _ => ⟨rfl, rfl⟩, fun _ => rfl, by simp [wrT, hcal]⟩⟩
            have e := hT (by simp [wrT, hcal])
            simp only [evO, hcal, hargs s2 h2, hxy, ht, e, if_neg htt, h, Option.map_some]
        · simp at h
      · by_cases hb2 : b = .copy
        · subst hb2
          simp only [evO, hcal] at h
          split at h
          · rename_i x y t t' hxy ht
            simp only [Option.map_eq_some_iff, Prod.mk.injEq, Prod.exists] at h
            obtain ⟨m, S', h, rfl, rfl⟩ := h
            refine ⟨rfl, by simp [wrS, hcal], fun _ => rfl, fun s2 h2 _ hS _ _ => ⟨{ s2 with S := S' }, ?_, rfl, fun _ => ⟨rfl, (hS (by simp [wrS, hcal])).2⟩, by simp [wrS, hcal], by simp [wrT, hcal], fun _ => rfl⟩⟩
            simp only [evO, hcal, hargs s2 h2, hxy, ht, (hS (by simp [wrS, hcal])).1, h, Option.map_some]
          · simp at h
        · have hev : ∀ s2 : St, evO P call ⟨dst, .call c, type, pos, after, guard⟩ s2 = (evQ P ⟨dst, .call c, type, pos, after, guard⟩ (opv s2.T)).map fun v => (v, s2) := by
            intro s2
            simp only [evO, hcal]
          rw [hev] at h
          simp only [Option.map_eq_some_iff] at h
          obtain ⟨v', h1, h2⟩ := h
          exact frame_quiet h1 h2 (by cases b <;> simp [wrS, hcal] at hb2 ⊢) (by cases b <;> simp [wrT, hcal] at hb ⊢) hev
    | value fx =>
      simp only [evO, hcal] at h
      split at h
      · rename_i f args hca
        simp only [Option.map_eq_some_iff, Prod.mk.injEq, Prod.exists] at h
        obtain ⟨r, S', tk', n', h, rfl, rfl⟩ := h
        have hca2 : ∀ s2 : St, (∀ x ∈ (Op.call c).operands, opv s2.T x = opv s.T x) → calleeA s2.T c = some (f, args) := by
          intro s2 h2
          rw [← hca]
          unfold calleeA
          rw [hcal]
          simp only [hargs s2 h2, h2 fx (by simp [Op.operands, Call.operands, hcal])]
        obtain ⟨rfl, rfl, hin⟩ := hi _ _ _ _ _ _ _ _ _ h
        by_cases hsh : shF f = true
        · have hany : (Globs.shAny : Bool) = true := by unfold shF at hsh; simp only [Bool.and_eq_true] at hsh; exact hsh.1
          have hfx : ∀ g, fx = .func g → g = f := by
            rintro g rfl
            unfold calleeA at hca
            rw [hcal] at hca
            simp only [opv, Option.some.injEq, Prod.mk.injEq] at hca
            exact hca.1
          have hrd : rdA ⟨dst, .call c, type, pos, after, guard⟩ = true := by
            simp only [rdA, hcal]
            cases fx with
            | func g => simp only [hfx g rfl]; exact hsh
            | _ => exact hany
          have hwr : wrS ⟨dst, .call c, type, pos, after, guard⟩ = true := by
            simp only [wrS, hcal]
            cases fx with
            | func g => simp only [hfx g rfl]; exact hsh
            | _ => exact hany
          refine ⟨rfl, fun hw => by rw [hwr] at hw; simp at hw, fun _ => rfl, fun s2 h2 _ _ _ hA => ?_⟩
          obtain ⟨a1, a2, a3⟩ := hA hrd
          refine ⟨{ s2 with n := n' }, ?_, rfl, fun _ => ⟨a1, rfl⟩, fun hw => by rw [hwr] at hw; simp at hw, by simp [wrT, hcal], fun _ => rfl⟩
          simp only [evO, hcal, hca2 s2 h2]
          rw [a1, a2, a3, h]
          simp only [Option.map_some, ← a1, ← a3]
        · obtain ⟨hnn, hin2⟩ := hin.resolve_left hsh
          subst hnn
          refine ⟨rfl, fun _ => ⟨rfl, rfl⟩, fun _ => rfl, fun s2 h2 _ hS _ _ => ⟨s2, ?_, rfl, fun hw => ?_, fun _ => ⟨rfl, rfl⟩, by simp [wrT, hcal], fun _ => rfl⟩⟩
          · simp only [evO, hcal, hca2 s2 h2, hin2 s2.S s2.tk s2.n, Option.map_some]
          · exact hS hw
      · simp at h
    | invoke rx m =>
      simp only [evO, hcal, calleeA] at h
      simp at h
  all_goals first
    | (simp at hsel; done)
    | (simp only [evO, Option.map_eq_some_iff] at h
       obtain ⟨v', h1, h2⟩ := h
       exact frame_quiet h1 h2 rfl rfl (fun s2 => by simp only [evO]))

/-- one step of the text's order -/
def StepT [Globs] (P : Program) (call : CallA) (all : List Oper) (o : Oper) (s s' : St) (v : AV) : Prop :=
  (wantA all s.T o = some false ∧ v = .prim undef ∧ s' = { s with T := putT s.T o.dst v }) ∨ (wantA all s.T o = some true ∧ ∃ s1, evO P call o s = some (v, s1) ∧ s' = { s1 with T := putT s1.T o.dst v })
theorem seq_of [Globs] {call : CallA} {all : List Oper} : ∀ {l : List Oper} {st st' : St}, evOs P call all l st = some st' → ∃ (sts : Nat → St) (val : Nat → AV), sts 0 = st ∧ sts l.length = st' ∧ ∀ (i : Nat) o, l[i]? = some o → StepT P call all o (sts i) (sts (i + 1)) (val i)
  | [], st, st', h => by
    simp only [evOs, Option.some.injEq] at h; subst h
    exact ⟨fun _ => st, fun _ => .bot, rfl, rfl, by simp⟩
  | o :: l, st, st', h => by
    have key : ∀ {s1 : St} {v : AV}, StepT P call all o st s1 v → evOs P call all l s1 = some st' → ∃ (sts : Nat → St) (val : Nat → AV), sts 0 = st ∧ sts (o :: l).length = st' ∧ ∀ (i : Nat) o', (o :: l)[i]? = some o' → StepT P call all o' (sts i) (sts (i + 1)) (val i) := by
      intro s1 v hs h
      obtain ⟨sts, val, h1, h2, h3⟩ := seq_of h
      refine ⟨fun | 0 => st | i + 1 => sts i, fun | 0 => v | i + 1 => val i, rfl, h2, fun i o' ho => ?_⟩
      cases i with
      | zero =>
        simp only [List.getElem?_cons_zero, Option.some.injEq] at ho; subst ho
        show StepT P call all o st (sts 0) v
        rw [h1]; exact hs
      | succ i => exact h3 i o' (by simpa using ho)
    simp only [evOs] at h
    split at h
    · simp at h
    · rename_i hw
      exact key (.inl ⟨hw, rfl, rfl⟩) h
    · rename_i hw
      split at h
      · rename_i v s1 ho
        exact key (.inr ⟨hw, s1, ho, rfl⟩) h
      · simp at h
theorem putT_length (T : List AV) (d : Option Tmp) (v : AV) : (putT T d v).length = T.length := by
  cases d <;> simp [putT, put_len]
theorem getT_put_same : ∀ {T : List AV} {d : Nat} {v : AV}, d < T.length → getT (put T d v) d = v
  | _ :: _, 0, _, _ => rfl
  | _ :: T, d + 1, v, h => getT_put_same (T := T) (by simpa using h)
  | [], _, _, h => by simp at h
theorem getT_put_other : ∀ {T : List AV} {d t : Nat} {v : AV}, d ≠ t → getT (put T d v) t = getT T t
  | _ :: _, 0, 0, _, h => absurd rfl h
  | _ :: _, 0, _ + 1, _, _ => rfl
  | _ :: _, _ + 1, 0, _, _ => rfl
  | _ :: T, d + 1, t + 1, v, h => getT_put_other (T := T) (by omega)
  | [], _, _, _, _ => rfl
theorem getT_ext : ∀ {T T' : List AV}, T.length = T'.length → (∀ t, getT T t = getT T' t) → T = T'
  | [], [], _, _ => rfl
  | x :: T, y :: T', h, hg => by
    have h0 := hg 0
    simp only [getT] at h0
    rw [h0, getT_ext (T := T) (T' := T') (by simpa using h) fun t => hg (t + 1)]
  | [], _ :: _, h, _ => by simp at h
  | _ :: _, [], h, _ => by simp at h
/-- the least operation of a kind that has not come yet -/
def IsCur (w : Nat → Bool) (listed : Array Bool) (n c : Nat) : Prop := c ≤ n ∧ (∀ j, j < c → w j = true → listed.getD j false = true) ∧ (c < n → w c = true ∧ listed.getD c false = false)
theorem cur_from (w : Nat → Bool) (listed : Array Bool) (n : Nat) : ∀ k c, n - c ≤ k → c ≤ n → (∀ j, j < c → w j = true → listed.getD j false = true) → ∃ c', c ≤ c' ∧ IsCur w listed n c' ∧ ∀ j, c ≤ j → j < c' → w j = true → listed.getD j false = true
  | 0, c, hk, hc, h => ⟨c, Nat.le_refl _, ⟨hc, h, fun h => by omega⟩, fun j h1 h2 => by omega⟩
  | k + 1, c, hk, hc, h => by
    by_cases hn : c < n ∧ w c = true ∧ listed.getD c false = false
    · exact ⟨c, Nat.le_refl _, ⟨hc, h, fun _ => hn.2⟩, fun j h1 h2 => by omega⟩
    · by_cases hcn : c < n
      · obtain ⟨c', h1, h2, h3⟩ := cur_from w listed n k (c + 1) (by omega) (by omega) (fun j hj hw => by
          by_cases e : j = c
          · subst e
            cases hl : listed.getD j false with
            | true => rfl
            | false => exact absurd ⟨hcn, hw, hl⟩ hn
          · exact h j (by omega) hw)
        exact ⟨c', by omega, h2, fun j h4 h5 hw => h2.2.1 j h5 hw⟩
      · exact ⟨c, Nat.le_refl _, ⟨hc, h, fun h => absurd h hcn⟩, fun j h1 h2 => by omega⟩
def wS [Globs] (ops : Array Oper) (j : Nat) : Bool := match ops[j]? with | some o => wrS o | none => false
def wT (ops : Array Oper) (j : Nat) : Bool := match ops[j]? with | some o => wrT o | none => false

structure DInv [Globs] (ops : Array Oper) (st : St) (sts : Nat → St) (val : Nat → AV) (listed : Array Bool) (s : St) : Prop where
  len : listed.size = ops.size
  closed : ∀ j, listed.getD j false = true → ∀ e ∈ depsOf ops j, listed.getD e false = true
  lenT : s.T.length = st.T.length
  t1 : ∀ j t, listed.getD j false = true → dstOf ops j = some t → (∀ e, pairAt ops e j = true → listed.getD e false = true) → getT s.T t = if t < st.T.length then val j else .bot
  t2 : ∀ t, (∀ j, listed.getD j false = true → dstOf ops j ≠ some t) → getT s.T t = getT st.T t
  cS : ∃ c, IsCur (wS ops) listed ops.size c ∧ s.S = (sts c).S ∧ s.n = (sts c).n
  cT : ∃ c, IsCur (wT ops) listed ops.size c ∧ s.tk = (sts c).tk

theorem ld_len [Globs] {call : CallA} {o : Oper} {s s' : St} {v : AV} {t : TypeId} {x : Operand} {id ep off : Nat} (h : evO P call o s = some (v, s')) (ho : o.op = .load t x) (hx : opv s.T x = .ref id ep off) : id < s.S.length := by
  simp only [evO, ho, Option.map_eq_some_iff] at h
  obtain ⟨v', h, -⟩ := h
  unfold ldA at h
  rw [hx] at h
  split at h
  · simp only at h
    split at h
    · rename_i cs he
      unfold entAt at he
      split at he
      · rename_i e hn; exact nth_lt hn
      · cases he
    · cases h
  · cases h
theorem isAl_op {o : Oper} (h : isAl o = true) : ∃ t, o.op = .alloc t ∧ o.guard = none := by
  unfold isAl at h
  simp only [Bool.and_eq_true, Option.isNone_iff_eq_none] at h
  obtain ⟨h1, h2⟩ := h
  split at h1
  · rename_i t e; exact ⟨t, e, h2⟩
  · simp at h1
theorem isAl_w [Globs] {o : Oper} (h : isAl o = true) : wrS o = true ∧ rdS o = false ∧ wrT o = false := by
  obtain ⟨t, e, -⟩ := isAl_op h
  exact ⟨by simp [wrS, e], by simp [rdS, e], by simp [wrT, e]⟩
theorem pair_al {i j : Nat} (h : pairAt ops j i = true) : ∃ p o, ops[j]? = some p ∧ ops[i]? = some o ∧ (isAl p = true ∧ rdS p = false) ∧ isAl o = true ∧ rdS o = false := by
  unfold pairAt at h
  simp only [Bool.and_eq_true] at h
  obtain ⟨⟨-, h⟩, -⟩ := h
  split at h
  · rename_i p o h1 h2
    simp only [Bool.and_eq_true] at h
    have key : ∀ {o : Oper}, isAl o = true → rdS o = false := fun h => by
      obtain ⟨t, e, -⟩ := isAl_op h
      simp [rdS, e]
    exact ⟨p, o, h1, h2, ⟨h.1, key h.1⟩, h.2, key h.2⟩
  · simp at h
theorem pair_suc {i j : Nat} (h : pairAt ops j i = true) : i = j + 1 := by
  unfold pairAt at h
  simp only [Bool.and_eq_true, decide_eq_true_eq] at h
  exact h.1.1
theorem pair_lt {i j : Nat} (h : pairAt ops j i = true) : j < ops.size ∧ i < ops.size := by
  obtain ⟨p, o, h1, h2, -⟩ := pair_al h
  exact ⟨(Array.getElem?_eq_some_iff.1 h1).1, (Array.getElem?_eq_some_iff.1 h2).1⟩
theorem pair_reach {i j k : Nat} (h : pairAt ops j i = true) (hk : k < ops.size) (h1 : k ≠ j) (h2 : k ≠ i) : j ∈ reachAt ops k ↔ i ∈ reachAt ops k := by
  unfold pairAt at h
  simp only [Bool.and_eq_true] at h
  have h3 := List.all_eq_true.1 h.2 k (by simpa using hk)
  simp only [Bool.or_eq_true, beq_iff_eq] at h3
  rcases h3 with (h3 | h3) | h3
  · exact absurd h3 h1
  · exact absurd h3 h2
  · rw [← List.contains_iff_mem, ← List.contains_iff_mem, h3]

/-- what lasts, though other cells are to be left alone -/
structure Le0 (C C' : Cx) : Prop where
  n : C.n ≤ C'.n
  stays : Stays C.w C'.w C.Avoid C'.Avoid
  shape : ∀ (b : Nat) (cs : Array Value) (t : TypeId) (fz : Nat × Nat), C.w.heap[b]? = some (Obj.cells cs t fz) → ∃ cs' : Array Value, C'.w.heap[b]? = some (Obj.cells cs' t fz) ∧ cs'.size = cs.size
  ent : ∀ id e', nth C'.S id = some e' → e'.ep < C.n → ∃ e, nth C.S id = some e ∧ e.ep = e'.ep ∧ C'.φ id = C.φ id
  tok : ∀ id k, nth C.tk id = some k → ∃ k', nth C'.tk id = some k' ∧ k ≤ k' ∧ (k' = k → C'.ψ id = C.ψ id)
theorem CapR.mono0 {C C' : Cx} (h : Le0 C C') {c a len cap} (hc : CapR C c a len cap) : CapR C' c a len cap := by
  cases c with
  | unk => trivial
  | tight => exact hc
  | nilc => exact hc
  | nl => exact hc
  | nn => exact hc
  | tok id ep sz =>
    obtain ⟨k, h1, h2, h3⟩ := hc
    obtain ⟨k', h4, h5, h6⟩ := h.tok id k h1
    refine ⟨k', h4, by omega, fun e => ?_⟩
    rcases h3 (by omega) with h7 | ⟨b, cs, t, ea, hp, hb, hl⟩
    · exact .inl h7
    · obtain ⟨cs', h8, h9⟩ := h.shape b cs t _ hb
      exact .inr ⟨b, cs', t, ea, by rw [h6 (by omega), hp], h8, by omega⟩
mutual
theorem VR.mono0 {C C' : Cx} (h : Le0 C C') : ∀ (c : AV) (x : Value), VR C c x → VR C' c x
  | .bot, _, _ => by simp only [VR]
  | .prim _, _, hx => by simpa only [VR] using hx
  | .frz es c, x, hx => by
    simp only [VR] at hx ⊢
    obtain ⟨a, len, cap, e, h1, h2, h3, h4⟩ := hx
    refine ⟨a, len, cap, e, h1, h2, h3.mono0 h, h4.imp id ?_⟩
    rintro ⟨b, o, sz, ea, hr⟩
    exact ⟨b, o, sz, ea, PRows.stays h.stays b sz o es hr⟩
  | .fptr cs, x, hx => by
    simp only [VR] at hx ⊢
    obtain ⟨b, o, vs, e, hl, hr⟩ := hx
    exact ⟨b, o, vs, e, hl.stays h.stays, PRs.stays h.stays cs vs hr⟩
  | .agg cs, x, hx => by
    simp only [VR] at hx ⊢
    obtain ⟨vs, e, hr⟩ := hx
    exact ⟨vs, e, VRs.mono0 h cs vs.toList hr⟩
  | .tup cs, x, hx => by
    simp only [VR] at hx ⊢
    obtain ⟨vs, e, hr⟩ := hx
    exact ⟨vs, e, VRs.mono0 h cs vs.toList hr⟩
  | .ref id ep off, x, hx => by
    simp only [VR] at hx ⊢
    obtain ⟨b, h0, hn, hx⟩ := hx
    refine ⟨b, h0, Nat.lt_of_lt_of_le hn h.n, fun e' he hep => ?_⟩
    obtain ⟨e, h1, h2, h3⟩ := h.ent id e' he (by omega)
    rw [h3]; exact hx e h1 (by omega)
  | .sref id ep off len sz, x, hx => by
    simp only [VR] at hx ⊢
    obtain ⟨b, a, cap, h0, h0', h0'', hn, hx⟩ := hx
    refine ⟨b, a, cap, h0, h0', h0'', Nat.lt_of_lt_of_le hn h.n, fun e' he hep => ?_⟩
    obtain ⟨e, h1, h2, h3⟩ := h.ent id e' he (by omega)
    rw [h3]; exact hx e h1 (by omega)
  | .fn f caps, x, hx => by
    simp only [VR] at hx ⊢
    obtain ⟨vs, e, hr⟩ := hx
    exact ⟨vs, e, VRs.mono0 h caps vs.toList hr⟩
  | .bfn f caps, x, hx => by
    simp only [VR] at hx ⊢
    obtain ⟨vs, e, hr⟩ := hx
    exact ⟨vs, e, VRs.mono0 h caps vs.toList hr⟩
theorem VRs.mono0 {C C' : Cx} (h : Le0 C C') : ∀ (cs : List AV) (vs : List Value), VRs C cs vs → VRs C' cs vs
  | [], [], _ => by simp only [VRs]
  | c :: cs, v :: vs, hx => by simp only [VRs] at hx ⊢; exact ⟨VR.mono0 h c v hx.1, VRs.mono0 h cs vs hx.2⟩
  | [], _ :: _, hx => by simp only [VRs] at hx
  | _ :: _, [], hx => by simp only [VRs] at hx
end
/-- a new block that nobody knows yet -/
def Cx.hid (C : Cx) (arr : Array Value) (t : TypeId) : Cx := { C with w := C.w.alloc (.cells arr t), av := fun x o => C.av x o ∨ x = C.w.heap.size }
theorem mut_lt [Globs] {C : Cx} (hs : SR C) {b o : Nat} (h : C.Mut b o) : b < C.w.heap.size := by
  rcases h with ⟨i, hi, e⟩ | ⟨i, hi, e, h1, h2⟩
  · rw [← e]; exact phi_lt hs hi
  · rw [← e]; exact hs.tlt i o hi h1 h2
theorem Le0.hid [Globs] {C : Cx} (arr : Array Value) (t : TypeId) : Le0 C (C.hid arr t) := by
  have hb : Below C.w.heap.size C.w (C.w.alloc (.cells arr t)) := (Below.refl _ _).alloc (Nat.le_refl _) _
  refine ⟨Nat.le_refl _, fun b o v hv ha => ⟨by rw [show (C.hid arr t).w = C.w.alloc (.cells arr t) from rfl, Below.cell hb (cell_lt hv)]; exact hv, ?_⟩, fun b d t' fz hd => ⟨d, below_shape hb hd, rfl⟩, fun _ e he _ => ⟨e, he, rfl, rfl⟩, fun _ k hk => ⟨k, hk, Nat.le_refl _, fun _ => rfl⟩⟩
  rintro ((h | h) | h)
  · exact ha (.inl h)
  · have := cell_lt hv; omega
  · exact ha (.inr h)
theorem SR.hid [Globs] {C : Cx} (hs : SR C) (arr : Array Value) (t : TypeId) : SR (C.hid arr t) := by
  have hb : Below C.w.heap.size C.w (C.w.alloc (.cells arr t)) := (Below.refl _ _).alloc (Nat.le_refl _) _
  refine ⟨fun i x hx => ?_, hs.ne, hs.tok, hs.apart, fun b o hm => ?_, fun b o ha => ?_, fun i o hi h1 h2 => Nat.lt_of_lt_of_le (hs.tlt i o hi h1 h2) hb.size, fun g a hg => ?_⟩
  · obtain ⟨g1, d, t', g2, g3⟩ := hs.ent i x hx
    exact ⟨g1, d, t', below_shape hb g2, VRs.mono0 (Le0.hid arr t) _ _ g3⟩
  · have hm' : C.Mut b o := hm
    have := mut_lt hs hm'
    rintro (h | h)
    · exact hs.own b o hm' h
    · omega
  · rcases ha with h | h
    · exact Nat.lt_of_lt_of_le (hs.avlt b o h) hb.size
    · subst h
      exact (Array.getElem?_eq_some_iff.1 (heap_alloc_same C.w (.cells arr t))).1
  · obtain ⟨⟨t', fz, h1⟩, h2⟩ := hs.glob g a hg
    exact ⟨⟨t', fz, below_shape hb h1⟩, fun i => .inl (h2 i)⟩
/-- it becomes known: the variable that comes next -/
def Cx.rev (C : Cx) (av0 : Nat → Nat → Prop) (b : Nat) (cs : List AV) : Cx :=
  { C with av := av0, φ := fun i => if i = C.S.length then b else C.φ i, S := C.S ++ [⟨C.n, cs⟩], n := C.n + 1 }
section
variable {C : Cx} {av0 : Nat → Nat → Prop} {b : Nat}
theorem rev_mut {cs : List AV} {x o : Nat} (h : (C.rev av0 b cs).Mut x o) : C.Mut x o ∨ x = b := by
  rcases h with ⟨i, hi, e⟩ | h
  · simp only [Cx.rev, List.length_append, List.length_cons, List.length_nil] at hi e
    split at e
    · exact .inr e.symm
    · exact .inl (.inl ⟨i, by omega, e⟩)
  · exact .inl (.inr h)
theorem Le0.rev (hav : ∀ o, C.av b o) (hav' : ∀ x o, x ≠ b → (C.av x o ↔ av0 x o)) (h0 : ∀ o, ¬ av0 b o) (cs : List AV) : Le0 C (C.rev av0 b cs) := by
  refine ⟨Nat.le_succ _, fun x o v hv ha => ⟨hv, ?_⟩, fun _ d _ _ hd => ⟨d, hd, rfl⟩, fun i x hx hn => ?_, fun _ k hk => ⟨k, hk, Nat.le_refl _, fun _ => rfl⟩⟩
  · rintro (h | h)
    · by_cases e : x = b
      · subst e; exact h0 o h
      · exact ha (.inl ((hav' x o e).2 h))
    · rcases rev_mut h with h | h
      · exact ha (.inr h)
      · subst h; exact ha (.inl (hav o))
  · rcases nth_snoc hx with ⟨h1, h2⟩ | ⟨h1, h2⟩
    · subst h2; simp at hn
    · refine ⟨x, h2, rfl, ?_⟩
      simp only [Cx.rev]
      rw [if_neg (by omega)]
theorem SR.rev [Globs] (hs : SR C) {arr : Array Value} {t : TypeId} (hb : C.w.heap[b]? = some (.cells arr t (0, 0))) (hav : ∀ o, C.av b o) (hav' : ∀ x o, x ≠ b → (C.av x o ↔ av0 x o)) (h0 : ∀ o, ¬ av0 b o) (hg : ∀ g a, (g, a) ∈ Globs.gl → ∀ i, av0 g i) :
    SR (C.rev av0 b (arr.toList.map cst1)) := by
  have hle := Le0.rev (C := C) hav hav' h0 (arr.toList.map cst1)
  have nb : ∀ i, i < C.S.length → C.φ i ≠ b := fun i hi e => hs.own b 0 (.inl ⟨i, hi, e⟩) (hav 0)
  refine ⟨fun i x hx => ?_, fun i j hi hj h => ?_, hs.tok, fun i j o hi hj h h1 h2 => ?_, ?_, fun x o ha => ?_, hs.tlt, fun g a hm => ⟨(hs.glob g a hm).1, hg g a hm⟩⟩
  · rcases nth_snoc hx with ⟨h1, rfl⟩ | ⟨h1, h2⟩
    · refine ⟨Nat.lt_succ_self _, arr, t, ?_, VRs_cst1 _⟩
      simp only [Cx.rev, h1, if_true]
      exact hb
    · obtain ⟨g1, d, t', g2, g3⟩ := hs.ent i x h2
      refine ⟨Nat.lt_succ_of_lt g1, d, t', ?_, VRs.mono0 hle _ _ g3⟩
      simp only [Cx.rev]
      rw [if_neg (by omega)]
      exact g2
  · simp only [Cx.rev, List.length_append, List.length_cons, List.length_nil] at hi hj h
    by_cases hi' : i = C.S.length <;> by_cases hj' : j = C.S.length
    · omega
    · rw [if_pos hi', if_neg hj'] at h
      exact absurd h.symm (nb j (by omega))
    · rw [if_neg hi', if_pos hj'] at h
      exact absurd h (nb i (by omega))
    · rw [if_neg hi', if_neg hj'] at h
      exact hs.ne i j (by omega) (by omega) h
  · simp only [Cx.rev, List.length_append, List.length_cons, List.length_nil] at hi h hj h1 h2
    by_cases hi' : i = C.S.length
    · rw [if_pos hi'] at h
      exact hs.own b o (.inr ⟨j, hj, h.symm, h1, h2⟩) (hav o)
    · rw [if_neg hi'] at h
      exact hs.apart i j o (by omega) hj h h1 h2
  · intro x o hm ha
    by_cases e : x = b
    · subst e; exact h0 o ha
    · rcases rev_mut hm with h | h
      · exact hs.own x o h ((hav' x o e).2 ha)
      · exact e h
  · by_cases e : x = b
    · subst e; exact absurd ha (h0 o)
    · exact hs.avlt x o ((hav' x o e).2 ha)
end
theorem alloc_wp {o : Oper} {t : TypeId} {cs : List AV} (ho : o.op = .alloc t) (hz : zeroOf P t = some cs) : ∃ arr : Array Value, arr.toList.map cst1 = cs ∧ ∀ (C : Cx) (a : Act) (next : Act → World → Prop) (Q : Exit → Act → World → Prop), next (a.put o.dst (.pointer (some ⟨C.w.heap.size, 0, none⟩))) (C.w.alloc (.cells arr t)) → o.wp P a C.w next Q := by
  simp only [zeroOf, Option.map_eq_some_iff, Option.bind_eq_some_iff] at hz
  obtain ⟨zv, ⟨i, h1, h2⟩, rfl⟩ := hz
  refine ⟨zv.cells, rfl, fun C a next Q hn => wp_value (v := .pointer (some ⟨C.w.heap.size, 0, none⟩)) (w' := C.w.alloc (.cells zv.cells t)) ?_ hn⟩
  have hz : (zeroValue t).run P C.w = .ok zv C.w := by simp [zeroValue, typeInfo, h1, h2]
  simp only [execOp, ho, Instr.alloc, Sem.run_bind, hz, Result.andThen_ok, newVar, run_newRow, Sem.run_pure]
theorem VRs_put_same {C : Cx} : ∀ {T vs} {d : Nat} {c}, VRs C T vs → (∀ x, vs[d]? = some x → VR C c x) → VRs C (put T d c) vs
  | [], [], _, _, _, _ => by simp only [put, VRs]
  | _ :: _, v :: _, 0, _, h, hv => by simp only [VRs, put] at h ⊢; exact ⟨hv v rfl, h.2⟩
  | _ :: _, _ :: _, d + 1, _, h, hv => by simp only [VRs, put] at h ⊢; exact ⟨h.1, VRs_put_same h.2 fun x hx => hv x (by simpa using hx)⟩
  | [], _ :: _, _, _, h, _ => by simp only [VRs] at h
  | _ :: _, [], _, _, h, _ => by simp only [VRs] at h
set_option maxHeartbeats 1000000 in
theorem drawOk0_sound [Globs] (hm : P.follows .mixedOrders = true) : ∀ (call : CallA), CallOk P call → IndepC call → ∀ (ops : Array Oper) (C : Cx) (st st' : St) (a : Act) (Q : Exit → Act → World → Prop), drawOk0 st ops.toList = true → Rel C st a → evOs P call ops.toList ops.toList st = some st' →
    (∀ a' C', Le C C' → Rel C' st' a' → Q .normal a' C'.w) → wpAny P .any ops Q ops.size (Array.replicate ops.size false) a { C.w with drawn := C.w.drawn + 1 } := by
  intro call hc hi ops C st st' a Q hok hr h hQ
  obtain ⟨sts, val, hs0, hsn, hstep⟩ := seq_of h
  simp only [Array.length_toList] at hsn
  have hstep' : ∀ (i : Nat) o, ops[i]? = some o → StepT P call ops.toList o (sts i) (sts (i + 1)) (val i) := fun i o ho => hstep i o (by simpa using ho)
  -- what the test says
  have hall0 : ∀ i o, ops[i]? = some o → opOk ops i o = true ∧ ∀ j p, j < i → ops[j]? = some p → ((!conf p o && !(wrS p && rdS o) && !(rdS p && wrS o)) || (reachAt ops i).contains j || (!conf p o && (if rdS o = true then apartS st ops i o p else (isMkS o || apartS st ops j p o))) || pairAt ops j i) = true := by
    intro i o ho
    have hlt := (Array.getElem?_eq_some_iff.1 ho).1
    unfold drawOk0 at hok
    rw [List.all_eq_true] at hok
    have h1 := hok i (by simpa using hlt)
    simp only [Array.toArray_toList, ho, Bool.and_eq_true] at h1
    refine ⟨h1.1, fun j p hj hp => ?_⟩
    have h2 := List.all_eq_true.1 h1.2 j (by simpa using hj)
    simp only [hp] at h2
    exact h2
  have hall : ∀ i o, ops[i]? = some o → opOk ops i o = true ∧ ∀ j p, j < i → ops[j]? = some p → conf p o = true → j ∈ reachAt ops i ∨ pairAt ops j i = true := by
    intro i o ho
    refine ⟨(hall0 i o ho).1, fun j p hj hp hcf => ?_⟩
    have h2 := (hall0 i o ho).2 j p hj hp
    simp only [hcf, Bool.not_true, Bool.false_and, Bool.false_or, Bool.or_false, Bool.or_eq_true] at h2
    exact h2.imp (fun h => by simpa using h) id
  have hrw : ∀ i o, ops[i]? = some o → ∀ j p, j < i → ops[j]? = some p → ((wrS p && rdS o) || (rdS p && wrS o)) = true → j ∈ reachAt ops i ∨ (if rdS o = true then apartS st ops i o p else (isMkS o || apartS st ops j p o)) = true := by
    intro i o ho j p hj hp hcf
    have h2 := (hall0 i o ho).2 j p hj hp
    have h3 : (!conf p o && !(wrS p && rdS o) && !(rdS p && wrS o)) = false := by
      simp only [Bool.or_eq_true] at hcf
      rcases hcf with h | h <;> simp [h]
    rw [h3] at h2
    simp only [Bool.false_or, Bool.or_eq_true, Bool.and_eq_true] at h2
    rcases h2 with (h2 | h2) | h2
    · exact .inl (by simpa using h2)
    · exact .inr h2.2
    · obtain ⟨p', o', q1, q2, ⟨-, q3⟩, -, q4⟩ := pair_al h2
      rw [hp] at q1; rw [ho] at q2
      simp only [Option.some.injEq] at q1 q2
      subst q1; subst q2
      simp [q3, q4] at hcf
  have hop : ∀ i o, ops[i]? = some o → (match o.op with | .select .. => false | _ => true) = true ∧ (∀ j ∈ depsOf ops i, j < i) ∧ (∀ g w, o.guard = some (g, w) → g ∈ depsOf ops i) ∧ (∀ d, o.dst = some d → ∀ j, j < i → dstOf ops j ≠ some d) ∧
      (∀ t, Operand.tmp t ∈ o.op.operands → ∀ j, dstOf ops j = some t → j = i ∨ j ∈ reachAt ops i ∨ i ∈ reachAt ops j) := by
    intro i o ho
    have h1 := (hall i o ho).1
    unfold opOk at h1
    simp only [Bool.and_eq_true] at h1
    obtain ⟨⟨⟨⟨a1, a2⟩, a3⟩, a4⟩, a5⟩ := h1
    refine ⟨a1, fun j hj => by simpa using List.all_eq_true.1 a2 j hj, fun g w hg => by rw [hg] at a3; simpa using a3, fun d hd j hj => ?_, fun t ht j hj => ?_⟩
    · rw [hd] at a4
      simp only [Option.all_some] at a4
      have := List.all_eq_true.1 a4 j (by simpa using hj)
      simpa using this
    · have h2 := Array.all_eq_true_iff_forall_mem.1 a5 (.tmp t) ht
      have hjlt : j < ops.size := by
        unfold dstOf at hj
        cases hx : ops[j]? with
        | none => rw [hx] at hj; simp at hj
        | some _ => exact (Array.getElem?_eq_some_iff.1 hx).1
      have h3 := List.all_eq_true.1 h2 j (by simpa using hjlt)
      simp only [hj, bne_self_eq_false, Bool.false_or, Bool.or_eq_true, beq_iff_eq, List.contains_iff_mem] at h3
      rcases h3 with (h3 | h3) | h3
      · exact .inl h3
      · exact .inr (.inl h3)
      · exact .inr (.inr h3)
  have hdst : ∀ {j : Nat} {d : Tmp}, dstOf ops j = some d → ∃ o, ops[j]? = some o ∧ o.dst = some d := by
    intro j d hj
    unfold dstOf at hj
    cases hx : ops[j]? with
    | none => rw [hx] at hj; simp at hj
    | some o => rw [hx] at hj; exact ⟨o, rfl, by simpa using hj⟩
  have hinj : ∀ {i j : Nat} {d : Tmp}, dstOf ops i = some d → dstOf ops j = some d → i = j := by
    intro i j d h1 h2
    obtain ⟨o, ho, hod⟩ := hdst h1
    obtain ⟨p, hp, hpd⟩ := hdst h2
    rcases Nat.lt_trichotomy i j with hh | hh | hh
    · exact absurd h1 ((hop j p hp).2.2.2.1 d hpd i hh)
    · exact hh
    · exact absurd h2 ((hop i o ho).2.2.2.1 d hod j hh)
  -- the text's order
  have stepT : ∀ i o, ops[i]? = some o → (sts (i + 1)).T = putT (sts i).T o.dst (val i) ∧ (wrS o = false → (sts (i + 1)).S = (sts i).S ∧ (sts (i + 1)).n = (sts i).n) ∧ (wrT o = false → (sts (i + 1)).tk = (sts i).tk) := by
    intro i o ho
    rcases hstep' i o ho with ⟨-, -, e⟩ | ⟨-, s1, h1, e⟩
    · rw [e]; exact ⟨rfl, fun _ => ⟨rfl, rfl⟩, fun _ => rfl⟩
    · obtain ⟨g1, g2, g3, -⟩ := evO_frame hi (hop i o ho).1 h1
      rw [e]; exact ⟨by simp only [g1], g2, g3⟩
  have textLen : ∀ i, i ≤ ops.size → (sts i).T.length = st.T.length := by
    intro i
    induction i with
    | zero => intro _; rw [hs0]
    | succ i ih =>
      intro hlt
      rw [(stepT i _ (Array.getElem?_eq_getElem (show i < ops.size by omega))).1, putT_length, ih (by omega)]
  have text2 : ∀ i, i ≤ ops.size → ∀ t, (∀ j, j < i → dstOf ops j ≠ some t) → getT (sts i).T t = getT st.T t := by
    intro i
    induction i with
    | zero => intro _ t _; rw [hs0]
    | succ i ih =>
      intro hlt t ht
      have ho := Array.getElem?_eq_getElem (show i < ops.size by omega)
      rw [(stepT i _ ho).1]
      have hne : (ops[i]'(by omega)).dst ≠ some t := fun e => ht i (by omega) (by unfold dstOf; rw [ho]; simpa using e)
      cases hd : (ops[i]'(by omega)).dst with
      | none => simp only [putT]; exact ih (by omega) t fun j hj => ht j (by omega)
      | some d =>
        simp only [putT]
        rw [getT_put_other (fun e => hne (by rw [hd, e]))]
        exact ih (by omega) t fun j hj => ht j (by omega)
  have text1 : ∀ i, i ≤ ops.size → ∀ j t, j < i → dstOf ops j = some t → getT (sts i).T t = if t < st.T.length then val j else .bot := by
    intro i
    induction i with
    | zero => intro _ j t hj; omega
    | succ i ih =>
      intro hlt j t hj hd
      have ho := Array.getElem?_eq_getElem (show i < ops.size by omega)
      rw [(stepT i _ ho).1]
      by_cases e : j = i
      · subst e
        have hd' : (ops[j]'(by omega)).dst = some t := by unfold dstOf at hd; rw [ho] at hd; simpa using hd
        rw [hd']
        simp only [putT]
        by_cases hlt' : t < st.T.length
        · rw [if_pos hlt']
          exact getT_put_same (by rw [textLen j (by omega)]; exact hlt')
        · rw [if_neg hlt']
          refine getT_out ?_
          rw [put_len, textLen j (by omega)]; exact Nat.le_of_not_lt hlt'
      · have hne : dstOf ops i ≠ some t := fun x => e (hinj hd x)
        have hne' : (ops[i]'(by omega)).dst ≠ some t := fun x => hne (by unfold dstOf; rw [ho]; simpa using x)
        cases hd' : (ops[i]'(by omega)).dst with
        | none => simp only [putT]; exact ih (by omega) j t (by omega) hd
        | some d =>
          simp only [putT]
          rw [getT_put_other (fun x => hne' (by rw [hd', x]))]
          exact ih (by omega) j t (by omega) hd
  have constS : ∀ k i, i + k ≤ ops.size → (∀ j, i ≤ j → j < i + k → wS ops j = false) → (sts (i + k)).S = (sts i).S ∧ (sts (i + k)).n = (sts i).n := by
    intro k
    induction k with
    | zero => intro i _ _; exact ⟨rfl, rfl⟩
    | succ k ih =>
      intro i hle hw
      have ho := Array.getElem?_eq_getElem (show i + k < ops.size by omega)
      have h1 := hw (i + k) (by omega) (by omega)
      unfold wS at h1; rw [ho] at h1
      have h2 := (stepT (i + k) _ ho).2.1 h1
      have h3 := ih i (by omega) fun j a b => hw j a (by omega)
      exact ⟨by rw [← h3.1, ← h2.1]; rfl, by rw [← h3.2, ← h2.2]; rfl⟩
  have constT : ∀ k i, i + k ≤ ops.size → (∀ j, i ≤ j → j < i + k → wT ops j = false) → (sts (i + k)).tk = (sts i).tk := by
    intro k
    induction k with
    | zero => intro i _ _; rfl
    | succ k ih =>
      intro i hle hw
      have ho := Array.getElem?_eq_getElem (show i + k < ops.size by omega)
      have h1 := hw (i + k) (by omega) (by omega)
      unfold wT at h1; rw [ho] at h1
      have h2 := (stepT (i + k) _ ho).2.2 h1
      have h3 := ih i (by omega) fun j a b => hw j a (by omega)
      rw [← h3, ← h2]; rfl
  -- what a load looks at
  have ldB : ∀ i o t q id ep off b, ops[i]? = some o → o.op = .load t (.tmp q) → ldBase st ops i o = some b → getT (sts i).T q = .ref id ep off → b = some id ∧ id < st.S.length := by
    intro i o t q id ep off b ho hop' hb hv
    have hil := (Array.getElem?_eq_some_iff.1 ho).1
    have base : ∀ x, unwr ops x = true → ∀ m, m ≤ ops.size → getT (sts m).T x = getT st.T x := by
      intro x hx m hm'
      refine text2 m hm' x fun j hj hd => ?_
      have := List.all_eq_true.1 hx j (by simp; omega)
      rw [hd] at this; simp at this
    unfold ldBase at hb
    rw [hop'] at hb
    simp only at hb
    split at hb
    · rename_i hu
      rw [← base q hu i (by omega), hv] at hb
      simp only at hb
      split at hb
      · rename_i hl; simp only [Option.some.injEq] at hb; exact ⟨hb.symm, hl⟩
      · simp at hb
    · obtain ⟨m, hm', hmb⟩ := List.exists_of_findSome?_eq_some hb
      have hmi : m < i := by simpa using hm'
      split at hmb
      · rename_i o1 hom
        split at hmb
        · rename_i d t' x k' hd1 hop1
          split at hmb
          · rename_i hdx
            obtain ⟨rfl, hux⟩ := hdx
            have hval := text1 i (by omega) m d hmi (by unfold dstOf; rw [hom]; exact hd1)
            rw [hv] at hval
            have hvm : val m = .ref id ep off := by
              split at hval
              · exact hval.symm
              · simp at hval
            rcases hstep' m _ hom with ⟨-, hsk, -⟩ | ⟨-, s1, hev, -⟩
            · rw [hsk] at hvm; simp at hvm
            · simp only [evO, evQ, hop1, Option.map_eq_some_iff, Prod.mk.injEq] at hev
              obtain ⟨v, hev, rfl, -⟩ := hev
              simp only [opv] at hev
              rw [base x hux m (by omega)] at hev
              unfold fldA at hev
              split at hev
              · rename_i hx
                simp only [Option.some.injEq] at hev
                rw [hvm] at hev; simp at hev
              · rename_i id0 e0 o0 hf hx
                rw [hx] at hmb
                simp only at hmb
                simp only [Option.some.injEq] at hev
                rw [hvm] at hev
                simp only [AV.ref.injEq] at hev
                obtain ⟨rfl, -⟩ := hev
                split at hmb
                · rename_i hl; simp only [Option.some.injEq] at hmb; exact ⟨hmb.symm, hl⟩
                · simp at hmb
              · simp at hev
          · simp at hmb
        · simp at hmb
      · simp at hmb
  have growStep : ∀ m, m < ops.size → (sts m).S.length ≤ (sts (m + 1)).S.length := by
      intro m hlt
      have ho := Array.getElem?_eq_getElem hlt
      rcases hstep' m _ ho with ⟨-, -, e⟩ | ⟨-, s1, hev, e⟩
      · rw [e]; exact Nat.le_refl _
      · rw [e]
        by_cases hw : wrS (ops[m]'hlt) = true
        · unfold wrS at hw
          unfold evO at hev
          split at hev
          · rename_i h'; rw [h'] at hw; simp at hw
          · simp only [Option.map_eq_some_iff, Prod.mk.injEq] at hev
            obtain ⟨S', hst, -, rfl⟩ := hev
            unfold stA at hst
            split at hst
            · split at hst
              · split at hst
                · split at hst
                  · simp only [Option.some.injEq] at hst; subst hst; simp [put_len]
                  · simp at hst
                · simp at hst
              · simp at hst
            · simp at hst
          · simp only [Option.map_eq_some_iff, Prod.mk.injEq] at hev
            obtain ⟨cs, -, -, rfl⟩ := hev
            simp
          · simp only [Option.map_eq_some_iff, Prod.mk.injEq] at hev
            obtain ⟨cs, -, -, rfl⟩ := hev
            simp
          · rename_i t l c h'
            rw [h'] at hw
            have hl : growL (ops[m]'hlt) l = false := by simpa using hw
            simp only [Option.map_eq_some_iff, Prod.exists, hl] at hev
            obtain ⟨l', sz, cs, -, hh⟩ := hev
            rw [if_neg (by simp)] at hh
            simp only [Prod.mk.injEq] at hh
            obtain ⟨-, rfl⟩ := hh
            simp
          · rename_i c h'
            rw [h'] at hw
            simp only at hw
            cases hcal : c.callee with
            | builtin b =>
              rw [hcal] at hw
              cases b <;> simp at hw
              simp only [hcal] at hev
              split at hev
              · simp only [Option.map_eq_some_iff, Prod.mk.injEq, Prod.exists] at hev
                obtain ⟨mm, S', hcp, -, rfl⟩ := hev
                rw [cpA_len hcp]; exact Nat.le_refl _
              · simp at hev
            | value x =>
              simp only [hcal] at hev
              split at hev
              · simp only [Option.map_eq_some_iff, Prod.mk.injEq, Prod.exists] at hev
                obtain ⟨r, S', tk', n', hcl, -, rfl⟩ := hev
                have := (hi _ _ _ _ _ _ _ _ _ hcl).1
                simp only [this]; exact Nat.le_refl _
              · simp at hev
            | invoke _ _ => rw [hcal] at hw; simp at hw
          · rename_i h1 h2 h3 h4 h5 h6
            split at hw
            · exact absurd (by assumption) (h2 _ _ _)
            · exact absurd (by assumption) (h3 _)
            · exact absurd (by assumption) (h4 _ _)
            · exact absurd (by assumption) (h5 _ _ _)
            · exact absurd (by assumption) (h6 _)
            · simp at hw
        · have := (evO_frame hi (hop m _ ho).1 hev).2.1 (by simpa using hw)
          rw [this.1]; exact Nat.le_refl _
  have growS2 : ∀ k i, i + k ≤ ops.size → (sts i).S.length ≤ (sts (i + k)).S.length := by
    intro k
    induction k with
    | zero => intro i _; exact Nat.le_refl _
    | succ k ih => intro i hle; exact Nat.le_trans (ih i (by omega)) (growStep (i + k) (by omega))
  have growS : ∀ m, m ≤ ops.size → st.S.length ≤ (sts m).S.length := fun m hm => by
    have := growS2 m 0 (by omega)
    rw [hs0, Nat.zero_add] at this; exact this
  -- what is made is put behind
  have mkStep : ∀ k pk id, ops[k]? = some pk → isMkS pk = true → id < (sts k).S.length → nth (sts (k + 1)).S id = nth (sts k).S id := by
    intro k pk id hk hmk hid
    rcases hstep' k pk hk with ⟨-, -, e⟩ | ⟨-, s1, hev, e⟩
    · rw [e]
    · rw [e]
      unfold evO at hev
      unfold isMkS at hmk
      split at hmk
      · rename_i t' hpo
        simp only [hpo, Option.map_eq_some_iff, Prod.mk.injEq] at hev
        obtain ⟨cs, -, -, rfl⟩ := hev
        simp only
        rw [nth_get, nth_get, List.getElem?_append_left (by omega)]
      · rename_i t' x' hpo
        simp only [hpo, Option.map_eq_some_iff, Prod.mk.injEq] at hev
        obtain ⟨cs, -, -, rfl⟩ := hev
        simp only
        rw [nth_get, nth_get, List.getElem?_append_left (by omega)]
      · rename_i t' l' c' hpo
        simp only [hpo, Option.map_eq_some_iff, Prod.exists] at hev
        obtain ⟨l0, sz0, cs0, -, hh⟩ := hev
        split at hh
        · simp only [Prod.mk.injEq] at hh
          obtain ⟨-, rfl⟩ := hh
          rfl
        · simp only [Prod.mk.injEq] at hh
          obtain ⟨-, rfl⟩ := hh
          simp only
          rw [nth_get, nth_get, List.getElem?_append_left (by omega)]
      · simp at hmk
  -- a writer that is apart leaves the entry alone
  have apartStep : ∀ i o k pk t q id ep off, ops[i]? = some o → ops[k]? = some pk → o.op = .load t (.tmp q) → getT (sts i).T q = .ref id ep off → apartS st ops i o pk = true → wrS pk = true → nth (sts (k + 1)).S id = nth (sts k).S id := by
    intro i o k pk t q id ep off ho hk hlo hv hap hwk
    have hkl := (Array.getElem?_eq_some_iff.1 hk).1
    unfold apartS at hap
    cases hb : ldBase st ops i o with
    | none => rw [hb] at hap; simp at hap
    | some b =>
      obtain ⟨rfl, hidl⟩ := ldB i o t q id ep off b ho hlo hb hv
      rw [hb] at hap
      simp only at hap
      have hgrow := growS k (by omega)
      rcases hstep' k pk hk with ⟨-, -, e⟩ | ⟨-, s1, hev, e⟩
      · rw [e]
      · rw [e]
        unfold evO at hev
        split at hap
        · rename_i t' q' x' hpo
          simp only [Bool.and_eq_true] at hap
          obtain ⟨hu, hne⟩ := hap
          simp only [hpo, Option.map_eq_some_iff, Prod.mk.injEq] at hev
          obtain ⟨S', hst, -, rfl⟩ := hev
          have hq : getT (sts k).T q' = getT st.T q' := text2 k (by omega) q' fun j hj hd => by
            have := List.all_eq_true.1 hu j (by simp; omega)
            rw [hd] at this; simp at this
          simp only [opv] at hst
          rw [hq] at hst
          split at hne
          · rename_i id' e' o' hx
            rw [hx] at hst
            simp only [decide_eq_true_eq] at hne
            exact stA_other hst (fun h => hne h.symm)
          · simp at hne
        · rename_i t' hpo
          simp only [hpo, Option.map_eq_some_iff, Prod.mk.injEq] at hev
          obtain ⟨cs, -, -, rfl⟩ := hev
          simp only
          rw [nth_get, nth_get, List.getElem?_append_left (by omega)]
        · rename_i t' x' hpo
          simp only [hpo, Option.map_eq_some_iff, Prod.mk.injEq] at hev
          obtain ⟨cs, -, -, rfl⟩ := hev
          simp only
          rw [nth_get, nth_get, List.getElem?_append_left (by omega)]
        · rename_i t' l' c' hpo
          simp only [hpo, Option.map_eq_some_iff, Prod.exists] at hev
          obtain ⟨l0, sz0, cs0, -, hh⟩ := hev
          split at hh
          · simp only [Prod.mk.injEq] at hh
            obtain ⟨-, rfl⟩ := hh
            rfl
          · simp only [Prod.mk.injEq] at hh
            obtain ⟨-, rfl⟩ := hh
            simp only
            rw [nth_get, nth_get, List.getElem?_append_left (by omega)]
        · rename_i c hpo
          split at hap
          · rename_i x hcal
            simp only [hpo, hcal] at hev
            split at hev
            · simp only [Option.map_eq_some_iff, Prod.mk.injEq, Prod.exists] at hev
              obtain ⟨r, S', tk', n', hcl, -, rfl⟩ := hev
              have := (hi _ _ _ _ _ _ _ _ _ hcl).1
              simp only [this]
            · simp at hev
          · simp at hap
        · simp at hap
  have constE : ∀ id k i, i + k ≤ ops.size → (∀ j p, i ≤ j → j < i + k → ops[j]? = some p → wrS p = true → nth (sts (j + 1)).S id = nth (sts j).S id) → nth (sts (i + k)).S id = nth (sts i).S id := by
    intro id k
    induction k with
    | zero => intro i _ _; rfl
    | succ k ih =>
      intro i hle hw
      have ho := Array.getElem?_eq_getElem (show i + k < ops.size by omega)
      have h3 := ih i (by omega) fun j p a b => hw j p a (by omega)
      rw [← h3]
      show nth (sts (i + k + 1)).S id = _
      by_cases hwk : wrS (ops[i + k]'(by omega)) = true
      · exact hw (i + k) _ (by omega) (by omega) ho hwk
      · rw [((stepT (i + k) _ ho).2.1 (by simpa using hwk)).1]
  -- at the end
  have fin : ∀ {listed : Array Bool} {s : St}, DInv ops st sts val listed s → (∀ j, j < ops.size → listed.getD j false = true) → s = st' := by
    intro listed s hD hl
    have eT : s.T = st'.T := by
      refine getT_ext (by rw [hD.lenT, ← hsn, textLen _ (Nat.le_refl _)]) fun t => ?_
      rw [← hsn]
      by_cases hx : ∃ j, dstOf ops j = some t
      · obtain ⟨j, hj⟩ := hx
        obtain ⟨o, ho, -⟩ := hdst hj
        have hlt := (Array.getElem?_eq_some_iff.1 ho).1
        rw [hD.t1 j t (hl j hlt) hj (fun e he => hl e (pair_lt he).1), text1 _ (Nat.le_refl _) j t hlt hj]
      · rw [hD.t2 t fun j _ hj => hx ⟨j, hj⟩, text2 _ (Nat.le_refl _) t fun j _ hj => hx ⟨j, hj⟩]
    obtain ⟨c, hc1, hc2, hc3⟩ := hD.cS
    obtain ⟨c', hc4, hc5⟩ := hD.cT
    have e1 : c = ops.size := by
      rcases Nat.lt_or_ge c ops.size with h | h
      · have := (hc1.2.2 h).2; rw [hl c h] at this; simp at this
      · have := hc1.1; omega
    have e2 : c' = ops.size := by
      rcases Nat.lt_or_ge c' ops.size with h | h
      · have := (hc4.2.2 h).2; rw [hl c' h] at this; simp at this
      · have := hc4.1; omega
    subst e1
    rw [e2] at hc5
    rw [hsn] at hc2 hc3 hc5
    cases s; cases st'
    simp_all
  have none_ready : ∀ {listed : Array Bool} {s : St}, DInv ops st sts val listed s → Region.ready .any ops listed = [] → ∀ j, j < ops.size → listed.getD j false = true := by
    intro listed s hD hnil j
    induction j using Nat.strongRecOn with
    | _ j ihj =>
      intro hj
      cases hl : listed.getD j false with
      | true => rfl
      | false =>
        exfalso
        have ho : ops[j]? = some (ops[j]'hj) := Array.getElem?_eq_getElem hj
        have : j ∈ Region.ready .any ops listed := by
          apply mem_ready.2
          refine ⟨?_, _, ho, fun e he hb => ?_⟩
          · have hjl : j < listed.size := by rw [hD.len]; exact hj
            simpa [Array.getD, hjl] using hl
          · have hm' : e.on ∈ depsOf ops j := by
              unfold depsOf; rw [ho]
              exact List.mem_map.2 ⟨e, List.mem_filter.2 ⟨by simpa using he, hb⟩, rfl⟩
            have := (hop j _ ho).2.1 _ hm'
            exact ihj _ this (by omega)
        rw [hnil] at this; simp at this
  -- one step
  have step : ∀ {listed : Array Bool} {s : St}, DInv ops st sts val listed s → ∀ i ∈ Region.ready .any ops listed, (∀ e, pairAt ops e i = true → listed.getD e false = true) → (∀ e, pairAt ops i e = true → listed.getD e false = false) → ∃ o, ops[i]? = some o ∧ listed.getD i false = false ∧
      ∃ b s2, wantA ops.toList s.T o = some b ∧ (b = true → evO P call o s = some (val i, s2)) ∧ (b = false → val i = .prim undef ∧ s2 = s) ∧ s2.T = s.T ∧ DInv ops st sts val (listed.setIfInBounds i true) { s2 with T := putT s2.T o.dst (val i) } := by
    intro listed s hD i hri hn1 hn2
    obtain ⟨h0, o, ho, hdeps⟩ := ready_of hri
    obtain ⟨hun, hil⟩ := unlisted_false h0
    rw [hD.len] at hil
    refine ⟨o, ho, hun, ?_⟩
    have hreach := reach_listed hD.closed hdeps
    have hback : ∀ j, listed.getD j false = true → i ∈ reachAt ops j → False := fun j hj hr' => by
      have := reach_listed hD.closed (hD.closed j hj) i hr'
      rw [hun] at this; simp at this
    obtain ⟨hsel, hdlt, hgd, hdd, hops⟩ := hop i o ho
    -- the values of temporaries
    have agree : ∀ t, (∀ j, dstOf ops j = some t → j = i ∨ j ∈ reachAt ops i ∨ i ∈ reachAt ops j) → getT s.T t = getT (sts i).T t := by
      intro t ht
      by_cases hx : ∃ j, listed.getD j false = true ∧ dstOf ops j = some t
      · obtain ⟨j, hj, hjd⟩ := hx
        have hji : j < i := by
          rcases ht j hjd with e | e | e
          · subst e; rw [hun] at hj; simp at hj
          · -- what is reached comes before
            have : ∀ e ∈ reachAt ops i, e < i := by
              unfold reachAt
              have key : ∀ (l : List Nat) (s : List Nat), (∀ e ∈ s, e < i) → ∀ e ∈ l.foldl (fun s j => if s.contains j then depsOf ops j ++ s else s) s, e < i := by
                intro l
                induction l with
                | nil => intro s hs; exact hs
                | cons j l ih =>
                  intro s hs
                  simp only [List.foldl_cons]
                  apply ih
                  split
                  · rename_i hj
                    intro e he
                    rcases List.mem_append.1 he with h | h
                    · have hjlt := hs j (by simpa using hj)
                      cases hx : ops[j]? with
                      | none => unfold depsOf at h; rw [hx] at h; simp at h
                      | some p => have := (hop j p hx).2.1 e h; omega
                    · exact hs e h
                  · exact hs
              exact key _ _ hdlt
            exact this j e
          · exact (hback j hj e).elim
        rw [hD.t1 j t hj hjd (fun e he => ?_), text1 i (by omega) j t hji hjd]
        by_cases hie : i = e
        · subst hie
          have := hn2 j he; rw [hj] at this; simp at this
        · rcases ht j hjd with q | q | q
          · omega
          · exact hreach e ((pair_reach (k := i) he hil hie (by omega)).2 q)
          · exact (hback j hj q).elim
      · rw [hD.t2 t fun j hj hjd => hx ⟨j, hj, hjd⟩, text2 i (by omega) t fun j hj hjd => ?_]
        rcases ht j hjd with e | e | e
        · omega
        · exact hx ⟨j, hreach j e, hjd⟩
        · -- i before j in the order, j before i in the text: not so
          have : i < j := by
            have key : ∀ (l : List Nat) (s : List Nat), (∀ e ∈ s, e < j) → ∀ e ∈ l.foldl (fun s j => if s.contains j then depsOf ops j ++ s else s) s, e < j := by
              intro l
              induction l with
              | nil => intro s hs; exact hs
              | cons k l ih =>
                intro s hs
                simp only [List.foldl_cons]
                apply ih
                split
                · rename_i hk
                  intro e he
                  rcases List.mem_append.1 he with h | h
                  · have hklt := hs k (by simpa using hk)
                    cases hx : ops[k]? with
                    | none => unfold depsOf at h; rw [hx] at h; simp at h
                    | some p => have := (hop k p hx).2.1 e h; omega
                  · exact hs e h
                · exact hs
            obtain ⟨p, hp, -⟩ := hdst hjd
            exact key _ _ (hop j p hp).2.1 i e
          omega
    have agreeO : ∀ x ∈ o.op.operands, opv s.T x = opv (sts i).T x := by
      intro x hx
      cases x with
      | tmp t => exact agree t (hops t hx)
      | _ => rfl
    have agreeG : wantA ops.toList s.T o = wantA ops.toList (sts i).T o := by
      unfold wantA
      cases hg : o.guard with
      | none => rfl
      | some gw =>
        obtain ⟨g, w⟩ := gw
        have hgm := hgd g w hg
        simp only
        cases hgb : (nth ops.toList g).bind (·.dst) with
        | none => rfl
        | some d =>
          have hd' : dstOf ops g = some d := by unfold dstOf; rw [nth_get] at hgb; simpa using hgb
          have : getT s.T d = getT (sts i).T d := agree d fun j hj => by
            have := hinj hj hd'
            subst this
            right; left
            have key : ∀ (l : List Nat) (s : List Nat) (x : Nat), x ∈ s → x ∈ l.foldl (fun s j => if s.contains j then depsOf ops j ++ s else s) s := by
              intro l
              induction l with
              | nil => intro s x hs; exact hs
              | cons k l ih =>
                intro s x hs
                simp only [List.foldl_cons]
                apply ih
                split
                · exact List.mem_append_right _ hs
                · exact hs
            exact key _ _ _ hgm
          simp only [this]
    -- the variables
    have confl : ∀ j p, ops[j]? = some p → conf p o = true → conf o p = true → j ≠ i → (listed.getD j false = true ↔ j < i) := by
      intro j p hp h1 h2 hne
      rcases Nat.lt_or_gt_of_ne hne with hlt | hgt
      · exact ⟨fun _ => hlt, fun _ => ((hall i o ho).2 j p hlt hp h1).elim (hreach j) (hn1 j)⟩
      · exact ⟨fun hl => ((hall j p hp).2 i o hgt ho h2).elim (fun q => (hback j hl q).elim) (fun q => by have := hn2 j q; rw [hl] at this; simp at this), fun h => by omega⟩
    have curS : (wrS o = true ∨ rdA o = true) → s.S = (sts i).S ∧ s.n = (sts i).n ∧ (wrS o = true → IsCur (wS ops) listed ops.size i) := by
      intro hrw
      obtain ⟨c, hc1, hc2, hc3⟩ := hD.cS
      have hw : ∀ j, j ≠ i → wS ops j = true → (listed.getD j false = true ↔ j < i) := by
        intro j hne hwj
        unfold wS at hwj
        cases hp : ops[j]? with
        | none => rw [hp] at hwj; simp at hwj
        | some p =>
          rw [hp] at hwj
          refine confl j p hp ?_ ?_ hne
          · rcases hrw with hrw | hrw <;> simp [conf, hwj, hrw]
          · rcases hrw with hrw | hrw <;> simp [conf, hwj, hrw]
      rcases Nat.lt_trichotomy c i with hlt | heq | hgt
      · have := hc1.2.2 (by omega)
        have h2 := (hw c (by omega) this.1).2 hlt
        rw [this.2] at h2; simp at h2
      · subst heq; exact ⟨hc2, hc3, fun _ => hc1⟩
      · have hnw : wrS o = false := by
          cases hwo : wrS o with
          | false => rfl
          | true =>
            have := hc1.2.1 i hgt (by unfold wS; rw [ho]; exact hwo)
            rw [hun] at this; simp at this
        have hno : ∀ j, i ≤ j → j < i + (c - i) → wS ops j = false := by
          intro j h1 h2
          by_cases e : j = i
          · subst e; unfold wS; rw [ho]; exact hnw
          · cases hwj : wS ops j with
            | false => rfl
            | true =>
              have h3 := hc1.2.1 j (by omega) hwj
              have := (hw j e hwj).1 h3
              omega
        have := constS (c - i) i (by have := hc1.1; omega) hno
        rw [show i + (c - i) = c from by omega] at this
        exact ⟨by rw [hc2, this.1], by rw [hc3, this.2], fun h => by rw [hnw] at h; simp at h⟩
    have curR : ∀ t x id ep off, o.op = .load t x → opv (sts i).T x = .ref id ep off → id < (sts i).S.length → nth s.S id = nth (sts i).S id := by
      intro t x id ep off hlo hv hidl
      cases x with
      | tmp q =>
        simp only [opv] at hv
        have hrd : rdS o = true := by unfold rdS; rw [hlo]
        have hnw : wrS o = false := by unfold wrS; rw [hlo]
        obtain ⟨c, hc1, hc2, -⟩ := hD.cS
        have nord : ∀ pk, wrS pk = true → rdS pk = false := by
          intro pk hw
          unfold wrS at hw
          unfold rdS
          split at hw <;> rename_i h' <;> first | (rw [h']) | simp at hw
        rw [hc2]
        rcases Nat.lt_or_ge c i with hlt | hge
        · have := constE id (i - c) c (by omega) fun k pk h1 h2 hk hwk => ?_
          · rw [show c + (i - c) = i from by omega] at this; exact this.symm
          · have hki : k < i := by omega
            rcases hrw i o ho k pk hki hk (by simp [hwk, hrd]) with h3 | h3
            · exfalso
              have hlk := hreach k h3
              have hcu := (hc1.2.2 (by omega)).2
              by_cases hck : k = c
              · subst hck; rw [hlk] at hcu; simp at hcu
              · have hwc := (hc1.2.2 (by omega)).1
                unfold wS at hwc
                cases hpc : ops[c]? with
                | none => rw [hpc] at hwc; simp at hwc
                | some pc =>
                  rw [hpc] at hwc
                  rcases (hall k pk hk).2 c pc (by omega) hpc (by simp [conf, hwc, hwk]) with hh | hh
                  · have := reach_listed hD.closed (hD.closed k hlk) c hh
                    rw [hcu] at this; simp at this
                  · have := hreach c ((pair_reach (k := i) hh hil (by omega) (by omega)).2 h3)
                    rw [hcu] at this; simp at this
            · rw [if_pos hrd] at h3
              exact apartStep i o k pk t q id ep off ho hk hlo hv h3 hwk
        · have := constE id (c - i) i (by have := hc1.1; omega) fun k pk h1 h2 hk hwk => ?_
          · rw [show i + (c - i) = c from by omega] at this; exact this
          · have hki : k ≠ i := fun e => by
              subst e
              rw [ho] at hk
              simp only [Option.some.injEq] at hk
              subst hk
              rw [hnw] at hwk; simp at hwk
            have hlk := hc1.2.1 k (by omega) (by unfold wS; rw [hk]; exact hwk)
            rcases hrw k pk hk i o (by omega) ho (by simp [hwk, hrd]) with h3 | h3
            · exact (hback k hlk h3).elim
            · rw [if_neg (by rw [nord pk hwk]; simp)] at h3
              simp only [Bool.or_eq_true] at h3
              rcases h3 with h3 | h3
              · refine mkStep k pk id hk h3 (Nat.lt_of_lt_of_le hidl ?_)
                have := growS2 (k - i) i (by have := (Array.getElem?_eq_some_iff.1 hk).1; omega)
                rwa [show i + (k - i) = k from by omega] at this
              · exact apartStep i o k pk t q id ep off ho hk hlo hv h3 hwk
      | const v => simp only [opv] at hv; unfold cst at hv; split at hv; (· simp at hv); (· unfold cst1 at hv; split at hv <;> simp at hv)
      | global g => simp [opv] at hv
      | func f => simp [opv] at hv
    have curT : (wrT o = true ∨ rdA o = true) → s.tk = (sts i).tk ∧ (wrT o = true → IsCur (wT ops) listed ops.size i) := by
      intro hrw
      obtain ⟨c, hc1, hc2⟩ := hD.cT
      have hw : ∀ j, j ≠ i → wT ops j = true → (listed.getD j false = true ↔ j < i) := by
        intro j hne hwj
        unfold wT at hwj
        cases hp : ops[j]? with
        | none => rw [hp] at hwj; simp at hwj
        | some p =>
          rw [hp] at hwj
          refine confl j p hp ?_ ?_ hne
          · rcases hrw with hrw | hrw <;> simp [conf, hwj, hrw]
          · rcases hrw with hrw | hrw <;> simp [conf, hwj, hrw]
      rcases Nat.lt_trichotomy c i with hlt | heq | hgt
      · have := hc1.2.2 (by omega)
        have h2 := (hw c (by omega) this.1).2 hlt
        rw [this.2] at h2; simp at h2
      · subst heq; exact ⟨hc2, fun _ => hc1⟩
      · have hnw : wrT o = false := by
          cases hwo : wrT o with
          | false => rfl
          | true =>
            have := hc1.2.1 i hgt (by unfold wT; rw [ho]; exact hwo)
            rw [hun] at this; simp at this
        have hno : ∀ j, i ≤ j → j < i + (c - i) → wT ops j = false := by
          intro j h1 h2
          by_cases e : j = i
          · subst e; unfold wT; rw [ho]; exact hnw
          · cases hwj : wT ops j with
            | false => rfl
            | true =>
              have h3 := hc1.2.1 j (by omega) hwj
              have := (hw j e hwj).1 h3
              omega
        have := constT (c - i) i (by have := hc1.1; omega) hno
        rw [show i + (c - i) = c from by omega] at this
        exact ⟨by rw [hc2, this], fun h => by rw [hnw] at h; simp at h⟩
    -- what comes of it
    obtain ⟨st1, st2, st3⟩ := stepT i o ho
    have fromS : ∀ {s2 : St}, s2.T = s.T → (wrS o = true → s2.S = (sts (i + 1)).S ∧ s2.n = (sts (i + 1)).n) → (wrS o = false → s2.S = s.S ∧ s2.n = s.n) → (wrT o = true → s2.tk = (sts (i + 1)).tk) → (wrT o = false → s2.tk = s.tk) →
        DInv ops st sts val (listed.setIfInBounds i true) { s2 with T := putT s2.T o.dst (val i) } := by
      intro s2 eT k1 k2 k3 k4
      have hset : ∀ j, (listed.setIfInBounds i true).getD j false = true ↔ j = i ∨ listed.getD j false = true := by
        intro j
        by_cases e : i = j
        · subst e
          simp [getD_set_same' (l := listed) (b := true) (d := false) (show i < listed.size by rw [hD.len]; exact hil)]
        · rw [getD_set_ne' e]
          exact ⟨.inr, fun h => h.resolve_left fun x => e x.symm⟩
      refine ⟨by simp [hD.len], fun j hj e he => (hset e).2 (.inr ?_), by simp only [putT_length, eT, hD.lenT], fun j t hj hd hnp => ?_, fun t ht => ?_, ?_, ?_⟩
      · rcases (hset j).1 hj with rfl | hj
        · exact hdeps e he
        · exact hD.closed j hj e he
      · simp only [eT]
        rcases (hset j).1 hj with rfl | hj'
        · have hd' : o.dst = some t := by unfold dstOf at hd; rw [ho] at hd; simpa using hd
          rw [hd']
          simp only [putT]
          by_cases hlt' : t < st.T.length
          · rw [if_pos hlt']
            exact getT_put_same (by rw [hD.lenT]; exact hlt')
          · rw [if_neg hlt']
            refine getT_out ?_
            rw [put_len, hD.lenT]; exact Nat.le_of_not_lt hlt'
        · have hne : o.dst ≠ some t := fun x => by
            have : dstOf ops i = some t := by unfold dstOf; rw [ho]; simpa using x
            have := hinj this hd
            subst this
            rw [hun] at hj'; simp at hj'
          have hnp' : ∀ e, pairAt ops e j = true → listed.getD e false = true := fun e he => ((hset e).1 (hnp e he)).resolve_left fun x => by
            subst x
            have := hn2 j he; rw [hj'] at this; simp at this
          cases hd' : o.dst with
          | none => simp only [putT]; exact hD.t1 j t hj' hd hnp'
          | some d =>
            simp only [putT]
            rw [getT_put_other (fun x => hne (by rw [hd', x]))]
            exact hD.t1 j t hj' hd hnp'
      · simp only [eT]
        have hne : o.dst ≠ some t := fun x => ht i ((hset i).2 (.inl rfl)) (by unfold dstOf; rw [ho]; simpa using x)
        have h3 := hD.t2 t fun j hj => ht j ((hset j).2 (.inr hj))
        cases hd' : o.dst with
        | none => simp only [putT]; exact h3
        | some d =>
          simp only [putT]
          rw [getT_put_other (fun x => hne (by rw [hd', x]))]
          exact h3
      · cases hwo : wrS o with
        | false =>
          obtain ⟨c, hc1, hc2, hc3⟩ := hD.cS
          have hci : c ≠ i := fun e => by
            subst e
            have := (hc1.2.2 hil).1
            unfold wS at this; rw [ho] at this
            simp only at this
            rw [hwo] at this; simp at this
          refine ⟨c, ⟨hc1.1, fun j hj hw => (hset j).2 (.inr (hc1.2.1 j hj hw)), fun hlt => ⟨(hc1.2.2 hlt).1, ?_⟩⟩, by simp only [(k2 hwo).1, hc2], by simp only [(k2 hwo).2, hc3]⟩
          rw [getD_set_ne' (fun e => hci e.symm)]; exact (hc1.2.2 hlt).2
        | true =>
          have hcur := (curS (.inl hwo)).2.2 hwo
          obtain ⟨c, g1, g2, g3⟩ := cur_from (wS ops) (listed.setIfInBounds i true) ops.size ops.size (i + 1) (by omega) (by omega) (fun j hj hw => (hset j).2 (by
            by_cases e : j = i
            · exact .inl e
            · exact .inr (hcur.2.1 j (by omega) hw)))
          have hno : ∀ j, i + 1 ≤ j → j < (i + 1) + (c - (i + 1)) → wS ops j = false := by
            intro j h1 h2
            cases hwj : wS ops j with
            | false => rfl
            | true =>
              have h3 := g3 j h1 (by omega) hwj
              rcases (hset j).1 h3 with h4 | h4
              · omega
              · exfalso
                unfold wS at hwj
                cases hp : ops[j]? with
                | none => rw [hp] at hwj; simp at hwj
                | some p =>
                  rw [hp] at hwj
                  have := (confl j p hp (by simp [conf, hwj, hwo]) (by simp [conf, hwj, hwo]) (by omega)).1 h4
                  omega
          have := constS (c - (i + 1)) (i + 1) (by have := g2.1; omega) hno
          rw [show i + 1 + (c - (i + 1)) = c from by omega] at this
          exact ⟨c, g2, by simp only [(k1 hwo).1, this.1], by simp only [(k1 hwo).2, this.2]⟩
      · cases hwo : wrT o with
        | false =>
          obtain ⟨c, hc1, hc2⟩ := hD.cT
          have hci : c ≠ i := fun e => by
            subst e
            have := (hc1.2.2 hil).1
            unfold wT at this; rw [ho] at this
            simp only at this
            rw [hwo] at this; simp at this
          refine ⟨c, ⟨hc1.1, fun j hj hw => (hset j).2 (.inr (hc1.2.1 j hj hw)), fun hlt => ⟨(hc1.2.2 hlt).1, ?_⟩⟩, by simp only [k4 hwo, hc2]⟩
          rw [getD_set_ne' (fun e => hci e.symm)]; exact (hc1.2.2 hlt).2
        | true =>
          have hcur := (curT (.inl hwo)).2 hwo
          obtain ⟨c, g1, g2, g3⟩ := cur_from (wT ops) (listed.setIfInBounds i true) ops.size ops.size (i + 1) (by omega) (by omega) (fun j hj hw => (hset j).2 (by
            by_cases e : j = i
            · exact .inl e
            · exact .inr (hcur.2.1 j (by omega) hw)))
          have hno : ∀ j, i + 1 ≤ j → j < (i + 1) + (c - (i + 1)) → wT ops j = false := by
            intro j h1 h2
            cases hwj : wT ops j with
            | false => rfl
            | true =>
              have h3 := g3 j h1 (by omega) hwj
              rcases (hset j).1 h3 with h4 | h4
              · omega
              · exfalso
                unfold wT at hwj
                cases hp : ops[j]? with
                | none => rw [hp] at hwj; simp at hwj
                | some p =>
                  rw [hp] at hwj
                  have := (confl j p hp (by simp [conf, hwj, hwo]) (by simp [conf, hwj, hwo]) (by omega)).1 h4
                  omega
          have := constT (c - (i + 1)) (i + 1) (by have := g2.1; omega) hno
          rw [show i + 1 + (c - (i + 1)) = c from by omega] at this
          exact ⟨c, g2, by simp only [k3 hwo, this]⟩
    rcases hstep' i o ho with ⟨hw, hv, he⟩ | ⟨hw, s1, h1, he⟩
    · refine ⟨false, s, by rw [agreeG]; exact hw, by simp, fun _ => ⟨hv, rfl⟩, rfl, fromS rfl (fun hwo => ?_) (fun _ => ⟨rfl, rfl⟩) (fun hwo => ?_) (fun _ => rfl)⟩
      · rw [he]; exact ⟨(curS (.inl hwo)).1, (curS (.inl hwo)).2.1⟩
      · rw [he]; exact (curT (.inl hwo)).1
    · obtain ⟨g1, g2, g3, g4⟩ := evO_frame hi hsel h1
      obtain ⟨s2, e1, e2, e3, e4, e5, e6⟩ := g4 s agreeO (fun t x id ep off hlo hv => curR t x id ep off hlo hv (ld_len h1 hlo hv)) (fun hwo => ⟨(curS (.inl hwo)).1, (curS (.inl hwo)).2.1⟩) (fun hwo => (curT (.inl hwo)).1) (fun hA => ⟨(curS (.inr hA)).1, (curS (.inr hA)).2.1, (curT (.inr hA)).1⟩)
      refine ⟨true, s2, by rw [agreeG]; exact hw, fun _ => e1, by simp, e2, fromS e2 (fun hwo => ?_) e4 (fun hwo => ?_) e6⟩
      · rw [he]; exact e3 hwo
      · rw [he]; exact e5 hwo
  -- two variables made in a drawn order
  have allocStep : ∀ {i : Nat} {o : Oper} {t : TypeId}, ops[i]? = some o → o.op = .alloc t → o.guard = none → ∃ cs, zeroOf P t = some cs ∧ val i = .ref (sts i).S.length (sts i).n 0 ∧ (sts (i + 1)).S = (sts i).S ++ [⟨(sts i).n, cs⟩] ∧ (sts (i + 1)).n = (sts i).n + 1 ∧ (sts (i + 1)).tk = (sts i).tk := by
    intro i o t ho e hg
    rcases hstep' i o ho with ⟨hw, -, -⟩ | ⟨-, s1, h1, he⟩
    · unfold wantA at hw; rw [hg] at hw; simp at hw
    · simp only [evO, e, Option.map_eq_some_iff, Prod.mk.injEq] at h1
      obtain ⟨cs, h1, h2, rfl⟩ := h1
      exact ⟨cs, h1, h2.symm, by rw [he], by rw [he], by rw [he]⟩
  have setq : ∀ {listed : Array Bool} {i : Nat}, i < listed.size → ∀ j, (listed.setIfInBounds i true).getD j false = true ↔ j = i ∨ listed.getD j false = true := by
    intro listed i hil j
    by_cases e : i = j
    · subst e
      simp [getD_set_same' (l := listed) (b := true) (d := false) hil]
    · rw [getD_set_ne' e]
      exact ⟨.inr, fun h => h.resolve_left fun x => e x.symm⟩
  -- the second one comes first: it waits
  have stepB : ∀ {listed : Array Bool} {s : St} {A : Nat} {o : Oper}, DInv ops st sts val listed s → A + 1 ∈ Region.ready .any ops listed → pairAt ops A (A + 1) = true → listed.getD A false = false → ops[A + 1]? = some o →
      DInv ops st sts val (listed.setIfInBounds (A + 1) true) { s with T := putT s.T o.dst .bot } := by
    intro listed s A o hD hri hp hA ho
    obtain ⟨h0, o', ho', hdeps⟩ := ready_of hri
    rw [ho] at ho'
    simp only [Option.some.injEq] at ho'
    subst ho'
    obtain ⟨hun, hil⟩ := unlisted_false h0
    have hset := setq hil
    obtain ⟨pA, pB, q1, q2, ⟨q3, -⟩, q4, -⟩ := pair_al hp
    rw [ho] at q2
    simp only [Option.some.injEq] at q2
    subst q2
    have wA : wS ops A = true := by unfold wS; rw [q1]; exact (isAl_w q3).1
    refine ⟨by simp [hD.len], fun j hj e he => (hset e).2 (.inr ?_), by simp only [putT_length]; exact hD.lenT, fun j t hj hd hnp => ?_, fun t ht => ?_, ?_, ?_⟩
    · rcases (hset j).1 hj with rfl | hj
      · exact hdeps e he
      · exact hD.closed j hj e he
    · rcases (hset j).1 hj with rfl | hj'
      · have := (hset A).1 (hnp A hp)
        rcases this with h | h
        · omega
        · rw [hA] at h; simp at h
      · have hne : o.dst ≠ some t := fun x => by
          have : dstOf ops (A + 1) = some t := by unfold dstOf; rw [ho]; simpa using x
          have := hinj this hd
          subst this
          rw [hun] at hj'; simp at hj'
        have hold : getT s.T t = if t < st.T.length then val j else .bot := hD.t1 j t hj' hd fun e he => by
          rcases (hset e).1 (hnp e he) with h | h
          · subst h
            -- three in a row: the first two are no pair
            exfalso
            have hj2 := pair_suc he
            have hlt := pair_lt he
            obtain ⟨p1, p2, r1, r2, ⟨r3, -⟩, r4, -⟩ := pair_al he
            rcases (hall j p2 r2).2 A pA (by omega) q1 (by simp [conf, (isAl_w r4).1, (isAl_w q3).1]) with h | h
            · have := reach_listed hD.closed (hD.closed j hj') A h
              rw [hA] at this; simp at this
            · have := pair_suc h; omega
          · exact h
        cases hd' : o.dst with
        | none => simp only [putT]; exact hold
        | some d =>
          simp only [putT]
          rw [getT_put_other (fun x => hne (by rw [hd', x]))]
          exact hold
    · have hne : o.dst ≠ some t := fun x => ht (A + 1) ((hset _).2 (.inl rfl)) (by unfold dstOf; rw [ho]; simpa using x)
      have h3 := hD.t2 t fun j hj => ht j ((hset j).2 (.inr hj))
      cases hd' : o.dst with
      | none => simp only [putT]; exact h3
      | some d =>
        simp only [putT]
        rw [getT_put_other (fun x => hne (by rw [hd', x]))]
        exact h3
    · obtain ⟨c, hc1, hc2, hc3⟩ := hD.cS
      have hcA : c ≤ A := by
        rcases Nat.lt_or_ge A c with h | h
        · have := hc1.2.1 A h wA; rw [hA] at this; simp at this
        · exact h
      refine ⟨c, ⟨hc1.1, fun j hj hw => (hset j).2 (.inr (hc1.2.1 j hj hw)), fun hlt => ⟨(hc1.2.2 hlt).1, ?_⟩⟩, hc2, hc3⟩
      rw [getD_set_ne' (by omega)]; exact (hc1.2.2 hlt).2
    · obtain ⟨c, hc1, hc2⟩ := hD.cT
      have hcB : c ≠ A + 1 := fun e => by
        subst e
        have := (hc1.2.2 (by rw [← hD.len]; exact hil)).1
        unfold wT at this; rw [ho] at this
        simp only [(isAl_w q4).2.2] at this
        simp at this
      refine ⟨c, ⟨hc1.1, fun j hj hw => (hset j).2 (.inr (hc1.2.1 j hj hw)), fun hlt => ⟨(hc1.2.2 hlt).1, ?_⟩⟩, hc2⟩
      rw [getD_set_ne' (fun e => hcB e.symm)]; exact (hc1.2.2 hlt).2
  -- then the first one: both are there
  have stepA : ∀ {listed : Array Bool} {s : St} {A : Nat} {oA oB : Oper}, DInv ops st sts val listed s → A ∈ Region.ready .any ops listed → pairAt ops A (A + 1) = true → listed.getD (A + 1) false = true → ops[A]? = some oA → ops[A + 1]? = some oB →
      s.S = (sts A).S ∧ s.n = (sts A).n ∧ DInv ops st sts val (listed.setIfInBounds A true) { s with T := putT (putT s.T oA.dst (val A)) oB.dst (val (A + 1)), S := (sts (A + 2)).S, n := (sts (A + 2)).n } := by
    intro listed s A oA oB hD hri hp hB hoA hoB
    obtain ⟨h0, o', ho', hdeps⟩ := ready_of hri
    rw [hoA] at ho'
    simp only [Option.some.injEq] at ho'
    subst ho'
    obtain ⟨hun, hil⟩ := unlisted_false h0
    have hset := setq hil
    have hreach := reach_listed hD.closed hdeps
    have hlB := (pair_lt hp).2
    obtain ⟨pA, pB, q1, q2, ⟨q3, -⟩, q4, -⟩ := pair_al hp
    rw [hoA] at q1; rw [hoB] at q2
    simp only [Option.some.injEq] at q1 q2
    subst q1; subst q2
    have wA : wS ops A = true := by unfold wS; rw [hoA]; exact (isAl_w q3).1
    have wB : wS ops (A + 1) = true := by unfold wS; rw [hoB]; exact (isAl_w q4).1
    -- the other writers: before or behind
    have others : ∀ j, j ≠ A → j ≠ A + 1 → wS ops j = true → (listed.getD j false = true ↔ j < A) := by
      intro j hj1 hj2 hwj
      unfold wS at hwj
      cases hpj : ops[j]? with
      | none => rw [hpj] at hwj; simp at hwj
      | some p =>
        rw [hpj] at hwj
        simp only at hwj
        rcases Nat.lt_or_gt_of_ne hj1 with hlt | hgt
        · refine ⟨fun _ => hlt, fun _ => ?_⟩
          rcases (hall (A + 1) _ hoB).2 j p (by omega) hpj (by simp [conf, hwj, (isAl_w q4).1]) with h | h
          · exact reach_listed hD.closed (hD.closed _ hB) j h
          · have := pair_suc h; omega
        · refine ⟨fun hl => ?_, fun h => by omega⟩
          exfalso
          rcases (hall j p hpj).2 A _ (by omega) hoA (by simp [conf, hwj, (isAl_w q3).1]) with h | h
          · have := reach_listed hD.closed (hD.closed _ hl) A h
            rw [hun] at this; simp at this
          · have := pair_suc h; omega
    obtain ⟨c, hc1, hc2, hc3⟩ := hD.cS
    have hcA : c = A := by
      rcases Nat.lt_trichotomy c A with h | h | h
      · have h1 := hc1.2.2 (by omega)
        have := (others c (by omega) (by omega) h1.1).2 h
        rw [h1.2] at this; simp at this
      · exact h
      · have := hc1.2.1 A h wA; rw [hun] at this; simp at this
    subst hcA
    refine ⟨hc2, hc3, ⟨by simp [hD.len], fun j hj e he => (hset e).2 (.inr ?_), by simp only [putT_length]; exact hD.lenT, fun j t hj hd hnp => ?_, fun t ht => ?_, ?_, ?_⟩⟩
    · rcases (hset j).1 hj with rfl | hj
      · exact hdeps e he
      · exact hD.closed j hj e he
    · simp only
      have putV : ∀ {T : List AV} {o : Oper} {k : Nat} {v : AV}, T.length = st.T.length → ops[k]? = some o → (dstOf ops k = some t → getT (putT T o.dst v) t = if t < st.T.length then v else .bot) ∧ (dstOf ops k ≠ some t → getT (putT T o.dst v) t = getT T t) := by
        intro T o k v hl hk
        refine ⟨fun e => ?_, fun e => ?_⟩
        · have hd' : o.dst = some t := by unfold dstOf at e; rw [hk] at e; simpa using e
          rw [hd']
          simp only [putT]
          by_cases hlt' : t < st.T.length
          · rw [if_pos hlt']; exact getT_put_same (by rw [hl]; exact hlt')
          · rw [if_neg hlt']; exact getT_out (by rw [put_len, hl]; exact Nat.le_of_not_lt hlt')
        · have hne : o.dst ≠ some t := fun x => e (by unfold dstOf; rw [hk]; simpa using x)
          cases hd' : o.dst with
          | none => simp only [putT]
          | some d =>
            simp only [putT]
            rw [getT_put_other (fun x => hne (by rw [hd', x]))]
      have hl1 : (putT s.T oA.dst (val c)).length = st.T.length := by rw [putT_length]; exact hD.lenT
      by_cases ejB : j = c + 1
      · subst ejB; exact (putV hl1 hoB).1 hd
      · rw [(putV hl1 hoB).2 fun x => ejB (hinj hd x)]
        by_cases ejA : j = c
        · subst ejA; exact (putV hD.lenT hoA).1 hd
        · rw [(putV hD.lenT hoA).2 fun x => ejA (hinj hd x)]
          have hj' := ((hset j).1 hj).resolve_left ejA
          refine hD.t1 j t hj' hd fun e he => ((hset e).1 (hnp e he)).resolve_left fun x => ?_
          subst x
          have := pair_suc he; omega
    · simp only
      have hneA : oA.dst ≠ some t := fun x => ht c ((hset _).2 (.inl rfl)) (by unfold dstOf; rw [hoA]; simpa using x)
      have hneB : oB.dst ≠ some t := fun x => ht (c + 1) ((hset _).2 (.inr hB)) (by unfold dstOf; rw [hoB]; simpa using x)
      have h3 := hD.t2 t fun j hj => ht j ((hset j).2 (.inr hj))
      have one : ∀ {T : List AV} {o : Oper} {v : AV}, o.dst ≠ some t → getT (putT T o.dst v) t = getT T t := by
        intro T o v hne
        cases hd' : o.dst with
        | none => simp only [putT]
        | some d =>
          simp only [putT]
          rw [getT_put_other (fun x => hne (by rw [hd', x]))]
      rw [one hneB, one hneA]; exact h3
    · obtain ⟨c', g1, g2, g3⟩ := cur_from (wS ops) (listed.setIfInBounds c true) ops.size ops.size (c + 2) (by omega) (by omega) (fun j hj hw => (hset j).2 (by
        by_cases e : j = c
        · exact .inl e
        · by_cases e' : j = c + 1
          · subst e'; exact .inr hB
          · exact .inr ((others j e e' hw).2 (by omega))))
      have hno : ∀ j, c + 2 ≤ j → j < (c + 2) + (c' - (c + 2)) → wS ops j = false := by
        intro j h1 h2
        cases hwj : wS ops j with
        | false => rfl
        | true =>
          have h3 := g3 j h1 (by omega) hwj
          rcases (hset j).1 h3 with h4 | h4
          · omega
          · have := (others j (by omega) (by omega) hwj).1 h4; omega
      have := constS (c' - (c + 2)) (c + 2) (by have := g2.1; omega) hno
      rw [show c + 2 + (c' - (c + 2)) = c' from by omega] at this
      exact ⟨c', g2, this.1.symm, this.2.symm⟩
    · obtain ⟨c', hc1', hc2'⟩ := hD.cT
      have hcc : c' ≠ c := fun e => by
        subst e
        have := (hc1'.2.2 (by omega)).1
        unfold wT at this; rw [hoA] at this
        simp only [(isAl_w q3).2.2] at this
        simp at this
      refine ⟨c', ⟨hc1'.1, fun j hj hw => (hset j).2 (.inr (hc1'.2.1 j hj hw)), fun hlt => ⟨(hc1'.2.2 hlt).1, ?_⟩⟩, hc2'⟩
      rw [getD_set_ne' (fun e => hcc e.symm)]; exact (hc1'.2.2 hlt).2
  -- any order
  let Norm : Array Bool → Prop := fun listed => ∀ e j, pairAt ops e j = true → listed.getD j false = true → listed.getD e false = true
  let Wait : Nat → Array Bool → Cx → Act → Prop := fun A listed C1 a1 => pairAt ops A (A + 1) = true ∧ listed.getD A false = false ∧ listed.getD (A + 1) false = true ∧ ∃ oB tB arr b, ops[A + 1]? = some oB ∧ oB.op = .alloc tB ∧ zeroOf P tB = some (arr.toList.map cst1) ∧
    (∀ d x, oB.dst = some d → a1.tmps.toList[d]? = some x → x = .pointer (some ⟨b, 0, none⟩)) ∧ C1.w.heap[b]? = some (.cells arr tB (0, 0)) ∧ C.w.heap.size ≤ b ∧ (∀ o, C1.av b o) ∧ (∀ x o, x ≠ b → (C1.av x o ↔ C.av x o)) ∧ Le C { C1 with av := C.av }
  have clash : ∀ {listed : Array Bool} {s : St} {A A' : Nat}, DInv ops st sts val listed s → pairAt ops A (A + 1) = true → listed.getD A false = false → listed.getD (A + 1) false = true → pairAt ops A' (A' + 1) = true → listed.getD A' false = false → ((∀ e ∈ depsOf ops (A' + 1), listed.getD e false = true)) → A' = A := by
    intro listed s A A' hD hp hA hB hp' hA' hdeps'
    obtain ⟨p1, p2, r1, r2, ⟨r3, -⟩, r4, -⟩ := pair_al hp
    obtain ⟨p1', p2', r1', r2', ⟨r3', -⟩, r4', -⟩ := pair_al hp'
    rcases Nat.lt_trichotomy A' A with h | h | h
    · exfalso
      rcases (hall (A + 1) p2 r2).2 A' p1' (by omega) r1' (by simp [conf, (isAl_w r3').1, (isAl_w r4).1]) with h1 | h1
      · have := reach_listed hD.closed (hD.closed _ hB) A' h1
        rw [hA'] at this; simp at this
      · have := pair_suc h1; omega
    · exact h
    · exfalso
      rcases (hall (A' + 1) p2' r2').2 A p1 (by omega) r1 (by simp [conf, (isAl_w r3).1, (isAl_w r4').1]) with h1 | h1
      · have := reach_listed hD.closed hdeps' A h1
        rw [hA] at this; simp at this
      · have := pair_suc h1; omega
  have done : ∀ {listed : Array Bool} {s : St} {C1 : Cx} {a1 : Act}, ((Norm listed ∧ Le C C1) ∨ ∃ A, Wait A listed C1 a1) → Rel C1 s a1 → DInv ops st sts val listed s → (∀ j, j < ops.size → listed.getD j false = true) → Q .normal a1 C1.w := by
    intro listed s C1 a1 hle hr1 hD hl
    have e := fin hD hl
    subst e
    rcases hle with ⟨-, hle⟩ | ⟨A, hp, hA, -⟩
    · exact hQ a1 C1 hle hr1
    · rw [hl A (pair_lt hp).1] at hA; simp at hA
  have main : ∀ (fuel : Nat) (listed : Array Bool) (s : St) (C1 : Cx) (a1 : Act), unlistedCount listed ops.size ≤ fuel → ((Norm listed ∧ Le C C1) ∨ ∃ A, Wait A listed C1 a1) → Rel C1 s a1 → DInv ops st sts val listed s → wpAny P .any ops Q fuel listed a1 C1.w := by
    intro fuel
    induction fuel with
    | zero =>
      intro listed s C1 a1 hcnt hle hr1 hD
      have hl : ∀ j, j < ops.size → listed.getD j false = true := by
        intro j hj
        have h0 : unlistedCount listed ops.size = 0 := by omega
        unfold unlistedCount at h0
        rw [List.countP_eq_zero] at h0
        have := h0 j (by simpa using hj)
        simpa using this
      refine ⟨?_, done hle hr1 hD hl⟩
      cases hrd : Region.ready .any ops listed with
      | nil => rfl
      | cons x l =>
        have hx : x ∈ Region.ready .any ops listed := by rw [hrd]; simp
        obtain ⟨h0, o, ho, -⟩ := ready_of hx
        have hun := (unlisted_false h0).1
        rw [hl x (Array.getElem?_eq_some_iff.1 ho).1] at hun; simp at hun
    | succ fuel ih =>
      intro listed s C1 a1 hcnt hle hr1 hD
      refine ⟨fun hnil => done hle hr1 hD (none_ready hD hnil), fun i hri => ?_⟩
      obtain ⟨h0, o0, ho0, hdeps0⟩ := ready_of hri
      obtain ⟨hun0, hil0⟩ := unlisted_false h0
      have hset := setq hil0
      have hcnt0 := unlisted_set (Array.getElem?_eq_some_iff.1 ho0).1 hD.len hun0
      by_cases hB : ∃ A, pairAt ops A i = true ∧ listed.getD A false = false
      · -- the second of a pair, ahead of the first
        obtain ⟨A, hp, hA⟩ := hB
        have hi1 := pair_suc hp
        subst hi1
        have hN : Norm listed ∧ Le C C1 := by
          rcases hle with h | ⟨A', hp', hA', hB', -⟩
          · exact h
          · exfalso
            have := clash hD hp' hA' hB' hp hA hdeps0
            subst this
            rw [hun0] at hB'; simp at hB'
        obtain ⟨hN, hle⟩ := hN
        obtain ⟨pA, pB, q1, q2, ⟨q3, -⟩, q4, -⟩ := pair_al hp
        rw [ho0] at q2
        simp only [Option.some.injEq] at q2
        subst q2
        obtain ⟨t, e, hg⟩ := isAl_op q4
        obtain ⟨cs, hz, -⟩ := allocStep ho0 e hg
        obtain ⟨arr, harr, hwp⟩ := alloc_wp (P := P) e hz
        unfold wpOp
        simp only [ho0]
        have hw : wantA ops.toList s.T o0 = some true := by unfold wantA; rw [hg]
        rw [if_pos (wantA_sound hr1.tmps hw)]
        refine .inl (hwp C1 a1 _ _ ?_)
        have hbel : Below C1.w.heap.size C1.w (C1.w.alloc (.cells arr t)) := (Below.refl _ _).alloc (Nat.le_refl _) _
        have hr2 : Rel (C1.hid arr t) { s with T := putT s.T o0.dst .bot } (a1.put o0.dst (.pointer (some ⟨C1.w.heap.size, 0, none⟩))) :=
          ⟨hr1.S, hr1.tk, hr1.n, VRs_putT (VRs.mono0 (Le0.hid arr t) _ _ hr1.tmps) (by simp only [VR]), by cases o0.dst <;> exact hr1.defers, hr1.sr.hid arr t⟩
        refine ih _ _ (C1.hid arr t) _ (by omega) (.inr ⟨A, hp, ?_, ?_, o0, t, arr, C1.w.heap.size, ho0, e, by rw [harr]; exact hz, ?_, heap_alloc_same _ _, hle.size, fun o => .inr rfl, fun x o hx => ?_, ?_⟩) hr2 (stepB hD hri hp hA ho0)
        · rw [getD_set_ne' (by omega)]; exact hA
        · exact (hset _).2 (.inl rfl)
        · intro d x hd hx
          rw [hd] at hx
          simp only [Act.put, Array.toList_setIfInBounds] at hx
          rw [List.getElem?_set] at hx
          simp only [if_true] at hx
          split at hx
          · simpa using hx.symm
          · simp at hx
        · simp only [Cx.hid]
          rw [hle.av]
          exact ⟨fun h => h.resolve_right hx, .inl⟩
        · have := hle.trans (Le.of_below (C := C1) hbel)
          rw [show ({ C1.hid arr t with av := C.av } : Cx) = C1.at (C1.w.alloc (.cells arr t)) from by unfold Cx.hid Cx.at; rw [hle.av]]
          exact this
      · by_cases hA2 : ∃ b, pairAt ops i b = true ∧ listed.getD b false = true
        · -- the first of a pair, behind the second
          obtain ⟨b', hp, hB'⟩ := hA2
          have hi1 := pair_suc hp
          subst hi1
          rcases hle with ⟨hN, -⟩ | ⟨A, hp', hA', hB'', oB, tB, arr, b, ho1, e1, hz1, hx1, hb1, hb2, hav, hav', hle⟩
          · have := hN _ _ hp hB'
            rw [hun0] at this; simp at this
          · have hAi : i = A := clash hD hp' hA' hB'' hp hun0 (hD.closed _ hB')
            subst hAi
            obtain ⟨pA, pB, q1, q2, ⟨q3, -⟩, q4, -⟩ := pair_al hp
            rw [ho0] at q1; rw [ho1] at q2
            simp only [Option.some.injEq] at q1 q2
            subst q1; subst q2
            obtain ⟨t, e, hg⟩ := isAl_op q3
            obtain ⟨t', e', hg'⟩ := isAl_op q4
            rw [e1] at e'
            simp only [Op.alloc.injEq] at e'
            subst e'
            obtain ⟨g1, g2, g3⟩ := stepA hD hri hp hB' ho0 ho1
            obtain ⟨cs, hz, v1, v2, v3, v4⟩ := allocStep ho0 e hg
            obtain ⟨cs', hz', v1', v2', v3', v4'⟩ := allocStep ho1 e1 hg'
            rw [hz1] at hz'
            simp only [Option.some.injEq] at hz'
            subst hz'
            have hwo : wantA ops.toList s.T o0 = some true := by unfold wantA; rw [hg]
            have hev : evO P call o0 s = some (val i, { s with S := s.S ++ [⟨s.n, cs⟩], n := s.n + 1 }) := by
              simp only [evO, e, hz, Option.map_some, v1, g1, g2]
            unfold wpOp
            simp only [ho0]
            rw [if_pos (wantA_sound hr1.tmps hwo)]
            refine .inl (evO_sound hc hr1 hev fun u C2 k1 k2 k3 k4 k5 k6 => ?_).1
            have hr2 := hr1.put (d := o0.dst) k1 k2 k3 k4 k5 k6 rfl
            have nm : ∀ o, ¬ C1.Mut b o := fun o hm => hr1.sr.own b o hm (hav o)
            have hb3 : C2.w.heap[b]? = some (.cells arr tB (0, 0)) := by
              rw [k1.keep b (Array.getElem?_eq_some_iff.1 hb1).1 nm]; exact hb1
            have hav2 : ∀ o, C2.av b o := fun o => by rw [k1.av]; exact hav o
            have hav2' : ∀ x o, x ≠ b → (C2.av x o ↔ C.av x o) := fun x o hx => by rw [k1.av]; exact hav' x o hx
            have h00 : ∀ o, ¬ C.av b o := fun o ha => by have := hr.sr.avlt b o ha; omega
            have hL0 := Le0.rev (C := C2) hav2 hav2' h00 (arr.toList.map cst1)
            have hS3 := SR.rev k2 hb3 hav2 hav2' h00 (fun g a hg => (hr.sr.glob g a hg).2)
            have hlast : (sts (i + 2)).S = s.S ++ [⟨s.n, cs⟩] ++ [⟨s.n + 1, arr.toList.map cst1⟩] ∧ (sts (i + 2)).n = s.n + 1 + 1 := by
              rw [show i + 2 = i + 1 + 1 from rfl, v2', v3', v2, v3, g1, g2]; exact ⟨rfl, rfl⟩
            refine ih _ _ (C2.rev C.av b (arr.toList.map cst1)) _ (by omega) (.inl ⟨?_, ?_⟩) ⟨?_, ?_, ?_, ?_, hr2.defers, hS3⟩ g3
            · -- no other pair waits
              intro e' j' hp2 hj'
              rcases (hset j').1 hj' with h | h
              · subst h
                have := pair_suc hp2
                exfalso
                subst this
                -- three in a row
                obtain ⟨p1, p2, r1, r2, ⟨r3, -⟩, r4, -⟩ := pair_al hp2
                rcases (hall (e' + 1 + 1) _ ho1).2 e' p1 (by omega) r1 (by simp [conf, (isAl_w r3).1, (isAl_w q4).1]) with h1 | h1
                · have h2 := (pair_reach hp2 (pair_lt hp).2 (by omega) (by omega)).1 h1
                  have := reach_listed hD.closed (hD.closed _ hB') _ h2
                  rw [hun0] at this; simp at this
                · have := pair_suc h1; omega
              · by_cases he : listed.getD e' false = true
                · exact (hset _).2 (.inr he)
                · have hs2 := pair_suc hp2
                  subst hs2
                  have := clash hD hp hun0 hB' hp2 (by simpa using he) (hD.closed _ h)
                  exact (hset _).2 (.inl this)
            · have hl2 : Le C { C2 with av := C.av } := hle.trans ⟨k1.os, k1.tape, k1.output, k1.size, rfl, k1.n, k1.mt, k1.cell, k1.keep, k1.shape, k1.ent, k1.tok⟩
              refine ⟨hl2.os, hl2.tape, hl2.output, hl2.size, rfl, Nat.le_succ_of_le hl2.n, fun x o hx hm => ?_, hl2.cell, hl2.keep, hl2.shape, fun id e' he hn => ?_, hl2.tok⟩
              · rcases rev_mut hm with h | h
                · exact hl2.mt x o hx h
                · omega
              · rcases nth_snoc he with ⟨h1, h2⟩ | ⟨h1, h2⟩
                · subst h2
                  have := hl2.n
                  simp only at this hn
                  omega
                · obtain ⟨w1, w2, w3, w4⟩ := hl2.ent id e' h2 hn
                  refine ⟨w1, w2, w3, ?_⟩
                  simp only [Cx.rev]
                  rw [if_neg (by omega)]
                  exact w4
            · simp only [Cx.rev, hlast.1, k3, k5]
            · exact k4
            · simp only [Cx.rev, hlast.2, k5]
            · have hT2 : VRs (C2.rev C.av b (arr.toList.map cst1)) (putT s.T o0.dst (val i)) (a1.put o0.dst u).tmps.toList := VRs.mono0 hL0 _ _ hr2.tmps
              simp only
              cases hd : oB.dst with
              | none => exact hT2
              | some d =>
                refine VRs_put_same hT2 fun x hx => ?_
                have hdd : o0.dst ≠ some d := fun h => by
                  have h1 : dstOf ops i = some d := by unfold dstOf; rw [ho0]; simpa using h
                  have h2 : dstOf ops (i + 1) = some d := by unfold dstOf; rw [ho1]; simpa using hd
                  have := hinj h1 h2; omega
                have hx' : a1.tmps.toList[d]? = some x := by
                  cases hd0 : o0.dst with
                  | none => rw [hd0] at hx; exact hx
                  | some d0 =>
                    rw [hd0] at hx
                    simp only [Act.put, Array.toList_setIfInBounds] at hx
                    rw [List.getElem?_set_ne (fun h => hdd (by rw [hd0, h]))] at hx
                    exact hx
                rw [hx1 d x hd hx', v1', v2, v3, g1.symm, g2.symm]
                simp only [VR]
                refine ⟨b, rfl, ?_, fun e'' he'' _ => ?_⟩
                · simp only [Cx.rev, k5]; omega
                · simp only [Cx.rev, k3, List.length_append, List.length_cons, List.length_nil, if_true]
        · -- an operation as any other
          have hn1 : ∀ e, pairAt ops e i = true → listed.getD e false = true := fun e he => by
            cases h : listed.getD e false with
            | true => rfl
            | false => exact absurd ⟨e, he, h⟩ hB
          have hn2 : ∀ e, pairAt ops i e = true → listed.getD e false = false := fun e he => by
            cases h : listed.getD e false with
            | false => rfl
            | true => exact absurd ⟨e, he, h⟩ hA2
          obtain ⟨o, ho, hun, b, s2, hw, hb1, hb2, hT, hD2⟩ := step hD i hri hn1 hn2
          have hwanted := wantA_sound hr1.tmps hw
          -- what waits goes on waiting
          have keepW : ∀ {C2 : Cx} {u : Value}, Le C1 C2 → ((Norm listed ∧ Le C C1) ∨ ∃ A, Wait A listed C1 a1) → ((Norm (listed.setIfInBounds i true) ∧ Le C C2) ∨ ∃ A, Wait A (listed.setIfInBounds i true) C2 (a1.put o.dst u)) := by
            intro C2 u k1 hle
            rcases hle with ⟨hN, hle⟩ | ⟨A, hp', hA', hB'', oB, tB, arr, b, ho1, e1, hz1, hx1, hb1, hb2, hav, hav', hle⟩
            · refine .inl ⟨fun e j hp hj => (hset e).2 ?_, hle.trans k1⟩
              rcases (hset j).1 hj with h | h
              · subst h; exact .inr (hn1 e hp)
              · exact .inr (hN e j hp h)
            · have hiA : i ≠ A := fun h => by
                subst h
                have := hn2 _ hp'; rw [hB''] at this; simp at this
              refine .inr ⟨A, hp', ?_, (hset _).2 (.inr hB''), oB, tB, arr, b, ho1, e1, hz1, fun d x hd hx => ?_, ?_, hb2, fun o => by rw [k1.av]; exact hav o, fun x o hx => by rw [k1.av]; exact hav' x o hx, hle.trans ⟨k1.os, k1.tape, k1.output, k1.size, rfl, k1.n, k1.mt, k1.cell, k1.keep, k1.shape, k1.ent, k1.tok⟩⟩
              · rw [getD_set_ne' hiA]; exact hA'
              · refine hx1 d x hd ?_
                have hdd : o.dst ≠ some d := fun h => by
                  have h1 : dstOf ops i = some d := by unfold dstOf; rw [ho]; simpa using h
                  have h2 : dstOf ops (A + 1) = some d := by unfold dstOf; rw [ho1]; simpa using hd
                  have := hinj h1 h2
                  subst this
                  rw [hun] at hB''; simp at hB''
                cases hd0 : o.dst with
                | none => rw [hd0] at hx; exact hx
                | some d0 =>
                  rw [hd0] at hx
                  simp only [Act.put, Array.toList_setIfInBounds] at hx
                  rw [List.getElem?_set_ne (fun h => hdd (by rw [hd0, h]))] at hx
                  exact hx
              · rw [k1.keep b (Array.getElem?_eq_some_iff.1 hb1).1 fun o hm => hr1.sr.own b o hm (hav o)]; exact hb1
          unfold wpOp
          simp only [ho]
          cases b with
          | false =>
            rw [if_neg (by rw [hwanted]; simp)]
            obtain ⟨hv, rfl⟩ := hb2 rfl
            refine ih _ _ C1 _ (by omega) (keepW (Le.refl C1) hle) ?_ hD2
            rw [hv]
            exact hr1.put (Le.refl C1) hr1.sr hr1.S hr1.tk hr1.n (by simp only [VR]) rfl
          | true =>
            rw [if_pos hwanted]
            refine .inl (evO_sound hc hr1 (hb1 rfl) fun u C2 k1 k2 k3 k4 k5 k6 => ?_).1
            exact ih _ _ C2 _ (by omega) (keepW k1 hle) (hr1.put k1 k2 k3 k4 k5 k6 hT) hD2
  have hbel : Below C.w.heap.size C.w C.w.drew := (Below.refl _ _).drew
  refine main ops.size _ st (C.at C.w.drew) a ?_ (.inl ⟨fun e j _ hj => by simp [Array.getD] at hj, Le.of_below hbel⟩) ⟨hr.S, hr.tk, hr.n, VRs.mono (Le.of_below hbel) _ _ hr.tmps, hr.defers, SR.of_below hr.sr hbel⟩ ⟨by simp, ?_, rfl, ?_, fun t _ => rfl, ?_, ?_⟩
  · unfold unlistedCount
    exact Nat.le_trans List.countP_le_length (by simp)
  · intro j hj; simp [Array.getD] at hj
  · intro j t hj; simp [Array.getD] at hj
  · obtain ⟨c, h1, h2, h3⟩ := cur_from (wS ops) (Array.replicate ops.size false) ops.size ops.size 0 (by omega) (by omega) (by intro j hj; omega)
    have hno : ∀ j, 0 ≤ j → j < 0 + c → wS ops j = false := by
      intro j _ hj
      cases hwj : wS ops j with
      | false => rfl
      | true =>
        have := h2.2.1 j (by omega) hwj
        simp [Array.getD] at this
    have := constS c 0 (by have := h2.1; omega) hno
    rw [Nat.zero_add, hs0] at this
    exact ⟨c, h2, this.1.symm, this.2.symm⟩
  · obtain ⟨c, h1, h2, h3⟩ := cur_from (wT ops) (Array.replicate ops.size false) ops.size ops.size 0 (by omega) (by omega) (by intro j hj; omega)
    have hno : ∀ j, 0 ≤ j → j < 0 + c → wT ops j = false := by
      intro j _ hj
      cases hwj : wT ops j with
      | false => rfl
      | true =>
        have := h2.2.1 j (by omega) hwj
        simp [Array.getD] at this
    have := constT c 0 (by have := h2.1; omega) hno
    rw [Nat.zero_add, hs0] at this
    exact ⟨c, h2, this.symm⟩
theorem drawOk_sound [Globs] (hm : P.follows .mixedOrders = true) : DrawOk P drawOk := by
  refine ⟨hm, ?_⟩
  intro call hc ops hi C st st' a Q hok hr h hQ
  exact @drawOk0_sound P (gM (qm ops.toList)) hm call (CallOk_M hc) hi ops C st st' a Q hok (Rel_M.2 hr) h (fun a' C' hle hr' => hQ a' C' hle (Rel_M.1 hr'))
end
end Go.Proofs.Ytkghgdkkholieaa
/-
  The evaluator without a bound on the rounds: its equations.
-/

namespace Go.Proofs.Ytkghgdkkholieaa
open Go.RowKit

section
variable {P : Program}
/-- it answers at least what the other does -/
def CLe (a b : CallA) : Prop := ∀ f args S tk n r, a f args S tk n = some r → b f args S tk n = some r
theorem evO_mono [Globs] {a b : CallA} (h : CLe a b) {o : Oper} {st : St} {r : AV × St} (he : evO P a o st = some r) : evO P b o st = some r := by
  unfold evO at he ⊢
  split <;> simp_all only
  · rename_i c _
    split <;> simp_all only
    split <;> simp_all only
    · rename_i f args hca
      simp only [Option.map_eq_some_iff] at he ⊢
      obtain ⟨x, h1, h2⟩ := he
      exact ⟨x, h _ _ _ _ _ _ h1, h2⟩
theorem evOs_mono [G : Globs] {a b : CallA} (h : CLe a b) {all : List Oper} : ∀ {l : List Oper} {st st' : St}, evOs P a all l st = some st' → evOs P b all l st = some st'
  | [], _, _, he => he
  | o :: l, st, st', he => by
    simp only [evOs] at he ⊢
    split at he
    · simp at he
    · exact evOs_mono h he
    · split at he
      · rename_i v s1 ho
        rw [evO_mono h ho]; exact evOs_mono h he
      · simp at he
theorem CLe.pure [Globs] [Ext P] {M : Bool} {a b : CallA} (h : CLe a b) : CLe (@callP (gM M) P _ a) (@callP (gM M) P _ b) := by
  intro f args S tk n r he
  unfold callP at he ⊢
  split at he
  · rename_i hp; rw [if_pos hp]; exact h _ _ _ _ _ _ he
  · simp at he
theorem loopA_mono {f g : St → Option (Ex × St)} (h : ∀ s r, f s = some r → g s = some r) : ∀ {k m : Nat} {s : St} {r : Ex × St}, k ≤ m → loopA f k s = some r → loopA g m s = some r
  | 0, _, _, _, _, he => by simp [loopA] at he
  | k + 1, 0, _, _, hkm, _ => by omega
  | k + 1, m + 1, s, r, hkm, he => by
    simp only [loopA] at he ⊢
    split at he
    · rename_i s1 h1
      rw [h _ _ h1]
      exact loopA_mono h (by omega) he
    · rename_i hne
      rw [h _ _ he]
      obtain ⟨ex, s2⟩ := r
      cases ex with
      | normal => exact absurd he (hne s2)
      | exit id => rfl
      | ret => rfl
theorem evC_mono [Globs] [Ext P] {a b : CallA} (h : CLe a b) {ok : St → List Oper → Bool} {n m : Nat} (hnm : n ≤ m) : ∀ (c : Code) (st : St) (r : Ex × St), evC P a ok n c st = some r → evC P b ok m c st = some r
  | .skip, _, _, he => by simpa only [evC] using he
  | .region _ ops draw, st, r, he => by
    simp only [evC] at he ⊢
    split at he
    · rename_i hd
      rw [if_pos hd]
      split at he
      · rename_i ini o hsp
        split at he
        · rename_i hok
          simp only [hok, if_true]
          split at he
          · rename_i s1 h1
            rw [evOs_mono (G := gM _) h.pure h1]
            simp only [Option.map_eq_some_iff] at he ⊢
            obtain ⟨x, h1, h2⟩ := he
            exact ⟨x, evOs_mono h h1, h2⟩
          · simp at he
        · simp at he
      · split at he
        · rename_i hok
          simp only [hok, if_true]
          simp only [Option.map_eq_some_iff] at he ⊢
          obtain ⟨x, h1, h2⟩ := he
          exact ⟨x, evOs_mono (G := gM _) h.pure h1, h2⟩
        · simp at he
    · rename_i hd
      rw [if_neg hd]
      simp only [Option.map_eq_some_iff] at he ⊢
      obtain ⟨x, h1, h2⟩ := he
      exact ⟨x, evOs_mono h h1, h2⟩
  | .seq x y, st, r, he => by
    simp only [evC] at he ⊢
    split at he
    · rename_i s1 h1
      rw [evC_mono h hnm x st _ h1]
      exact evC_mono h hnm y s1 r he
    · rename_i hne
      rw [evC_mono h hnm x st _ he]
      obtain ⟨ex, s2⟩ := r
      cases ex with
      | normal => exact absurd he (hne s2)
      | exit id => rfl
      | ret => rfl
  | .cond x y z, st, r, he => by
    simp only [evC] at he ⊢
    split at he
    · rename_i t ht
      split at he
      · rename_i h1; rw [if_pos h1]; exact evC_mono h hnm y st r he
      · rename_i h1; rw [if_neg h1]; exact evC_mono h hnm z st r he
    · simp at he
  | .block id x, st, r, he => by
    simp only [evC] at he ⊢
    split at he
    · rename_i id' s1 h1
      rw [evC_mono h hnm x st _ h1]; exact he
    · rename_i hne
      rw [evC_mono h hnm x st _ he]
      obtain ⟨ex, s2⟩ := r
      cases ex with
      | normal => rfl
      | exit id => exact absurd he (hne id s2)
      | ret => rfl
  | .loop x, st, r, he => by
    simp only [evC] at he ⊢
    exact loopA_mono (fun s r => evC_mono h hnm x s r) hnm he
  | .exit id, _, _, he => by simpa only [evC] using he
  | .ret, _, _, he => by simpa only [evC] using he
  | .rangeFunc _ _ _ _, _, _, he => by simp [evC] at he
  | .scope c, st, r, he => by
    simp only [evC] at he ⊢
    exact evC_mono h hnm c st r he
  | .label _, _, _, he => by simpa only [evC] using he
  | .goto _, _, _, he => by simp [evC] at he
  | .refuse _, _, _, he => by simp [evC] at he
theorem outA_mono {fn : Func} {x y : Option (Ex × St)} {r : AV × St} (h : ∀ z, x = some z → y = some z) (he : outA P fn x = some r) : outA P fn y = some r := by
  match x with
  | none => simp [outA] at he
  | some z => rw [h z rfl]; exact he
theorem evF_mono [Globs] [Ext P] {ok : St → List Oper → Bool} : ∀ {k m : Nat}, k ≤ m → CLe (evF P ok k) (evF P ok m)
  | 0, _, _ => by intro f args S tk n r he; simp [evF] at he
  | k + 1, 0, h => by omega
  | k + 1, m + 1, h => by
    have ih : CLe (evF P ok k) (evF P ok m) := evF_mono (by omega)
    intro f args S tk n r he
    simp only [evF] at he ⊢
    split at he
    · rename_i hon; rw [if_pos hon]; exact he
    rename_i hon
    rw [if_neg hon]
    split at he
    · rename_i fn hf
      split at he
      · rename_i c hb
        split at he
        · simp at he
        · rename_i hname
          rw [if_neg hname]
          split at he
          · rename_i hmv
            rw [if_pos hmv]
            split at he
            · rename_i r' s1 ho
              rw [outA_mono (fun z hz => evC_mono ih (by omega) c _ z hz) ho]
              exact he
            · simp at he
          rename_i hmv
          rw [if_neg hmv]
          split at he
          · rename_i hp
            rw [if_pos hp]
            have one : ∀ {as : List AV} {r0 : AV}, runP P ok (evF P ok k) k fn c as = some r0 → runP P ok (evF P ok m) m fn c as = some r0 := by
              intro as r0 hrun
              unfold runP at hrun ⊢
              split at hrun
              · rename_i r' s1 ho
                rw [outA_mono (fun z hz => evC_mono ih (by omega) c _ z hz) ho]
                exact hrun
              · simp at hrun
            split at he
            · rename_i r' ho
              have : (if nilCmp c = true then runN (runP P ok (evF P ok m) m fn c) (args.map w2) else runP P ok (evF P ok m) m fn c (args.map w2)) = some r' := by
                split at ho
                · rename_i hn
                  rw [if_pos hn]
                  unfold runN at ho ⊢
                  split at ho
                  · split at ho
                    · rename_i q1 q2
                      rw [one q1, one q2]; exact ho
                    · simp at ho
                  · exact one ho
                · rename_i hn
                  rw [if_neg hn]
                  exact one ho
              rw [this]; exact he
            · simp at he
          · rename_i hp
            rw [if_neg hp]
            split at he
            · rename_i r' s1 ho
              rw [outA_mono (fun z hz => evC_mono ih (by omega) c _ z hz) ho]
              exact he
            · simp at he
      · simp at he
    · simp at he

/-- what a growing sequence comes to -/
noncomputable def lim {α : Type} (F : Nat → Option α) : Option α := by
  classical
  exact if h : ∃ x, ∃ k, F k = some x then some h.choose else none
theorem lim_iff {α : Type} {F : Nat → Option α} (hm : ∀ k m x, k ≤ m → F k = some x → F m = some x) {x : α} : lim F = some x ↔ ∃ k, F k = some x := by
  unfold lim
  constructor
  · intro h
    split at h
    · rename_i hx
      simp only [Option.some.injEq] at h; subst h
      exact hx.choose_spec
    · simp at h
  · rintro ⟨k, hk⟩
    have hx : ∃ x, ∃ k, F k = some x := ⟨x, k, hk⟩
    rw [dif_pos hx]
    obtain ⟨m, hm'⟩ := hx.choose_spec
    have h1 := hm _ _ _ (Nat.le_max_left k m) hk
    have h2 := hm _ _ _ (Nat.le_max_right k m) hm'
    rw [h1] at h2
    simp only [Option.some.injEq] at h2
    rw [← h2]
theorem opt_ext {α : Type} {a b : Option α} (h : ∀ x, a = some x ↔ b = some x) : a = b := by
  cases a with
  | none =>
    cases b with
    | none => rfl
    | some y => have := (h y).2 rfl; simp at this
  | some x => exact ((h x).1 rfl).symm

/-- calls and code, without a bound -/
noncomputable def cL [Globs] (P : Program) [Ext P] : CallA := fun f args S tk n => lim fun k => evF P drawOk k f args S tk n
noncomputable def eL [Globs] (P : Program) [Ext P] (c : Code) (st : St) : Option (Ex × St) := lim fun k => evC P (evF P drawOk k) drawOk k c st
theorem cL_iff [Globs] [Ext P] {f args S tk n x} : cL P f args S tk n = some x ↔ ∃ k, evF P drawOk k f args S tk n = some x := lim_iff fun _ _ _ h he => evF_mono h _ _ _ _ _ _ he
theorem eL_iff [Globs] [Ext P] {c : Code} {st : St} {x : Ex × St} : eL P c st = some x ↔ ∃ k, evC P (evF P drawOk k) drawOk k c st = some x := lim_iff fun _ _ _ h he => evC_mono (evF_mono h) h _ _ _ he
theorem cL_le [Globs] [Ext P] (k : Nat) : CLe (evF P drawOk k) (cL P) := fun _ _ _ _ _ _ h => cL_iff.2 ⟨k, h⟩
section
variable {F : Nat → CallA} {L : CallA} (hF : ∀ k m, k ≤ m → CLe (F k) (F m)) (hL : ∀ f args S tk n x, L f args S tk n = some x → ∃ k, F k f args S tk n = some x)
include hL
theorem evO_lim [Globs] {o : Oper} {st : St} {r : AV × St} (h : evO P L o st = some r) : ∃ k, evO P (F k) o st = some r := by
  by_cases hc : ∃ c f args, o.op = .call c ∧ calleeA st.T c = some (f, args) ∧ (∀ b, c.callee ≠ .builtin b)
  · obtain ⟨c, f, args, ho, hca, hb⟩ := hc
    have e : ∀ call : CallA, evO P call o st = (call f args st.S st.tk st.n).map fun (v, S, tk, n) => (v, { st with S := S, tk := tk, n := n }) := by
      intro call
      unfold evO
      rw [ho]
      simp only
      split
      · rename_i h'; exact absurd h' (hb _)
      · rename_i h'; exact absurd h' (hb _)
      · rename_i b _ _ h'; exact absurd h' (hb _)
      · rw [hca]
    rw [e] at h
    simp only [Option.map_eq_some_iff] at h
    obtain ⟨x, h1, h2⟩ := h
    obtain ⟨k, hk⟩ := hL _ _ _ _ _ _ h1
    exact ⟨k, by rw [e, hk]; simp [h2]⟩
  · refine ⟨0, ?_⟩
    have e : ∀ call call' : CallA, evO P call o st = evO P call' o st := by
      intro call call'
      unfold evO
      split <;> try rfl
      rename_i c ho
      split <;> try rfl
      rename_i h1 h2 h3
      split
      · rename_i f args hca
        exact absurd ⟨c, f, args, ho, hca, fun b hb => by cases b <;> first | exact h1 hb | exact h2 hb | exact h3 _ hb⟩ hc
      · rfl
    rw [e _ L]; exact h
include hF
theorem evOs_lim [G : Globs] {all : List Oper} : ∀ {l : List Oper} {st st' : St}, evOs P L all l st = some st' → ∃ k, evOs P (F k) all l st = some st'
  | [], _, _, h => ⟨0, h⟩
  | o :: l, st, st', h => by
    simp only [evOs] at h
    split at h
    · simp at h
    · rename_i hw
      obtain ⟨k, hk⟩ := evOs_lim h
      exact ⟨k, by simp only [evOs, hw]; exact hk⟩
    · rename_i hw
      split at h
      · rename_i v s1 ho
        obtain ⟨k, hk⟩ := evO_lim hL ho
        obtain ⟨m, hm⟩ := evOs_lim h
        refine ⟨max k m, ?_⟩
        simp only [evOs, hw]
        rw [evO_mono (hF _ _ (Nat.le_max_left k m)) hk]
        exact evOs_mono (hF _ _ (Nat.le_max_right k m)) hm
      · simp at h
end
theorem evOs_cL [Globs] [Ext P] {all l : List Oper} {st st' : St} (h : evOs P (cL P) all l st = some st') : ∃ k, evOs P (evF P drawOk k) all l st = some st' :=
  evOs_lim (fun _ _ h => evF_mono h) (fun _ _ _ _ _ _ h => cL_iff.1 h) h
theorem evOs_cP [Globs] [Ext P] {M : Bool} {all l : List Oper} {st st' : St} (h : @evOs (gM M) P (@callP (gM M) P _ (cL P)) all l st = some st') : ∃ k, @evOs (gM M) P (@callP (gM M) P _ (evF P drawOk k)) all l st = some st' := by
  refine evOs_lim (F := fun k => @callP (gM M) P _ (evF P drawOk k)) (G := gM M) (fun _ _ h => (evF_mono h).pure) (fun f args S tk n x h => ?_) h
  unfold callP at h
  split at h
  · rename_i hp
    obtain ⟨k, hk⟩ := cL_iff.1 h
    exact ⟨k, by unfold callP; rw [if_pos hp]; exact hk⟩
  · simp at h

/-- what comes behind a piece of code -/
inductive Kont where
  | seq (c : Code) | block (id : Nat) | loop (c : Code) (k : Nat)
noncomputable def cont [Globs] (P : Program) [Ext P] (fn : Func) : Ex → St → List Kont → Option (AV × St)
  | e, st, [] => outA P fn (some (e, st))
  | .normal, st, .seq c :: k => match eL P c st with | some (e, st') => cont P fn e st' k | none => none
  | .normal, st, .block _ :: k => cont P fn .normal st k
  | .normal, st, .loop c n :: k => match eL P (.loop c) { st with S := st.S.take n } with | some (e, st') => cont P fn e st' k | none => none
  | .exit id, st, .seq _ :: k => cont P fn (.exit id) st k
  | .exit id, st, .block id' :: k => if id = id' then cont P fn .normal st k else cont P fn (.exit id) st k
  | .exit id, st, .loop _ _ :: k => cont P fn (.exit id) st k
  | .ret, st, _ :: k => cont P fn .ret st k
/-- a piece of code and what comes behind it -/
noncomputable def RK [Globs] (P : Program) [Ext P] (fn : Func) (c : Code) (st : St) (k : List Kont) : Option (AV × St) := match eL P c st with | some (e, st') => cont P fn e st' k | none => none
noncomputable def callM [Globs] (M : Bool) (P : Program) [Ext P] (call : CallA) : CallA := @callP (gM M) P _ call
noncomputable def RO [Globs] (P : Program) [Ext P] (fn : Func) (M : Bool) (call : CallA) (all l : List Oper) (st : St) (k : List Kont) : Option (AV × St) := match @evOs (gM M) P call all l st with | some st' => cont P fn .normal st' k | none => none
def br {α : Type} (w : Option Bool) (a b : Option α) : Option α := match w with | some true => a | some false => b | none => none
/-- simp is to look at the test alone, till that is known -/
theorem br_congr {α : Type} {w w' : Option Bool} {a b : Option α} (h : w = w') : br w a b = br w' a b := by rw [h]
theorem br_some {α : Type} (t : Bool) (a b : Option α) : br (some t) a b = if t = true then a else b := by cases t <;> rfl

variable {fn : Func} {st : St} {k : List Kont}
theorem RK_skip [Globs] [Ext P] : RK P fn .skip st k = cont P fn .normal st k := by
  have : eL P .skip st = some (.normal, st) := eL_iff.2 ⟨0, rfl⟩
  simp only [RK, this]
theorem RK_exit [Globs] [Ext P] {id : Nat} : RK P fn (.exit id) st k = cont P fn (.exit id) st k := by
  have : eL P (.exit id) st = some (.exit id, st) := eL_iff.2 ⟨0, rfl⟩
  simp only [RK, this]
theorem RK_ret [Globs] [Ext P] : RK P fn .ret st k = cont P fn .ret st k := by
  have : eL P .ret st = some (.ret, st) := eL_iff.2 ⟨0, rfl⟩
  simp only [RK, this]
theorem eL_seq [Globs] [Ext P] {a b : Code} : eL P (.seq a b) st = match eL P a st with | some (.normal, st') => eL P b st' | r => r := by
  apply opt_ext
  intro x
  constructor
  · intro h
    obtain ⟨n, h⟩ := eL_iff.1 h
    simp only [evC] at h
    split at h
    · rename_i s1 h1
      rw [eL_iff.2 ⟨n, h1⟩]
      exact eL_iff.2 ⟨n, h⟩
    · rename_i hne
      rw [eL_iff.2 ⟨n, h⟩]
      obtain ⟨ex, s2⟩ := x
      cases ex with
      | normal => exact absurd h (hne s2)
      | exit id => rfl
      | ret => rfl
  · intro h
    split at h
    · rename_i s1 h1
      obtain ⟨n, h1⟩ := eL_iff.1 h1
      obtain ⟨m, h⟩ := eL_iff.1 h
      refine eL_iff.2 ⟨max n m, ?_⟩
      simp only [evC]
      rw [evC_mono (evF_mono (Nat.le_max_left n m)) (Nat.le_max_left n m) _ _ _ h1]
      exact evC_mono (evF_mono (Nat.le_max_right n m)) (Nat.le_max_right n m) _ _ _ h
    · rename_i hne
      obtain ⟨n, h1⟩ := eL_iff.1 h
      refine eL_iff.2 ⟨n, ?_⟩
      simp only [evC]
      rw [h1]
      obtain ⟨ex, s2⟩ := x
      cases ex with
      | normal => exact absurd h (hne s2)
      | exit id => rfl
      | ret => rfl
theorem RK_seq [Globs] [Ext P] {a b : Code} : RK P fn (.seq a b) st k = RK P fn a st (.seq b :: k) := by
  simp only [RK, eL_seq]
  cases h : eL P a st with
  | none => rfl
  | some x =>
    obtain ⟨e, s⟩ := x
    cases e <;> simp only [cont]
theorem eL_cond [Globs] [Ext P] {c : Operand} {a b : Code} : eL P (.cond c a b) st = match opv st.T c with | .prim (.bool t) => if t = true then eL P a st else eL P b st | _ => none := by
  apply opt_ext
  intro x
  rw [eL_iff]
  simp only [evC]
  generalize opv st.T c = v
  cases v with
  | prim u =>
    cases u with
    | bool t => cases t <;> simp [eL_iff]
    | _ => simp
  | _ => simp
theorem RK_cond [Globs] [Ext P] {c : Operand} {a b : Code} : RK P fn (.cond c a b) st k = match opv st.T c with | .prim (.bool t) => if t = true then RK P fn a st k else RK P fn b st k | _ => none := by
  simp only [RK, eL_cond]
  generalize opv st.T c = v
  cases v with
  | prim u =>
    cases u with
    | bool t => cases t <;> simp
    | _ => rfl
  | _ => rfl
theorem eL_block [Globs] [Ext P] {id : Nat} {c : Code} : eL P (.block id c) st = match eL P c st with | some (.exit id', st') => if id' = id then some (.normal, st') else some (.exit id', st') | r => r := by
  apply opt_ext
  intro x
  constructor
  · intro h
    obtain ⟨n, h⟩ := eL_iff.1 h
    simp only [evC] at h
    split at h
    · rename_i s1 h1
      rw [eL_iff.2 ⟨n, h1⟩]; exact h
    · rename_i hne
      rw [eL_iff.2 ⟨n, h⟩]
      obtain ⟨ex, s2⟩ := x
      cases ex with
      | normal => rfl
      | exit id => exact absurd h (hne id s2)
      | ret => rfl
  · intro h
    split at h
    · rename_i id' s1 h1
      obtain ⟨n, h1⟩ := eL_iff.1 h1
      exact eL_iff.2 ⟨n, by simp only [evC]; rw [h1]; exact h⟩
    · rename_i hne
      obtain ⟨n, h1⟩ := eL_iff.1 h
      refine eL_iff.2 ⟨n, ?_⟩
      simp only [evC]
      rw [h1]
      obtain ⟨ex, s2⟩ := x
      cases ex with
      | normal => rfl
      | exit id => exact absurd h (hne id s2)
      | ret => rfl
theorem RK_block [Globs] [Ext P] {id : Nat} {c : Code} : RK P fn (.block id c) st k = RK P fn c st (.block id :: k) := by
  simp only [RK, eL_block]
  cases h : eL P c st with
  | none => rfl
  | some x =>
    obtain ⟨e, s⟩ := x
    cases e with
    | exit id' => by_cases hid : id' = id <;> simp [cont, hid]
    | normal => simp only [cont]
    | ret => simp only [cont]
theorem eL_loop [Globs] [Ext P] {c : Code} : eL P (.loop c) st = match eL P c st with | some (.normal, st') => eL P (.loop c) { st' with S := st'.S.take st.S.length } | r => r := by
  apply opt_ext
  intro x
  constructor
  · intro h
    obtain ⟨n, h⟩ := eL_iff.1 h
    simp only [evC] at h
    cases n with
    | zero => simp [loopA] at h
    | succ n =>
      simp only [loopA] at h
      split at h
      · rename_i s1 h1
        rw [eL_iff.2 ⟨n + 1, h1⟩]
        exact eL_iff.2 ⟨n + 1, by simp only [evC]; exact loopA_mono (fun _ _ h => h) (Nat.le_succ n) h⟩
      · rename_i hne
        rw [eL_iff.2 ⟨n + 1, h⟩]
        obtain ⟨ex, s2⟩ := x
        cases ex with
        | normal => exact absurd h (hne s2)
        | exit id => rfl
        | ret => rfl
  · intro h
    split at h
    · rename_i s1 h1
      obtain ⟨n, h1⟩ := eL_iff.1 h1
      obtain ⟨m, h⟩ := eL_iff.1 h
      simp only [evC] at h
      refine eL_iff.2 ⟨max n m + 1, ?_⟩
      simp only [evC, loopA]
      rw [evC_mono (evF_mono (show n ≤ max n m + 1 by omega)) (show n ≤ max n m + 1 by omega) _ _ _ h1]
      exact loopA_mono (fun s r => evC_mono (evF_mono (show m ≤ max n m + 1 by omega)) (show m ≤ max n m + 1 by omega) c s r) (show m ≤ max n m by omega) h
    · rename_i hne
      obtain ⟨n, h1⟩ := eL_iff.1 h
      refine eL_iff.2 ⟨n + 1, ?_⟩
      simp only [evC, loopA]
      rw [evC_mono (evF_mono (Nat.le_succ n)) (Nat.le_succ n) _ _ _ h1]
      obtain ⟨ex, s2⟩ := x
      cases ex with
      | normal => exact absurd h (hne s2)
      | exit id => rfl
      | ret => rfl
/-- one round of a loop -/
theorem RK_loop [Globs] [Ext P] {c : Code} : RK P fn (.loop c) st k = RK P fn c st (.loop c st.S.length :: k) := by
  rw [RK, eL_loop, RK]
  cases h : eL P c st with
  | none => rfl
  | some x =>
    obtain ⟨e, s⟩ := x
    cases e <;> simp only [cont]
theorem eL_region [Globs] [Ext P] {id : Nat} {ops : Array Oper} : eL P (.region id ops false) st = (evOs P (cL P) ops.toList ops.toList st).map fun st => (.normal, st) := by
  apply opt_ext
  intro x
  rw [eL_iff]
  simp only [evC, Option.map_eq_some_iff, Bool.false_eq_true, if_false]
  constructor
  · rintro ⟨n, s, h1, h2⟩; exact ⟨s, evOs_mono (cL_le n) h1, h2⟩
  · rintro ⟨s, h1, h2⟩
    obtain ⟨n, hn⟩ := evOs_cL h1
    exact ⟨n, s, hn, h2⟩
theorem eL_draw [Globs] [Ext P] {id : Nat} {ops : Array Oper} (hs : splitT ops.toList = none) : eL P (.region id ops true) st = if drawOk st ops.toList = true then (@evOs (gM (qm ops.toList)) P (callM (qm ops.toList) P (cL P)) ops.toList ops.toList st).map fun st => (.normal, st) else none := by
  apply opt_ext
  intro x
  rw [eL_iff]
  simp only [evC, if_true, hs]
  by_cases hok : drawOk st ops.toList = true
  · simp only [hok, if_true, Option.map_eq_some_iff]
    constructor
    · rintro ⟨n, s, h1, h2⟩; exact ⟨s, evOs_mono (G := gM _) (cL_le n).pure h1, h2⟩
    · rintro ⟨s, h1, h2⟩
      obtain ⟨n, hn⟩ := evOs_cP h1
      exact ⟨n, s, hn, h2⟩
  · simp [hok]
theorem eL_tail [Globs] [Ext P] {id : Nat} {ops : Array Oper} {a : List Oper} {o : Oper} (hs : splitT ops.toList = some (a, o)) : eL P (.region id ops true) st = if drawOk st a = true then (match @evOs (gM (qm a)) P (callM (qm a) P (cL P)) a a st with | some st1 => (evOs P (cL P) [o] [o] st1).map fun st => (.normal, st) | none => none) else none := by
  apply opt_ext
  intro x
  rw [eL_iff]
  simp only [evC, if_true, hs]
  by_cases hok : drawOk st a = true
  · simp only [hok, if_true]
    constructor
    · rintro ⟨n, h⟩
      split at h
      · rename_i s1 h1
        have e : @evOs (gM (qm a)) P (callM (qm a) P (cL P)) a a st = some s1 := evOs_mono (G := gM _) (cL_le n).pure h1
        rw [e]
        simp only [Option.map_eq_some_iff] at h ⊢
        obtain ⟨s, h1, h2⟩ := h
        exact ⟨s, evOs_mono (cL_le n) h1, h2⟩
      · simp at h
    · intro h
      split at h
      · rename_i s1 h1
        simp only [Option.map_eq_some_iff] at h
        obtain ⟨s, h2, h3⟩ := h
        obtain ⟨n, hn⟩ := evOs_cP h1
        obtain ⟨m, hm⟩ := evOs_cL h2
        refine ⟨max n m, ?_⟩
        rw [evOs_mono (G := gM _) (evF_mono (show n ≤ max n m by omega)).pure hn]
        simp only [Option.map_eq_some_iff]
        exact ⟨s, evOs_mono (evF_mono (show m ≤ max n m by omega)) hm, h3⟩
      · simp at h
  · simp [hok]
theorem RK_scope [Globs] [Ext P] {c : Code} : RK P fn (.scope c) st k = RK P fn c st k := by
  have : eL P (.scope c) st = eL P c st := by
    apply opt_ext
    intro x
    rw [eL_iff, eL_iff]
    simp only [evC]
  simp only [RK, this]
theorem RK_label [Globs] [Ext P] {l : Nat} : RK P fn (.label l) st k = cont P fn .normal st k := by
  have : eL P (.label l) st = some (.normal, st) := eL_iff.2 ⟨0, by simp only [evC]⟩
  simp only [RK, this]
theorem RK_region [Globs] [Ext P] {id : Nat} {ops : Array Oper} : RK P fn (.region id ops false) st k = RO P fn false (cL P) ops.toList ops.toList st k := by
  simp only [RK, eL_region]
  show _ = match evOs P (cL P) ops.toList ops.toList st with | some st' => cont P fn .normal st' k | none => none
  cases evOs P (cL P) ops.toList ops.toList st <;> rfl
theorem RK_draw [Globs] [Ext P] {id : Nat} {ops : Array Oper} (hs : splitT ops.toList = none) (h : drawOk st ops.toList = true) : RK P fn (.region id ops true) st k = RO P fn (qm ops.toList) (callM (qm ops.toList) P (cL P)) ops.toList ops.toList st k := by
  simp only [RK, RO, eL_draw hs, if_true, h]
  cases @evOs (gM (qm ops.toList)) P (callM (qm ops.toList) P (cL P)) ops.toList ops.toList st <;> rfl
theorem RK_tail [Globs] [Ext P] {id : Nat} {ops : Array Oper} {a : List Oper} {o : Oper} (hs : splitT ops.toList = some (a, o)) (hs2 : splitT a = none) (h : drawOk st a = true) : RK P fn (.region id ops true) st k = RK P fn (.region id a.toArray true) st (.seq (.region id #[o] false) :: k) := by
  rw [RK_draw (ops := a.toArray) (by simpa using hs2) (by simpa using h)]
  simp only [RK, RO, eL_tail hs, if_true, h]
  cases @evOs (gM (qm a)) P (callM (qm a) P (cL P)) a a st with
  | none => rfl
  | some s1 =>
    simp only [cont, RK, eL_region]
theorem RO_nil [Globs] [Ext P] {M : Bool} {call : CallA} {all : List Oper} : RO P fn M call all [] st k = cont P fn .normal st k := rfl
theorem RO_cons [Globs] [Ext P] {M : Bool} {call : CallA} {all l : List Oper} {o : Oper} : RO P fn M call all (o :: l) st k = br (wantA all st.T o) (match @evO (gM M) P call o st with | some (v, st') => RO P fn M call all l { st' with T := putT st'.T o.dst v } k | none => none) (RO P fn M call all l { st with T := putT st.T o.dst (.prim undef) } k) := by
  simp only [RO, evOs]
  cases wantA all st.T o with
  | none => rfl
  | some b =>
    cases b with
    | false => rfl
    | true =>
      simp only [br]
      cases @evO (gM M) P call o st with
      | none => rfl
      | some x => rfl
theorem cont_seq [Globs] [Ext P] {c : Code} : cont P fn .normal st (.seq c :: k) = RK P fn c st k := rfl
theorem cont_block [Globs] [Ext P] {id : Nat} : cont P fn .normal st (.block id :: k) = cont P fn .normal st k := rfl
theorem cont_loop [Globs] [Ext P] {c : Code} {n : Nat} : cont P fn .normal st (.loop c n :: k) = RK P fn (.loop c) { st with S := st.S.take n } k := rfl
theorem cont_exit_seq [Globs] [Ext P] {c : Code} {id : Nat} : cont P fn (.exit id) st (.seq c :: k) = cont P fn (.exit id) st k := rfl
theorem cont_exit_block [Globs] [Ext P] {id id' : Nat} : cont P fn (.exit id) st (.block id' :: k) = if id = id' then cont P fn .normal st k else cont P fn (.exit id) st k := rfl
theorem cont_exit_loop [Globs] [Ext P] {c : Code} {id n : Nat} : cont P fn (.exit id) st (.loop c n :: k) = cont P fn (.exit id) st k := rfl
theorem cont_ret [Globs] [Ext P] {x : Kont} : cont P fn .ret st (x :: k) = cont P fn .ret st k := by cases x <;> rfl
theorem cont_ret_nil [Globs] [Ext P] : cont P fn .ret st [] = outA P fn (some (.ret, st)) := rfl
theorem cont_normal_nil [Globs] [Ext P] : cont P fn .normal st [] = outA P fn (some (.normal, st)) := rfl

theorem outA_lim [Globs] [Ext P] {x : Code} {r : AV × St} (h : RK P fn x st [] = some r) : ∃ n, outA P fn (evC P (evF P drawOk n) drawOk n x st) = some r := by
  unfold RK at h
  cases he : eL P x st with
  | none => rw [he] at h; simp at h
  | some z =>
    rw [he] at h
    obtain ⟨n, hn⟩ := eL_iff.1 he
    obtain ⟨e, s⟩ := z
    refine ⟨n, ?_⟩
    rw [hn]
    cases e <;> exact h
/-- a value that is a bool -/
def asB : AV → Option Bool | .prim (.bool t) => some t | _ => none
theorem asB_bool {t : Bool} : asB (.prim (.bool t)) = some t := rfl
theorem RK_if [Globs] [Ext P] {c : Operand} {a b : Code} : RK P fn (.cond c a b) st k = br (asB (opv st.T c)) (RK P fn a st k) (RK P fn b st k) := by
  rw [RK_cond]
  generalize opv st.T c = v
  cases v with
  | prim u =>
    cases u with
    | bool t => cases t <;> rfl
    | _ => rfl
  | _ => rfl
/-- the result of a function that hangs on no variable -/
def fin1 (x : Option (AV × St)) : Option AV := match x with | some (r, s) => some (w3 (fz3 0 s.S r)) | none => none
theorem fin1_some {r : AV} {s : St} : fin1 (some (r, s)) = some (w3 (fz3 0 s.S r)) := rfl
theorem fin1_ite {c : Prop} [Decidable c] {a b : Option (AV × St)} : fin1 (if c then a else b) = if c then fin1 a else fin1 b := by split <;> rfl
/-- the result of a function among its caller's variables -/
def finS (b : Nat) (x : Option (AV × St)) : Option (AV × List Ent × List Nat × Nat) := match x with | some (r, s) => some (fz3 b s.S r, s.S.take b, s.tk, s.n) | none => none
theorem finS_some {b : Nat} {r : AV} {s : St} : finS b (some (r, s)) = some (fz3 b s.S r, s.S.take b, s.tk, s.n) := rfl
theorem finS_ite {b : Nat} {c : Prop} [Decidable c] {x y : Option (AV × St)} : finS b (if c then x else y) = if c then finS b x else finS b y := by split <;> rfl
theorem fin1_br {t : Bool} {a b : Option (AV × St)} {r : AV} : fin1 (br (some t) a b) = some r ↔ (t = true → fin1 a = some r) ∧ (t = false → fin1 b = some r) := by cases t <;> simp [br]
theorem finS_br {n : Nat} {t : Bool} {a b : Option (AV × St)} {r : AV × List Ent × List Nat × Nat} : finS n (br (some t) a b) = some r ↔ (t = true → finS n a = some r) ∧ (t = false → finS n b = some r) := by cases t <;> simp [br]
theorem br_not {α : Type} {t : Bool} {a b : Option α} : br (some (!t)) a b = br (some t) b a := by cases t <;> rfl
theorem br_true {α : Type} {a b : Option α} : br (some true) a b = a := rfl
theorem br_false {α : Type} {a b : Option α} : br (some false) a b = b := rfl
/-- a loop: what holds of each round holds of all -/
theorem loop_rule [Globs] [Ext P] {ι : Type} {c : Code} (I : ι → St → Prop) (μ : ι → Nat) (G : ι → AV) (h : ∀ x st, I x st → (∀ y st', μ y < μ x → I y st' → fin1 (RK P fn (.loop c) st' k) = some (G y)) → fin1 (RK P fn c st (.loop c st.S.length :: k)) = some (G x)) {x : ι} {st : St} (h0 : I x st) : fin1 (RK P fn (.loop c) st k) = some (G x) := by
  have key : ∀ n x st, μ x = n → I x st → fin1 (RK P fn (.loop c) st k) = some (G x) := by
    intro n
    induction n using Nat.strongRecOn with
    | _ n ih =>
      intro x st hn hI
      rw [RK_loop]
      exact h x st hI fun y st' hlt hy => ih (μ y) (hn ▸ hlt) y st' rfl hy
  exact key _ x st rfl h0
theorem loop_ruleS [Globs] [Ext P] {ι : Type} {c : Code} {m : Nat} (I : ι → St → Prop) (μ : ι → Nat) (G : ι → AV × List Ent × List Nat × Nat) (h : ∀ x st, I x st → (∀ y st', μ y < μ x → I y st' → finS m (RK P fn (.loop c) st' k) = some (G y)) → finS m (RK P fn c st (.loop c st.S.length :: k)) = some (G x)) {x : ι} {st : St} (h0 : I x st) : finS m (RK P fn (.loop c) st k) = some (G x) := by
  have key : ∀ n x st, μ x = n → I x st → finS m (RK P fn (.loop c) st k) = some (G x) := by
    intro n
    induction n using Nat.strongRecOn with
    | _ n ih =>
      intro x st hn hI
      rw [RK_loop]
      exact h x st hI fun y st' hlt hy => ih (μ y) (hn ▸ hlt) y st' rfl hy
  exact key _ x st rfl h0
theorem runP_lim [Globs] [Ext P] {c : Code} {as : List AV} {r : AV} (hp3 : pure3 r = true) (h : fin1 (RK P fn c ⟨as ++ bots (fn.ntmps - as.length), [], [], 0⟩ []) = some r) : ∃ m, runP P drawOk (evF P drawOk m) m fn c as = some r := by
  rw [bots_eq] at h
  cases hr : RK P fn c ⟨as ++ List.replicate (fn.ntmps - as.length) .bot, [], [], 0⟩ [] with
  | none => rw [hr] at h; simp [fin1] at h
  | some x =>
    obtain ⟨r', s⟩ := x
    rw [hr, fin1_some] at h
    simp only [Option.some.injEq] at h
    obtain ⟨m, hm⟩ := outA_lim hr
    refine ⟨m, ?_⟩
    unfold runP
    rw [hm]
    simp only [h, hp3, if_true]
theorem runP_mono [Globs] [Ext P] {k m : Nat} (h : k ≤ m) {c : Code} {as : List AV} {r : AV} (hr : runP P drawOk (evF P drawOk k) k fn c as = some r) : runP P drawOk (evF P drawOk m) m fn c as = some r := by
  unfold runP at hr ⊢
  split at hr
  · rename_i r' s1 ho
    rw [outA_mono (fun z hz => evC_mono (evF_mono h) h c _ z hz) ho]
    exact hr
  · simp at hr
/-- a call of a function that hangs on no variable -/
theorem call_pure [Globs] [Ext P] {f : FuncId} {c : Code} (hf : P.funcs[f]? = some fn) (hx : (Ext.on P f || Ext.mv P f) = false) (hb : fn.body = some c) (hnil : nilCmp c = false) (hname : (fn.name == "runtime.NumGoroutine") = false) {args args' : List AV} {nt : Nat} (hnt : fn.ntmps = nt) (hargs : args.map w2 = args') (hp : args'.all pure2 = true) {r : AV}
    (S : List Ent) (tk : List Nat) (n : Nat) (hp3 : pure3 r = true) (h : fin1 (RK P fn c ⟨args' ++ bots (nt - args.length), [], [], 0⟩ []) = some r) : cL P f args S tk n = some (r, S, tk, n) := by
  subst hargs hnt
  obtain ⟨m, hm⟩ := runP_lim (as := args.map w2) hp3 (by rw [List.length_map]; exact h)
  refine cL_iff.2 ⟨m + 1, ?_⟩
  have hn : ¬ fn.name = "runtime.NumGoroutine" := by simpa using hname
  simp only [Bool.or_eq_false_iff] at hx
  simp only [evF, hf, hb]
  rw [if_neg (by rw [hx.1]; simp), if_neg hn, if_neg (by rw [hx.2]; simp), if_pos hp, if_neg (by rw [hnil]; simp), hm]
/-- a call of a function that asks whether its first argument is nil, with an argument that is not empty -/
theorem call_nil_cons [Globs] [Ext P] {f : FuncId} {c : Code} (hf : P.funcs[f]? = some fn) (hx : (Ext.on P f || Ext.mv P f) = false) (hb : fn.body = some c) (hnil : nilCmp c = true) (hname : (fn.name == "runtime.NumGoroutine") = false) {e : List AV} {es : List (List AV)} {args args' : List AV} {nt : Nat} (hnt : fn.ntmps = nt) (hargs : args.map w2 = .frz (e :: es) .unk :: args') (hp : (AV.frz (e :: es) .unk :: args').all pure2 = true) {r : AV}
    (S : List Ent) (tk : List Nat) (n : Nat) (hp3 : pure3 r = true) (h : fin1 (RK P fn c ⟨(.frz (e :: es) .unk :: args') ++ bots (nt - (args'.length + 1)), [], [], 0⟩ []) = some r) : cL P f args S tk n = some (r, S, tk, n) := by
  subst hnt
  obtain ⟨m, hm⟩ := runP_lim (as := .frz (e :: es) .unk :: args') hp3 h
  refine cL_iff.2 ⟨m + 1, ?_⟩
  have hn : ¬ fn.name = "runtime.NumGoroutine" := by simpa using hname
  simp only [Bool.or_eq_false_iff] at hx
  simp only [evF, hf, hb]
  rw [if_neg (by rw [hx.1]; simp), if_neg hn, if_neg (by rw [hx.2]; simp), if_pos (by rw [hargs]; exact hp), if_pos hnil, hargs]
  simp only [runN, hm]
/-- .. and with an empty one -/
theorem call_nil_nil [Globs] [Ext P] {f : FuncId} {c : Code} (hf : P.funcs[f]? = some fn) (hx : (Ext.on P f || Ext.mv P f) = false) (hb : fn.body = some c) (hnil : nilCmp c = true) (hname : (fn.name == "runtime.NumGoroutine") = false) {args args' : List AV} {nt : Nat} (hnt : fn.ntmps = nt) (hargs : args.map w2 = .frz [] .unk :: args') (hp : args'.all pure2 = true)
    (S : List Ent) (tk : List Nat) (n : Nat) (h1 : fin1 (RK P fn c ⟨(.frz [] .nl :: args') ++ bots (nt - (args'.length + 1)), [], [], 0⟩ []) = some (.frz [] .unk)) (h2 : fin1 (RK P fn c ⟨(.frz [] .nn :: args') ++ bots (nt - (args'.length + 1)), [], [], 0⟩ []) = some (.frz [] .unk)) : cL P f args S tk n = some (.frz [] .unk, S, tk, n) := by
  subst hnt
  obtain ⟨m1, hm1⟩ := runP_lim (as := .frz [] .nl :: args') rfl h1
  obtain ⟨m2, hm2⟩ := runP_lim (as := .frz [] .nn :: args') rfl h2
  refine cL_iff.2 ⟨max m1 m2 + 1, ?_⟩
  have hn : ¬ fn.name = "runtime.NumGoroutine" := by simpa using hname
  simp only [Bool.or_eq_false_iff] at hx
  simp only [evF, hf, hb]
  rw [if_neg (by rw [hx.1]; simp), if_neg hn, if_neg (by rw [hx.2]; simp), if_pos (by rw [hargs]; simpa [pure2, pure1] using hp), if_pos hnil, hargs]
  simp only [runN, runP_mono (Nat.le_max_left m1 m2) hm1, runP_mono (Nat.le_max_right m1 m2) hm2]
theorem call_shared [Globs] [Ext P] {f : FuncId} {c : Code} (hf : P.funcs[f]? = some fn) (hx : (Ext.on P f || Ext.mv P f) = false) (hb : fn.body = some c) (hname : (fn.name == "runtime.NumGoroutine") = false) {args : List AV} {nt : Nat} (hnt : fn.ntmps = nt) (hp : (args.map w2).all pure2 = false) {S : List Ent} {tk : List Nat} {n : Nat} {r : AV × List Ent × List Nat × Nat}
    (h : finS S.length (RK P fn c ⟨args ++ bots (nt - args.length), S, tk, n⟩ []) = some r) : cL P f args S tk n = some r := by
  subst hnt
  rw [bots_eq] at h
  cases hr : RK P fn c ⟨args ++ List.replicate (fn.ntmps - args.length) .bot, S, tk, n⟩ [] with
  | none => rw [hr] at h; simp [finS] at h
  | some x =>
    obtain ⟨r', s⟩ := x
    rw [hr, finS_some] at h
    obtain ⟨m, hm⟩ := outA_lim hr
    refine cL_iff.2 ⟨m + 1, ?_⟩
    have hn : ¬ fn.name = "runtime.NumGoroutine" := by simpa using hname
    simp only [Bool.or_eq_false_iff] at hx
    simp only [evF, hf, hb]
    rw [if_neg (by rw [hx.1]; simp), if_neg hn, if_neg (by rw [hx.2]; simp), if_neg (by rw [hp]; simp), hm]
    exact h
/-- a function whose own variables become the caller's -/
def finM (x : Option (AV × St)) : Option (AV × List Ent × List Nat × Nat) := match x with | some (r, s) => some (r, s.S, s.tk, s.n) | none => none
theorem finM_some {r : AV} {s : St} : finM (some (r, s)) = some (r, s.S, s.tk, s.n) := rfl
theorem finM_br {t : Bool} {a b : Option (AV × St)} {r : AV × List Ent × List Nat × Nat} : finM (br (some t) a b) = some r ↔ (t = true → finM a = some r) ∧ (t = false → finM b = some r) := by cases t <;> simp [br]
theorem call_mv [Globs] [Ext P] {f : FuncId} {c : Code} (hf : P.funcs[f]? = some fn) (hx : (!Ext.on P f && Ext.mv P f) = true) (hb : fn.body = some c) (hname : (fn.name == "runtime.NumGoroutine") = false) {args : List AV} {nt : Nat} (hnt : fn.ntmps = nt) {S : List Ent} {tk : List Nat} {n : Nat} {r : AV × List Ent × List Nat × Nat}
    (h : finM (RK P fn c ⟨args ++ bots (nt - args.length), S, tk, n⟩ []) = some r) : cL P f args S tk n = some r := by
  subst hnt
  rw [bots_eq] at h
  cases hr : RK P fn c ⟨args ++ List.replicate (fn.ntmps - args.length) .bot, S, tk, n⟩ [] with
  | none => rw [hr] at h; simp [finM] at h
  | some x =>
    obtain ⟨r', s⟩ := x
    rw [hr, finM_some] at h
    obtain ⟨m, hm⟩ := outA_lim hr
    refine cL_iff.2 ⟨m + 1, ?_⟩
    have hn : ¬ fn.name = "runtime.NumGoroutine" := by simpa using hname
    simp only [Bool.and_eq_true, Bool.not_eq_true'] at hx
    simp only [evF, hf, hb]
    rw [if_neg (by rw [hx.1]; simp), if_neg hn, if_pos hx.2, hm]
    exact h
/-- a function told from outside -/
theorem call_ext [Globs] [Ext P] {f : FuncId} (hf : Ext.on P f = true) {args : List AV} {S : List Ent} {tk : List Nat} {n : Nat} {r : AV × List Ent × List Nat × Nat} (h : Ext.call P f args S tk n = some r) : cL P f args S tk n = some r := by
  refine cL_iff.2 ⟨1, ?_⟩
  rw [evF_ext hf]
  unfold extC
  rw [if_pos hf]; exact h
/-- what is shown of a call of the evaluator holds of the model -/
theorem calls_of [Ext P] [Globs] [ExtOk P] {f : FuncId} {args : List AV} {S : List Ent} {tk : List Nat} {n : Nat} {r : AV} {S' : List Ent} {tk' : List Nat} {n' : Nat} (hm : P.follows .mixedOrders = true) (h : cL P f args S tk n = some (r, S', tk', n')) {C : Cx} {vs : Array Value} (h1 : C.S = S) (h2 : C.tk = tk) (h3 : C.n = n) (hs : SR C) (hv : VRs C args vs.toList) :
    Calls P f vs C.w fun e w' => ∃ v C', e = .returned v ∧ C'.w = w' ∧ Le C C' ∧ SR C' ∧ C'.S = S' ∧ C'.tk = tk' ∧ C'.n = n' ∧ VR C' r v := by
  obtain ⟨k, hk⟩ := cL_iff.1 h
  exact (evF_sound (drawOk_sound hm) k _ _ _ _ _ _ _ _ _ hk).2 C vs h1 h2 h3 hs hv
end
end Go.Proofs.Ytkghgdkkholieaa
