/-
  Texts laid together: EvDraw.
-/
import Derived.Test.YtmkoiandfojgmaaGreatZM7
namespace Go.Proofs.YtmkoiandfojgmaaGreat
open Go.RowKit
section
def rdS (o : Oper) : Bool := match o.op with | .load _ _ => true | _ => false
def wrS [Globs] (o : Oper) : Bool := match o.op with | .store _ _ _ | .alloc _ | .box _ _ | .makeMap _ none | .mapUpdate _ _ _ _ => true | .makeSlice _ l _ => !growL o l | .buildSlice _ _ _ => Globs.own o.dst o.type o.pos | .call c => (match c.callee with | .builtin .copy => true | .builtin .delete => true | .builtin .append => Globs.own o.dst o.type o.pos | .value (.func f) => shF f || xF f | .value _ => Globs.shAny || Globs.xAny | .invoke _ _ => true | _ => false) | _ => false
def wrT [Globs] (o : Oper) : Bool := match o.op with | .makeSlice _ l _ => growL o l | .call c => (match c.callee with | .builtin .append => true | .value (.func f) => xF f || tkF f | .value _ => true | .invoke _ _ => true | _ => false) | _ => false
def rdA [Globs] (o : Oper) : Bool := match o.op with | .lookup _ _ _ false => true | .call c => (match c.callee with | .value (.func f) => shF f || xF f | .value _ => Globs.shAny || Globs.xAny | .invoke _ _ => true | .builtin .append => Globs.shAny | _ => false) | _ => false
def conf [Globs] (p o : Oper) : Bool := (wrS p && wrS o) || (wrT p && wrT o) || (rdA p && (wrS o || wrT o)) || ((wrS p || wrT p) && rdA o)
def ldBase (st : St) (ops : Array Oper) (i : Nat) (o : Oper) : Option (Option Nat) :=
  match o.op with
  | .load _ (.tmp q) =>
    if unwr ops q = true then (match getT st.T q with | .ref id _ _ => if id < st.S.length then some (some id) else none | .fptr _ => some none | _ => none)
    else ((List.range i).findSome? fun (m : Nat) => match (ops[m]? : Option Oper) with
      | some o' => (match o'.dst, o'.op with
        | some d, .fieldAddr _ (.tmp x) _ => if d = q ∧ unwr ops x = true then (match getT st.T x with | .ref id _ _ => if id < st.S.length then some (some id) else none | .fptr _ => some none | _ => none) else none
        | _, _ => none)
      | none => none)
  | _ => none
def apartS [Globs] (st : St) (ops : Array Oper) (i : Nat) (o p : Oper) : Bool :=
  match ldBase st ops i o with
  | none => false
  | some none => true
  | some (some id) => match p.op with
    | .store _ (.tmp q) _ => unwr ops q && (match getT st.T q with | .ref id' _ _ => decide (id ≠ id') | _ => false)
    | .alloc _ => true
    | .box _ _ => true
    | .makeSlice _ _ _ => true
    | .call c => (match c.callee with | .value (.func f) => !xF f | .value _ => !Globs.xAny | _ => false)
    | _ => false
def isMkS (o : Oper) : Bool := match o.op with | .alloc _ | .box _ _ | .makeSlice _ _ _ | .buildSlice _ _ _ => true | _ => false
def apartM [Globs] (st : St) (ops : Array Oper) (i : Nat) (o p : Oper) : Bool := (mkOp p && p.dst.isSome && (ldSlot ops i o).isSome) || apartS st ops i o p
def opOk (ops : Array Oper) (i : Nat) (o : Oper) : Bool :=
  (match o.op with | .select .. => false | _ => true) && (depsOf ops i).all (fun j => decide (j < i)) &&
  (match o.guard with | none => true | some (g, _) => (depsOf ops i).contains g) &&
  (o.dst.all fun d => (List.range i).all fun j => dstOf ops j != some d) &&
  (o.op.operands.all fun x => match x with
    | .tmp t => (List.range ops.size).all fun j => dstOf ops j != some t || j == i || (reachAt ops i).contains j || (reachAt ops j).contains i
    | _ => true)
def isAl (o : Oper) : Bool := (match o.op with | .alloc _ => true | _ => false) && o.guard.isNone
def pairAt (ops : Array Oper) (j i : Nat) : Bool :=
  decide (i = j + 1) && (match ops[j]?, ops[i]? with | some p, some o => isAl p && isAl o | _, _ => false) &&
  (List.range ops.size).all fun k => k == j || k == i || (reachAt ops k).contains j == (reachAt ops k).contains i
def drawOk0 [Globs] (st : St) (L : List Oper) : Bool :=
  (List.range L.length).all fun i => match L.toArray[i]? with
    | none => false
    | some o => opOk L.toArray i o && (List.range i).all fun j => match L.toArray[j]? with
      | none => false
      | some p => (!conf p o && !(wrS p && !lkOp p && rdS o) && !(rdS p && wrS o && !lkOp o)) || (reachAt L.toArray i).contains j || (!conf p o && (if rdS o = true then apartM st L.toArray i o p else (isMkS o || (anOp o && o.dst.isSome) || apartS st L.toArray j p o))) || pairAt L.toArray j i
def drawOk [Globs] (st : St) (L : List Oper) : Bool := @drawOk0 (gM (mdOf L)) st L
theorem SR_M [Globs] {C : Cx} : ∀ {M : Md}, @SR (gM M) C ↔ SR C
  | .no => Iff.rfl
  | .quiet => ⟨fun h => ⟨@SR.ent (gM .quiet) _ h, @SR.ne (gM .quiet) _ h, @SR.tok (gM .quiet) _ h, @SR.apart (gM .quiet) _ h, @SR.own (gM .quiet) _ h, @SR.avlt (gM .quiet) _ h, @SR.tlt (gM .quiet) _ h, @SR.glob (gM .quiet) _ h⟩, fun h => @SR.mk (gM .quiet) _ h.ent h.ne h.tok h.apart h.own h.avlt h.tlt h.glob⟩
  | .look => ⟨fun h => ⟨@SR.ent (gM .look) _ h, @SR.ne (gM .look) _ h, @SR.tok (gM .look) _ h, @SR.apart (gM .look) _ h, @SR.own (gM .look) _ h, @SR.avlt (gM .look) _ h, @SR.tlt (gM .look) _ h, @SR.glob (gM .look) _ h⟩, fun h => @SR.mk (gM .look) _ h.ent h.ne h.tok h.apart h.own h.avlt h.tlt h.glob⟩
  | .vals => ⟨fun h => ⟨@SR.ent (gM .vals) _ h, @SR.ne (gM .vals) _ h, @SR.tok (gM .vals) _ h, @SR.apart (gM .vals) _ h, @SR.own (gM .vals) _ h, @SR.avlt (gM .vals) _ h, @SR.tlt (gM .vals) _ h, @SR.glob (gM .vals) _ h⟩, fun h => @SR.mk (gM .vals) _ h.ent h.ne h.tok h.apart h.own h.avlt h.tlt h.glob⟩
theorem Rel_M [Globs] {C : Cx} {st : St} {a : Act} {M : Md} : @Rel (gM M) C st a ↔ Rel C st a :=
  ⟨fun h => ⟨@Rel.S (gM M) _ _ _ h, @Rel.tk (gM M) _ _ _ h, @Rel.n (gM M) _ _ _ h, @Rel.tmps (gM M) _ _ _ h, @Rel.defers (gM M) _ _ _ h, SR_M.1 (@Rel.sr (gM M) _ _ _ h)⟩, fun h => @Rel.mk (gM M) _ _ _ h.S h.tk h.n h.tmps h.defers (SR_M.2 h.sr)⟩
theorem CallOk_M [Globs] {P : Program} {call : CallA} {M : Md} (h : CallOk P call) : @CallOk (gM M) P call := by
  intro f args S tk n r S' tk' n' e
  refine ⟨(h _ _ _ _ _ _ _ _ _ e).1, fun C vs h1 h2 h3 hs hv => ((h _ _ _ _ _ _ _ _ _ e).2 C vs h1 h2 h3 (SR_M.1 hs) hv).mono ?_⟩
  rintro e w' ⟨v, C', g1, g2, g3, g4, g5⟩
  exact ⟨v, C', g1, g2, g3, SR_M.2 g4, g5⟩
theorem getD_set_ne' {l : Array Bool} {i j : Nat} {b d : Bool} (h : i ≠ j) : (l.setIfInBounds i b).getD j d = l.getD j d := by
  simp [Array.getD_eq_getD_getElem?, Array.getElem?_setIfInBounds_ne h]
theorem getD_set_same' {l : Array Bool} {i : Nat} {b d : Bool} (h : i < l.size) : (l.setIfInBounds i b).getD i d = b := by
  simp [Array.getD, h]
theorem cpA_len {P : Program} {t : TypeId} {d s : AV} {S S' : List Ent} {n : Nat} (h : cpA P t d s S = some (n, S')) : S'.length = S.length := by
  unfold cpA at h
  split at h
  · split at h
    · split at h
      · split at h
        · split at h
          · simp only [Option.some.injEq, Prod.mk.injEq] at h
            obtain ⟨-, rfl⟩ := h
            exact put_len
          · simp at h
        · simp at h
      · simp at h
    · simp at h
  · simp at h
theorem apO_len {P : Program} {t : TypeId} {x y v : AV} {S S' : List Ent} {n n' : Nat} (h : apO P t x y S n = some (v, S', n')) : S.length ≤ S'.length := by
  unfold apO at h
  split at h
  · split at h
    · split at h
      · unfold apO2 at h
        split at h
        · simp only [Option.some.injEq, Prod.mk.injEq] at h
          obtain ⟨-, rfl, -⟩ := h
          simp
        · split at h
          · split at h
            · split at h
              · simp only [Option.some.injEq, Prod.mk.injEq] at h
                obtain ⟨-, rfl, -⟩ := h
                rw [put_len]; exact Nat.le_refl _
              · simp at h
            · simp at h
          · simp at h
        · simp at h
      · simp at h
    · simp at h
  · simp at h
theorem upM_len {P : Program} {t : TypeId} {m k v : AV} {S S' : List Ent} (h : upM P t m k v S = some S') : S'.length = S.length := by
  unfold upM at h
  split at h
  · split at h
    · rw [Option.map_eq_some_iff] at h
      obtain ⟨s, -, rfl⟩ := h
      exact put_len
    · cases h
  · cases h
theorem dlM_len {P : Program} {t : TypeId} {m k : AV} {S S' : List Ent} (h : dlM P t m k S = some S') : S'.length = S.length := by
  unfold dlM at h
  split at h
  · split at h
    · rw [Option.map_eq_some_iff] at h
      obtain ⟨s, -, rfl⟩ := h
      exact put_len
    · cases h
  · cases h
theorem stA_other {P : Program} {t : TypeId} {v : AV} {S S' : List Ent} {i e o id : Nat} (h : stA P t (.ref i e o) v S = some S') (hne : i ≠ id) : nth S' id = nth S id := by
  unfold stA at h
  cases h1 : szOf P t with
  | none => rw [h1] at h; simp at h
  | some sz =>
    cases h2 : cellsOf v with
    | none => rw [h1, h2] at h; simp at h
    | some vs =>
      rw [h1, h2] at h
      simp only at h
      split at h
      · cases h3 : entAt S i e with
        | none => rw [h3] at h; simp at h
        | some cs =>
          rw [h3] at h
          simp only at h
          cases h4 : over cs o vs with
          | none => rw [h4] at h; simp at h
          | some cs' => rw [h4] at h; simp only [Option.some.injEq] at h; subst h; exact nth_put_other hne
      · simp at h
variable {P : Program} {ops : Array Oper}
theorem unlisted_false {listed : Array Bool} {i : Nat} (h : listed.getD i true = false) : listed.getD i false = false ∧ i < listed.size := by
  by_cases hi : i < listed.size
  · exact ⟨by simpa [Array.getD, hi] using h, hi⟩
  · simp [Array.getD, hi] at h
def unlistedCount (listed : Array Bool) (n : Nat) : Nat := (List.range n).countP fun j => listed.getD j false = false
theorem unlisted_set {listed : Array Bool} {n i : Nat} (hi : i < n) (hl : listed.size = n) (hu : listed.getD i false = false) : unlistedCount (listed.setIfInBounds i true) n + 1 ≤ unlistedCount listed n := by
  have key : ∀ (l : List Nat), l.Nodup → (l.countP fun j => (listed.setIfInBounds i true).getD j false = false) + (if i ∈ l then 1 else 0) = l.countP fun j => listed.getD j false = false := by
    intro l
    induction l with
    | nil => intro _; simp
    | cons x l ih =>
      intro hn
      rw [List.nodup_cons] at hn
      have ih := ih hn.2
      by_cases e : x = i
      · subst e
        have h1 : (listed.setIfInBounds x true).getD x false = true := getD_set_same' (by omega)
        rw [List.countP_cons, List.countP_cons, h1, hu, if_neg hn.1] at *
        simp at ih ⊢
        omega
      · have h1 : (listed.setIfInBounds i true).getD x false = listed.getD x false := getD_set_ne' (fun y => e y.symm)
        rw [List.countP_cons, List.countP_cons, h1]
        have : (i ∈ x :: l) ↔ i ∈ l := by rw [List.mem_cons]; exact ⟨fun h => h.resolve_left fun y => e y.symm, .inr⟩
        simp only [this]
        omega
  have := key (List.range n) List.nodup_range
  rw [if_pos (by simpa using hi)] at this
  unfold unlistedCount
  omega
theorem evQ_congr {o : Oper} {ρ ρ' : Operand → AV} (h : ∀ x ∈ o.op.operands, ρ x = ρ' x) : evQ P o ρ = evQ P o ρ' := by
  obtain ⟨dst, op, type, pos, after, guard⟩ := o
  have pairs : ∀ ps : Array (Nat × Operand), (∀ x ∈ ps.map (·.2), ρ x = ρ' x) → (ps.toList.map fun (i, x) => (i, ρ x)) = (ps.toList.map fun (i, x) => (i, ρ' x)) := fun ps hp =>
    List.map_congr_left fun p hm => by
      obtain ⟨i, x⟩ := p
      simp only [hp x (Array.mem_map.2 ⟨(i, x), by simpa using hm, rfl⟩)]
  have lists : ∀ xs : Array Operand, (∀ x ∈ xs, ρ x = ρ' x) → xs.toList.map ρ = xs.toList.map ρ' := fun xs hx => List.map_congr_left fun x hm => hx x (by simpa using hm)
  cases op <;> simp only [Op.operands] at h <;> simp only [evQ]
  case build t ps => rw [pairs ps fun x hx => h x (by simpa using hx)]
  case buildSlice t n ps => rw [pairs ps fun x hx => h x (by simpa using hx)]
  case slice t x lo hi mx => cases lo <;> cases hi <;> cases mx <;> simp_all
  case makeFunc fn first caps =>
    have h1 := lists caps fun x hx => h x (by simp [hx])
    have h2 : (caps.toList.all fun x => capsOk (ρ x)) = (caps.toList.all fun x => capsOk (ρ' x)) := by
      have : ∀ f : Operand → AV, (caps.toList.all fun x => capsOk (f x)) = (caps.toList.map f).all capsOk := fun f => by rw [List.all_map]; rfl
      rw [this, this, h1]
    have h3 := lists first fun x hx => h x (by simp [hx])
    cases fn with
    | func f => simp only [h1, h2, h3]
    | method m =>
      simp only
      split
      · rename_i x hf _
        rw [h x (by have : x ∈ first := by rw [← Array.mem_toList_iff, hf]; simp
                    simp [this])]
      · rfl
    | _ => rfl
  case call c =>
    have h1 := lists c.args fun x hx => h x (by simp [Call.operands, hx])
    rw [h1]
  all_goals first | rfl | (simp_all; done) | skip
def FrameO [Globs] (P : Program) (call : CallA) (o : Oper) (s s' : St) (v : AV) : Prop :=
    s'.T = s.T ∧ (wrS o = false → s'.S = s.S ∧ s'.n = s.n) ∧ (wrT o = false → s'.tk = s.tk) ∧
    ∀ s2 : St, (∀ x ∈ o.op.operands, opv s2.T x = opv s.T x) → (∀ t x, o.op = .load t x → ldA P t (opv s.T x) s2.S = ldA P t (opv s.T x) s.S) → (wrS o = true → s2.S = s.S ∧ s2.n = s.n) → (wrT o = true → s2.tk = s.tk) → (rdA o = true → s2.S = s.S ∧ s2.n = s.n ∧ s2.tk = s.tk) →
      ∃ s2', evO P call o s2 = some (v, s2') ∧ s2'.T = s2.T ∧ (wrS o = true → s2'.S = s'.S ∧ s2'.n = s'.n) ∧ (wrS o = false → s2'.S = s2.S ∧ s2'.n = s2.n) ∧ (wrT o = true → s2'.tk = s'.tk) ∧ (wrT o = false → s2'.tk = s2.tk)
theorem frame_quiet [Globs] {call : CallA} {o : Oper} {s s' : St} {v v' : AV} (hq : evQ P o (opv s.T) = some v') (e : (v', s) = (v, s')) (hw : wrS o = false) (ht : wrT o = false) (hev : ∀ s2 : St, evO P call o s2 = (evQ P o (opv s2.T)).map fun v => (v, s2)) : FrameO P call o s s' v := by
  simp only [Prod.mk.injEq] at e
  obtain ⟨rfl, rfl⟩ := e
  exact ⟨rfl, fun _ => ⟨rfl, rfl⟩, fun _ => rfl, fun s2 h2 _ _ _ _ => ⟨s2, by rw [hev, evQ_congr h2, hq]; rfl, rfl, fun h => by rw [hw] at h; simp at h, fun _ => ⟨rfl, rfl⟩, fun h => by rw [ht] at h; simp at h, fun _ => rfl⟩⟩
theorem evO_frame [Globs] {call : CallA} (hi : IndepX call) {o : Oper} {s s' : St} {v : AV} (hsel : (match o.op with | .select .. => false | _ => true) = true) (h : evO P call o s = some (v, s')) : FrameO P call o s s' v := by
  obtain ⟨dst, op, type, pos, after, guard⟩ := o
  cases op
  case load t x =>
    simp only [evO, Option.map_eq_some_iff, Prod.mk.injEq] at h
    obtain ⟨u, h, rfl, rfl⟩ := h
    refine ⟨rfl, fun _ => ⟨rfl, rfl⟩, fun _ => rfl, fun s2 h2 hR _ _ _ => ⟨s2, ?_, rfl, by simp [wrS], fun _ => ⟨rfl, rfl⟩, by simp [wrT], fun _ => rfl⟩⟩
    have e : ldA P t (opv s.T x) s2.S = ldA P t (opv s.T x) s.S := hR t x rfl
    simp only [evO, h2 x (by simp [Op.operands]), e, h, Option.map_some]
  case store t x y =>
    simp only [evO, Option.map_eq_some_iff, Prod.mk.injEq] at h
    obtain ⟨u, h, rfl, rfl⟩ := h
    refine ⟨rfl, by simp [wrS], fun _ => rfl, fun s2 h2 _ hS _ _ => ⟨{ s2 with S := u }, ?_, rfl, fun _ => ⟨rfl, (hS (by simp [wrS])).2⟩, by simp [wrS], by simp [wrT], fun _ => rfl⟩⟩
    simp only [evO, h2 x (by simp [Op.operands]), h2 y (by simp [Op.operands]), (hS (by simp [wrS])).1, h, Option.map_some]
  case alloc t =>
    simp only [evO, Option.map_eq_some_iff, Prod.mk.injEq] at h
    obtain ⟨u, h, rfl, rfl⟩ := h
    refine ⟨rfl, by simp [wrS], fun _ => rfl, fun s2 h2 _ hS _ _ => ?_⟩
    obtain ⟨e1, e2⟩ := hS (by simp [wrS])
    exact ⟨{ s2 with S := s2.S ++ [⟨s2.n, u⟩], n := s2.n + 1 }, by simp only [evO, h, Option.map_some, e1, e2], rfl, fun _ => by simp [e1, e2], by simp [wrS], by simp [wrT], fun _ => rfl⟩
  case makeMap t r =>
    cases r with
    | none =>
      simp only [evO, Option.map_eq_some_iff, Prod.mk.injEq] at h
      obtain ⟨u, h, rfl, rfl⟩ := h
      refine ⟨rfl, by simp [wrS], fun _ => rfl, fun s2 h2 _ hS _ _ => ?_⟩
      obtain ⟨e1, e2⟩ := hS (by simp [wrS])
      exact ⟨{ s2 with S := s2.S ++ [⟨s2.n, [.mset noK]⟩], n := s2.n + 1 }, by simp only [evO, h, Option.map_some, e1, e2], rfl, fun _ => by simp [e1, e2], by simp [wrS], by simp [wrT], fun _ => rfl⟩
    | some r => simp [evO, evQ] at h
  case lookup t m k c =>
    cases c with
    | false =>
      simp only [evO, Option.map_eq_some_iff, Prod.mk.injEq] at h
      obtain ⟨u, h, rfl, rfl⟩ := h
      refine ⟨rfl, fun _ => ⟨rfl, rfl⟩, fun _ => rfl, fun s2 h2 _ _ _ hA => ⟨s2, ?_, rfl, by simp [wrS], fun _ => ⟨rfl, rfl⟩, by simp [wrT], fun _ => rfl⟩⟩
      simp only [evO, h2 m (by simp [Op.operands]), h2 k (by simp [Op.operands]), (hA (by simp [rdA])).1, h, Option.map_some]
    | true => simp [evO, evQ] at h
  case mapUpdate t m k x =>
    simp only [evO, Option.map_eq_some_iff, Prod.mk.injEq] at h
    obtain ⟨u, h, rfl, rfl⟩ := h
    refine ⟨rfl, by simp [wrS], fun _ => rfl, fun s2 h2 _ hS _ _ => ⟨{ s2 with S := u }, ?_, rfl, fun _ => ⟨rfl, (hS (by simp [wrS])).2⟩, by simp [wrS], by simp [wrT], fun _ => rfl⟩⟩
    simp only [evO, h2 m (by simp [Op.operands]), h2 k (by simp [Op.operands]), h2 x (by simp [Op.operands]), (hS (by simp [wrS])).1, h, Option.map_some]
  case box t x =>
    simp only [evO, Option.map_eq_some_iff, Prod.mk.injEq] at h
    obtain ⟨u, h, rfl, rfl⟩ := h
    refine ⟨rfl, by simp [wrS], fun _ => rfl, fun s2 h2 _ hS _ _ => ?_⟩
    obtain ⟨e1, e2⟩ := hS (by simp [wrS])
    exact ⟨{ s2 with S := s2.S ++ [⟨s2.n, u⟩], n := s2.n + 1 }, by simp only [evO, h2 x (by simp [Op.operands]), h, Option.map_some, e1, e2], rfl, fun _ => by simp [e1, e2], by simp [wrS], by simp [wrT], fun _ => rfl⟩
  case buildSlice t len ps =>
    have hargs : ∀ s2 : St, (∀ x ∈ (Op.buildSlice t len ps).operands, opv s2.T x = opv s.T x) → (ps.toList.map fun (i, x) => (i, opv s2.T x)) = (ps.toList.map fun (i, x) => (i, opv s.T x)) := fun s2 h2 => List.map_congr_left fun p hp => by
      obtain ⟨i, x⟩ := p
      simp only [Prod.mk.injEq, true_and]
      exact h2 x (by simp [Op.operands]; exact ⟨i, by simpa using hp⟩)
    by_cases ho : Globs.own dst type pos = true
    · simp only [evO, ho, if_true, Option.map_eq_some_iff, Prod.exists, Prod.mk.injEq] at h
      obtain ⟨u, S', n', h, rfl, rfl⟩ := h
      refine ⟨rfl, by simp [wrS, ho], fun _ => rfl, fun s2 h2 _ hS _ _ => ?_⟩
      obtain ⟨e1, e2⟩ := hS (by simp [wrS, ho])
      exact ⟨{ s2 with S := S', n := n' }, by simp only [evO, ho, if_true, hargs s2 h2, e1, e2, h, Option.map_some], rfl, fun _ => ⟨rfl, rfl⟩, by simp [wrS, ho], by simp [wrT], fun _ => rfl⟩
    · simp only [evO, if_neg ho, Option.map_eq_some_iff, Prod.mk.injEq] at h
      obtain ⟨u, h, rfl, rfl⟩ := h
      refine ⟨rfl, fun _ => ⟨rfl, rfl⟩, fun _ => rfl, fun s2 h2 _ _ _ _ => ⟨s2, ?_, rfl, by simp [wrS, ho], fun _ => ⟨rfl, rfl⟩, by simp [wrT], fun _ => rfl⟩⟩
      simp only [evO, if_neg ho]
      rw [evQ_congr h2, h]; rfl
  case makeSlice t l c =>
    simp only [evO, Option.map_eq_some_iff, Prod.exists] at h
    obtain ⟨l', sz, cs, h, hh⟩ := h
    split at hh
    · rename_i hl
      simp only [Prod.mk.injEq] at hh
      obtain ⟨rfl, rfl⟩ := hh
      refine ⟨rfl, fun _ => ⟨rfl, rfl⟩, by simp [wrT, hl], fun s2 h2 _ _ hT _ => ?_⟩
      have e := hT (by simp [wrT, hl])
      exact ⟨{ s2 with tk := s2.tk ++ [0] }, by simp only [evO, h2 l (by simp [Op.operands]), h2 c (by simp [Op.operands]), h, Option.map_some, hl, if_true, e], rfl, by simp [wrS, hl], fun _ => ⟨rfl, rfl⟩, fun _ => by simp [e], by simp [wrT, hl]⟩
    · rename_i hl
      simp only [Prod.mk.injEq] at hh
      obtain ⟨rfl, rfl⟩ := hh
      have hl' : growL ⟨dst, .makeSlice t l c, type, pos, after, guard⟩ l = false := by simpa using hl
      refine ⟨rfl, by simp [wrS, hl'], fun _ => rfl, fun s2 h2 _ hS _ _ => ?_⟩
      obtain ⟨e1, e2⟩ := hS (by simp [wrS, hl'])
      exact ⟨{ s2 with S := s2.S ++ [⟨s2.n, cs⟩], n := s2.n + 1 }, by simp only [evO, h2 l (by simp [Op.operands]), h2 c (by simp [Op.operands]), h, Option.map_some, hl', e1, e2]; rfl, rfl, fun _ => by simp [e1, e2], by simp [wrS, hl'], by simp [wrT, hl'], fun _ => rfl⟩
  case call c =>
    have hargs : ∀ s2 : St, (∀ x ∈ (Op.call c).operands, opv s2.T x = opv s.T x) → c.args.toList.map (opv s2.T) = c.args.toList.map (opv s.T) := fun s2 h2 => List.map_congr_left fun x hx => h2 x (by simp [Op.operands, Call.operands]; right; simpa using hx)
    cases hcal : c.callee with
    | builtin b =>
      by_cases hb : b = .append
      · subst hb
        simp only [evO, hcal] at h
        split at h
        · rename_i x y t t' hxy ht
          split at h
          · rename_i how
            split at h
            · rename_i htt
              simp only [Option.map_eq_some_iff, Prod.mk.injEq, Prod.exists] at h
              obtain ⟨u, S', n', h, rfl, rfl⟩ := h
              have hw : wrS ⟨dst, .call c, type, pos, after, guard⟩ = true := by simpa [wrS, hcal] using how
              refine ⟨rfl, fun hf => by rw [hw] at hf; simp at hf, fun _ => rfl, fun s2 h2 _ hS hT _ => ?_⟩
              obtain ⟨e1, e2⟩ := hS hw
              have e3 := hT (by simp [wrT, hcal])
              refine ⟨{ s2 with S := S', n := n' }, ?_, rfl, fun _ => ⟨rfl, rfl⟩, fun hf => by rw [hw] at hf; simp at hf, fun _ => e3, fun _ => rfl⟩
              simp only [evO, hcal, hargs s2 h2, hxy, ht, how, htt, if_true, e1, e2]
              subst htt
              simp only [h, Option.map_some]
            · simp at h
          rename_i how
          have hnw : wrS ⟨dst, .call c, type, pos, after, guard⟩ = false := by simpa [wrS, hcal] using how
          split at h
          · rename_i htt
            simp only [Option.map_eq_some_iff, Prod.mk.injEq, Prod.exists] at h
            obtain ⟨u, tk', h, rfl, rfl⟩ := h
            refine ⟨rfl, fun _ => ⟨rfl, rfl⟩, by simp [wrT, hcal], fun s2 h2 _ _ hT hA => ⟨{ s2 with tk := tk' }, ?_, rfl, fun hf => by rw [hnw] at hf; simp at hf, fun _ => ⟨rfl, rfl⟩, fun _ => rfl, by simp [wrT, hcal]⟩⟩
            have e := hT (by simp [wrT, hcal])
            have hS2 : apB1 P t x y s.tk s2.S = apB1 P t x y s.tk s.S := by
              cases hsh : (Globs.shAny : Bool) with
              | true => rw [(hA (by simp [rdA, hcal, hsh])).1]
              | false => unfold apB1; simp [hsh]
            simp only [evO, hcal, hargs s2 h2, hxy, ht, htt, if_true, e, if_neg how]
            subst htt
            rw [hS2]
            simp only [h, Option.map_some]
          · rename_i htt
            simp only [Option.map_eq_some_iff, Prod.mk.injEq, Prod.exists] at h
            obtain ⟨u, tk', h, rfl, rfl⟩ := h
            refine ⟨rfl, fun _ => ⟨rfl, rfl⟩, by simp [wrT, hcal], fun s2 h2 _ _ hT _ => ⟨{ s2 with tk := tk' }, ?_, rfl, fun hf => by rw [hnw] at hf; simp at hf, fun _ => ⟨rfl, rfl⟩, fun _ => rfl, by simp [wrT, hcal]⟩⟩
            have e := hT (by simp [wrT, hcal])
            simp only [evO, hcal, hargs s2 h2, hxy, ht, e, if_neg htt, h, Option.map_some, if_neg how]
        · simp at h
      · by_cases hb2 : b = .copy
        · subst hb2
          simp only [evO, hcal] at h
          split at h
          · rename_i x y t t' hxy ht
            simp only [Option.map_eq_some_iff, Prod.mk.injEq, Prod.exists] at h
            obtain ⟨m, S', h, rfl, rfl⟩ := h
            refine ⟨rfl, by simp [wrS, hcal], fun _ => rfl, fun s2 h2 _ hS _ _ => ⟨{ s2 with S := S' }, ?_, rfl, fun _ => ⟨rfl, (hS (by simp [wrS, hcal])).2⟩, by simp [wrS, hcal], by simp [wrT, hcal], fun _ => rfl⟩⟩
            simp only [evO, hcal, hargs s2 h2, hxy, ht, (hS (by simp [wrS, hcal])).1, h, Option.map_some]
          · simp at h
        · by_cases hb3 : b = .delete
          · subst hb3
            simp only [evO, hcal] at h
            split at h
            · rename_i x y t t' hxy ht
              simp only [Option.map_eq_some_iff, Prod.mk.injEq] at h
              obtain ⟨S', h, rfl, rfl⟩ := h
              refine ⟨rfl, by simp [wrS, hcal], fun _ => rfl, fun s2 h2 _ hS _ _ => ⟨{ s2 with S := S' }, ?_, rfl, fun _ => ⟨rfl, (hS (by simp [wrS, hcal])).2⟩, by simp [wrS, hcal], by simp [wrT, hcal], fun _ => rfl⟩⟩
              simp only [evO, hcal, hargs s2 h2, hxy, ht, (hS (by simp [wrS, hcal])).1, h, Option.map_some]
            · simp at h
          have hev : ∀ s2 : St, evO P call ⟨dst, .call c, type, pos, after, guard⟩ s2 = (evQ P ⟨dst, .call c, type, pos, after, guard⟩ (opv s2.T)).map fun v => (v, s2) := by
            intro s2
            simp only [evO, hcal]
          rw [hev] at h
          simp only [Option.map_eq_some_iff] at h
          obtain ⟨v', h1, h2⟩ := h
          exact frame_quiet h1 h2 (by cases b <;> simp [wrS, hcal] at hb hb2 hb3 ⊢) (by cases b <;> simp [wrT, hcal] at hb ⊢) hev
    | value fx =>
      simp only [evO, hcal] at h
      split at h
      · rename_i f args hca
        simp only [Option.map_eq_some_iff, Prod.mk.injEq, Prod.exists] at h
        obtain ⟨r, S', tk', n', h, rfl, rfl⟩ := h
        have hca2 : ∀ s2 : St, (∀ x ∈ (Op.call c).operands, opv s2.T x = opv s.T x) → calleeA P s2.T c = some (f, args) := by
          intro s2 h2
          rw [← hca]
          unfold calleeA
          rw [hcal]
          simp only [hargs s2 h2, h2 fx (by simp [Op.operands, Call.operands, hcal])]
        have hfx : ∀ g, fx = .func g → g = f := by
          rintro g rfl
          unfold calleeA at hca
          rw [hcal] at hca
          simp only [opv, Option.some.injEq, Prod.mk.injEq] at hca
          exact hca.1
        rcases hi _ _ _ _ _ _ _ _ _ h with hxd | ⟨htk, rfl, rfl, hin⟩ | ⟨rfl, rfl, hin⟩
        · have hxf : xF f = true := by simp only [Bool.and_eq_true] at hxd; exact hxd.1
          have hany : (Globs.xAny : Bool) = true := by unfold xF at hxf; simp only [Bool.and_eq_true] at hxf; exact hxf.1
          have hrd : rdA ⟨dst, .call c, type, pos, after, guard⟩ = true := by
            simp only [rdA, hcal]
            cases fx with
            | func g => simp only [hfx g rfl, hxf, Bool.or_true]
            | _ => simp only [hany, Bool.or_true]
          have hwr : wrS ⟨dst, .call c, type, pos, after, guard⟩ = true := by
            simp only [wrS, hcal]
            cases fx with
            | func g => simp only [hfx g rfl, hxf, Bool.or_true]
            | _ => simp only [hany, Bool.or_true]
          have hwt : wrT ⟨dst, .call c, type, pos, after, guard⟩ = true := by
            simp only [wrT, hcal]
            cases fx with
            | func g => simp only [hfx g rfl, hxf, Bool.true_or]
            | _ => rfl
          refine ⟨rfl, fun hw => by rw [hwr] at hw; simp at hw, fun hw => by rw [hwt] at hw; simp at hw, fun s2 h2 _ _ _ hA => ?_⟩
          obtain ⟨a1, a2, a3⟩ := hA hrd
          refine ⟨{ s2 with S := S', tk := tk', n := n' }, ?_, rfl, fun _ => ⟨rfl, rfl⟩, fun hw => by rw [hwr] at hw; simp at hw, fun _ => rfl, fun hw => by rw [hwt] at hw; simp at hw⟩
          simp only [evO, hcal, hca2 s2 h2]
          rw [a1, a2, a3, h]
          rfl
        · have hwt : wrT ⟨dst, .call c, type, pos, after, guard⟩ = true := by
            simp only [wrT, hcal]
            cases fx with
            | func g => simp only [hfx g rfl, htk, Bool.or_true]
            | _ => rfl
          refine ⟨rfl, fun _ => ⟨rfl, rfl⟩, fun hw => by rw [hwt] at hw; simp at hw, fun s2 h2 _ hS hT _ => ?_⟩
          have e := hT hwt
          refine ⟨{ s2 with tk := tk' }, ?_, rfl, fun hw => hS hw, fun _ => ⟨rfl, rfl⟩, fun _ => rfl, fun hw => by rw [hwt] at hw; simp at hw⟩
          simp only [evO, hcal, hca2 s2 h2]
          rw [e, hin s2.S s2.n]
          rfl
        by_cases hsh : shF f = true
        · have hany : (Globs.shAny : Bool) = true := by unfold shF at hsh; simp only [Bool.and_eq_true] at hsh; exact hsh.1
          have hrd : rdA ⟨dst, .call c, type, pos, after, guard⟩ = true := by
            simp only [rdA, hcal]
            cases fx with
            | func g => simp only [hfx g rfl, hsh, Bool.true_or]
            | _ => simp only [hany, Bool.true_or]
          have hwr : wrS ⟨dst, .call c, type, pos, after, guard⟩ = true := by
            simp only [wrS, hcal]
            cases fx with
            | func g => simp only [hfx g rfl, hsh, Bool.true_or]
            | _ => simp only [hany, Bool.true_or]
          refine ⟨rfl, fun hw => by rw [hwr] at hw; simp at hw, fun _ => rfl, fun s2 h2 _ _ _ hA => ?_⟩
          obtain ⟨a1, a2, a3⟩ := hA hrd
          refine ⟨{ s2 with n := n' }, ?_, rfl, fun _ => ⟨a1, rfl⟩, fun hw => by rw [hwr] at hw; simp at hw, fun _ => a3, fun _ => rfl⟩
          simp only [evO, hcal, hca2 s2 h2]
          rw [a1, a2, a3, h]
          simp only [Option.map_some, ← a1, ← a3]
        · obtain ⟨hnn, hin2⟩ := hin.resolve_left hsh
          subst hnn
          refine ⟨rfl, fun _ => ⟨rfl, rfl⟩, fun _ => rfl, fun s2 h2 _ hS hT _ => ⟨s2, ?_, rfl, fun hw => ?_, fun _ => ⟨rfl, rfl⟩, fun hw => ?_, fun _ => rfl⟩⟩
          · simp only [evO, hcal, hca2 s2 h2, hin2 s2.S s2.tk s2.n, Option.map_some]
          · exact hS hw
          · exact hT hw
      · simp at h
    | invoke rx m =>
      simp only [evO, hcal] at h
      split at h
      · rename_i f args hca
        simp only [Option.map_eq_some_iff, Prod.mk.injEq, Prod.exists] at h
        obtain ⟨r, S', tk', n', h, rfl, rfl⟩ := h
        have hca2 : ∀ s2 : St, (∀ x ∈ (Op.call c).operands, opv s2.T x = opv s.T x) → calleeA P s2.T c = some (f, args) := by
          intro s2 h2
          rw [← hca]
          unfold calleeA
          rw [hcal]
          simp only [hargs s2 h2, h2 rx (by simp [Op.operands, Call.operands, hcal])]
        refine ⟨rfl, fun hw => by simp [wrS, hcal] at hw, fun hw => by simp [wrT, hcal] at hw, fun s2 h2 _ _ _ hA => ?_⟩
        obtain ⟨a1, a2, a3⟩ := hA (by simp [rdA, hcal])
        refine ⟨{ s2 with S := S', tk := tk', n := n' }, ?_, rfl, fun _ => ⟨rfl, rfl⟩, fun hw => by simp [wrS, hcal] at hw, fun _ => rfl, fun hw => by simp [wrT, hcal] at hw⟩
        simp only [evO, hcal, hca2 s2 h2]
        rw [a1, a2, a3, h]
        rfl
      · simp at h
  all_goals first
    | (simp at hsel; done)
    | (simp only [evO, Option.map_eq_some_iff] at h
       obtain ⟨v', h1, h2⟩ := h
       exact frame_quiet h1 h2 rfl rfl (fun s2 => by simp only [evO]))
def StepT [Globs] (P : Program) (call : CallA) (all : List Oper) (o : Oper) (s s' : St) (v : AV) : Prop :=
  (wantA all s.T o = some false ∧ v = .prim undef ∧ s' = { s with T := putT s.T o.dst v }) ∨ (wantA all s.T o = some true ∧ ∃ s1, evO P call o s = some (v, s1) ∧ chkO P all o s v s1 = true ∧ s' = { s1 with T := putT s1.T o.dst v })
theorem seq_of [Globs] {call : CallA} {all : List Oper} : ∀ {l : List Oper} {st st' : St}, evOs P call all l st = some st' → ∃ (sts : Nat → St) (val : Nat → AV), sts 0 = st ∧ sts l.length = st' ∧ ∀ (i : Nat) o, l[i]? = some o → StepT P call all o (sts i) (sts (i + 1)) (val i)
  | [], st, st', h => by
    simp only [evOs, Option.some.injEq] at h; subst h
    exact ⟨fun _ => st, fun _ => .bot, rfl, rfl, by simp⟩
  | o :: l, st, st', h => by
    have key : ∀ {s1 : St} {v : AV}, StepT P call all o st s1 v → evOs P call all l s1 = some st' → ∃ (sts : Nat → St) (val : Nat → AV), sts 0 = st ∧ sts (o :: l).length = st' ∧ ∀ (i : Nat) o', (o :: l)[i]? = some o' → StepT P call all o' (sts i) (sts (i + 1)) (val i) := by
      intro s1 v hs h
      obtain ⟨sts, val, h1, h2, h3⟩ := seq_of h
      refine ⟨fun | 0 => st | i + 1 => sts i, fun | 0 => v | i + 1 => val i, rfl, h2, fun i o' ho => ?_⟩
      cases i with
      | zero =>
        simp only [List.getElem?_cons_zero, Option.some.injEq] at ho; subst ho
        show StepT P call all o st (sts 0) v
        rw [h1]; exact hs
      | succ i => exact h3 i o' (by simpa using ho)
    simp only [evOs] at h
    split at h
    · simp at h
    · rename_i hw
      exact key (.inl ⟨hw, rfl, rfl⟩) h
    · rename_i hw
      split at h
      · rename_i v s1 ho
        split at h
        · rename_i hck
          exact key (.inr ⟨hw, s1, ho, hck, rfl⟩) h
        · simp at h
      · simp at h
theorem putT_length (T : List AV) (d : Option Tmp) (v : AV) : (putT T d v).length = T.length := by
  cases d <;> simp [putT, put_len]
theorem getT_put_same : ∀ {T : List AV} {d : Nat} {v : AV}, d < T.length → getT (put T d v) d = v
  | _ :: _, 0, _, _ => rfl
  | _ :: T, d + 1, v, h => getT_put_same (T := T) (by simpa using h)
  | [], _, _, h => by simp at h
theorem getT_put_other : ∀ {T : List AV} {d t : Nat} {v : AV}, d ≠ t → getT (put T d v) t = getT T t
  | _ :: _, 0, 0, _, h => absurd rfl h
  | _ :: _, 0, _ + 1, _, _ => rfl
  | _ :: _, _ + 1, 0, _, _ => rfl
  | _ :: T, d + 1, t + 1, v, h => getT_put_other (T := T) (by omega)
  | [], _, _, _, _ => rfl
theorem getT_ext : ∀ {T T' : List AV}, T.length = T'.length → (∀ t, getT T t = getT T' t) → T = T'
  | [], [], _, _ => rfl
  | x :: T, y :: T', h, hg => by
    have h0 := hg 0
    simp only [getT] at h0
    rw [h0, getT_ext (T := T) (T' := T') (by simpa using h) fun t => hg (t + 1)]
  | [], _ :: _, h, _ => by simp at h
  | _ :: _, [], h, _ => by simp at h
def IsCur (w : Nat → Bool) (listed : Array Bool) (n c : Nat) : Prop := c ≤ n ∧ (∀ j, j < c → w j = true → listed.getD j false = true) ∧ (c < n → w c = true ∧ listed.getD c false = false)
theorem cur_from (w : Nat → Bool) (listed : Array Bool) (n : Nat) : ∀ k c, n - c ≤ k → c ≤ n → (∀ j, j < c → w j = true → listed.getD j false = true) → ∃ c', c ≤ c' ∧ IsCur w listed n c' ∧ ∀ j, c ≤ j → j < c' → w j = true → listed.getD j false = true
  | 0, c, hk, hc, h => ⟨c, Nat.le_refl _, ⟨hc, h, fun h => by omega⟩, fun j h1 h2 => by omega⟩
  | k + 1, c, hk, hc, h => by
    by_cases hn : c < n ∧ w c = true ∧ listed.getD c false = false
    · exact ⟨c, Nat.le_refl _, ⟨hc, h, fun _ => hn.2⟩, fun j h1 h2 => by omega⟩
    · by_cases hcn : c < n
      · obtain ⟨c', h1, h2, h3⟩ := cur_from w listed n k (c + 1) (by omega) (by omega) (fun j hj hw => by
          by_cases e : j = c
          · subst e
            cases hl : listed.getD j false with
            | true => rfl
            | false => exact absurd ⟨hcn, hw, hl⟩ hn
          · exact h j (by omega) hw)
        exact ⟨c', by omega, h2, fun j h4 h5 hw => h2.2.1 j h5 hw⟩
      · exact ⟨c, Nat.le_refl _, ⟨hc, h, fun h => absurd h hcn⟩, fun j h1 h2 => by omega⟩
def wS [Globs] (ops : Array Oper) (j : Nat) : Bool := match ops[j]? with | some o => wrS o | none => false
def wT [Globs] (ops : Array Oper) (j : Nat) : Bool := match ops[j]? with | some o => wrT o | none => false
structure DInv [Globs] (ops : Array Oper) (st : St) (sts : Nat → St) (val : Nat → AV) (listed : Array Bool) (s : St) : Prop where
  len : listed.size = ops.size
  closed : ∀ j, listed.getD j false = true → ∀ e ∈ depsOf ops j, listed.getD e false = true
  lenT : s.T.length = st.T.length
  t1 : ∀ j t, listed.getD j false = true → dstOf ops j = some t → (∀ e, pairAt ops e j = true → listed.getD e false = true) → getT s.T t = if t < st.T.length then val j else .bot
  t2 : ∀ t, (∀ j, listed.getD j false = true → dstOf ops j ≠ some t) → getT s.T t = getT st.T t
  cS : ∃ c, IsCur (wS ops) listed ops.size c ∧ s.S = (sts c).S ∧ s.n = (sts c).n
  cT : ∃ c, IsCur (wT ops) listed ops.size c ∧ s.tk = (sts c).tk
theorem ld_len [Globs] {call : CallA} {o : Oper} {s s' : St} {v : AV} {t : TypeId} {x : Operand} {id ep off : Nat} (h : evO P call o s = some (v, s')) (ho : o.op = .load t x) (hx : opv s.T x = .ref id ep off) : id < s.S.length := by
  simp only [evO, ho, Option.map_eq_some_iff] at h
  obtain ⟨v', h, -⟩ := h
  unfold ldA at h
  rw [hx] at h
  split at h
  · simp only at h
    split at h
    · rename_i cs he
      unfold entAt at he
      split at he
      · rename_i e hn; exact nth_lt hn
      · cases he
    · cases h
  · cases h
theorem isAl_op {o : Oper} (h : isAl o = true) : ∃ t, o.op = .alloc t ∧ o.guard = none := by
  unfold isAl at h
  simp only [Bool.and_eq_true, Option.isNone_iff_eq_none] at h
  obtain ⟨h1, h2⟩ := h
  split at h1
  · rename_i t e; exact ⟨t, e, h2⟩
  · simp at h1
theorem isAl_w [Globs] {o : Oper} (h : isAl o = true) : wrS o = true ∧ rdS o = false ∧ wrT o = false := by
  obtain ⟨t, e, -⟩ := isAl_op h
  exact ⟨by simp [wrS, e], by simp [rdS, e], by simp [wrT, e]⟩
theorem pair_al {i j : Nat} (h : pairAt ops j i = true) : ∃ p o, ops[j]? = some p ∧ ops[i]? = some o ∧ (isAl p = true ∧ rdS p = false) ∧ isAl o = true ∧ rdS o = false := by
  unfold pairAt at h
  simp only [Bool.and_eq_true] at h
  obtain ⟨⟨-, h⟩, -⟩ := h
  split at h
  · rename_i p o h1 h2
    simp only [Bool.and_eq_true] at h
    have key : ∀ {o : Oper}, isAl o = true → rdS o = false := fun h => by
      obtain ⟨t, e, -⟩ := isAl_op h
      simp [rdS, e]
    exact ⟨p, o, h1, h2, ⟨h.1, key h.1⟩, h.2, key h.2⟩
  · simp at h
theorem pair_suc {i j : Nat} (h : pairAt ops j i = true) : i = j + 1 := by
  unfold pairAt at h
  simp only [Bool.and_eq_true, decide_eq_true_eq] at h
  exact h.1.1
theorem pair_lt {i j : Nat} (h : pairAt ops j i = true) : j < ops.size ∧ i < ops.size := by
  obtain ⟨p, o, h1, h2, -⟩ := pair_al h
  exact ⟨(Array.getElem?_eq_some_iff.1 h1).1, (Array.getElem?_eq_some_iff.1 h2).1⟩
theorem pair_reach {i j k : Nat} (h : pairAt ops j i = true) (hk : k < ops.size) (h1 : k ≠ j) (h2 : k ≠ i) : j ∈ reachAt ops k ↔ i ∈ reachAt ops k := by
  unfold pairAt at h
  simp only [Bool.and_eq_true] at h
  have h3 := List.all_eq_true.1 h.2 k (by simpa using hk)
  simp only [Bool.or_eq_true, beq_iff_eq] at h3
  rcases h3 with (h3 | h3) | h3
  · exact absurd h3 h1
  · exact absurd h3 h2
  · rw [← List.contains_iff_mem, ← List.contains_iff_mem, h3]
structure Le0 (C C' : Cx) : Prop where
  n : C.n ≤ C'.n
  stays : Stays C.w C'.w C.Avoid C'.Avoid
  shape : ∀ (b : Nat) (cs : Array Value) (t : TypeId) (fz : Nat × Nat), C.w.heap[b]? = some (Obj.cells cs t fz) → ∃ cs' : Array Value, C'.w.heap[b]? = some (Obj.cells cs' t fz) ∧ cs'.size = cs.size
  ent : ∀ id e', nth C'.S id = some e' → e'.ep < C.n → ∃ e, nth C.S id = some e ∧ e.ep = e'.ep ∧ C'.φ id = C.φ id
  tok : ∀ id k, nth C.tk id = some k → ∃ k', nth C'.tk id = some k' ∧ k ≤ k' ∧ (k' = k → C'.ψ id = C.ψ id)
theorem CapR.mono0 {C C' : Cx} (h : Le0 C C') {c a len cap} (hc : CapR C c a len cap) : CapR C' c a len cap := by
  cases c with
  | unk => trivial
  | tight => exact hc
  | nilc => exact hc
  | nl => exact hc
  | nn => exact hc
  | tok id ep sz =>
    obtain ⟨k, h1, h2, h3⟩ := hc
    obtain ⟨k', h4, h5, h6⟩ := h.tok id k h1
    refine ⟨k', h4, by omega, fun e => ?_⟩
    rcases h3 (by omega) with h7 | ⟨b, cs, t, ea, hp, hb, hl⟩
    · exact .inl h7
    · obtain ⟨cs', h8, h9⟩ := h.shape b cs t _ hb
      exact .inr ⟨b, cs', t, ea, by rw [h6 (by omega), hp], h8, by omega⟩
mutual
theorem VR.mono0 {C C' : Cx} (h : Le0 C C') : ∀ (c : AV) (x : Value), VR C c x → VR C' c x
  | .bot, _, _ => by simp only [VR]
  | .prim _, _, hx => by simpa only [VR] using hx
  | .frz es c, x, hx => by
    simp only [VR] at hx ⊢
    obtain ⟨a, len, cap, e, h1, h2, h3, h4⟩ := hx
    refine ⟨a, len, cap, e, h1, h2, h3.mono0 h, h4.imp id ?_⟩
    rintro ⟨b, o, sz, ea, hr⟩
    exact ⟨b, o, sz, ea, PRows.stays h.stays b sz o es hr⟩
  | .fptr cs, x, hx => by
    simp only [VR] at hx ⊢
    obtain ⟨b, o, vs, e, hl, hr⟩ := hx
    exact ⟨b, o, vs, e, hl.stays h.stays, PRs.stays h.stays cs vs hr⟩
  | .agg cs, x, hx => by
    simp only [VR] at hx ⊢
    obtain ⟨vs, e, hr⟩ := hx
    exact ⟨vs, e, VRs.mono0 h cs vs.toList hr⟩
  | .tup cs, x, hx => by
    simp only [VR] at hx ⊢
    obtain ⟨vs, e, hr⟩ := hx
    exact ⟨vs, e, VRs.mono0 h cs vs.toList hr⟩
  | .ref id ep off, x, hx => by
    simp only [VR] at hx ⊢
    obtain ⟨b, h0, hn, hx⟩ := hx
    refine ⟨b, h0, Nat.lt_of_lt_of_le hn h.n, fun e' he hep => ?_⟩
    obtain ⟨e, h1, h2, h3⟩ := h.ent id e' he (by omega)
    rw [h3]; exact hx e h1 (by omega)
  | .sref id ep off len sz, x, hx => by
    simp only [VR] at hx ⊢
    obtain ⟨b, a, cap, h0, h0', h0'', hn, hx⟩ := hx
    refine ⟨b, a, cap, h0, h0', h0'', Nat.lt_of_lt_of_le hn h.n, fun e' he hep => ?_⟩
    obtain ⟨e, h1, h2, h3⟩ := h.ent id e' he (by omega)
    obtain ⟨g1, cs, t, g2, g3⟩ := hx e h1 (by omega)
    obtain ⟨cs', g4, g5⟩ := h.shape b cs t _ g2
    exact ⟨by rw [h3]; exact g1, cs', t, g4, by omega⟩
  | .fn f caps, x, hx => by
    simp only [VR] at hx ⊢
    obtain ⟨vs, e, hr⟩ := hx
    exact ⟨vs, e, VRs.mono0 h caps vs.toList hr⟩
  | .bfn f caps, x, hx => by
    simp only [VR] at hx ⊢
    obtain ⟨vs, e, hr⟩ := hx
    exact ⟨vs, e, VRs.mono0 h caps vs.toList hr⟩
  | .ifc t v, x, hx => by
    simp only [VR] at hx ⊢
    obtain ⟨u, e, hr⟩ := hx
    exact ⟨u, e, VR.mono0 h v u hr⟩
  | .mfn t m v, x, hx => by
    simp only [VR] at hx ⊢
    obtain ⟨u, e, hr⟩ := hx
    exact ⟨u, e, VR.mono0 h v u hr⟩
  | .mref id ep, x, hx => by
    simp only [VR] at hx ⊢
    obtain ⟨b, h0, hn, hx⟩ := hx
    refine ⟨b, h0, Nat.lt_of_lt_of_le hn h.n, fun e' he hep => ?_⟩
    obtain ⟨e, h1, h2, h3⟩ := h.ent id e' he (by omega)
    rw [h3]; exact hx e h1 (by omega)
  | .mset _, x, hx => by simp only [VR] at hx
  | .lit len cs, x, hx => by
    simp only [VR] at hx ⊢
    obtain ⟨b, vs, e, hl, hr⟩ := hx
    exact ⟨b, vs, e, hl.stays h.stays, VRs.mono0 h cs vs hr⟩
theorem VRs.mono0 {C C' : Cx} (h : Le0 C C') : ∀ (cs : List AV) (vs : List Value), VRs C cs vs → VRs C' cs vs
  | [], [], _ => by simp only [VRs]
  | c :: cs, v :: vs, hx => by simp only [VRs] at hx ⊢; exact ⟨VR.mono0 h c v hx.1, VRs.mono0 h cs vs hx.2⟩
  | [], _ :: _, hx => by simp only [VRs] at hx
  | _ :: _, [], hx => by simp only [VRs] at hx
end
def Cx.hid (C : Cx) (arr : Array Value) (t : TypeId) : Cx := { C with w := C.w.alloc (.cells arr t), av := fun x o => C.av x o ∨ x = C.w.heap.size }
theorem mut_lt [Globs] {C : Cx} (hs : SR C) {b o : Nat} (h : C.Mut b o) : b < C.w.heap.size := by
  rcases h with ⟨i, hi, e⟩ | ⟨i, hi, e, h1, h2⟩
  · rw [← e]; exact phi_lt hs hi
  · rw [← e]; exact hs.tlt i o hi h1 h2
theorem Le0.hid [Globs] {C : Cx} (arr : Array Value) (t : TypeId) : Le0 C (C.hid arr t) := by
  have hb : Below C.w.heap.size C.w (C.w.alloc (.cells arr t)) := (Below.refl _ _).alloc (Nat.le_refl _) _
  refine ⟨Nat.le_refl _, fun b o v hv ha => ⟨by rw [show (C.hid arr t).w = C.w.alloc (.cells arr t) from rfl, Below.cell hb (cell_lt hv)]; exact hv, ?_⟩, fun b d t' fz hd => ⟨d, below_shape hb hd, rfl⟩, fun _ e he _ => ⟨e, he, rfl, rfl⟩, fun _ k hk => ⟨k, hk, Nat.le_refl _, fun _ => rfl⟩⟩
  rintro ((h | h) | h)
  · exact ha (.inl h)
  · have := cell_lt hv; omega
  · exact ha (.inr h)
theorem SR.hid [Globs] {C : Cx} (hs : SR C) (arr : Array Value) (t : TypeId) : SR (C.hid arr t) := by
  have hb : Below C.w.heap.size C.w (C.w.alloc (.cells arr t)) := (Below.refl _ _).alloc (Nat.le_refl _) _
  refine ⟨fun i x hx => ?_, hs.ne, hs.tok, hs.apart, fun b o hm => ?_, fun b o ha => ?_, fun i o hi h1 h2 => Nat.lt_of_lt_of_le (hs.tlt i o hi h1 h2) hb.size, fun g a hg => ?_⟩
  · exact ⟨(hs.ent i x hx).1, (hs.ent i x hx).2.move (hb.block _ (hs.lt hx)) (VRs.mono0 (Le0.hid arr t) _)⟩
  · have hm' : C.Mut b o := hm
    have := mut_lt hs hm'
    rintro (h | h)
    · exact hs.own b o hm' h
    · omega
  · rcases ha with h | h
    · exact Nat.lt_of_lt_of_le (hs.avlt b o h) hb.size
    · subst h
      exact (Array.getElem?_eq_some_iff.1 (heap_alloc_same C.w (.cells arr t))).1
  · obtain ⟨⟨t', fz, h1⟩, h2⟩ := hs.glob g a hg
    exact ⟨⟨t', fz, below_shape hb h1⟩, fun i => .inl (h2 i)⟩
def Cx.rev (C : Cx) (av0 : Nat → Nat → Prop) (b : Nat) (cs : List AV) : Cx :=
  { C with av := av0, φ := fun i => if i = C.S.length then b else C.φ i, S := C.S ++ [⟨C.n, cs⟩], n := C.n + 1 }
section
variable {C : Cx} {av0 : Nat → Nat → Prop} {b : Nat}
theorem rev_mut {cs : List AV} {x o : Nat} (h : (C.rev av0 b cs).Mut x o) : C.Mut x o ∨ x = b := by
  rcases h with ⟨i, hi, e⟩ | h
  · simp only [Cx.rev, List.length_append, List.length_cons, List.length_nil] at hi e
    split at e
    · exact .inr e.symm
    · exact .inl (.inl ⟨i, by omega, e⟩)
  · exact .inl (.inr h)
theorem Le0.rev (hav : ∀ o, C.av b o) (hav' : ∀ x o, x ≠ b → (C.av x o ↔ av0 x o)) (h0 : ∀ o, ¬ av0 b o) (cs : List AV) : Le0 C (C.rev av0 b cs) := by
  refine ⟨Nat.le_succ _, fun x o v hv ha => ⟨hv, ?_⟩, fun _ d _ _ hd => ⟨d, hd, rfl⟩, fun i x hx hn => ?_, fun _ k hk => ⟨k, hk, Nat.le_refl _, fun _ => rfl⟩⟩
  · rintro (h | h)
    · by_cases e : x = b
      · subst e; exact h0 o h
      · exact ha (.inl ((hav' x o e).2 h))
    · rcases rev_mut h with h | h
      · exact ha (.inr h)
      · subst h; exact ha (.inl (hav o))
  · rcases nth_snoc hx with ⟨h1, h2⟩ | ⟨h1, h2⟩
    · subst h2; simp at hn
    · refine ⟨x, h2, rfl, ?_⟩
      simp only [Cx.rev]
      rw [if_neg (by omega)]
theorem SR.rev [Globs] (hs : SR C) {arr : Array Value} {t : TypeId} (hb : C.w.heap[b]? = some (.cells arr t (0, 0))) (hav : ∀ o, C.av b o) (hav' : ∀ x o, x ≠ b → (C.av x o ↔ av0 x o)) (h0 : ∀ o, ¬ av0 b o) (hg : ∀ g a, (g, a) ∈ Globs.gl → ∀ i, av0 g i) :
    SR (C.rev av0 b (arr.toList.map cst1)) := by
  have hle := Le0.rev (C := C) hav hav' h0 (arr.toList.map cst1)
  have nb : ∀ i, i < C.S.length → C.φ i ≠ b := fun i hi e => hs.own b 0 (.inl ⟨i, hi, e⟩) (hav 0)
  refine ⟨fun i x hx => ?_, fun i j hi hj h => ?_, hs.tok, fun i j o hi hj h h1 h2 => ?_, ?_, fun x o ha => ?_, hs.tlt, fun g a hm => ⟨(hs.glob g a hm).1, hg g a hm⟩⟩
  · rcases nth_snoc hx with ⟨h1, rfl⟩ | ⟨h1, h2⟩
    · refine ⟨Nat.lt_succ_self _, EntR.mk (VRs_notM (VRs_cst1 (C := C) arr.toList)) (cs := arr) (t := t) (vs := arr.toList) (r := []) ?_ (by simp) (VRs_cst1 _)⟩
      simp only [Cx.rev, h1, if_true]
      exact hb
    · refine ⟨Nat.lt_succ_of_lt (hs.ent i x h2).1, (hs.ent i x h2).2.move ?_ (VRs.mono0 hle _)⟩
      simp only [Cx.rev]
      rw [if_neg (by omega)]
  · simp only [Cx.rev, List.length_append, List.length_cons, List.length_nil] at hi hj h
    by_cases hi' : i = C.S.length <;> by_cases hj' : j = C.S.length
    · omega
    · rw [if_pos hi', if_neg hj'] at h
      exact absurd h.symm (nb j (by omega))
    · rw [if_neg hi', if_pos hj'] at h
      exact absurd h (nb i (by omega))
    · rw [if_neg hi', if_neg hj'] at h
      exact hs.ne i j (by omega) (by omega) h
  · simp only [Cx.rev, List.length_append, List.length_cons, List.length_nil] at hi h hj h1 h2
    by_cases hi' : i = C.S.length
    · rw [if_pos hi'] at h
      exact hs.own b o (.inr ⟨j, hj, h.symm, h1, h2⟩) (hav o)
    · rw [if_neg hi'] at h
      exact hs.apart i j o (by omega) hj h h1 h2
  · intro x o hm ha
    by_cases e : x = b
    · subst e; exact h0 o ha
    · rcases rev_mut hm with h | h
      · exact hs.own x o h ((hav' x o e).2 ha)
      · exact e h
  · by_cases e : x = b
    · subst e; exact absurd ha (h0 o)
    · exact hs.avlt x o ((hav' x o e).2 ha)
end
theorem alloc_wp {o : Oper} {t : TypeId} {cs : List AV} (ho : o.op = .alloc t) (hz : zeroOf P t = some cs) : ∃ arr : Array Value, arr.toList.map cst1 = cs ∧ ∀ (C : Cx) (a : Act) (next : Act → World → Prop) (Q : Exit → Act → World → Prop), next (a.put o.dst (.pointer (some ⟨C.w.heap.size, 0, none⟩))) (C.w.alloc (.cells arr t)) → o.wp P a C.w next Q := by
  simp only [zeroOf, Option.map_eq_some_iff, Option.bind_eq_some_iff] at hz
  obtain ⟨zv, ⟨i, h1, h2⟩, rfl⟩ := hz
  refine ⟨zv.cells, rfl, fun C a next Q hn => wp_value (v := .pointer (some ⟨C.w.heap.size, 0, none⟩)) (w' := C.w.alloc (.cells zv.cells t)) ?_ hn⟩
  have hz : (zeroValue t).run P C.w = .ok zv C.w := by simp [zeroValue, typeInfo, h1, h2]
  simp only [execOp, ho, Instr.alloc, Sem.run_bind, hz, Result.andThen_ok, newVar, run_newRow, Sem.run_pure]
theorem VRs_put_same {C : Cx} : ∀ {T vs} {d : Nat} {c}, VRs C T vs → (∀ x, vs[d]? = some x → VR C c x) → VRs C (put T d c) vs
  | [], [], _, _, _, _ => by simp only [put, VRs]
  | _ :: _, v :: _, 0, _, h, hv => by simp only [VRs, put] at h ⊢; exact ⟨hv v rfl, h.2⟩
  | _ :: _, _ :: _, d + 1, _, h, hv => by simp only [VRs, put] at h ⊢; exact ⟨h.1, VRs_put_same h.2 fun x hx => hv x (by simpa using hx)⟩
  | [], _ :: _, _, _, h, _ => by simp only [VRs] at h
  | _ :: _, [], _, _, h, _ => by simp only [VRs] at h
theorem calleeA_x [Globs] {T : List AV} {c : Call} {f : FuncId} {args : List AV} (h : calleeA P T c = some (f, args)) (hx : xF f = true) : xCall c = true := by
  have hany : (Globs.xAny : Bool) = true := by unfold xF at hx; simp only [Bool.and_eq_true] at hx; exact hx.1
  unfold calleeA at h
  unfold xCall
  split at h
  · rename_i hc; rw [hc]
  · rename_i x hc
    rw [hc]
    cases x with
    | func g =>
      simp only [opv, Option.some.injEq, Prod.mk.injEq] at h
      simp only [h.1, hx]
    | _ => exact hany
  · simp at h
theorem evO_call [Globs] {call : CallA} {o : Oper} {c : Call} {s s' : St} {v : AV} (ho : o.op = .call c) (hb : ∀ b, c.callee ≠ .builtin b) (h : evO P call o s = some (v, s')) : ∃ f args S' tk' n', calleeA P s.T c = some (f, args) ∧ call f args s.S s.tk s.n = some (v, S', tk', n') ∧ s'.S = S' := by
  simp only [evO, ho] at h
  split at h
  · rename_i h'; exact absurd h' (hb _)
  · rename_i h'; exact absurd h' (hb _)
  · rename_i h'; exact absurd h' (hb _)
  · rename_i b _ _ _ h'; exact absurd h' (hb _)
  · split at h
    · rename_i f args hca
      simp only [Option.map_eq_some_iff, Prod.mk.injEq, Prod.exists] at h
      obtain ⟨r, S', tk', n', h, rfl, rfl⟩ := h
      exact ⟨f, args, S', tk', n', hca, h, rfl⟩
    · simp at h
theorem chkO_x [Globs] {all : List Oper} {o : Oper} {s s' : St} {v : AV} (h : chkO P all o s v s' = true) (hd : (Globs.dr : Bool) = true) (hx : xOp o = true) : chkX P all o s s' := by
  unfold chkO at h
  rw [hd, hx] at h
  simpa using h
theorem chkO_l [Globs] {all : List Oper} {o : Oper} {s s' : St} {v : AV} (h : chkO P all o s v s' = true) (hd : (Globs.dr : Bool) = true) (hl : isLd o = true) : isB v = false := by
  have hx : xOp o = false := by
    unfold isLd at hl
    unfold xOp
    split at hl
    · rename_i h'; rw [h']
    · simp at hl
  unfold chkO at h
  rw [hd, hx, hl] at h
  simpa using h
theorem lk_x [Globs] {o : Oper} (h : lkOp o = true) : (Globs.dr : Bool) = true ∧ xOp o = true := by
  unfold lkOp at h
  simp only [Bool.and_eq_true] at h
  refine ⟨h.1, ?_⟩
  unfold xOp xCall
  split at h
  · rename_i c ho
    split at h
    · rename_i hc; rw [hc]
    · rename_i hc
      rw [hc]
      simp only [Bool.and_eq_true] at h; exact h.2.1
    · simp at h
  · simp at h
theorem an_x [Globs] {o : Oper} (h : anOp o = true) : (Globs.dr : Bool) = true ∧ xOp o = true := by
  unfold anOp at h
  simp only [Bool.and_eq_true] at h
  exact h.1
theorem call_keeps [Globs] {call : CallA} (hi : IndepX call) {all : List Oper} {o : Oper} {c : Call} {s s' : St} {v : AV} (ho : o.op = .call c) (hb : ∀ b, c.callee ≠ .builtin b) (h : evO P call o s = some (v, s')) (hck : chkO P all o s v s' = true) : s'.S = s.S ∨ (xOp o = true ∧ s.S.length ≤ s'.S.length) := by
  obtain ⟨f, args, S', tk', n', h1, h2, rfl⟩ := evO_call ho hb h
  rcases hi _ _ _ _ _ _ _ _ _ h2 with hx | ⟨-, hS, -⟩ | ⟨hS, -⟩
  · right
    simp only [Bool.and_eq_true] at hx
    have hxo : xOp o = true := by unfold xOp; rw [ho]; exact calleeA_x h1 hx.1
    have hX := chkO_x hck hx.2 hxo
    refine ⟨hxo, ?_⟩
    by_cases hl : lkOp o = true
    · rw [(hX.1 hl).1]; exact Nat.le_refl _
    · exact (hX.2.1 (by simp [anOp, hx.2, hxo, hl])).1
  · exact .inl hS
  · exact .inl hS
theorem ldA_norefE {t : TypeId} {a : AV} {S S' : List Ent} (h : ∀ id ep off, a ≠ .ref id ep off) : ldA P t a S = ldA P t a S' := by
  unfold ldA
  split
  · split
    · rfl
    · exact absurd rfl (h _ _ _)
    · rfl
  · rfl
theorem ldA_nthE {t : TypeId} {id ep off : Nat} {S S' : List Ent} (h : nth S' id = nth S id) : ldA P t (.ref id ep off) S' = ldA P t (.ref id ep off) S := by
  have : entAt S' id ep = entAt S id ep := by unfold entAt; rw [h]
  unfold ldA
  simp only [this]
theorem gOnly_symm {S S' : List Ent} (h : gOnly S S') : gOnly S' S := by
  refine ⟨h.1.symm, fun i => ?_⟩
  rcases h.2 i with h | ⟨ep, b, b', h1, h2⟩
  · exact .inl h.symm
  · exact .inr ⟨ep, b', b, h2, h1⟩
theorem gOnly_ld {t : TypeId} {id ep off : Nat} {S S' : List Ent} {V : AV} (h : gOnly S S') (hl : ldA P t (.ref id ep off) S = some V) (hV : isB V = false) : ldA P t (.ref id ep off) S' = some V := by
  rcases h.2 id with h | ⟨ep', b, b', h1, h2⟩
  · rw [ldA_nthE h]; exact hl
  · have hE : entAt S id ep = if ep' = ep then some [.prim (.bool b)] else none := by unfold entAt; rw [h1]; rfl
    have hE' : entAt S' id ep = if ep' = ep then some [.prim (.bool b')] else none := by unfold entAt; rw [h2]; rfl
    unfold ldA at hl ⊢
    simp only [hE'] 
    simp only [hE] at hl
    split at hl
    · rename_i sz bb _ _
      split at hl
      · rename_i cs hcs
        split at hcs
        · rename_i he
          simp only [Option.some.injEq] at hcs
          subst hcs
          rw [if_pos he]
          simp only
          unfold partA at hl ⊢
          cases bb with
          | false =>
            simp only [Bool.false_eq_true, if_false] at hl
            cases off with
            | zero =>
              simp only [List.drop_zero, nth, Option.some.injEq] at hl
              subst hl; simp [isB] at hV
            | succ off => simp [nth] at hl
          | true =>
            simp only [if_true, Option.map_eq_some_iff] at hl ⊢
            obtain ⟨ds, h3, rfl⟩ := hl
            cases sz with
            | zero => exact ⟨ds, by simpa [takeN] using h3, rfl⟩
            | succ sz =>
              cases off with
              | zero =>
                simp only [List.drop_zero, takeN, Option.map_eq_some_iff] at h3
                obtain ⟨ds', h4, rfl⟩ := h3
                cases sz with
                | zero =>
                  simp only [takeN, Option.some.injEq] at h4
                  subst h4
                  simp [isB] at hV
                | succ sz => simp [takeN] at h4
              | succ off => simp [takeN] at h3
        · simp at hcs
      · simp at hl
    · simp at hl
theorem loadsB_mem {ops : Array Oper} {k i : Nat} {d : Option Tmp} {o : Oper} {t : TypeId} {a : Operand} (hk : k < ops.size) (hd : dstOf ops k = d) (hinj : ∀ j, j < ops.size → dstOf ops j = d → j = k) (hi : i < k) (ho : ops[i]? = some o) (hl : o.op = .load t a) (hr : i ∉ reachAt ops k) :
    (t, a, o.dst, ldFlag ops.toList k i a) ∈ loadsB ops.toList d := by
  unfold loadsB
  have hf : ((List.range ops.toList.length).find? fun k => dstOf ops.toList.toArray k == d) = some k := by
    rw [List.find?_eq_some_iff_append]
    refine ⟨by simpa using hd, List.range k, (List.range (ops.toList.length - k - 1)).map (fun j => k + 1 + j), ?_, fun j hj => ?_⟩
    · have : ops.toList.length = k + (1 + (ops.toList.length - k - 1)) := by simp; omega
      conv => lhs; rw [this]
      rw [List.range_add, List.range_add]
      simp [Nat.add_assoc]
    · simp only [List.mem_range] at hj
      cases hh : dstOf ops.toList.toArray j == d with
      | false => rfl
      | true =>
        have := hinj j (by omega) (by simpa using hh)
        omega
  rw [hf]
  simp only [List.mem_filterMap, List.mem_range]
  refine ⟨i, hi, ?_⟩
  have : ops.toList[i]? = some o := by simpa using ho
  rw [this]
  simp only [hl]
  rw [if_neg (by simpa using hr)]
theorem behindB_mem {ops : Array Oper} {k i : Nat} {d : Option Tmp} {o : Oper} {x : Tmp} (hk : k < ops.size) (hd : dstOf ops k = d) (hinj : ∀ j, j < ops.size → dstOf ops j = d → j = k) (hi : k < i) (ho : ops[i]? = some o) (hl : ldSlot ops i o = some x) (hr : k ∉ reachAt ops i) : x ∈ behindB ops.toList d := by
  unfold behindB
  have hf : ((List.range ops.toList.length).find? fun k => dstOf ops.toList.toArray k == d) = some k := by
    rw [List.find?_eq_some_iff_append]
    refine ⟨by simpa using hd, List.range k, (List.range (ops.toList.length - k - 1)).map (fun j => k + 1 + j), ?_, fun j hj => ?_⟩
    · have : ops.toList.length = k + (1 + (ops.toList.length - k - 1)) := by simp; omega
      conv => lhs; rw [this]
      rw [List.range_add, List.range_add]
      simp [Nat.add_assoc]
    · simp only [List.mem_range] at hj
      cases hh : dstOf ops.toList.toArray j == d with
      | false => rfl
      | true =>
        have := hinj j (by omega) (by simpa using hh)
        omega
  rw [hf]
  simp only [List.mem_filterMap, List.mem_range]
  have hil := (Array.getElem?_eq_some_iff.1 ho).1
  refine ⟨i, by simpa using hil, ?_⟩
  rw [if_pos ⟨hi, by simpa using hr⟩]
  have : ops.toList[i]? = some o := by simpa using ho
  rw [this]
  simpa using hl
set_option maxHeartbeats 1000000 in
theorem drawOk0_sound [Globs] (hm : P.follows .mixedOrders = true) : ∀ (call : CallA), CallOk P call → IndepX call → ∀ (real ops : Array Oper) (lt : Option (Nat × Oper)), LateO P real ops lt → ∀ (C : Cx) (st st' : St) (a : Act) (Q : Exit → Act → World → Prop), drawOk0 st ops.toList = true → Rel C st a → evOs P call ops.toList ops.toList st = some st' →
    (∀ a' C', Le C C' → Rel C' (reveal P lt st') a' → Q .normal a' C'.w) → wpAny P .any real Q real.size (Array.replicate real.size false) a { C.w with drawn := C.w.drawn + 1 } := by
  intro call hc hi real ops lt hlate C st st' a Q hok hr h hQ
  have hsz : real.size = ops.size := by
    cases lt with
    | none => rw [show real = ops from hlate]
    | some q => obtain ⟨p, al⟩ := q; exact hlate.1
  have hsame : ∀ i, (∀ p al, lt = some (p, al) → i ≠ p) → real[i]? = ops[i]? := by
    intro i hi'
    cases lt with
    | none => rw [show real = ops from hlate]
    | some q => obtain ⟨p, al⟩ := q; exact hlate.2.1 i (hi' p al rfl)
  have hmeta : ∀ i : Nat, (real[i]?).map (fun o => (o.after, o.dst)) = (ops[i]?).map fun o => (o.after, o.dst) := by
    intro i
    cases lt with
    | none => rw [show real = ops from hlate]
    | some q =>
      obtain ⟨p, al⟩ := q
      obtain ⟨-, h1, -, h2, -, -, -, h3⟩ := hlate
      by_cases e : i = p
      · subst e; rw [h2, h3]; rfl
      · rw [h1 i e]
  have hready : ∀ listed i, i ∈ Region.ready .any real listed ↔ i ∈ Region.ready .any ops listed := by
    intro listed i
    have hm' := hmeta i
    rw [mem_ready, mem_ready]
    constructor
    · rintro ⟨h0, o, ho, hd⟩
      rw [ho] at hm'
      obtain ⟨o', ho', e⟩ := Option.map_eq_some_iff.1 hm'.symm
      simp only [Prod.mk.injEq] at e
      exact ⟨h0, o', ho', by rw [e.1]; exact hd⟩
    · rintro ⟨h0, o, ho, hd⟩
      rw [ho] at hm'
      obtain ⟨o', ho', e⟩ := Option.map_eq_some_iff.1 hm'
      simp only [Prod.mk.injEq] at e
      exact ⟨h0, o', ho', by rw [e.1]; exact hd⟩
  have hyield : ∀ tmps, yielded real tmps = yielded ops tmps := by
    intro tmps
    funext j
    have hm' := hmeta j
    unfold yielded
    cases h1 : real[j]? with
    | none => rw [h1] at hm'; rw [Option.map_eq_none_iff.1 hm'.symm]
    | some o =>
      rw [h1] at hm'
      obtain ⟨o', ho', e⟩ := Option.map_eq_some_iff.1 hm'.symm
      simp only [Prod.mk.injEq] at e
      simp only [ho', Option.bind_some, e.2]
  have hnopair : ∀ p al, lt = some (p, al) → ∀ i j, pairAt ops i j = true → False := by
    intro p al e i j hp
    subst e
    obtain ⟨p1, p2, q1, -, ⟨q3, -⟩, -, -⟩ := pair_al hp
    have := hlate.2.2.1 i p1 q1
    obtain ⟨t, e1, -⟩ := isAl_op q3
    unfold isMk at this
    rw [e1] at this; cases this
  obtain ⟨sts, val, hs0, hsn, hstep⟩ := seq_of h
  simp only [Array.length_toList] at hsn
  have hstep' : ∀ (i : Nat) o, ops[i]? = some o → StepT P call ops.toList o (sts i) (sts (i + 1)) (val i) := fun i o ho => hstep i o (by simpa using ho)
  -- what the test says
  have hall0 : ∀ i o, ops[i]? = some o → opOk ops i o = true ∧ ∀ j p, j < i → ops[j]? = some p → ((!conf p o && !(wrS p && !lkOp p && rdS o) && !(rdS p && wrS o && !lkOp o)) || (reachAt ops i).contains j || (!conf p o && (if rdS o = true then apartM st ops i o p else (isMkS o || (anOp o && o.dst.isSome) || apartS st ops j p o))) || pairAt ops j i) = true := by
    intro i o ho
    have hlt := (Array.getElem?_eq_some_iff.1 ho).1
    unfold drawOk0 at hok
    rw [List.all_eq_true] at hok
    have h1 := hok i (by simpa using hlt)
    simp only [Array.toArray_toList, ho, Bool.and_eq_true] at h1
    refine ⟨h1.1, fun j p hj hp => ?_⟩
    have h2 := List.all_eq_true.1 h1.2 j (by simpa using hj)
    simp only [hp] at h2
    exact h2
  have hall : ∀ i o, ops[i]? = some o → opOk ops i o = true ∧ ∀ j p, j < i → ops[j]? = some p → conf p o = true → j ∈ reachAt ops i ∨ pairAt ops j i = true := by
    intro i o ho
    refine ⟨(hall0 i o ho).1, fun j p hj hp hcf => ?_⟩
    have h2 := (hall0 i o ho).2 j p hj hp
    simp only [hcf, Bool.not_true, Bool.false_and, Bool.false_or, Bool.or_false, Bool.or_eq_true] at h2
    exact h2.imp (fun h => by simpa using h) id
  have hrw : ∀ i o, ops[i]? = some o → ∀ j p, j < i → ops[j]? = some p → ((wrS p && !lkOp p && rdS o) || (rdS p && wrS o && !lkOp o)) = true → j ∈ reachAt ops i ∨ (if rdS o = true then apartM st ops i o p else (isMkS o || (anOp o && o.dst.isSome) || apartS st ops j p o)) = true := by
    intro i o ho j p hj hp hcf
    have h2 := (hall0 i o ho).2 j p hj hp
    have h3 : (!conf p o && !(wrS p && !lkOp p && rdS o) && !(rdS p && wrS o && !lkOp o)) = false := by
      simp only [Bool.or_eq_true] at hcf
      rcases hcf with h | h <;> simp [h]
    rw [h3] at h2
    simp only [Bool.false_or, Bool.or_eq_true, Bool.and_eq_true] at h2
    rcases h2 with (h2 | h2) | h2
    · exact .inl (by simpa using h2)
    · exact .inr h2.2
    · obtain ⟨p', o', q1, q2, ⟨-, q3⟩, -, q4⟩ := pair_al h2
      rw [hp] at q1; rw [ho] at q2
      simp only [Option.some.injEq] at q1 q2
      subst q1; subst q2
      simp [q3, q4] at hcf
  have hop : ∀ i o, ops[i]? = some o → (match o.op with | .select .. => false | _ => true) = true ∧ (∀ j ∈ depsOf ops i, j < i) ∧ (∀ g w, o.guard = some (g, w) → g ∈ depsOf ops i) ∧ (∀ d, o.dst = some d → ∀ j, j < i → dstOf ops j ≠ some d) ∧
      (∀ t, Operand.tmp t ∈ o.op.operands → ∀ j, dstOf ops j = some t → j = i ∨ j ∈ reachAt ops i ∨ i ∈ reachAt ops j) := by
    intro i o ho
    have h1 := (hall i o ho).1
    unfold opOk at h1
    simp only [Bool.and_eq_true] at h1
    obtain ⟨⟨⟨⟨a1, a2⟩, a3⟩, a4⟩, a5⟩ := h1
    refine ⟨a1, fun j hj => by simpa using List.all_eq_true.1 a2 j hj, fun g w hg => by rw [hg] at a3; simpa using a3, fun d hd j hj => ?_, fun t ht j hj => ?_⟩
    · rw [hd] at a4
      simp only [Option.all_some] at a4
      have := List.all_eq_true.1 a4 j (by simpa using hj)
      simpa using this
    · have h2 := Array.all_eq_true_iff_forall_mem.1 a5 (.tmp t) ht
      have hjlt : j < ops.size := by
        unfold dstOf at hj
        cases hx : ops[j]? with
        | none => rw [hx] at hj; simp at hj
        | some _ => exact (Array.getElem?_eq_some_iff.1 hx).1
      have h3 := List.all_eq_true.1 h2 j (by simpa using hjlt)
      simp only [hj, bne_self_eq_false, Bool.false_or, Bool.or_eq_true, beq_iff_eq, List.contains_iff_mem] at h3
      rcases h3 with (h3 | h3) | h3
      · exact .inl h3
      · exact .inr (.inl h3)
      · exact .inr (.inr h3)
  have hdst : ∀ {j : Nat} {d : Tmp}, dstOf ops j = some d → ∃ o, ops[j]? = some o ∧ o.dst = some d := by
    intro j d hj
    unfold dstOf at hj
    cases hx : ops[j]? with
    | none => rw [hx] at hj; simp at hj
    | some o => rw [hx] at hj; exact ⟨o, rfl, by simpa using hj⟩
  have hinj : ∀ {i j : Nat} {d : Tmp}, dstOf ops i = some d → dstOf ops j = some d → i = j := by
    intro i j d h1 h2
    obtain ⟨o, ho, hod⟩ := hdst h1
    obtain ⟨p, hp, hpd⟩ := hdst h2
    rcases Nat.lt_trichotomy i j with hh | hh | hh
    · exact absurd h1 ((hop j p hp).2.2.2.1 d hpd i hh)
    · exact hh
    · exact absurd h2 ((hop i o ho).2.2.2.1 d hod j hh)
  -- the text's order
  have stepT : ∀ i o, ops[i]? = some o → (sts (i + 1)).T = putT (sts i).T o.dst (val i) ∧ (wrS o = false → (sts (i + 1)).S = (sts i).S ∧ (sts (i + 1)).n = (sts i).n) ∧ (wrT o = false → (sts (i + 1)).tk = (sts i).tk) := by
    intro i o ho
    rcases hstep' i o ho with ⟨-, -, e⟩ | ⟨-, s1, h1, -, e⟩
    · rw [e]; exact ⟨rfl, fun _ => ⟨rfl, rfl⟩, fun _ => rfl⟩
    · obtain ⟨g1, g2, g3, -⟩ := evO_frame hi (hop i o ho).1 h1
      rw [e]; exact ⟨by simp only [g1], g2, g3⟩
  have textLen : ∀ i, i ≤ ops.size → (sts i).T.length = st.T.length := by
    intro i
    induction i with
    | zero => intro _; rw [hs0]
    | succ i ih =>
      intro hlt
      rw [(stepT i _ (Array.getElem?_eq_getElem (show i < ops.size by omega))).1, putT_length, ih (by omega)]
  have text2 : ∀ i, i ≤ ops.size → ∀ t, (∀ j, j < i → dstOf ops j ≠ some t) → getT (sts i).T t = getT st.T t := by
    intro i
    induction i with
    | zero => intro _ t _; rw [hs0]
    | succ i ih =>
      intro hlt t ht
      have ho := Array.getElem?_eq_getElem (show i < ops.size by omega)
      rw [(stepT i _ ho).1]
      have hne : (ops[i]'(by omega)).dst ≠ some t := fun e => ht i (by omega) (by unfold dstOf; rw [ho]; simpa using e)
      cases hd : (ops[i]'(by omega)).dst with
      | none => simp only [putT]; exact ih (by omega) t fun j hj => ht j (by omega)
      | some d =>
        simp only [putT]
        rw [getT_put_other (fun e => hne (by rw [hd, e]))]
        exact ih (by omega) t fun j hj => ht j (by omega)
  have text1 : ∀ i, i ≤ ops.size → ∀ j t, j < i → dstOf ops j = some t → getT (sts i).T t = if t < st.T.length then val j else .bot := by
    intro i
    induction i with
    | zero => intro _ j t hj; omega
    | succ i ih =>
      intro hlt j t hj hd
      have ho := Array.getElem?_eq_getElem (show i < ops.size by omega)
      rw [(stepT i _ ho).1]
      by_cases e : j = i
      · subst e
        have hd' : (ops[j]'(by omega)).dst = some t := by unfold dstOf at hd; rw [ho] at hd; simpa using hd
        rw [hd']
        simp only [putT]
        by_cases hlt' : t < st.T.length
        · rw [if_pos hlt']
          exact getT_put_same (by rw [textLen j (by omega)]; exact hlt')
        · rw [if_neg hlt']
          refine getT_out ?_
          rw [put_len, textLen j (by omega)]; exact Nat.le_of_not_lt hlt'
      · have hne : dstOf ops i ≠ some t := fun x => e (hinj hd x)
        have hne' : (ops[i]'(by omega)).dst ≠ some t := fun x => hne (by unfold dstOf; rw [ho]; simpa using x)
        cases hd' : (ops[i]'(by omega)).dst with
        | none => simp only [putT]; exact ih (by omega) j t (by omega) hd
        | some d =>
          simp only [putT]
          rw [getT_put_other (fun x => hne' (by rw [hd', x]))]
          exact ih (by omega) j t (by omega) hd
  have constS : ∀ k i, i + k ≤ ops.size → (∀ j, i ≤ j → j < i + k → wS ops j = false) → (sts (i + k)).S = (sts i).S ∧ (sts (i + k)).n = (sts i).n := by
    intro k
    induction k with
    | zero => intro i _ _; exact ⟨rfl, rfl⟩
    | succ k ih =>
      intro i hle hw
      have ho := Array.getElem?_eq_getElem (show i + k < ops.size by omega)
      have h1 := hw (i + k) (by omega) (by omega)
      unfold wS at h1; rw [ho] at h1
      have h2 := (stepT (i + k) _ ho).2.1 h1
      have h3 := ih i (by omega) fun j a b => hw j a (by omega)
      exact ⟨by rw [← h3.1, ← h2.1]; rfl, by rw [← h3.2, ← h2.2]; rfl⟩
  have constT : ∀ k i, i + k ≤ ops.size → (∀ j, i ≤ j → j < i + k → wT ops j = false) → (sts (i + k)).tk = (sts i).tk := by
    intro k
    induction k with
    | zero => intro i _ _; rfl
    | succ k ih =>
      intro i hle hw
      have ho := Array.getElem?_eq_getElem (show i + k < ops.size by omega)
      have h1 := hw (i + k) (by omega) (by omega)
      unfold wT at h1; rw [ho] at h1
      have h2 := (stepT (i + k) _ ho).2.2 h1
      have h3 := ih i (by omega) fun j a b => hw j a (by omega)
      rw [← h3, ← h2]; rfl
  -- what a load looks at
  have ldB : ∀ i o t q id ep off b, ops[i]? = some o → o.op = .load t (.tmp q) → ldBase st ops i o = some b → getT (sts i).T q = .ref id ep off → b = some id ∧ id < st.S.length := by
    intro i o t q id ep off b ho hop' hb hv
    have hil := (Array.getElem?_eq_some_iff.1 ho).1
    have base : ∀ x, unwr ops x = true → ∀ m, m ≤ ops.size → getT (sts m).T x = getT st.T x := by
      intro x hx m hm'
      refine text2 m hm' x fun j hj hd => ?_
      have := List.all_eq_true.1 hx j (by simp; omega)
      rw [hd] at this; simp at this
    unfold ldBase at hb
    rw [hop'] at hb
    simp only at hb
    split at hb
    · rename_i hu
      rw [← base q hu i (by omega), hv] at hb
      simp only at hb
      split at hb
      · rename_i hl; simp only [Option.some.injEq] at hb; exact ⟨hb.symm, hl⟩
      · simp at hb
    · obtain ⟨m, hm', hmb⟩ := List.exists_of_findSome?_eq_some hb
      have hmi : m < i := by simpa using hm'
      split at hmb
      · rename_i o1 hom
        split at hmb
        · rename_i d t' x k' hd1 hop1
          split at hmb
          · rename_i hdx
            obtain ⟨rfl, hux⟩ := hdx
            have hval := text1 i (by omega) m d hmi (by unfold dstOf; rw [hom]; exact hd1)
            rw [hv] at hval
            have hvm : val m = .ref id ep off := by
              split at hval
              · exact hval.symm
              · simp at hval
            rcases hstep' m _ hom with ⟨-, hsk, -⟩ | ⟨-, s1, hev, -, -⟩
            · rw [hsk] at hvm; simp at hvm
            · simp only [evO, evQ, hop1, Option.map_eq_some_iff, Prod.mk.injEq] at hev
              obtain ⟨v, hev, rfl, -⟩ := hev
              simp only [opv] at hev
              rw [base x hux m (by omega)] at hev
              unfold fldA at hev
              split at hev
              · rename_i hx
                simp only [Option.some.injEq] at hev
                rw [hvm] at hev; simp at hev
              · rename_i id0 e0 o0 hf hx
                rw [hx] at hmb
                simp only at hmb
                simp only [Option.some.injEq] at hev
                rw [hvm] at hev
                simp only [AV.ref.injEq] at hev
                obtain ⟨rfl, -⟩ := hev
                split at hmb
                · rename_i hl; simp only [Option.some.injEq] at hmb; exact ⟨hmb.symm, hl⟩
                · simp at hmb
              · simp at hev
          · simp at hmb
        · simp at hmb
      · simp at hmb
  have growStep : ∀ m, m < ops.size → (sts m).S.length ≤ (sts (m + 1)).S.length := by
      intro m hlt
      have ho := Array.getElem?_eq_getElem hlt
      rcases hstep' m _ ho with ⟨-, -, e⟩ | ⟨-, s1, hev, hck, e⟩
      · rw [e]; exact Nat.le_refl _
      · rw [e]
        by_cases hw : wrS (ops[m]'hlt) = true
        · have grC : ∀ c, (ops[m]'hlt).op = .call c → (∀ b, c.callee ≠ .builtin b) → (sts m).S.length ≤ s1.S.length := fun c h1 h2 => by
            rcases call_keeps hi h1 h2 hev hck with h | ⟨-, h⟩
            · rw [h]; exact Nat.le_refl _
            · exact h
          unfold wrS at hw
          unfold evO at hev
          split at hev
          · rename_i h'; rw [h'] at hw; simp at hw
          · simp only [Option.map_eq_some_iff, Prod.mk.injEq] at hev
            obtain ⟨S', hst, -, rfl⟩ := hev
            unfold stA at hst
            split at hst
            · split at hst
              · split at hst
                · split at hst
                  · simp only [Option.some.injEq] at hst; subst hst; simp [put_len]
                  · simp at hst
                · simp at hst
              · simp at hst
            · simp at hst
          · simp only [Option.map_eq_some_iff, Prod.mk.injEq] at hev
            obtain ⟨cs, -, -, rfl⟩ := hev
            simp
          · simp only [Option.map_eq_some_iff, Prod.mk.injEq] at hev
            obtain ⟨cs, -, -, rfl⟩ := hev
            simp
          · rename_i t l c h'
            rw [h'] at hw
            have hl : growL (ops[m]'hlt) l = false := by simpa using hw
            simp only [Option.map_eq_some_iff, Prod.exists, hl] at hev
            obtain ⟨l', sz, cs, -, hh⟩ := hev
            rw [if_neg (by simp)] at hh
            simp only [Prod.mk.injEq] at hh
            obtain ⟨-, rfl⟩ := hh
            simp
          · rename_i t len ps h'
            rw [h'] at hw
            have ho' : Globs.own (ops[m]'hlt).dst (ops[m]'hlt).type (ops[m]'hlt).pos = true := hw
            rw [if_pos ho'] at hev
            simp only [Option.map_eq_some_iff, Prod.mk.injEq, Prod.exists] at hev
            obtain ⟨u, S', n', hb, -, rfl⟩ := hev
            obtain ⟨e', rfl⟩ := bsO_S hb
            simp
          · simp only [Option.map_eq_some_iff, Prod.mk.injEq] at hev
            obtain ⟨cs, -, -, rfl⟩ := hev
            simp
          · rename_i t x y h'
            rw [h'] at hw; simp at hw
          · simp only [Option.map_eq_some_iff, Prod.mk.injEq] at hev
            obtain ⟨S', hst, -, rfl⟩ := hev
            rw [upM_len hst]; exact Nat.le_refl _
          · rename_i c h'
            rw [h'] at hw
            simp only at hw
            cases hcal : c.callee with
            | builtin b =>
              rw [hcal] at hw
              cases b <;> simp at hw
              case delete =>
                simp only [hcal] at hev
                split at hev
                · simp only [Option.map_eq_some_iff, Prod.mk.injEq] at hev
                  obtain ⟨S', hst, -, rfl⟩ := hev
                  rw [dlM_len hst]; exact Nat.le_refl _
                · simp at hev
              · simp only [hcal] at hev
                split at hev
                · rename_i x y t t' hxy ht
                  rw [if_pos hw] at hev
                  split at hev
                  · simp only [Option.map_eq_some_iff, Prod.mk.injEq, Prod.exists] at hev
                    obtain ⟨u, S', n', hap, -, rfl⟩ := hev
                    exact apO_len hap
                  · simp at hev
                · simp at hev
              simp only [hcal] at hev
              split at hev
              · simp only [Option.map_eq_some_iff, Prod.mk.injEq, Prod.exists] at hev
                obtain ⟨mm, S', hcp, -, rfl⟩ := hev
                rw [cpA_len hcp]; exact Nat.le_refl _
              · simp at hev
            | value x => exact grC c h' (fun b hb => by rw [hcal] at hb; cases hb)
            | invoke _ _ => exact grC c h' (fun b hb => by rw [hcal] at hb; cases hb)
          · rename_i h1 h2 h3 h4 h5 hb h6 h7 h8 h9
            split at hw
            · exact absurd (by assumption) (h2 _ _ _)
            · exact absurd (by assumption) (h3 _)
            · exact absurd (by assumption) (h4 _ _)
            · exact absurd (by assumption) (h6 _)
            · exact absurd (by assumption) (h8 _ _ _ _)
            · exact absurd (by assumption) (h5 _ _ _)
            · exact absurd (by assumption) (hb _ _ _)
            · exact absurd (by assumption) (h9 _)
            · simp at hw
        · have := (evO_frame hi (hop m _ ho).1 hev).2.1 (by simpa using hw)
          rw [this.1]; exact Nat.le_refl _
  have growS2 : ∀ k i, i + k ≤ ops.size → (sts i).S.length ≤ (sts (i + k)).S.length := by
    intro k
    induction k with
    | zero => intro i _; exact Nat.le_refl _
    | succ k ih => intro i hle; exact Nat.le_trans (ih i (by omega)) (growStep (i + k) (by omega))
  have growS : ∀ m, m ≤ ops.size → st.S.length ≤ (sts m).S.length := fun m hm => by
    have := growS2 m 0 (by omega)
    rw [hs0, Nat.zero_add] at this; exact this
  -- what is made is put behind
  have mkStep : ∀ k pk id, ops[k]? = some pk → isMkS pk = true → id < (sts k).S.length → nth (sts (k + 1)).S id = nth (sts k).S id := by
    intro k pk id hk hmk hid
    rcases hstep' k pk hk with ⟨-, -, e⟩ | ⟨-, s1, hev, -, e⟩
    · rw [e]
    · rw [e]
      unfold evO at hev
      unfold isMkS at hmk
      split at hmk
      · rename_i t' hpo
        simp only [hpo, Option.map_eq_some_iff, Prod.mk.injEq] at hev
        obtain ⟨cs, -, -, rfl⟩ := hev
        simp only
        rw [nth_get, nth_get, List.getElem?_append_left (by omega)]
      · rename_i t' x' hpo
        simp only [hpo, Option.map_eq_some_iff, Prod.mk.injEq] at hev
        obtain ⟨cs, -, -, rfl⟩ := hev
        simp only
        rw [nth_get, nth_get, List.getElem?_append_left (by omega)]
      · rename_i t' l' c' hpo
        simp only [hpo, Option.map_eq_some_iff, Prod.exists] at hev
        obtain ⟨l0, sz0, cs0, -, hh⟩ := hev
        split at hh
        · simp only [Prod.mk.injEq] at hh
          obtain ⟨-, rfl⟩ := hh
          rfl
        · simp only [Prod.mk.injEq] at hh
          obtain ⟨-, rfl⟩ := hh
          simp only
          rw [nth_get, nth_get, List.getElem?_append_left (by omega)]
      · rename_i t' len' ps' hpo
        simp only [hpo] at hev
        split at hev
        · simp only [Option.map_eq_some_iff, Prod.mk.injEq, Prod.exists] at hev
          obtain ⟨u, S', n', hb, -, rfl⟩ := hev
          obtain ⟨e', rfl⟩ := bsO_S hb
          simp only
          rw [nth_get, nth_get, List.getElem?_append_left (by omega)]
        · simp only [Option.map_eq_some_iff, Prod.mk.injEq] at hev
          obtain ⟨u, -, -, rfl⟩ := hev
          rfl
      · simp at hmk
  -- a writer that is apart leaves the entry alone
  have apartStep : ∀ i o k pk t q id ep off, ops[i]? = some o → ops[k]? = some pk → o.op = .load t (.tmp q) → getT (sts i).T q = .ref id ep off → apartS st ops i o pk = true → wrS pk = true → nth (sts (k + 1)).S id = nth (sts k).S id := by
    intro i o k pk t q id ep off ho hk hlo hv hap hwk
    have hkl := (Array.getElem?_eq_some_iff.1 hk).1
    unfold apartS at hap
    cases hb : ldBase st ops i o with
    | none => rw [hb] at hap; simp at hap
    | some b =>
      obtain ⟨rfl, hidl⟩ := ldB i o t q id ep off b ho hlo hb hv
      rw [hb] at hap
      simp only at hap
      have hgrow := growS k (by omega)
      rcases hstep' k pk hk with ⟨-, -, e⟩ | ⟨-, s1, hev, hck, e⟩
      · rw [e]
      · rw [e]
        have apC : ∀ c, pk.op = .call c → (∀ b, c.callee ≠ .builtin b) → xOp pk = false → nth s1.S id = nth (sts k).S id := fun c h1 h2 h3 => by
          rcases call_keeps hi h1 h2 hev hck with h | ⟨h, -⟩
          · rw [h]
          · rw [h3] at h; simp at h
        unfold evO at hev
        split at hap
        · rename_i t' q' x' hpo
          simp only [Bool.and_eq_true] at hap
          obtain ⟨hu, hne⟩ := hap
          simp only [hpo, Option.map_eq_some_iff, Prod.mk.injEq] at hev
          obtain ⟨S', hst, -, rfl⟩ := hev
          have hq : getT (sts k).T q' = getT st.T q' := text2 k (by omega) q' fun j hj hd => by
            have := List.all_eq_true.1 hu j (by simp; omega)
            rw [hd] at this; simp at this
          simp only [opv] at hst
          rw [hq] at hst
          split at hne
          · rename_i id' e' o' hx
            rw [hx] at hst
            simp only [decide_eq_true_eq] at hne
            exact stA_other hst (fun h => hne h.symm)
          · simp at hne
        · rename_i t' hpo
          simp only [hpo, Option.map_eq_some_iff, Prod.mk.injEq] at hev
          obtain ⟨cs, -, -, rfl⟩ := hev
          simp only
          rw [nth_get, nth_get, List.getElem?_append_left (by omega)]
        · rename_i t' x' hpo
          simp only [hpo, Option.map_eq_some_iff, Prod.mk.injEq] at hev
          obtain ⟨cs, -, -, rfl⟩ := hev
          simp only
          rw [nth_get, nth_get, List.getElem?_append_left (by omega)]
        · rename_i t' l' c' hpo
          simp only [hpo, Option.map_eq_some_iff, Prod.exists] at hev
          obtain ⟨l0, sz0, cs0, -, hh⟩ := hev
          split at hh
          · simp only [Prod.mk.injEq] at hh
            obtain ⟨-, rfl⟩ := hh
            rfl
          · simp only [Prod.mk.injEq] at hh
            obtain ⟨-, rfl⟩ := hh
            simp only
            rw [nth_get, nth_get, List.getElem?_append_left (by omega)]
        · rename_i c hpo
          split at hap
          · rename_i g hcal
            exact apC c hpo (fun b hb => by rw [hcal] at hb; cases hb) (by simpa [xOp, hpo, xCall, hcal] using hap)
          · rename_i x hx hcal
            refine apC c hpo (fun b hb => by rw [hcal] at hb; cases hb) ?_
            unfold xOp xCall
            rw [hpo]
            simp only [hcal]
            simpa using hap
          · simp at hap
        · simp at hap
  -- what such a slot shows
  have ldSl : ∀ i o t q id ep off x, ops[i]? = some o → o.op = .load t (.tmp q) → ldSlot ops i o = some x → getT (sts i).T q = .ref id ep off → ∃ ep' off', unwr ops x = true ∧ getT st.T x = .ref id ep' off' := by
    intro i o t q id ep off x ho hop' hb hv
    have hil := (Array.getElem?_eq_some_iff.1 ho).1
    have base : ∀ x, unwr ops x = true → ∀ m, m ≤ ops.size → getT (sts m).T x = getT st.T x := by
      intro x hx m hm'
      refine text2 m hm' x fun j hj hd => ?_
      have := List.all_eq_true.1 hx j (by simp; omega)
      rw [hd] at this; simp at this
    unfold ldSlot at hb
    rw [hop'] at hb
    simp only at hb
    split at hb
    · rename_i hu
      simp only [Option.some.injEq] at hb
      subst hb
      exact ⟨ep, off, hu, by rw [← base q hu i (by omega)]; exact hv⟩
    · obtain ⟨m, hm', hmb⟩ := List.exists_of_findSome?_eq_some hb
      have hmi : m < i := by simpa using hm'
      split at hmb
      · rename_i o1 hom
        split at hmb
        · rename_i d t' x' k' hd1 hop1
          split at hmb
          · rename_i hdx
            simp only [Option.some.injEq] at hmb
            subst hmb
            obtain ⟨rfl, hux⟩ := hdx
            have hval := text1 i (by omega) m d hmi (by unfold dstOf; rw [hom]; exact hd1)
            rw [hv] at hval
            have hvm : val m = .ref id ep off := by
              split at hval
              · exact hval.symm
              · simp at hval
            rcases hstep' m _ hom with ⟨-, hsk, -⟩ | ⟨-, s1, hev, -, -⟩
            · rw [hsk] at hvm; simp at hvm
            · simp only [evO, evQ, hop1, Option.map_eq_some_iff, Prod.mk.injEq] at hev
              obtain ⟨v, hev, rfl, -⟩ := hev
              simp only [opv] at hev
              rw [base x' hux m (by omega)] at hev
              unfold fldA at hev
              split at hev
              · rename_i hx
                simp only [Option.some.injEq] at hev
                rw [hvm] at hev; simp at hev
              · rename_i id0 e0 o0 hf hx
                simp only [Option.some.injEq] at hev
                rw [hvm] at hev
                simp only [AV.ref.injEq] at hev
                obtain ⟨rfl, -⟩ := hev
                exact ⟨_, _, hux, hx⟩
              · simp at hev
          · simp at hmb
        · simp at hmb
      · simp at hmb
  have apartStepM : ∀ i o k pk t q id ep off, ops[i]? = some o → ops[k]? = some pk → k < i → o.op = .load t (.tmp q) → getT (sts i).T q = .ref id ep off → apartM st ops i o pk = true → wrS pk = true → k ∉ reachAt ops i → nth (sts (k + 1)).S id = nth (sts k).S id := by
    intro i o k pk t q id ep off ho hk hki hlo hv hap hwk hnr
    have hkl := (Array.getElem?_eq_some_iff.1 hk).1
    unfold apartM at hap
    rw [Bool.or_comm, Bool.or_eq_true] at hap
    rcases hap with hap | hap
    · exact apartStep i o k pk t q id ep off ho hk hlo hv hap hwk
    · simp only [Bool.and_eq_true] at hap
      obtain ⟨⟨hmk, hds⟩, hsl⟩ := hap
      obtain ⟨x, hsl⟩ := Option.isSome_iff_exists.1 hsl
      obtain ⟨d0, hd0⟩ := Option.isSome_iff_exists.1 hds
      obtain ⟨ep', off', hux, hgx⟩ := ldSl i o t q id ep off x ho hlo hsl hv
      rcases hstep' k pk hk with ⟨-, -, e⟩ | ⟨-, s1, hev, hck, e⟩
      · rw [e]
      · rw [e]
        have han : anOp pk = true := by unfold mkOp at hmk; simp only [Bool.and_eq_true] at hmk; exact hmk.1
        obtain ⟨hd1, hx1⟩ := an_x han
        obtain ⟨⟨X, hXe⟩, hB⟩ := (chkO_x hck hd1 hx1).2.2 hmk hds
        have hdk : dstOf ops k = pk.dst := by unfold dstOf; rw [hk]; rfl
        have hmem := behindB_mem hkl hdk (fun j hj hjd => hinj (by rw [hjd, hd0]) (by rw [hdk, hd0])) hki ho hsl hnr
        have hw := hB x hmem id ep' off' (by
          rw [text2 k (by omega) x fun j hj hd => by
            have := List.all_eq_true.1 hux j (by simp; omega)
            rw [hd] at this; simp at this]
          exact hgx)
        simp only
        rw [← hXe, nth_get, nth_get, List.getElem?_append_left hw]
  have constU : ∀ (p : List Ent → Prop) k i, i + k ≤ ops.size → (∀ j pj, i ≤ j → j < i + k → ops[j]? = some pj → wrS pj = true → p (sts j).S → p (sts (j + 1)).S) → p (sts i).S → p (sts (i + k)).S := by
    intro p k
    induction k with
    | zero => intro i _ _ h; exact h
    | succ k ih =>
      intro i hle hw h
      have ho := Array.getElem?_eq_getElem (show i + k < ops.size by omega)
      have h3 := ih i (by omega) (fun j pj a b => hw j pj a (by omega)) h
      show p (sts (i + k + 1)).S
      by_cases hwk : wrS (ops[i + k]'(by omega)) = true
      · exact hw (i + k) _ (by omega) (by omega) ho hwk h3
      · rw [((stepT (i + k) _ ho).2.1 (by simpa using hwk)).1]; exact h3
  have constD : ∀ (p : List Ent → Prop) k i, i + k ≤ ops.size → (∀ j pj, i ≤ j → j < i + k → ops[j]? = some pj → wrS pj = true → p (sts (j + 1)).S → p (sts j).S) → p (sts (i + k)).S → p (sts i).S := by
    intro p k
    induction k with
    | zero => intro i _ _ h; exact h
    | succ k ih =>
      intro i hle hw h
      have ho := Array.getElem?_eq_getElem (show i + k < ops.size by omega)
      refine ih i (by omega) (fun j pj a b => hw j pj a (by omega)) ?_
      have h' : p (sts (i + k + 1)).S := h
      by_cases hwk : wrS (ops[i + k]'(by omega)) = true
      · exact hw (i + k) _ (by omega) (by omega) ho hwk h'
      · rw [((stepT (i + k) _ ho).2.1 (by simpa using hwk)).1] at h'; exact h'
  have textKeep : ∀ k i q, i + k ≤ ops.size → (∀ j, i ≤ j → j < i + k → dstOf ops j ≠ some q) → getT (sts (i + k)).T q = getT (sts i).T q := by
    intro k
    induction k with
    | zero => intro i q _ _; rfl
    | succ k ih =>
      intro i q hle hw
      have ho := Array.getElem?_eq_getElem (show i + k < ops.size by omega)
      rw [← ih i q (by omega) fun j a b => hw j a (by omega)]
      show getT (sts (i + k + 1)).T q = _
      rw [(stepT (i + k) _ ho).1]
      have hne : (ops[i + k]'(by omega)).dst ≠ some q := fun e => hw (i + k) (by omega) (by omega) (by unfold dstOf; rw [ho]; simpa using e)
      cases hd : (ops[i + k]'(by omega)).dst with
      | none => rfl
      | some d =>
        simp only [putT]
        exact getT_put_other (fun e => hne (by rw [hd, e]))
  -- variables of one bool turn
  have lkStep : ∀ k pk, ops[k]? = some pk → lkOp pk = true → gOnly (sts k).S (sts (k + 1)).S := by
    intro k pk hk hl
    rcases hstep' k pk hk with ⟨-, -, e⟩ | ⟨-, s1, hev, hck, e⟩
    · rw [e]; exact ⟨rfl, fun _ => .inl rfl⟩
    · rw [e]
      obtain ⟨hd, hx⟩ := lk_x hl
      exact (chkO_x hck hd hx).1 hl
  -- at the end
  have fin : ∀ {listed : Array Bool} {s : St}, DInv ops st sts val listed s → (∀ j, j < ops.size → listed.getD j false = true) → s = st' := by
    intro listed s hD hl
    have eT : s.T = st'.T := by
      refine getT_ext (by rw [hD.lenT, ← hsn, textLen _ (Nat.le_refl _)]) fun t => ?_
      rw [← hsn]
      by_cases hx : ∃ j, dstOf ops j = some t
      · obtain ⟨j, hj⟩ := hx
        obtain ⟨o, ho, -⟩ := hdst hj
        have hlt := (Array.getElem?_eq_some_iff.1 ho).1
        rw [hD.t1 j t (hl j hlt) hj (fun e he => hl e (pair_lt he).1), text1 _ (Nat.le_refl _) j t hlt hj]
      · rw [hD.t2 t fun j _ hj => hx ⟨j, hj⟩, text2 _ (Nat.le_refl _) t fun j _ hj => hx ⟨j, hj⟩]
    obtain ⟨c, hc1, hc2, hc3⟩ := hD.cS
    obtain ⟨c', hc4, hc5⟩ := hD.cT
    have e1 : c = ops.size := by
      rcases Nat.lt_or_ge c ops.size with h | h
      · have := (hc1.2.2 h).2; rw [hl c h] at this; simp at this
      · have := hc1.1; omega
    have e2 : c' = ops.size := by
      rcases Nat.lt_or_ge c' ops.size with h | h
      · have := (hc4.2.2 h).2; rw [hl c' h] at this; simp at this
      · have := hc4.1; omega
    subst e1
    rw [e2] at hc5
    rw [hsn] at hc2 hc3 hc5
    cases s; cases st'
    simp_all
  have none_ready : ∀ {listed : Array Bool} {s : St}, DInv ops st sts val listed s → Region.ready .any ops listed = [] → ∀ j, j < ops.size → listed.getD j false = true := by
    intro listed s hD hnil j
    induction j using Nat.strongRecOn with
    | _ j ihj =>
      intro hj
      cases hl : listed.getD j false with
      | true => rfl
      | false =>
        exfalso
        have ho : ops[j]? = some (ops[j]'hj) := Array.getElem?_eq_getElem hj
        have : j ∈ Region.ready .any ops listed := by
          apply mem_ready.2
          refine ⟨?_, _, ho, fun e he hb => ?_⟩
          · have hjl : j < listed.size := by rw [hD.len]; exact hj
            simpa [Array.getD, hjl] using hl
          · have hm' : e.on ∈ depsOf ops j := by
              unfold depsOf; rw [ho]
              exact List.mem_map.2 ⟨e, List.mem_filter.2 ⟨by simpa using he, hb⟩, rfl⟩
            have := (hop j _ ho).2.1 _ hm'
            exact ihj _ this (by omega)
        rw [hnil] at this; simp at this
  -- one step
  have step : ∀ {listed : Array Bool} {s : St}, DInv ops st sts val listed s → ∀ i ∈ Region.ready .any ops listed, (∀ e, pairAt ops e i = true → listed.getD e false = true) → (∀ e, pairAt ops i e = true → listed.getD e false = false) → ∃ o, ops[i]? = some o ∧ listed.getD i false = false ∧
      ∃ b s2, wantA ops.toList s.T o = some b ∧ (b = true → evO P call o s = some (val i, s2)) ∧ (b = false → val i = .prim undef ∧ s2 = s) ∧ s2.T = s.T ∧ DInv ops st sts val (listed.setIfInBounds i true) { s2 with T := putT s2.T o.dst (val i) } := by
    intro listed s hD i hri hn1 hn2
    obtain ⟨h0, o, ho, hdeps⟩ := ready_of hri
    obtain ⟨hun, hil⟩ := unlisted_false h0
    rw [hD.len] at hil
    refine ⟨o, ho, hun, ?_⟩
    have hreach := reach_listed hD.closed hdeps
    have hback : ∀ j, listed.getD j false = true → i ∈ reachAt ops j → False := fun j hj hr' => by
      have := reach_listed hD.closed (hD.closed j hj) i hr'
      rw [hun] at this; simp at this
    obtain ⟨hsel, hdlt, hgd, hdd, hops⟩ := hop i o ho
    -- the values of temporaries
    have agree : ∀ t, (∀ j, dstOf ops j = some t → j = i ∨ j ∈ reachAt ops i ∨ i ∈ reachAt ops j) → getT s.T t = getT (sts i).T t := by
      intro t ht
      by_cases hx : ∃ j, listed.getD j false = true ∧ dstOf ops j = some t
      · obtain ⟨j, hj, hjd⟩ := hx
        have hji : j < i := by
          rcases ht j hjd with e | e | e
          · subst e; rw [hun] at hj; simp at hj
          · -- what is reached comes before
            have : ∀ e ∈ reachAt ops i, e < i := by
              unfold reachAt
              have key : ∀ (l : List Nat) (s : List Nat), (∀ e ∈ s, e < i) → ∀ e ∈ l.foldl (fun s j => if s.contains j then depsOf ops j ++ s else s) s, e < i := by
                intro l
                induction l with
                | nil => intro s hs; exact hs
                | cons j l ih =>
                  intro s hs
                  simp only [List.foldl_cons]
                  apply ih
                  split
                  · rename_i hj
                    intro e he
                    rcases List.mem_append.1 he with h | h
                    · have hjlt := hs j (by simpa using hj)
                      cases hx : ops[j]? with
                      | none => unfold depsOf at h; rw [hx] at h; simp at h
                      | some p => have := (hop j p hx).2.1 e h; omega
                    · exact hs e h
                  · exact hs
              exact key _ _ hdlt
            exact this j e
          · exact (hback j hj e).elim
        rw [hD.t1 j t hj hjd (fun e he => ?_), text1 i (by omega) j t hji hjd]
        by_cases hie : i = e
        · subst hie
          have := hn2 j he; rw [hj] at this; simp at this
        · rcases ht j hjd with q | q | q
          · omega
          · exact hreach e ((pair_reach (k := i) he hil hie (by omega)).2 q)
          · exact (hback j hj q).elim
      · rw [hD.t2 t fun j hj hjd => hx ⟨j, hj, hjd⟩, text2 i (by omega) t fun j hj hjd => ?_]
        rcases ht j hjd with e | e | e
        · omega
        · exact hx ⟨j, hreach j e, hjd⟩
        · -- i before j in the order, j before i in the text: not so
          have : i < j := by
            have key : ∀ (l : List Nat) (s : List Nat), (∀ e ∈ s, e < j) → ∀ e ∈ l.foldl (fun s j => if s.contains j then depsOf ops j ++ s else s) s, e < j := by
              intro l
              induction l with
              | nil => intro s hs; exact hs
              | cons k l ih =>
                intro s hs
                simp only [List.foldl_cons]
                apply ih
                split
                · rename_i hk
                  intro e he
                  rcases List.mem_append.1 he with h | h
                  · have hklt := hs k (by simpa using hk)
                    cases hx : ops[k]? with
                    | none => unfold depsOf at h; rw [hx] at h; simp at h
                    | some p => have := (hop k p hx).2.1 e h; omega
                  · exact hs e h
                · exact hs
            obtain ⟨p, hp, -⟩ := hdst hjd
            exact key _ _ (hop j p hp).2.1 i e
          omega
    have agreeO : ∀ x ∈ o.op.operands, opv s.T x = opv (sts i).T x := by
      intro x hx
      cases x with
      | tmp t => exact agree t (hops t hx)
      | _ => rfl
    have agreeG : wantA ops.toList s.T o = wantA ops.toList (sts i).T o := by
      unfold wantA
      cases hg : o.guard with
      | none => rfl
      | some gw =>
        obtain ⟨g, w⟩ := gw
        have hgm := hgd g w hg
        simp only
        cases hgb : (nth ops.toList g).bind (·.dst) with
        | none => rfl
        | some d =>
          have hd' : dstOf ops g = some d := by unfold dstOf; rw [nth_get] at hgb; simpa using hgb
          have : getT s.T d = getT (sts i).T d := agree d fun j hj => by
            have := hinj hj hd'
            subst this
            right; left
            have key : ∀ (l : List Nat) (s : List Nat) (x : Nat), x ∈ s → x ∈ l.foldl (fun s j => if s.contains j then depsOf ops j ++ s else s) s := by
              intro l
              induction l with
              | nil => intro s x hs; exact hs
              | cons k l ih =>
                intro s x hs
                simp only [List.foldl_cons]
                apply ih
                split
                · exact List.mem_append_right _ hs
                · exact hs
            exact key _ _ _ hgm
          simp only [this]
    -- the variables
    have confl : ∀ j p, ops[j]? = some p → conf p o = true → conf o p = true → j ≠ i → (listed.getD j false = true ↔ j < i) := by
      intro j p hp h1 h2 hne
      rcases Nat.lt_or_gt_of_ne hne with hlt | hgt
      · exact ⟨fun _ => hlt, fun _ => ((hall i o ho).2 j p hlt hp h1).elim (hreach j) (hn1 j)⟩
      · exact ⟨fun hl => ((hall j p hp).2 i o hgt ho h2).elim (fun q => (hback j hl q).elim) (fun q => by have := hn2 j q; rw [hl] at this; simp at this), fun h => by omega⟩
    have curS : (wrS o = true ∨ rdA o = true) → s.S = (sts i).S ∧ s.n = (sts i).n ∧ (wrS o = true → IsCur (wS ops) listed ops.size i) := by
      intro hrw
      obtain ⟨c, hc1, hc2, hc3⟩ := hD.cS
      have hw : ∀ j, j ≠ i → wS ops j = true → (listed.getD j false = true ↔ j < i) := by
        intro j hne hwj
        unfold wS at hwj
        cases hp : ops[j]? with
        | none => rw [hp] at hwj; simp at hwj
        | some p =>
          rw [hp] at hwj
          refine confl j p hp ?_ ?_ hne
          · rcases hrw with hrw | hrw <;> simp [conf, hwj, hrw]
          · rcases hrw with hrw | hrw <;> simp [conf, hwj, hrw]
      rcases Nat.lt_trichotomy c i with hlt | heq | hgt
      · have := hc1.2.2 (by omega)
        have h2 := (hw c (by omega) this.1).2 hlt
        rw [this.2] at h2; simp at h2
      · subst heq; exact ⟨hc2, hc3, fun _ => hc1⟩
      · have hnw : wrS o = false := by
          cases hwo : wrS o with
          | false => rfl
          | true =>
            have := hc1.2.1 i hgt (by unfold wS; rw [ho]; exact hwo)
            rw [hun] at this; simp at this
        have hno : ∀ j, i ≤ j → j < i + (c - i) → wS ops j = false := by
          intro j h1 h2
          by_cases e : j = i
          · subst e; unfold wS; rw [ho]; exact hnw
          · cases hwj : wS ops j with
            | false => rfl
            | true =>
              have h3 := hc1.2.1 j (by omega) hwj
              have := (hw j e hwj).1 h3
              omega
        have := constS (c - i) i (by have := hc1.1; omega) hno
        rw [show i + (c - i) = c from by omega] at this
        exact ⟨by rw [hc2, this.1], by rw [hc3, this.2], fun h => by rw [hnw] at h; simp at h⟩
    have curL : ∀ t x V s1, o.op = .load t x → ldA P t (opv (sts i).T x) (sts i).S = some V → val i = V → chkO P ops.toList o (sts i) V s1 = true → ldA P t (opv (sts i).T x) s.S = ldA P t (opv (sts i).T x) (sts i).S := by
      intro t x V s1 hlo hV hval hck
      by_cases hrf : ∃ id ep off, opv (sts i).T x = .ref id ep off
      case neg => exact ldA_norefE fun id ep off h => hrf ⟨id, ep, off, h⟩
      obtain ⟨id, ep, off, hv⟩ := hrf
      rw [hv] at hV ⊢
      rw [hV]
      have hidl : id < (sts i).S.length := by
        unfold ldA at hV
        split at hV
        · simp only at hV
          split at hV
          · rename_i cs he
            obtain ⟨e, h1, -⟩ := entAt_some he
            exact nth_lt h1
          · simp at hV
        · simp at hV
      cases x with
      | tmp q =>
        simp only [opv] at hv
        have hrd : rdS o = true := by unfold rdS; rw [hlo]
        have hnw : wrS o = false := by unfold wrS; rw [hlo]
        have hnl : lkOp o = false := by unfold lkOp; rw [hlo]; simp
        have hisl : isLd o = true := by unfold isLd; rw [hlo]
        obtain ⟨c, hc1, hc2, -⟩ := hD.cS
        have nord : ∀ pk, wrS pk = true → rdS pk = false := by
          intro pk hw
          unfold wrS at hw
          unfold rdS
          split at hw <;> rename_i h' <;> first | (rw [h']) | simp at hw
        rw [hc2]
        rcases Nat.lt_or_ge c i with hlt | hge
        · refine constD (fun S => ldA P t (.ref id ep off) S = some V) (i - c) c (by omega) (fun k pk h1 h2 hk hwk hg => ?_) (by rw [show c + (i - c) = i from by omega]; exact hV)
          have hki : k < i := by omega
          cases hlk' : lkOp pk with
          | true =>
            have hgo := lkStep k pk hk hlk'
            exact gOnly_ld (gOnly_symm hgo) hg (chkO_l hck (lk_x hlk').1 hisl)
          | false =>
            rcases (Classical.em (k ∈ reachAt ops i)).imp_right (fun hn => And.intro hn ((hrw i o ho k pk hki hk (by simp [hwk, hrd, hlk'])).resolve_left hn)) with h3 | ⟨hnr', h3⟩
            · exfalso
              have hlk := hreach k h3
              have hcu := (hc1.2.2 (by omega)).2
              by_cases hck : k = c
              · subst hck; rw [hlk] at hcu; simp at hcu
              · have hwc := (hc1.2.2 (by omega)).1
                unfold wS at hwc
                cases hpc : ops[c]? with
                | none => rw [hpc] at hwc; simp at hwc
                | some pc =>
                  rw [hpc] at hwc
                  rcases (hall k pk hk).2 c pc (by omega) hpc (by simp [conf, hwc, hwk]) with hh | hh
                  · have := reach_listed hD.closed (hD.closed k hlk) c hh
                    rw [hcu] at this; simp at this
                  · have := hreach c ((pair_reach (k := i) hh hil (by omega) (by omega)).2 h3)
                    rw [hcu] at this; simp at this
            · rw [if_pos hrd] at h3
              rw [← ldA_nthE (apartStepM i o k pk t q id ep off ho hk hki hlo hv h3 hwk hnr')]; exact hg
        · have := constU (fun S => ldA P t (.ref id ep off) S = some V) (c - i) i (by have := hc1.1; omega) (fun k pk h1 h2 hk hwk hg => ?_) hV
          · rwa [show i + (c - i) = c from by omega] at this
          have hksz := (Array.getElem?_eq_some_iff.1 hk).1
          have hki : k ≠ i := fun e => by
            subst e
            rw [ho] at hk
            simp only [Option.some.injEq] at hk
            subst hk
            rw [hnw] at hwk; simp at hwk
          have hlk := hc1.2.1 k (by omega) (by unfold wS; rw [hk]; exact hwk)
          cases hlk' : lkOp pk with
          | true => exact gOnly_ld (lkStep k pk hk hlk') hg (chkO_l hck (lk_x hlk').1 hisl)
          | false =>
            have hnr : i ∉ reachAt ops k := fun h3 => hback k hlk h3
            rcases hrw k pk hk i o (by omega) ho (by simp [hwk, hrd, hlk']) with h3 | h3
            · exact (hnr h3).elim
            · rw [if_neg (by rw [nord pk hwk]; simp)] at h3
              simp only [Bool.or_eq_true] at h3
              rcases h3 with (h3 | h3) | h3
              · rw [ldA_nthE (mkStep k pk id hk h3 (Nat.lt_of_lt_of_le hidl ?_))]
                · exact hg
                · have := growS2 (k - i) i (by omega)
                  rwa [show i + (k - i) = k from by omega] at this
              · -- it is looked at again
                rcases hstep' k pk hk with ⟨-, -, e⟩ | ⟨-, s1', hev, hck', e⟩
                · rw [e]; exact hg
                · rw [e]
                  simp only [Bool.and_eq_true] at h3
                  obtain ⟨h3, g1⟩ := h3
                  obtain ⟨hd1, hx1⟩ := an_x h3
                  have g3 := ((chkO_x hck' hd1 hx1).2.1 h3).2 g1
                  obtain ⟨d0, hd0⟩ := Option.isSome_iff_exists.1 g1
                  have hdk : dstOf ops k = pk.dst := by unfold dstOf; rw [hk]; rfl
                  have hmem := loadsB_mem hksz hdk (fun j hj hjd => hinj (by rw [hjd, hd0]) (by rw [hdk, hd0])) (by omega) ho hlo hnr
                  obtain ⟨f1, d, f2, f3, f4⟩ := g3 _ hmem
                  simp only [ldFlag] at f1 f2 f4
                  have hdi : dstOf ops i = some d := by unfold dstOf; rw [ho]; exact f2
                  rw [text1 k (by omega) i d (by omega) hdi, if_pos (by rw [textLen k (by omega)] at f3; exact f3), hval] at f4
                  simp only [opv] at f4
                  have hq : getT (sts k).T q = getT (sts i).T q := by
                    have := textKeep (k - i) i q (by omega) fun j a b hjd => by
                      have := List.all_eq_true.1 f1 j (by simp; omega)
                      rw [hjd] at this
                      simp at this; omega
                    rwa [show i + (k - i) = k from by omega] at this
                  rw [hq, hv] at f4
                  exact f4
              · rw [ldA_nthE (apartStep i o k pk t q id ep off ho hk hlo hv h3 hwk)]; exact hg
      | const v => simp only [opv] at hv; unfold cst at hv; split at hv; (· simp at hv); (· unfold cst1 at hv; split at hv <;> simp at hv)
      | global g => simp [opv] at hv
      | func f => simp [opv] at hv
    have curT : (wrT o = true ∨ rdA o = true) → s.tk = (sts i).tk ∧ (wrT o = true → IsCur (wT ops) listed ops.size i) := by
      intro hrw
      obtain ⟨c, hc1, hc2⟩ := hD.cT
      have hw : ∀ j, j ≠ i → wT ops j = true → (listed.getD j false = true ↔ j < i) := by
        intro j hne hwj
        unfold wT at hwj
        cases hp : ops[j]? with
        | none => rw [hp] at hwj; simp at hwj
        | some p =>
          rw [hp] at hwj
          refine confl j p hp ?_ ?_ hne
          · rcases hrw with hrw | hrw <;> simp [conf, hwj, hrw]
          · rcases hrw with hrw | hrw <;> simp [conf, hwj, hrw]
      rcases Nat.lt_trichotomy c i with hlt | heq | hgt
      · have := hc1.2.2 (by omega)
        have h2 := (hw c (by omega) this.1).2 hlt
        rw [this.2] at h2; simp at h2
      · subst heq; exact ⟨hc2, fun _ => hc1⟩
      · have hnw : wrT o = false := by
          cases hwo : wrT o with
          | false => rfl
          | true =>
            have := hc1.2.1 i hgt (by unfold wT; rw [ho]; exact hwo)
            rw [hun] at this; simp at this
        have hno : ∀ j, i ≤ j → j < i + (c - i) → wT ops j = false := by
          intro j h1 h2
          by_cases e : j = i
          · subst e; unfold wT; rw [ho]; exact hnw
          · cases hwj : wT ops j with
            | false => rfl
            | true =>
              have h3 := hc1.2.1 j (by omega) hwj
              have := (hw j e hwj).1 h3
              omega
        have := constT (c - i) i (by have := hc1.1; omega) hno
        rw [show i + (c - i) = c from by omega] at this
        exact ⟨by rw [hc2, this], fun h => by rw [hnw] at h; simp at h⟩
    -- what comes of it
    obtain ⟨st1, st2, st3⟩ := stepT i o ho
    have fromS : ∀ {s2 : St}, s2.T = s.T → (wrS o = true → s2.S = (sts (i + 1)).S ∧ s2.n = (sts (i + 1)).n) → (wrS o = false → s2.S = s.S ∧ s2.n = s.n) → (wrT o = true → s2.tk = (sts (i + 1)).tk) → (wrT o = false → s2.tk = s.tk) →
        DInv ops st sts val (listed.setIfInBounds i true) { s2 with T := putT s2.T o.dst (val i) } := by
      intro s2 eT k1 k2 k3 k4
      have hset : ∀ j, (listed.setIfInBounds i true).getD j false = true ↔ j = i ∨ listed.getD j false = true := by
        intro j
        by_cases e : i = j
        · subst e
          simp [getD_set_same' (l := listed) (b := true) (d := false) (show i < listed.size by rw [hD.len]; exact hil)]
        · rw [getD_set_ne' e]
          exact ⟨.inr, fun h => h.resolve_left fun x => e x.symm⟩
      refine ⟨by simp [hD.len], fun j hj e he => (hset e).2 (.inr ?_), by simp only [putT_length, eT, hD.lenT], fun j t hj hd hnp => ?_, fun t ht => ?_, ?_, ?_⟩
      · rcases (hset j).1 hj with rfl | hj
        · exact hdeps e he
        · exact hD.closed j hj e he
      · simp only [eT]
        rcases (hset j).1 hj with rfl | hj'
        · have hd' : o.dst = some t := by unfold dstOf at hd; rw [ho] at hd; simpa using hd
          rw [hd']
          simp only [putT]
          by_cases hlt' : t < st.T.length
          · rw [if_pos hlt']
            exact getT_put_same (by rw [hD.lenT]; exact hlt')
          · rw [if_neg hlt']
            refine getT_out ?_
            rw [put_len, hD.lenT]; exact Nat.le_of_not_lt hlt'
        · have hne : o.dst ≠ some t := fun x => by
            have : dstOf ops i = some t := by unfold dstOf; rw [ho]; simpa using x
            have := hinj this hd
            subst this
            rw [hun] at hj'; simp at hj'
          have hnp' : ∀ e, pairAt ops e j = true → listed.getD e false = true := fun e he => ((hset e).1 (hnp e he)).resolve_left fun x => by
            subst x
            have := hn2 j he; rw [hj'] at this; simp at this
          cases hd' : o.dst with
          | none => simp only [putT]; exact hD.t1 j t hj' hd hnp'
          | some d =>
            simp only [putT]
            rw [getT_put_other (fun x => hne (by rw [hd', x]))]
            exact hD.t1 j t hj' hd hnp'
      · simp only [eT]
        have hne : o.dst ≠ some t := fun x => ht i ((hset i).2 (.inl rfl)) (by unfold dstOf; rw [ho]; simpa using x)
        have h3 := hD.t2 t fun j hj => ht j ((hset j).2 (.inr hj))
        cases hd' : o.dst with
        | none => simp only [putT]; exact h3
        | some d =>
          simp only [putT]
          rw [getT_put_other (fun x => hne (by rw [hd', x]))]
          exact h3
      · cases hwo : wrS o with
        | false =>
          obtain ⟨c, hc1, hc2, hc3⟩ := hD.cS
          have hci : c ≠ i := fun e => by
            subst e
            have := (hc1.2.2 hil).1
            unfold wS at this; rw [ho] at this
            simp only at this
            rw [hwo] at this; simp at this
          refine ⟨c, ⟨hc1.1, fun j hj hw => (hset j).2 (.inr (hc1.2.1 j hj hw)), fun hlt => ⟨(hc1.2.2 hlt).1, ?_⟩⟩, by simp only [(k2 hwo).1, hc2], by simp only [(k2 hwo).2, hc3]⟩
          rw [getD_set_ne' (fun e => hci e.symm)]; exact (hc1.2.2 hlt).2
        | true =>
          have hcur := (curS (.inl hwo)).2.2 hwo
          obtain ⟨c, g1, g2, g3⟩ := cur_from (wS ops) (listed.setIfInBounds i true) ops.size ops.size (i + 1) (by omega) (by omega) (fun j hj hw => (hset j).2 (by
            by_cases e : j = i
            · exact .inl e
            · exact .inr (hcur.2.1 j (by omega) hw)))
          have hno : ∀ j, i + 1 ≤ j → j < (i + 1) + (c - (i + 1)) → wS ops j = false := by
            intro j h1 h2
            cases hwj : wS ops j with
            | false => rfl
            | true =>
              have h3 := g3 j h1 (by omega) hwj
              rcases (hset j).1 h3 with h4 | h4
              · omega
              · exfalso
                unfold wS at hwj
                cases hp : ops[j]? with
                | none => rw [hp] at hwj; simp at hwj
                | some p =>
                  rw [hp] at hwj
                  have := (confl j p hp (by simp [conf, hwj, hwo]) (by simp [conf, hwj, hwo]) (by omega)).1 h4
                  omega
          have := constS (c - (i + 1)) (i + 1) (by have := g2.1; omega) hno
          rw [show i + 1 + (c - (i + 1)) = c from by omega] at this
          exact ⟨c, g2, by simp only [(k1 hwo).1, this.1], by simp only [(k1 hwo).2, this.2]⟩
      · cases hwo : wrT o with
        | false =>
          obtain ⟨c, hc1, hc2⟩ := hD.cT
          have hci : c ≠ i := fun e => by
            subst e
            have := (hc1.2.2 hil).1
            unfold wT at this; rw [ho] at this
            simp only at this
            rw [hwo] at this; simp at this
          refine ⟨c, ⟨hc1.1, fun j hj hw => (hset j).2 (.inr (hc1.2.1 j hj hw)), fun hlt => ⟨(hc1.2.2 hlt).1, ?_⟩⟩, by simp only [k4 hwo, hc2]⟩
          rw [getD_set_ne' (fun e => hci e.symm)]; exact (hc1.2.2 hlt).2
        | true =>
          have hcur := (curT (.inl hwo)).2 hwo
          obtain ⟨c, g1, g2, g3⟩ := cur_from (wT ops) (listed.setIfInBounds i true) ops.size ops.size (i + 1) (by omega) (by omega) (fun j hj hw => (hset j).2 (by
            by_cases e : j = i
            · exact .inl e
            · exact .inr (hcur.2.1 j (by omega) hw)))
          have hno : ∀ j, i + 1 ≤ j → j < (i + 1) + (c - (i + 1)) → wT ops j = false := by
            intro j h1 h2
            cases hwj : wT ops j with
            | false => rfl
            | true =>
              have h3 := g3 j h1 (by omega) hwj
              rcases (hset j).1 h3 with h4 | h4
              · omega
              · exfalso
                unfold wT at hwj
                cases hp : ops[j]? with
                | none => rw [hp] at hwj; simp at hwj
                | some p =>
                  rw [hp] at hwj
                  have := (confl j p hp (by simp [conf, hwj, hwo]) (by simp [conf, hwj, hwo]) (by omega)).1 h4
                  omega
          have := constT (c - (i + 1)) (i + 1) (by have := g2.1; omega) hno
          rw [show i + 1 + (c - (i + 1)) = c from by omega] at this
          exact ⟨c, g2, by simp only [k3 hwo, this]⟩
    rcases hstep' i o ho with ⟨hw, hv, he⟩ | ⟨hw, s1, h1, hck, he⟩
    · refine ⟨false, s, by rw [agreeG]; exact hw, by simp, fun _ => ⟨hv, rfl⟩, rfl, fromS rfl (fun hwo => ?_) (fun _ => ⟨rfl, rfl⟩) (fun hwo => ?_) (fun _ => rfl)⟩
      · rw [he]; exact ⟨(curS (.inl hwo)).1, (curS (.inl hwo)).2.1⟩
      · rw [he]; exact (curT (.inl hwo)).1
    · obtain ⟨g1, g2, g3, g4⟩ := evO_frame hi hsel h1
      obtain ⟨s2, e1, e2, e3, e4, e5, e6⟩ := g4 s agreeO (fun t x hlo => by
        have h1' := h1
        simp only [evO, hlo, Option.map_eq_some_iff, Prod.mk.injEq] at h1'
        obtain ⟨V, hV, hVv, -⟩ := h1'
        exact curL t x V s1 hlo hV hVv.symm (by rw [hVv]; exact hck)) (fun hwo => ⟨(curS (.inl hwo)).1, (curS (.inl hwo)).2.1⟩) (fun hwo => (curT (.inl hwo)).1) (fun hA => ⟨(curS (.inr hA)).1, (curS (.inr hA)).2.1, (curT (.inr hA)).1⟩)
      refine ⟨true, s2, by rw [agreeG]; exact hw, fun _ => e1, by simp, e2, fromS e2 (fun hwo => ?_) e4 (fun hwo => ?_) e6⟩
      · rw [he]; exact e3 hwo
      · rw [he]; exact e5 hwo
  -- two variables made in a drawn order
  have allocStep : ∀ {i : Nat} {o : Oper} {t : TypeId}, ops[i]? = some o → o.op = .alloc t → o.guard = none → ∃ cs, zeroOf P t = some cs ∧ val i = .ref (sts i).S.length (sts i).n 0 ∧ (sts (i + 1)).S = (sts i).S ++ [⟨(sts i).n, cs⟩] ∧ (sts (i + 1)).n = (sts i).n + 1 ∧ (sts (i + 1)).tk = (sts i).tk := by
    intro i o t ho e hg
    rcases hstep' i o ho with ⟨hw, -, -⟩ | ⟨-, s1, h1, -, he⟩
    · unfold wantA at hw; rw [hg] at hw; simp at hw
    · simp only [evO, e, Option.map_eq_some_iff, Prod.mk.injEq] at h1
      obtain ⟨cs, h1, h2, rfl⟩ := h1
      exact ⟨cs, h1, h2.symm, by rw [he], by rw [he], by rw [he]⟩
  have setq : ∀ {listed : Array Bool} {i : Nat}, i < listed.size → ∀ j, (listed.setIfInBounds i true).getD j false = true ↔ j = i ∨ listed.getD j false = true := by
    intro listed i hil j
    by_cases e : i = j
    · subst e
      simp [getD_set_same' (l := listed) (b := true) (d := false) hil]
    · rw [getD_set_ne' e]
      exact ⟨.inr, fun h => h.resolve_left fun x => e x.symm⟩
  -- the second one comes first: it waits
  have stepB : ∀ {listed : Array Bool} {s : St} {A : Nat} {o : Oper}, DInv ops st sts val listed s → A + 1 ∈ Region.ready .any ops listed → pairAt ops A (A + 1) = true → listed.getD A false = false → ops[A + 1]? = some o →
      DInv ops st sts val (listed.setIfInBounds (A + 1) true) { s with T := putT s.T o.dst .bot } := by
    intro listed s A o hD hri hp hA ho
    obtain ⟨h0, o', ho', hdeps⟩ := ready_of hri
    rw [ho] at ho'
    simp only [Option.some.injEq] at ho'
    subst ho'
    obtain ⟨hun, hil⟩ := unlisted_false h0
    have hset := setq hil
    obtain ⟨pA, pB, q1, q2, ⟨q3, -⟩, q4, -⟩ := pair_al hp
    rw [ho] at q2
    simp only [Option.some.injEq] at q2
    subst q2
    have wA : wS ops A = true := by unfold wS; rw [q1]; exact (isAl_w q3).1
    refine ⟨by simp [hD.len], fun j hj e he => (hset e).2 (.inr ?_), by simp only [putT_length]; exact hD.lenT, fun j t hj hd hnp => ?_, fun t ht => ?_, ?_, ?_⟩
    · rcases (hset j).1 hj with rfl | hj
      · exact hdeps e he
      · exact hD.closed j hj e he
    · rcases (hset j).1 hj with rfl | hj'
      · have := (hset A).1 (hnp A hp)
        rcases this with h | h
        · omega
        · rw [hA] at h; simp at h
      · have hne : o.dst ≠ some t := fun x => by
          have : dstOf ops (A + 1) = some t := by unfold dstOf; rw [ho]; simpa using x
          have := hinj this hd
          subst this
          rw [hun] at hj'; simp at hj'
        have hold : getT s.T t = if t < st.T.length then val j else .bot := hD.t1 j t hj' hd fun e he => by
          rcases (hset e).1 (hnp e he) with h | h
          · subst h
            -- three in a row: the first two are no pair
            exfalso
            have hj2 := pair_suc he
            have hlt := pair_lt he
            obtain ⟨p1, p2, r1, r2, ⟨r3, -⟩, r4, -⟩ := pair_al he
            rcases (hall j p2 r2).2 A pA (by omega) q1 (by simp [conf, (isAl_w r4).1, (isAl_w q3).1]) with h | h
            · have := reach_listed hD.closed (hD.closed j hj') A h
              rw [hA] at this; simp at this
            · have := pair_suc h; omega
          · exact h
        cases hd' : o.dst with
        | none => simp only [putT]; exact hold
        | some d =>
          simp only [putT]
          rw [getT_put_other (fun x => hne (by rw [hd', x]))]
          exact hold
    · have hne : o.dst ≠ some t := fun x => ht (A + 1) ((hset _).2 (.inl rfl)) (by unfold dstOf; rw [ho]; simpa using x)
      have h3 := hD.t2 t fun j hj => ht j ((hset j).2 (.inr hj))
      cases hd' : o.dst with
      | none => simp only [putT]; exact h3
      | some d =>
        simp only [putT]
        rw [getT_put_other (fun x => hne (by rw [hd', x]))]
        exact h3
    · obtain ⟨c, hc1, hc2, hc3⟩ := hD.cS
      have hcA : c ≤ A := by
        rcases Nat.lt_or_ge A c with h | h
        · have := hc1.2.1 A h wA; rw [hA] at this; simp at this
        · exact h
      refine ⟨c, ⟨hc1.1, fun j hj hw => (hset j).2 (.inr (hc1.2.1 j hj hw)), fun hlt => ⟨(hc1.2.2 hlt).1, ?_⟩⟩, hc2, hc3⟩
      rw [getD_set_ne' (by omega)]; exact (hc1.2.2 hlt).2
    · obtain ⟨c, hc1, hc2⟩ := hD.cT
      have hcB : c ≠ A + 1 := fun e => by
        subst e
        have := (hc1.2.2 (by rw [← hD.len]; exact hil)).1
        unfold wT at this; rw [ho] at this
        simp only [(isAl_w q4).2.2] at this
        simp at this
      refine ⟨c, ⟨hc1.1, fun j hj hw => (hset j).2 (.inr (hc1.2.1 j hj hw)), fun hlt => ⟨(hc1.2.2 hlt).1, ?_⟩⟩, hc2⟩
      rw [getD_set_ne' (fun e => hcB e.symm)]; exact (hc1.2.2 hlt).2
  -- then the first one: both are there
  have stepA : ∀ {listed : Array Bool} {s : St} {A : Nat} {oA oB : Oper}, DInv ops st sts val listed s → A ∈ Region.ready .any ops listed → pairAt ops A (A + 1) = true → listed.getD (A + 1) false = true → ops[A]? = some oA → ops[A + 1]? = some oB →
      s.S = (sts A).S ∧ s.n = (sts A).n ∧ DInv ops st sts val (listed.setIfInBounds A true) { s with T := putT (putT s.T oA.dst (val A)) oB.dst (val (A + 1)), S := (sts (A + 2)).S, n := (sts (A + 2)).n } := by
    intro listed s A oA oB hD hri hp hB hoA hoB
    obtain ⟨h0, o', ho', hdeps⟩ := ready_of hri
    rw [hoA] at ho'
    simp only [Option.some.injEq] at ho'
    subst ho'
    obtain ⟨hun, hil⟩ := unlisted_false h0
    have hset := setq hil
    have hreach := reach_listed hD.closed hdeps
    have hlB := (pair_lt hp).2
    obtain ⟨pA, pB, q1, q2, ⟨q3, -⟩, q4, -⟩ := pair_al hp
    rw [hoA] at q1; rw [hoB] at q2
    simp only [Option.some.injEq] at q1 q2
    subst q1; subst q2
    have wA : wS ops A = true := by unfold wS; rw [hoA]; exact (isAl_w q3).1
    have wB : wS ops (A + 1) = true := by unfold wS; rw [hoB]; exact (isAl_w q4).1
    -- the other writers: before or behind
    have others : ∀ j, j ≠ A → j ≠ A + 1 → wS ops j = true → (listed.getD j false = true ↔ j < A) := by
      intro j hj1 hj2 hwj
      unfold wS at hwj
      cases hpj : ops[j]? with
      | none => rw [hpj] at hwj; simp at hwj
      | some p =>
        rw [hpj] at hwj
        simp only at hwj
        rcases Nat.lt_or_gt_of_ne hj1 with hlt | hgt
        · refine ⟨fun _ => hlt, fun _ => ?_⟩
          rcases (hall (A + 1) _ hoB).2 j p (by omega) hpj (by simp [conf, hwj, (isAl_w q4).1]) with h | h
          · exact reach_listed hD.closed (hD.closed _ hB) j h
          · have := pair_suc h; omega
        · refine ⟨fun hl => ?_, fun h => by omega⟩
          exfalso
          rcases (hall j p hpj).2 A _ (by omega) hoA (by simp [conf, hwj, (isAl_w q3).1]) with h | h
          · have := reach_listed hD.closed (hD.closed _ hl) A h
            rw [hun] at this; simp at this
          · have := pair_suc h; omega
    obtain ⟨c, hc1, hc2, hc3⟩ := hD.cS
    have hcA : c = A := by
      rcases Nat.lt_trichotomy c A with h | h | h
      · have h1 := hc1.2.2 (by omega)
        have := (others c (by omega) (by omega) h1.1).2 h
        rw [h1.2] at this; simp at this
      · exact h
      · have := hc1.2.1 A h wA; rw [hun] at this; simp at this
    subst hcA
    refine ⟨hc2, hc3, ⟨by simp [hD.len], fun j hj e he => (hset e).2 (.inr ?_), by simp only [putT_length]; exact hD.lenT, fun j t hj hd hnp => ?_, fun t ht => ?_, ?_, ?_⟩⟩
    · rcases (hset j).1 hj with rfl | hj
      · exact hdeps e he
      · exact hD.closed j hj e he
    · simp only
      have putV : ∀ {T : List AV} {o : Oper} {k : Nat} {v : AV}, T.length = st.T.length → ops[k]? = some o → (dstOf ops k = some t → getT (putT T o.dst v) t = if t < st.T.length then v else .bot) ∧ (dstOf ops k ≠ some t → getT (putT T o.dst v) t = getT T t) := by
        intro T o k v hl hk
        refine ⟨fun e => ?_, fun e => ?_⟩
        · have hd' : o.dst = some t := by unfold dstOf at e; rw [hk] at e; simpa using e
          rw [hd']
          simp only [putT]
          by_cases hlt' : t < st.T.length
          · rw [if_pos hlt']; exact getT_put_same (by rw [hl]; exact hlt')
          · rw [if_neg hlt']; exact getT_out (by rw [put_len, hl]; exact Nat.le_of_not_lt hlt')
        · have hne : o.dst ≠ some t := fun x => e (by unfold dstOf; rw [hk]; simpa using x)
          cases hd' : o.dst with
          | none => simp only [putT]
          | some d =>
            simp only [putT]
            rw [getT_put_other (fun x => hne (by rw [hd', x]))]
      have hl1 : (putT s.T oA.dst (val c)).length = st.T.length := by rw [putT_length]; exact hD.lenT
      by_cases ejB : j = c + 1
      · subst ejB; exact (putV hl1 hoB).1 hd
      · rw [(putV hl1 hoB).2 fun x => ejB (hinj hd x)]
        by_cases ejA : j = c
        · subst ejA; exact (putV hD.lenT hoA).1 hd
        · rw [(putV hD.lenT hoA).2 fun x => ejA (hinj hd x)]
          have hj' := ((hset j).1 hj).resolve_left ejA
          refine hD.t1 j t hj' hd fun e he => ((hset e).1 (hnp e he)).resolve_left fun x => ?_
          subst x
          have := pair_suc he; omega
    · simp only
      have hneA : oA.dst ≠ some t := fun x => ht c ((hset _).2 (.inl rfl)) (by unfold dstOf; rw [hoA]; simpa using x)
      have hneB : oB.dst ≠ some t := fun x => ht (c + 1) ((hset _).2 (.inr hB)) (by unfold dstOf; rw [hoB]; simpa using x)
      have h3 := hD.t2 t fun j hj => ht j ((hset j).2 (.inr hj))
      have one : ∀ {T : List AV} {o : Oper} {v : AV}, o.dst ≠ some t → getT (putT T o.dst v) t = getT T t := by
        intro T o v hne
        cases hd' : o.dst with
        | none => simp only [putT]
        | some d =>
          simp only [putT]
          rw [getT_put_other (fun x => hne (by rw [hd', x]))]
      rw [one hneB, one hneA]; exact h3
    · obtain ⟨c', g1, g2, g3⟩ := cur_from (wS ops) (listed.setIfInBounds c true) ops.size ops.size (c + 2) (by omega) (by omega) (fun j hj hw => (hset j).2 (by
        by_cases e : j = c
        · exact .inl e
        · by_cases e' : j = c + 1
          · subst e'; exact .inr hB
          · exact .inr ((others j e e' hw).2 (by omega))))
      have hno : ∀ j, c + 2 ≤ j → j < (c + 2) + (c' - (c + 2)) → wS ops j = false := by
        intro j h1 h2
        cases hwj : wS ops j with
        | false => rfl
        | true =>
          have h3 := g3 j h1 (by omega) hwj
          rcases (hset j).1 h3 with h4 | h4
          · omega
          · have := (others j (by omega) (by omega) hwj).1 h4; omega
      have := constS (c' - (c + 2)) (c + 2) (by have := g2.1; omega) hno
      rw [show c + 2 + (c' - (c + 2)) = c' from by omega] at this
      exact ⟨c', g2, this.1.symm, this.2.symm⟩
    · obtain ⟨c', hc1', hc2'⟩ := hD.cT
      have hcc : c' ≠ c := fun e => by
        subst e
        have := (hc1'.2.2 (by omega)).1
        unfold wT at this; rw [hoA] at this
        simp only [(isAl_w q3).2.2] at this
        simp at this
      refine ⟨c', ⟨hc1'.1, fun j hj hw => (hset j).2 (.inr (hc1'.2.1 j hj hw)), fun hlt => ⟨(hc1'.2.2 hlt).1, ?_⟩⟩, hc2'⟩
      rw [getD_set_ne' (fun e => hcc e.symm)]; exact (hc1'.2.2 hlt).2
  -- any order
  let Norm : Array Bool → Prop := fun listed => ∀ e j, pairAt ops e j = true → listed.getD j false = true → listed.getD e false = true
  let Wait : Nat → Array Bool → Cx → Act → Prop := fun A listed C1 a1 => pairAt ops A (A + 1) = true ∧ listed.getD A false = false ∧ listed.getD (A + 1) false = true ∧ ∃ oB tB arr b, ops[A + 1]? = some oB ∧ oB.op = .alloc tB ∧ zeroOf P tB = some (arr.toList.map cst1) ∧
    (∀ d x, oB.dst = some d → a1.tmps.toList[d]? = some x → x = .pointer (some ⟨b, 0, none⟩)) ∧ C1.w.heap[b]? = some (.cells arr tB (0, 0)) ∧ C.w.heap.size ≤ b ∧ (∀ o, C1.av b o) ∧ (∀ x o, x ≠ b → (C1.av x o ↔ C.av x o)) ∧ Le C { C1 with av := C.av }
  have clash : ∀ {listed : Array Bool} {s : St} {A A' : Nat}, DInv ops st sts val listed s → pairAt ops A (A + 1) = true → listed.getD A false = false → listed.getD (A + 1) false = true → pairAt ops A' (A' + 1) = true → listed.getD A' false = false → ((∀ e ∈ depsOf ops (A' + 1), listed.getD e false = true)) → A' = A := by
    intro listed s A A' hD hp hA hB hp' hA' hdeps'
    obtain ⟨p1, p2, r1, r2, ⟨r3, -⟩, r4, -⟩ := pair_al hp
    obtain ⟨p1', p2', r1', r2', ⟨r3', -⟩, r4', -⟩ := pair_al hp'
    rcases Nat.lt_trichotomy A' A with h | h | h
    · exfalso
      rcases (hall (A + 1) p2 r2).2 A' p1' (by omega) r1' (by simp [conf, (isAl_w r3').1, (isAl_w r4).1]) with h1 | h1
      · have := reach_listed hD.closed (hD.closed _ hB) A' h1
        rw [hA'] at this; simp at this
      · have := pair_suc h1; omega
    · exact h
    · exfalso
      rcases (hall (A' + 1) p2' r2').2 A p1 (by omega) r1 (by simp [conf, (isAl_w r3).1, (isAl_w r4').1]) with h1 | h1
      · have := reach_listed hD.closed hdeps' A h1
        rw [hA] at this; simp at this
      · have := pair_suc h1; omega
  let Held : Array Bool → Cx → Act → Prop := fun listed C1 a1 => ∃ p al t d arr b, lt = some (p, al) ∧ al.op = .alloc t ∧ al.dst = some d ∧ listed.getD p false = true ∧ zeroOf P t = some (arr.toList.map cst1) ∧
    (∀ x, a1.tmps.toList[d]? = some x → x = .pointer (some ⟨b, 0, none⟩)) ∧ C1.w.heap[b]? = some (.cells arr t (0, 0)) ∧ C.w.heap.size ≤ b ∧ (∀ o, C1.av b o) ∧ (∀ x o, x ≠ b → (C1.av x o ↔ C.av x o)) ∧ Le C { C1 with av := C.av }
  let Un : Array Bool → Prop := fun listed => ∀ p al, lt = some (p, al) → listed.getD p false = false
  let Hle : Array Bool → Cx → Act → Prop := fun listed C1 a1 => (Un listed ∧ ((Norm listed ∧ Le C C1) ∨ ∃ A, Wait A listed C1 a1)) ∨ Held listed C1 a1
  have lateLt : ∀ p al, lt = some (p, al) → p < ops.size := by
    intro p al e
    subst e
    exact (Array.getElem?_eq_some_iff.1 hlate.2.2.2.2.2.2.2).1
  have done : ∀ {listed : Array Bool} {s : St} {C1 : Cx} {a1 : Act}, Hle listed C1 a1 → Rel C1 s a1 → DInv ops st sts val listed s → (∀ j, j < ops.size → listed.getD j false = true) → Q .normal a1 C1.w := by
    intro listed s C1 a1 hle hr1 hD hl
    have e := fin hD hl
    subst e
    rcases hle with ⟨hun, hle⟩ | ⟨p, al, t, d, arr, b, e1, e2, e3, hp, hz, hx, hb1, hb2, hav, hav', hle⟩
    · have hl0 : lt = none := by
        cases hlt : lt with
        | none => rfl
        | some q =>
          obtain ⟨p, al⟩ := q
          have h1 := hun p al hlt
          rw [hl p (lateLt p al hlt)] at h1; cases h1
      rcases hle with ⟨-, hle⟩ | ⟨A, hp, hA, -⟩
      · refine hQ a1 C1 hle ?_
        rw [hl0]; exact hr1
      · rw [hl A (pair_lt hp).1] at hA; simp at hA
    · have h00 : ∀ o, ¬ C.av b o := fun o ha => by have := hr.sr.avlt b o ha; omega
      have hL0 := Le0.rev (C := C1) hav hav' h00 (arr.toList.map cst1)
      have hS3 := SR.rev hr1.sr hb1 hav hav' h00 (fun g a hg => (hr.sr.glob g a hg).2)
      have hrv : reveal P lt s = { s with T := put s.T d (.ref s.S.length s.n 0), S := s.S ++ [⟨s.n, arr.toList.map cst1⟩], n := s.n + 1 } := by
        rw [e1]; simp only [reveal, e2, e3, hz, Option.getD_some, putT]
      refine hQ a1 (C1.rev C.av b (arr.toList.map cst1)) ?_ ?_
      · have hl2 := hle
        refine ⟨hl2.os, hl2.tape, hl2.output, hl2.size, rfl, Nat.le_succ_of_le hl2.n, fun x o hx hm => ?_, hl2.cell, hl2.keep, hl2.shape, fun id e' he hn => ?_, hl2.tok⟩
        · rcases rev_mut hm with h | h
          · exact hl2.mt x o hx h
          · omega
        · rcases nth_snoc he with ⟨h1, h2⟩ | ⟨h1, h2⟩
          · subst h2
            have := hl2.n
            simp only at this hn
            omega
          · obtain ⟨w1, w2, w3, w4⟩ := hl2.ent id e' h2 hn
            refine ⟨w1, w2, w3, ?_⟩
            simp only [Cx.rev]
            rw [if_neg (by omega)]
            exact w4
      · rw [hrv]
        refine ⟨?_, hr1.tk, ?_, ?_, hr1.defers, hS3⟩
        · simp only [Cx.rev, hr1.S, hr1.n]
        · simp only [Cx.rev, hr1.n]
        · have hT2 : VRs (C1.rev C.av b (arr.toList.map cst1)) s.T a1.tmps.toList := VRs.mono0 hL0 _ _ hr1.tmps
          refine VRs_put_same hT2 fun x hx' => ?_
          rw [hx x hx']
          simp only [VR]
          refine ⟨b, rfl, ?_, fun e'' he'' _ => ?_⟩
          · simp only [Cx.rev, hr1.n]; omega
          · simp only [Cx.rev, hr1.S, List.length_append, List.length_cons, List.length_nil, if_true]
  have main : ∀ (fuel : Nat) (listed : Array Bool) (s : St) (C1 : Cx) (a1 : Act), unlistedCount listed ops.size ≤ fuel → Hle listed C1 a1 → Rel C1 s a1 → DInv ops st sts val listed s → wpAny P .any real Q fuel listed a1 C1.w := by
    intro fuel
    induction fuel with
    | zero =>
      intro listed s C1 a1 hcnt hle hr1 hD
      have hl : ∀ j, j < ops.size → listed.getD j false = true := by
        intro j hj
        have h0 : unlistedCount listed ops.size = 0 := by omega
        unfold unlistedCount at h0
        rw [List.countP_eq_zero] at h0
        have := h0 j (by simpa using hj)
        simpa using this
      refine ⟨?_, done hle hr1 hD hl⟩
      cases hrd : Region.ready .any real listed with
      | nil => rfl
      | cons x l =>
        have hx : x ∈ Region.ready .any ops listed := (hready listed x).1 (by rw [hrd]; simp)
        obtain ⟨h0, o, ho, -⟩ := ready_of hx
        have hun := (unlisted_false h0).1
        rw [hl x (Array.getElem?_eq_some_iff.1 ho).1] at hun; simp at hun
    | succ fuel ih =>
      intro listed s C1 a1 hcnt hle hr1 hD
      refine ⟨fun hnil => done hle hr1 hD (none_ready hD ?_), fun i hri0 => ?_⟩
      · cases hrd : Region.ready .any ops listed with
        | nil => rfl
        | cons x l =>
          have hx : x ∈ Region.ready .any real listed := (hready listed x).2 (by rw [hrd]; simp)
          rw [hnil] at hx; cases hx
      have hri := (hready listed i).1 hri0
      obtain ⟨h0, o0, ho0, hdeps0⟩ := ready_of hri
      obtain ⟨hun0, hil0⟩ := unlisted_false h0
      have hset := setq hil0
      have hcnt0 := unlisted_set (Array.getElem?_eq_some_iff.1 ho0).1 hD.len hun0
      by_cases hL8 : ∃ al, lt = some (i, al)
      · -- the variable that may be made at any time
        obtain ⟨al, el⟩ := hL8
        have hlate' := hlate
        rw [el] at hlate'
        obtain ⟨-, -, -, r1, r2, r3, ⟨t, cs, r4, hz⟩, r5⟩ := hlate'
        rw [ho0] at r5
        simp only [Option.some.injEq] at r5
        obtain ⟨d, r3⟩ := Option.isSome_iff_exists.1 r3
        have hle : Le C C1 := by
          rcases hle with ⟨-, ⟨-, h⟩ | ⟨A, hp, -⟩⟩ | ⟨p, al', -, -, -, -, e1, -, -, hp, -⟩
          · exact h
          · exact (hnopair _ _ el _ _ hp).elim
          · rw [el] at e1
            simp only [Option.some.injEq, Prod.mk.injEq] at e1
            obtain ⟨rfl, -⟩ := e1
            rw [hun0] at hp; cases hp
        obtain ⟨o, ho, hun, bb, s2, hw, hb1, hb2, hT, hD2⟩ := step hD i hri (fun e he => (hnopair _ _ el _ _ he).elim) (fun e he => (hnopair _ _ el _ _ he).elim)
        rw [ho0] at ho
        simp only [Option.some.injEq] at ho
        subst ho
        have hg0 : o0.guard = none := by rw [r5]; exact r2
        have hd0 : o0.dst = some d := by rw [r5]; exact r3
        have hw1 : wantA ops.toList s.T o0 = some true := by unfold wantA; rw [hg0]
        rw [hw] at hw1
        simp only [Option.some.injEq] at hw1
        have hev := hb1 hw1
        simp only [evO, r5, evQ, opv, Option.map_some, Option.some.injEq, Prod.mk.injEq] at hev
        obtain ⟨hv, hs2⟩ := hev
        subst hs2
        rw [← hv, hd0] at hD2
        obtain ⟨arr, harr, hwp⟩ := alloc_wp (P := P) r4 hz
        unfold wpOp
        rw [r1]
        simp only
        have hwn : Region.wanted al (yielded real a1.tmps) = true := by unfold Region.wanted; rw [r2]
        rw [if_pos hwn]
        refine .inl (hwp C1 a1 _ _ ?_)
        have hbel : Below C1.w.heap.size C1.w (C1.w.alloc (.cells arr t)) := (Below.refl _ _).alloc (Nat.le_refl _) _
        have hr2 : Rel (C1.hid arr t) { s with T := putT s.T (some d) .bot } (a1.put al.dst (.pointer (some ⟨C1.w.heap.size, 0, none⟩))) := by
          rw [r3]
          exact ⟨hr1.S, hr1.tk, hr1.n, VRs_putT (d := some d) (VRs.mono0 (Le0.hid arr t) _ _ hr1.tmps) (by simp only [VR]), hr1.defers, hr1.sr.hid arr t⟩
        refine ih _ _ (C1.hid arr t) _ (by omega) (.inr ⟨i, al, t, d, arr, C1.w.heap.size, el, r4, r3, (hset _).2 (.inl rfl), by rw [harr]; exact hz, ?_, heap_alloc_same _ _, hle.size, fun o => .inr rfl, fun x o hx => ?_, ?_⟩) hr2 hD2
        · intro x hx
          rw [r3] at hx
          simp only [Act.put, Array.toList_setIfInBounds] at hx
          rw [List.getElem?_set] at hx
          simp only [if_true] at hx
          split at hx
          · simpa using hx.symm
          · simp at hx
        · simp only [Cx.hid]
          rw [hle.av]
          exact ⟨fun h => h.resolve_right hx, .inl⟩
        · have := hle.trans (Le.of_below (C := C1) hbel)
          rw [show ({ C1.hid arr t with av := C.av } : Cx) = C1.at (C1.w.alloc (.cells arr t)) from by unfold Cx.hid Cx.at; rw [hle.av]]
          exact this
      have hreal : real[i]? = ops[i]? := hsame i fun p al e hip => hL8 ⟨al, by rw [hip]; exact e⟩
      have hUn : ∀ {L : Array Bool}, Un listed → (∀ j, L.getD j false = true → j = i ∨ listed.getD j false = true) → Un L := by
        intro L hu hs p al e
        cases hx : L.getD p false with
        | false => rfl
        | true =>
          rcases hs p hx with h | h
          · exact absurd ⟨al, by rw [← h]; exact e⟩ hL8
          · rw [hu p al e] at h; cases h
      have ih' : ∀ (s : St) (C1 : Cx) (a1 : Act), Un listed → ((Norm (listed.setIfInBounds i true) ∧ Le C C1) ∨ ∃ A, Wait A (listed.setIfInBounds i true) C1 a1) → Rel C1 s a1 → DInv ops st sts val (listed.setIfInBounds i true) s → wpAny P .any real Q fuel (listed.setIfInBounds i true) a1 C1.w :=
        fun s C1 a1 hu h => ih _ s C1 a1 (by omega) (.inl ⟨hUn hu fun j => (hset j).1, h⟩)
      by_cases hB : ∃ A, pairAt ops A i = true ∧ listed.getD A false = false
      · -- the second of a pair, ahead of the first
        obtain ⟨A, hp, hA⟩ := hB
        have hi1 := pair_suc hp
        subst hi1
        obtain ⟨hun9, hle⟩ : Un listed ∧ ((Norm listed ∧ Le C C1) ∨ ∃ A, Wait A listed C1 a1) := hle.resolve_right fun ⟨p, al, _, _, _, _, e1, _⟩ => hnopair p al e1 _ _ hp
        have hN : Norm listed ∧ Le C C1 := by
          rcases hle with h | ⟨A', hp', hA', hB', -⟩
          · exact h
          · exfalso
            have := clash hD hp' hA' hB' hp hA hdeps0
            subst this
            rw [hun0] at hB'; simp at hB'
        obtain ⟨hN, hle⟩ := hN
        obtain ⟨pA, pB, q1, q2, ⟨q3, -⟩, q4, -⟩ := pair_al hp
        rw [ho0] at q2
        simp only [Option.some.injEq] at q2
        subst q2
        obtain ⟨t, e, hg⟩ := isAl_op q4
        obtain ⟨cs, hz, -⟩ := allocStep ho0 e hg
        obtain ⟨arr, harr, hwp⟩ := alloc_wp (P := P) e hz
        unfold wpOp
        rw [hreal, hyield]
        simp only [ho0]
        have hw : wantA ops.toList s.T o0 = some true := by unfold wantA; rw [hg]
        rw [if_pos (wantA_sound hr1.tmps hw)]
        refine .inl (hwp C1 a1 _ _ ?_)
        have hbel : Below C1.w.heap.size C1.w (C1.w.alloc (.cells arr t)) := (Below.refl _ _).alloc (Nat.le_refl _) _
        have hr2 : Rel (C1.hid arr t) { s with T := putT s.T o0.dst .bot } (a1.put o0.dst (.pointer (some ⟨C1.w.heap.size, 0, none⟩))) :=
          ⟨hr1.S, hr1.tk, hr1.n, VRs_putT (VRs.mono0 (Le0.hid arr t) _ _ hr1.tmps) (by simp only [VR]), by cases o0.dst <;> exact hr1.defers, hr1.sr.hid arr t⟩
        refine ih' _ (C1.hid arr t) _ hun9 (.inr ⟨A, hp, ?_, ?_, o0, t, arr, C1.w.heap.size, ho0, e, by rw [harr]; exact hz, ?_, heap_alloc_same _ _, hle.size, fun o => .inr rfl, fun x o hx => ?_, ?_⟩) hr2 (stepB hD hri hp hA ho0)
        · rw [getD_set_ne' (by omega)]; exact hA
        · exact (hset _).2 (.inl rfl)
        · intro d x hd hx
          rw [hd] at hx
          simp only [Act.put, Array.toList_setIfInBounds] at hx
          rw [List.getElem?_set] at hx
          simp only [if_true] at hx
          split at hx
          · simpa using hx.symm
          · simp at hx
        · simp only [Cx.hid]
          rw [hle.av]
          exact ⟨fun h => h.resolve_right hx, .inl⟩
        · have := hle.trans (Le.of_below (C := C1) hbel)
          rw [show ({ C1.hid arr t with av := C.av } : Cx) = C1.at (C1.w.alloc (.cells arr t)) from by unfold Cx.hid Cx.at; rw [hle.av]]
          exact this
      · by_cases hA2 : ∃ b, pairAt ops i b = true ∧ listed.getD b false = true
        · -- the first of a pair, behind the second
          obtain ⟨b', hp, hB'⟩ := hA2
          have hi1 := pair_suc hp
          subst hi1
          obtain ⟨hun9, hle⟩ : Un listed ∧ ((Norm listed ∧ Le C C1) ∨ ∃ A, Wait A listed C1 a1) := hle.resolve_right fun ⟨p, al, _, _, _, _, e1, _⟩ => hnopair p al e1 _ _ hp
          rcases hle with ⟨hN, -⟩ | ⟨A, hp', hA', hB'', oB, tB, arr, b, ho1, e1, hz1, hx1, hb1, hb2, hav, hav', hle⟩
          · have := hN _ _ hp hB'
            rw [hun0] at this; simp at this
          · have hAi : i = A := clash hD hp' hA' hB'' hp hun0 (hD.closed _ hB')
            subst hAi
            obtain ⟨pA, pB, q1, q2, ⟨q3, -⟩, q4, -⟩ := pair_al hp
            rw [ho0] at q1; rw [ho1] at q2
            simp only [Option.some.injEq] at q1 q2
            subst q1; subst q2
            obtain ⟨t, e, hg⟩ := isAl_op q3
            obtain ⟨t', e', hg'⟩ := isAl_op q4
            rw [e1] at e'
            simp only [Op.alloc.injEq] at e'
            subst e'
            obtain ⟨g1, g2, g3⟩ := stepA hD hri hp hB' ho0 ho1
            obtain ⟨cs, hz, v1, v2, v3, v4⟩ := allocStep ho0 e hg
            obtain ⟨cs', hz', v1', v2', v3', v4'⟩ := allocStep ho1 e1 hg'
            rw [hz1] at hz'
            simp only [Option.some.injEq] at hz'
            subst hz'
            have hwo : wantA ops.toList s.T o0 = some true := by unfold wantA; rw [hg]
            have hev : evO P call o0 s = some (val i, { s with S := s.S ++ [⟨s.n, cs⟩], n := s.n + 1 }) := by
              simp only [evO, e, hz, Option.map_some, v1, g1, g2]
            unfold wpOp
            rw [hreal, hyield]
            simp only [ho0]
            rw [if_pos (wantA_sound hr1.tmps hwo)]
            refine .inl (evO_sound hc hr1 hev fun u C2 k1 k2 k3 k4 k5 k6 => ?_).1
            have hr2 := hr1.put (d := o0.dst) k1 k2 k3 k4 k5 k6 rfl
            have nm : ∀ o, ¬ C1.Mut b o := fun o hm => hr1.sr.own b o hm (hav o)
            have hb3 : C2.w.heap[b]? = some (.cells arr tB (0, 0)) := by
              rw [k1.keep b (Array.getElem?_eq_some_iff.1 hb1).1 nm]; exact hb1
            have hav2 : ∀ o, C2.av b o := fun o => by rw [k1.av]; exact hav o
            have hav2' : ∀ x o, x ≠ b → (C2.av x o ↔ C.av x o) := fun x o hx => by rw [k1.av]; exact hav' x o hx
            have h00 : ∀ o, ¬ C.av b o := fun o ha => by have := hr.sr.avlt b o ha; omega
            have hL0 := Le0.rev (C := C2) hav2 hav2' h00 (arr.toList.map cst1)
            have hS3 := SR.rev k2 hb3 hav2 hav2' h00 (fun g a hg => (hr.sr.glob g a hg).2)
            have hlast : (sts (i + 2)).S = s.S ++ [⟨s.n, cs⟩] ++ [⟨s.n + 1, arr.toList.map cst1⟩] ∧ (sts (i + 2)).n = s.n + 1 + 1 := by
              rw [show i + 2 = i + 1 + 1 from rfl, v2', v3', v2, v3, g1, g2]; exact ⟨rfl, rfl⟩
            refine ih' _ (C2.rev C.av b (arr.toList.map cst1)) _ hun9 (.inl ⟨?_, ?_⟩) ⟨?_, ?_, ?_, ?_, hr2.defers, hS3⟩ g3
            · -- no other pair waits
              intro e' j' hp2 hj'
              rcases (hset j').1 hj' with h | h
              · subst h
                have := pair_suc hp2
                exfalso
                subst this
                -- three in a row
                obtain ⟨p1, p2, r1, r2, ⟨r3, -⟩, r4, -⟩ := pair_al hp2
                rcases (hall (e' + 1 + 1) _ ho1).2 e' p1 (by omega) r1 (by simp [conf, (isAl_w r3).1, (isAl_w q4).1]) with h1 | h1
                · have h2 := (pair_reach hp2 (pair_lt hp).2 (by omega) (by omega)).1 h1
                  have := reach_listed hD.closed (hD.closed _ hB') _ h2
                  rw [hun0] at this; simp at this
                · have := pair_suc h1; omega
              · by_cases he : listed.getD e' false = true
                · exact (hset _).2 (.inr he)
                · have hs2 := pair_suc hp2
                  subst hs2
                  have := clash hD hp hun0 hB' hp2 (by simpa using he) (hD.closed _ h)
                  exact (hset _).2 (.inl this)
            · have hl2 : Le C { C2 with av := C.av } := hle.trans ⟨k1.os, k1.tape, k1.output, k1.size, rfl, k1.n, k1.mt, k1.cell, k1.keep, k1.shape, k1.ent, k1.tok⟩
              refine ⟨hl2.os, hl2.tape, hl2.output, hl2.size, rfl, Nat.le_succ_of_le hl2.n, fun x o hx hm => ?_, hl2.cell, hl2.keep, hl2.shape, fun id e' he hn => ?_, hl2.tok⟩
              · rcases rev_mut hm with h | h
                · exact hl2.mt x o hx h
                · omega
              · rcases nth_snoc he with ⟨h1, h2⟩ | ⟨h1, h2⟩
                · subst h2
                  have := hl2.n
                  simp only at this hn
                  omega
                · obtain ⟨w1, w2, w3, w4⟩ := hl2.ent id e' h2 hn
                  refine ⟨w1, w2, w3, ?_⟩
                  simp only [Cx.rev]
                  rw [if_neg (by omega)]
                  exact w4
            · simp only [Cx.rev, hlast.1, k3, k5]
            · exact k4
            · simp only [Cx.rev, hlast.2, k5]
            · have hT2 : VRs (C2.rev C.av b (arr.toList.map cst1)) (putT s.T o0.dst (val i)) (a1.put o0.dst u).tmps.toList := VRs.mono0 hL0 _ _ hr2.tmps
              simp only
              cases hd : oB.dst with
              | none => exact hT2
              | some d =>
                refine VRs_put_same hT2 fun x hx => ?_
                have hdd : o0.dst ≠ some d := fun h => by
                  have h1 : dstOf ops i = some d := by unfold dstOf; rw [ho0]; simpa using h
                  have h2 : dstOf ops (i + 1) = some d := by unfold dstOf; rw [ho1]; simpa using hd
                  have := hinj h1 h2; omega
                have hx' : a1.tmps.toList[d]? = some x := by
                  cases hd0 : o0.dst with
                  | none => rw [hd0] at hx; exact hx
                  | some d0 =>
                    rw [hd0] at hx
                    simp only [Act.put, Array.toList_setIfInBounds] at hx
                    rw [List.getElem?_set_ne (fun h => hdd (by rw [hd0, h]))] at hx
                    exact hx
                rw [hx1 d x hd hx', v1', v2, v3, g1.symm, g2.symm]
                simp only [VR]
                refine ⟨b, rfl, ?_, fun e'' he'' _ => ?_⟩
                · simp only [Cx.rev, k5]; omega
                · simp only [Cx.rev, k3, List.length_append, List.length_cons, List.length_nil, if_true]
        · -- an operation as any other
          have hn1 : ∀ e, pairAt ops e i = true → listed.getD e false = true := fun e he => by
            cases h : listed.getD e false with
            | true => rfl
            | false => exact absurd ⟨e, he, h⟩ hB
          have hn2 : ∀ e, pairAt ops i e = true → listed.getD e false = false := fun e he => by
            cases h : listed.getD e false with
            | false => rfl
            | true => exact absurd ⟨e, he, h⟩ hA2
          obtain ⟨o, ho, hun, b, s2, hw, hb1, hb2, hT, hD2⟩ := step hD i hri hn1 hn2
          have hwanted := wantA_sound hr1.tmps hw
          -- what waits goes on waiting
          have keepW : ∀ {C2 : Cx} {u : Value}, Le C1 C2 → ((Norm listed ∧ Le C C1) ∨ ∃ A, Wait A listed C1 a1) → ((Norm (listed.setIfInBounds i true) ∧ Le C C2) ∨ ∃ A, Wait A (listed.setIfInBounds i true) C2 (a1.put o.dst u)) := by
            intro C2 u k1 hle
            rcases hle with ⟨hN, hle⟩ | ⟨A, hp', hA', hB'', oB, tB, arr, b, ho1, e1, hz1, hx1, hb1, hb2, hav, hav', hle⟩
            · refine .inl ⟨fun e j hp hj => (hset e).2 ?_, hle.trans k1⟩
              rcases (hset j).1 hj with h | h
              · subst h; exact .inr (hn1 e hp)
              · exact .inr (hN e j hp h)
            · have hiA : i ≠ A := fun h => by
                subst h
                have := hn2 _ hp'; rw [hB''] at this; simp at this
              refine .inr ⟨A, hp', ?_, (hset _).2 (.inr hB''), oB, tB, arr, b, ho1, e1, hz1, fun d x hd hx => ?_, ?_, hb2, fun o => by rw [k1.av]; exact hav o, fun x o hx => by rw [k1.av]; exact hav' x o hx, hle.trans ⟨k1.os, k1.tape, k1.output, k1.size, rfl, k1.n, k1.mt, k1.cell, k1.keep, k1.shape, k1.ent, k1.tok⟩⟩
              · rw [getD_set_ne' hiA]; exact hA'
              · refine hx1 d x hd ?_
                have hdd : o.dst ≠ some d := fun h => by
                  have h1 : dstOf ops i = some d := by unfold dstOf; rw [ho]; simpa using h
                  have h2 : dstOf ops (A + 1) = some d := by unfold dstOf; rw [ho1]; simpa using hd
                  have := hinj h1 h2
                  subst this
                  rw [hun] at hB''; simp at hB''
                cases hd0 : o.dst with
                | none => rw [hd0] at hx; exact hx
                | some d0 =>
                  rw [hd0] at hx
                  simp only [Act.put, Array.toList_setIfInBounds] at hx
                  rw [List.getElem?_set_ne (fun h => hdd (by rw [hd0, h]))] at hx
                  exact hx
              · rw [k1.keep b (Array.getElem?_eq_some_iff.1 hb1).1 fun o hm => hr1.sr.own b o hm (hav o)]; exact hb1
          have keepH : ∀ {C2 : Cx} {u : Value}, Le C1 C2 → Hle listed C1 a1 → Hle (listed.setIfInBounds i true) C2 (a1.put o.dst u) := by
            intro C2 u k1 hle
            rcases hle with ⟨hu, hle⟩ | ⟨p, al, t, d, arr, b, e1, e2, e3, hp, hz, hx1, hb1, hb2, hav, hav', hle⟩
            · exact .inl ⟨hUn hu fun j => (hset j).1, keepW k1 hle⟩
            · refine .inr ⟨p, al, t, d, arr, b, e1, e2, e3, (hset _).2 (.inr hp), hz, fun x hx => ?_, ?_, hb2, fun o => by rw [k1.av]; exact hav o, fun x o hx => by rw [k1.av]; exact hav' x o hx, hle.trans ⟨k1.os, k1.tape, k1.output, k1.size, rfl, k1.n, k1.mt, k1.cell, k1.keep, k1.shape, k1.ent, k1.tok⟩⟩
              · refine hx1 x ?_
                have hdd : o.dst ≠ some d := fun h => by
                  have hl' := hlate
                  rw [e1] at hl'
                  have h1 : dstOf ops i = some d := by unfold dstOf; rw [ho]; simpa using h
                  have h2 : dstOf ops p = some d := by unfold dstOf; rw [hl'.2.2.2.2.2.2.2]; simpa using e3
                  have := hinj h1 h2
                  subst this
                  rw [hun] at hp; cases hp
                cases hd0 : o.dst with
                | none => rw [hd0] at hx; exact hx
                | some d0 =>
                  rw [hd0] at hx
                  simp only [Act.put, Array.toList_setIfInBounds] at hx
                  rw [List.getElem?_set_ne (fun h => hdd (by rw [hd0, h]))] at hx
                  exact hx
              · rw [k1.keep b (Array.getElem?_eq_some_iff.1 hb1).1 fun o hm => hr1.sr.own b o hm (hav o)]; exact hb1
          unfold wpOp
          rw [hreal, hyield]
          simp only [ho]
          cases b with
          | false =>
            rw [if_neg (by rw [hwanted]; simp)]
            obtain ⟨hv, rfl⟩ := hb2 rfl
            refine ih _ _ C1 _ (by omega) (keepH (Le.refl C1) hle) ?_ hD2
            rw [hv]
            exact hr1.put (Le.refl C1) hr1.sr hr1.S hr1.tk hr1.n (by simp only [VR]) rfl
          | true =>
            rw [if_pos hwanted]
            refine .inl (evO_sound hc hr1 (hb1 rfl) fun u C2 k1 k2 k3 k4 k5 k6 => ?_).1
            exact ih _ _ C2 _ (by omega) (keepH k1 hle) (hr1.put k1 k2 k3 k4 k5 k6 hT) hD2
  have hbel : Below C.w.heap.size C.w C.w.drew := (Below.refl _ _).drew
  rw [hsz]
  refine main ops.size _ st (C.at C.w.drew) a ?_ (.inl ⟨fun p al _ => by simp [Array.getD], .inl ⟨fun e j _ hj => by simp [Array.getD] at hj, Le.of_below hbel⟩⟩) ⟨hr.S, hr.tk, hr.n, VRs.mono (Le.of_below hbel) _ _ hr.tmps, hr.defers, SR.of_below hr.sr hbel⟩ ⟨by simp, ?_, rfl, ?_, fun t _ => rfl, ?_, ?_⟩
  · unfold unlistedCount
    exact Nat.le_trans List.countP_le_length (by simp)
  · intro j hj; simp [Array.getD] at hj
  · intro j t hj; simp [Array.getD] at hj
  · obtain ⟨c, h1, h2, h3⟩ := cur_from (wS ops) (Array.replicate ops.size false) ops.size ops.size 0 (by omega) (by omega) (by intro j hj; omega)
    have hno : ∀ j, 0 ≤ j → j < 0 + c → wS ops j = false := by
      intro j _ hj
      cases hwj : wS ops j with
      | false => rfl
      | true =>
        have := h2.2.1 j (by omega) hwj
        simp [Array.getD] at this
    have := constS c 0 (by have := h2.1; omega) hno
    rw [Nat.zero_add, hs0] at this
    exact ⟨c, h2, this.1.symm, this.2.symm⟩
  · obtain ⟨c, h1, h2, h3⟩ := cur_from (wT ops) (Array.replicate ops.size false) ops.size ops.size 0 (by omega) (by omega) (by intro j hj; omega)
    have hno : ∀ j, 0 ≤ j → j < 0 + c → wT ops j = false := by
      intro j _ hj
      cases hwj : wT ops j with
      | false => rfl
      | true =>
        have := h2.2.1 j (by omega) hwj
        simp [Array.getD] at this
    have := constT c 0 (by have := h2.1; omega) hno
    rw [Nat.zero_add, hs0] at this
    exact ⟨c, h2, this.symm⟩
theorem drawOk_sound [Globs] (hm : P.follows .mixedOrders = true) : DrawOk P drawOk := by
  refine ⟨hm, ?_⟩
  intro call hc real ops lt hlt hi C st st' a Q hok hr h hQ
  exact @drawOk0_sound P (gM (mdOf ops.toList)) hm call (CallOk_M hc) hi real ops lt hlt C st st' a Q hok (Rel_M.2 hr) h (fun a' C' hle hr' => hQ a' C' hle (Rel_M.1 hr'))
end
end Go.Proofs.YtmkoiandfojgmaaGreat
