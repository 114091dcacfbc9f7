/-
  Regions whose order is drawn: where a test of their text says so, each order gives what the text's order gives.
-/
import Derived.Test.YtokncdoejnchfaaDoorEvFun
namespace Go.Proofs.YtokncdoejnchfaaDoor
open Go.RowKit

section
def dstOf (ops : Array Oper) (j : Nat) : Option Tmp := (ops[j]?).bind (·.dst)
def depsOf (ops : Array Oper) (i : Nat) : List Nat := match ops[i]? with | some o => (o.after.toList.filter (Region.binds .any)).map (·.on) | none => []
/-- what has come before an operation for sure -/
def reachAt (ops : Array Oper) (i : Nat) : List Nat := ((List.range i).reverse).foldl (fun s j => if s.contains j then depsOf ops j ++ s else s) (depsOf ops i)
/-- it reads variables, it writes variables, it appends -/
def rdS (o : Oper) : Bool := match o.op with | .load _ _ => true | _ => false
def wrS [Globs] (o : Oper) : Bool := match o.op with | .store _ _ _ | .alloc _ | .box _ _ => true | .makeSlice _ l _ => !len0 l | .call c => (match c.callee with | .builtin .copy => true | .value (.func f) => shF f | .value _ => Globs.shAny | _ => false) | _ => false
def wrT (o : Oper) : Bool := match o.op with | .makeSlice _ l _ => len0 l | .call c => (match c.callee with | .builtin .append => true | _ => false) | _ => false
/-- it may look at all variables -/
def rdA [Globs] (o : Oper) : Bool := match o.op with | .call c => (match c.callee with | .value (.func f) => shF f | .value _ => Globs.shAny | .builtin .append => Globs.shAny | _ => false) | _ => false
def conf [Globs] (p o : Oper) : Bool := (wrS p && wrS o) || (wrT p && wrT o) || (rdA p && (wrS o || wrT o)) || ((wrS p || wrT p) && rdA o)
/-- nothing in the region writes this slot -/
def unwr (ops : Array Oper) (t : Tmp) : Bool := (List.range ops.size).all fun j => dstOf ops j != some t
/-- what a load looks at, if that can be seen: nothing that can be written, or this variable -/
def ldBase (st : St) (ops : Array Oper) (i : Nat) (o : Oper) : Option (Option Nat) :=
  match o.op with
  | .load _ (.tmp q) =>
    if unwr ops q = true then (match getT st.T q with | .ref id _ _ => if id < st.S.length then some (some id) else none | .fptr _ => some none | _ => none)
    else ((List.range i).findSome? fun (m : Nat) => match (ops[m]? : Option Oper) with
      | some o' => (match o'.dst, o'.op with
        | some d, .fieldAddr _ (.tmp x) _ => if d = q ∧ unwr ops x = true then (match getT st.T x with | .ref id _ _ => if id < st.S.length then some (some id) else none | .fptr _ => some none | _ => none) else none
        | _, _ => none)
      | none => none)
  | _ => none
/-- what is written does not touch what is looked at -/
def apartS (st : St) (ops : Array Oper) (i : Nat) (o p : Oper) : Bool :=
  match ldBase st ops i o with
  | none => false
  | some none => true
  | some (some id) => match p.op with
    | .store _ (.tmp q) _ => unwr ops q && (match getT st.T q with | .ref id' _ _ => decide (id ≠ id') | _ => false)
    | .alloc _ => true
    | .box _ _ => true
    | .makeSlice _ _ _ => true
    | .call c => (match c.callee with | .value _ => true | _ => false)
    | _ => false
def opOk (ops : Array Oper) (i : Nat) (o : Oper) : Bool :=
  (match o.op with | .select .. => false | _ => true) && (depsOf ops i).all (fun j => decide (j < i)) &&
  (match o.guard with | none => true | some (g, _) => (depsOf ops i).contains g) &&
  (o.dst.all fun d => (List.range i).all fun j => dstOf ops j != some d) &&
  (o.op.operands.all fun x => match x with
    | .tmp t => (List.range ops.size).all fun j => dstOf ops j != some t || j == i || (reachAt ops i).contains j || (reachAt ops j).contains i
    | _ => true)
def drawOk0 [Globs] (st : St) (L : List Oper) : Bool :=
  (List.range L.length).all fun i => match L.toArray[i]? with
    | none => false
    | some o => opOk L.toArray i o && (List.range i).all fun j => match L.toArray[j]? with
      | none => false
      | some p => (!conf p o && !(wrS p && rdS o) && !(rdS p && wrS o)) || (reachAt L.toArray i).contains j || (!conf p o && (if rdS o = true then apartS st L.toArray i o p else apartS st L.toArray j p o))

def drawOk [Globs] (st : St) (L : List Oper) : Bool := @drawOk0 (gM (qm L)) st L
theorem SR_M [Globs] {C : Cx} : ∀ {M : Bool}, @SR (gM M) C ↔ SR C
  | false => Iff.rfl
  | true => ⟨fun h => ⟨@SR.ent (gM true) _ h, @SR.ne (gM true) _ h, @SR.tok (gM true) _ h, @SR.apart (gM true) _ h, @SR.own (gM true) _ h, @SR.avlt (gM true) _ h, @SR.tlt (gM true) _ h, @SR.glob (gM true) _ h⟩, fun h => @SR.mk (gM true) _ h.ent h.ne h.tok h.apart h.own h.avlt h.tlt h.glob⟩
theorem Rel_M [Globs] {C : Cx} {st : St} {a : Act} {M : Bool} : @Rel (gM M) C st a ↔ Rel C st a :=
  ⟨fun h => ⟨@Rel.S (gM M) _ _ _ h, @Rel.tk (gM M) _ _ _ h, @Rel.n (gM M) _ _ _ h, @Rel.tmps (gM M) _ _ _ h, @Rel.defers (gM M) _ _ _ h, SR_M.1 (@Rel.sr (gM M) _ _ _ h)⟩, fun h => @Rel.mk (gM M) _ _ _ h.S h.tk h.n h.tmps h.defers (SR_M.2 h.sr)⟩
theorem CallOk_M [Globs] {P : Program} {call : CallA} {M : Bool} (h : CallOk P call) : @CallOk (gM M) P call := by
  intro f args S tk n r S' tk' n' e
  refine ⟨(h _ _ _ _ _ _ _ _ _ e).1, fun C vs h1 h2 h3 hs hv => ((h _ _ _ _ _ _ _ _ _ e).2 C vs h1 h2 h3 (SR_M.1 hs) hv).mono ?_⟩
  rintro e w' ⟨v, C', g1, g2, g3, g4, g5⟩
  exact ⟨v, C', g1, g2, g3, SR_M.2 g4, g5⟩
theorem getD_set_ne' {l : Array Bool} {i j : Nat} {b d : Bool} (h : i ≠ j) : (l.setIfInBounds i b).getD j d = l.getD j d := by
  simp [Array.getD_eq_getD_getElem?, Array.getElem?_setIfInBounds_ne h]
theorem getD_set_same' {l : Array Bool} {i : Nat} {b d : Bool} (h : i < l.size) : (l.setIfInBounds i b).getD i d = b := by
  simp [Array.getD, h]
theorem cpA_len {P : Program} {t : TypeId} {d s : AV} {S S' : List Ent} {n : Nat} (h : cpA P t d s S = some (n, S')) : S'.length = S.length := by
  unfold cpA at h
  split at h
  · split at h
    · split at h
      · split at h
        · split at h
          · simp only [Option.some.injEq, Prod.mk.injEq] at h
            obtain ⟨-, rfl⟩ := h
            exact put_len
          · simp at h
        · simp at h
      · simp at h
    · simp at h
  · simp at h
theorem stA_other {P : Program} {t : TypeId} {v : AV} {S S' : List Ent} {i e o id : Nat} (h : stA P t (.ref i e o) v S = some S') (hne : i ≠ id) : nth S' id = nth S id := by
  unfold stA at h
  cases h1 : szOf P t with
  | none => rw [h1] at h; simp at h
  | some sz =>
    cases h2 : cellsOf v with
    | none => rw [h1, h2] at h; simp at h
    | some vs =>
      rw [h1, h2] at h
      simp only at h
      split at h
      · cases h3 : entAt S i e with
        | none => rw [h3] at h; simp at h
        | some cs =>
          rw [h3] at h
          simp only at h
          cases h4 : over cs o vs with
          | none => rw [h4] at h; simp at h
          | some cs' => rw [h4] at h; simp only [Option.some.injEq] at h; subst h; exact nth_put_other hne
      · simp at h
variable {P : Program} {ops : Array Oper}
theorem ready_of {listed : Array Bool} {i : Nat} (h : i ∈ Region.ready .any ops listed) : listed.getD i true = false ∧ ∃ o, ops[i]? = some o ∧ ∀ e ∈ depsOf ops i, listed.getD e false = true := by
  obtain ⟨h0, o, ho, hd⟩ := mem_ready.1 h
  refine ⟨h0, o, ho, fun e he => ?_⟩
  unfold depsOf at he
  rw [ho] at he
  simp only [List.mem_map, List.mem_filter] at he
  obtain ⟨x, ⟨hx, hb⟩, rfl⟩ := he
  exact hd x (by simpa using hx) hb
theorem unlisted_false {listed : Array Bool} {i : Nat} (h : listed.getD i true = false) : listed.getD i false = false ∧ i < listed.size := by
  by_cases hi : i < listed.size
  · exact ⟨by simpa [Array.getD, hi] using h, hi⟩
  · simp [Array.getD, hi] at h
theorem reach_listed {listed : Array Bool} (hc : ∀ j, listed.getD j false = true → ∀ e ∈ depsOf ops j, listed.getD e false = true) {i : Nat} (hd : ∀ e ∈ depsOf ops i, listed.getD e false = true) :
    ∀ e ∈ reachAt ops i, listed.getD e false = true := by
  unfold reachAt
  generalize (List.range i).reverse = l
  have key : ∀ (l : List Nat) (s : List Nat), (∀ e ∈ s, listed.getD e false = true) → ∀ e ∈ l.foldl (fun s j => if s.contains j then depsOf ops j ++ s else s) s, listed.getD e false = true := by
    intro l
    induction l with
    | nil => intro s hs; exact hs
    | cons j l ih =>
      intro s hs
      simp only [List.foldl_cons]
      apply ih
      split
      · rename_i hj
        intro e he
        rcases List.mem_append.1 he with h | h
        · exact hc j (hs j (by simpa using hj)) e h
        · exact hs e h
      · exact hs
  exact key l _ hd
def unlistedCount (listed : Array Bool) (n : Nat) : Nat := (List.range n).countP fun j => listed.getD j false = false
theorem unlisted_set {listed : Array Bool} {n i : Nat} (hi : i < n) (hl : listed.size = n) (hu : listed.getD i false = false) : unlistedCount (listed.setIfInBounds i true) n + 1 ≤ unlistedCount listed n := by
  have key : ∀ (l : List Nat), l.Nodup → (l.countP fun j => (listed.setIfInBounds i true).getD j false = false) + (if i ∈ l then 1 else 0) = l.countP fun j => listed.getD j false = false := by
    intro l
    induction l with
    | nil => intro _; simp
    | cons x l ih =>
      intro hn
      rw [List.nodup_cons] at hn
      have ih := ih hn.2
      by_cases e : x = i
      · subst e
        have h1 : (listed.setIfInBounds x true).getD x false = true := getD_set_same' (by omega)
        rw [List.countP_cons, List.countP_cons, h1, hu, if_neg hn.1] at *
        simp at ih ⊢
        omega
      · have h1 : (listed.setIfInBounds i true).getD x false = listed.getD x false := getD_set_ne' (fun y => e y.symm)
        rw [List.countP_cons, List.countP_cons, h1]
        have : (i ∈ x :: l) ↔ i ∈ l := by rw [List.mem_cons]; exact ⟨fun h => h.resolve_left fun y => e y.symm, .inr⟩
        simp only [this]
        omega
  have := key (List.range n) List.nodup_range
  rw [if_pos (by simpa using hi)] at this
  unfold unlistedCount
  omega

theorem evQ_congr {o : Oper} {ρ ρ' : Operand → AV} (h : ∀ x ∈ o.op.operands, ρ x = ρ' x) : evQ P o ρ = evQ P o ρ' := by
  obtain ⟨dst, op, type, pos, after, guard⟩ := o
  have pairs : ∀ ps : Array (Nat × Operand), (∀ x ∈ ps.map (·.2), ρ x = ρ' x) → (ps.toList.map fun (i, x) => (i, ρ x)) = (ps.toList.map fun (i, x) => (i, ρ' x)) := fun ps hp =>
    List.map_congr_left fun p hm => by
      obtain ⟨i, x⟩ := p
      simp only [hp x (Array.mem_map.2 ⟨(i, x), by simpa using hm, rfl⟩)]
  have lists : ∀ xs : Array Operand, (∀ x ∈ xs, ρ x = ρ' x) → xs.toList.map ρ = xs.toList.map ρ' := fun xs hx => List.map_congr_left fun x hm => hx x (by simpa using hm)
  cases op <;> simp only [Op.operands] at h <;> simp only [evQ]
  case build t ps => rw [pairs ps fun x hx => h x (by simpa using hx)]
  case buildSlice t n ps => rw [pairs ps fun x hx => h x (by simpa using hx)]
  case slice t x lo hi mx => cases lo <;> cases hi <;> cases mx <;> simp_all
  case makeFunc fn first caps =>
    have h1 := lists caps fun x hx => h x (by simp [hx])
    have h2 : (caps.toList.all fun x => capsOk (ρ x)) = (caps.toList.all fun x => capsOk (ρ' x)) := by
      have : ∀ f : Operand → AV, (caps.toList.all fun x => capsOk (f x)) = (caps.toList.map f).all capsOk := fun f => by rw [List.all_map]; rfl
      rw [this, this, h1]
    cases fn with
    | func f => simp only [h1, h2]
    | _ => rfl
  case call c =>
    have h1 := lists c.args fun x hx => h x (by simp [Call.operands, hx])
    rw [h1]
  all_goals first | rfl | (simp_all; done) | skip

/-- an operation of which this is all that it looks at and turns -/
def FrameO [Globs] (P : Program) (call : CallA) (o : Oper) (s s' : St) (v : AV) : Prop :=
    s'.T = s.T ∧ (wrS o = false → s'.S = s.S ∧ s'.n = s.n) ∧ (wrT o = false → s'.tk = s.tk) ∧
    ∀ s2 : St, (∀ x ∈ o.op.operands, opv s2.T x = opv s.T x) → (∀ t x id ep off, o.op = .load t x → opv s.T x = .ref id ep off → nth s2.S id = nth s.S id) → (wrS o = true → s2.S = s.S ∧ s2.n = s.n) → (wrT o = true → s2.tk = s.tk) → (rdA o = true → s2.S = s.S ∧ s2.n = s.n ∧ s2.tk = s.tk) →
      ∃ s2', evO P call o s2 = some (v, s2') ∧ s2'.T = s2.T ∧ (wrS o = true → s2'.S = s'.S ∧ s2'.n = s'.n) ∧ (wrS o = false → s2'.S = s2.S ∧ s2'.n = s2.n) ∧ (wrT o = true → s2'.tk = s'.tk) ∧ (wrT o = false → s2'.tk = s2.tk)
theorem frame_quiet [Globs] {call : CallA} {o : Oper} {s s' : St} {v v' : AV} (hq : evQ P o (opv s.T) = some v') (e : (v', s) = (v, s')) (hw : wrS o = false) (ht : wrT o = false) (hev : ∀ s2 : St, evO P call o s2 = (evQ P o (opv s2.T)).map fun v => (v, s2)) : FrameO P call o s s' v := by
  simp only [Prod.mk.injEq] at e
  obtain ⟨rfl, rfl⟩ := e
  exact ⟨rfl, fun _ => ⟨rfl, rfl⟩, fun _ => rfl, fun s2 h2 _ _ _ _ => ⟨s2, by rw [hev, evQ_congr h2, hq]; rfl, rfl, fun h => by rw [hw] at h; simp at h, fun _ => ⟨rfl, rfl⟩, fun h => by rw [ht] at h; simp at h, fun _ => rfl⟩⟩
theorem evO_frame [Globs] {call : CallA} (hi : IndepC call) {o : Oper} {s s' : St} {v : AV} (hsel : (match o.op with | .select .. => false | _ => true) = true) (h : evO P call o s = some (v, s')) : FrameO P call o s s' v := by
  obtain ⟨dst, op, type, pos, after, guard⟩ := o
  cases op
  case load t x =>
    simp only [evO, Option.map_eq_some_iff, Prod.mk.injEq] at h
    obtain ⟨u, h, rfl, rfl⟩ := h
    refine ⟨rfl, fun _ => ⟨rfl, rfl⟩, fun _ => rfl, fun s2 h2 hR _ _ _ => ⟨s2, ?_, rfl, by simp [wrS], fun _ => ⟨rfl, rfl⟩, by simp [wrT], fun _ => rfl⟩⟩
    have e : ldA P t (opv s.T x) s2.S = ldA P t (opv s.T x) s.S := by
      unfold ldA
      cases hx : opv s.T x with
      | ref id ep off =>
        have : entAt s2.S id ep = entAt s.S id ep := by unfold entAt; rw [hR t x id ep off rfl hx]
        simp only [this]
      | _ => rfl
    simp only [evO, h2 x (by simp [Op.operands]), e, h, Option.map_some]
  case store t x y =>
    simp only [evO, Option.map_eq_some_iff, Prod.mk.injEq] at h
    obtain ⟨u, h, rfl, rfl⟩ := h
    refine ⟨rfl, by simp [wrS], fun _ => rfl, fun s2 h2 _ hS _ _ => ⟨{ s2 with S := u }, ?_, rfl, fun _ => ⟨rfl, (hS (by simp [wrS])).2⟩, by simp [wrS], by simp [wrT], fun _ => rfl⟩⟩
    simp only [evO, h2 x (by simp [Op.operands]), h2 y (by simp [Op.operands]), (hS (by simp [wrS])).1, h, Option.map_some]
  case alloc t =>
    simp only [evO, Option.map_eq_some_iff, Prod.mk.injEq] at h
    obtain ⟨u, h, rfl, rfl⟩ := h
    refine ⟨rfl, by simp [wrS], fun _ => rfl, fun s2 h2 _ hS _ _ => ?_⟩
    obtain ⟨e1, e2⟩ := hS (by simp [wrS])
    exact ⟨{ s2 with S := s2.S ++ [⟨s2.n, u⟩], n := s2.n + 1 }, by simp only [evO, h, Option.map_some, e1, e2], rfl, fun _ => by simp [e1, e2], by simp [wrS], by simp [wrT], fun _ => rfl⟩
  case box t x =>
    simp only [evO, Option.map_eq_some_iff, Prod.mk.injEq] at h
    obtain ⟨u, h, rfl, rfl⟩ := h
    refine ⟨rfl, by simp [wrS], fun _ => rfl, fun s2 h2 _ hS _ _ => ?_⟩
    obtain ⟨e1, e2⟩ := hS (by simp [wrS])
    exact ⟨{ s2 with S := s2.S ++ [⟨s2.n, u⟩], n := s2.n + 1 }, by simp only [evO, h2 x (by simp [Op.operands]), h, Option.map_some, e1, e2], rfl, fun _ => by simp [e1, e2], by simp [wrS], by simp [wrT], fun _ => rfl⟩
  case makeSlice t l c =>
    simp only [evO, Option.map_eq_some_iff, Prod.exists] at h
    obtain ⟨l', sz, cs, h, hh⟩ := h
    split at hh
    · rename_i hl
      simp only [Prod.mk.injEq] at hh
      obtain ⟨rfl, rfl⟩ := hh
      refine ⟨rfl, fun _ => ⟨rfl, rfl⟩, by simp [wrT, hl], fun s2 h2 _ _ hT _ => ?_⟩
      have e := hT (by simp [wrT, hl])
      exact ⟨{ s2 with tk := s2.tk ++ [0] }, by simp only [evO, h2 l (by simp [Op.operands]), h2 c (by simp [Op.operands]), h, Option.map_some, hl, if_true, e], rfl, by simp [wrS, hl], fun _ => ⟨rfl, rfl⟩, fun _ => by simp [e], by simp [wrT, hl]⟩
    · rename_i hl
      simp only [Prod.mk.injEq] at hh
      obtain ⟨rfl, rfl⟩ := hh
      have hl' : len0 l = false := by simpa using hl
      refine ⟨rfl, by simp [wrS, hl'], fun _ => rfl, fun s2 h2 _ hS _ _ => ?_⟩
      obtain ⟨e1, e2⟩ := hS (by simp [wrS, hl'])
      exact ⟨{ s2 with S := s2.S ++ [⟨s2.n, cs⟩], n := s2.n + 1 }, by simp only [evO, h2 l (by simp [Op.operands]), h2 c (by simp [Op.operands]), h, Option.map_some, hl', e1, e2]; rfl, rfl, fun _ => by simp [e1, e2], by simp [wrS, hl'], by simp [wrT, hl'], fun _ => rfl⟩
  case call c =>
    have hargs : ∀ s2 : St, (∀ x ∈ (Op.call c).operands, opv s2.T x = opv s.T x) → c.args.toList.map (opv s2.T) = c.args.toList.map (opv s.T) := fun s2 h2 => List.map_congr_left fun x hx => h2 x (by simp [Op.operands, Call.operands]; right; simpa using hx)
    cases hcal : c.callee with
    | builtin b =>
      by_cases hb : b = .append
      · subst hb
        simp only [evO, hcal] at h
        split at h
        · rename_i x y t t' hxy ht
          split at h
          · rename_i htt
            simp only [Option.map_eq_some_iff, Prod.mk.injEq, Prod.exists] at h
            obtain ⟨u, tk', h, rfl, rfl⟩ := h
            refine ⟨rfl, fun _ => ⟨rfl, rfl⟩, by simp [wrT, hcal], fun s2 h2 _ _ hT hA => ⟨{ s2 with tk := tk' }, ?_, rfl, by simp [wrS, hcal], fun _ => ⟨rfl, rfl⟩, fun _ => rfl, by simp [wrT, hcal]⟩⟩
            have e := hT (by simp [wrT, hcal])
            have hS2 : apB1 P t x y s.tk s2.S = apB1 P t x y s.tk s.S := by
              cases hsh : (Globs.shAny : Bool) with
              | true => rw [(hA (by simp [rdA, hcal, hsh])).1]
              | false => unfold apB1; simp [hsh]
            simp only [evO, hcal, hargs s2 h2, hxy, ht, htt, if_true, e]
            subst htt
            rw [hS2]
            simp only [h, Option.map_some]
          · rename_i htt
            simp only [Option.map_eq_some_iff, Prod.mk.injEq, Prod.exists] at h
            obtain ⟨u, tk', h, rfl, rfl⟩ := h
            refine ⟨rfl, fun _ => ⟨rfl, rfl⟩, by simp [wrT, hcal], fun s2 h2 _ _ hT _ => ⟨{ s2 with tk := tk' }, ?_, rfl, by simp [wrS, hcal], fun _ => ⟨rfl, rfl⟩, fun _ => rfl, by simp [wrT, hcal]⟩⟩
            have e := hT (by simp [wrT, hcal])
            simp only [evO, hcal, hargs s2 h2, hxy, ht, e, if_neg htt, h, Option.map_some]
        · simp at h
      · by_cases hb2 : b = .copy
        · subst hb2
          simp only [evO, hcal] at h
          split at h
          · rename_i x y t t' hxy ht
            simp only [Option.map_eq_some_iff, Prod.mk.injEq, Prod.exists] at h
            obtain ⟨m, S', h, rfl, rfl⟩ := h
            refine ⟨rfl, by simp [wrS, hcal], fun _ => rfl, fun s2 h2 _ hS _ _ => ⟨{ s2 with S := S' }, ?_, rfl, fun _ => ⟨rfl, (hS (by simp [wrS, hcal])).2⟩, by simp [wrS, hcal], by simp [wrT, hcal], fun _ => rfl⟩⟩
            simp only [evO, hcal, hargs s2 h2, hxy, ht, (hS (by simp [wrS, hcal])).1, h, Option.map_some]
          · simp at h
        · have hev : ∀ s2 : St, evO P call ⟨dst, .call c, type, pos, after, guard⟩ s2 = (evQ P ⟨dst, .call c, type, pos, after, guard⟩ (opv s2.T)).map fun v => (v, s2) := by
            intro s2
            simp only [evO, hcal]
          rw [hev] at h
          simp only [Option.map_eq_some_iff] at h
          obtain ⟨v', h1, h2⟩ := h
          exact frame_quiet h1 h2 (by cases b <;> simp [wrS, hcal] at hb2 ⊢) (by cases b <;> simp [wrT, hcal] at hb ⊢) hev
    | value fx =>
      simp only [evO, hcal] at h
      split at h
      · rename_i f args hca
        simp only [Option.map_eq_some_iff, Prod.mk.injEq, Prod.exists] at h
        obtain ⟨r, S', tk', n', h, rfl, rfl⟩ := h
        have hca2 : ∀ s2 : St, (∀ x ∈ (Op.call c).operands, opv s2.T x = opv s.T x) → calleeA s2.T c = some (f, args) := by
          intro s2 h2
          rw [← hca]
          unfold calleeA
          rw [hcal]
          simp only [hargs s2 h2, h2 fx (by simp [Op.operands, Call.operands, hcal])]
        obtain ⟨rfl, rfl, hin⟩ := hi _ _ _ _ _ _ _ _ _ h
        by_cases hsh : shF f = true
        · have hany : (Globs.shAny : Bool) = true := by unfold shF at hsh; simp only [Bool.and_eq_true] at hsh; exact hsh.1
          have hfx : ∀ g, fx = .func g → g = f := by
            rintro g rfl
            unfold calleeA at hca
            rw [hcal] at hca
            simp only [opv, Option.some.injEq, Prod.mk.injEq] at hca
            exact hca.1
          have hrd : rdA ⟨dst, .call c, type, pos, after, guard⟩ = true := by
            simp only [rdA, hcal]
            cases fx with
            | func g => simp only [hfx g rfl]; exact hsh
            | _ => exact hany
          have hwr : wrS ⟨dst, .call c, type, pos, after, guard⟩ = true := by
            simp only [wrS, hcal]
            cases fx with
            | func g => simp only [hfx g rfl]; exact hsh
            | _ => exact hany
          refine ⟨rfl, fun hw => by rw [hwr] at hw; simp at hw, fun _ => rfl, fun s2 h2 _ _ _ hA => ?_⟩
          obtain ⟨a1, a2, a3⟩ := hA hrd
          refine ⟨{ s2 with n := n' }, ?_, rfl, fun _ => ⟨a1, rfl⟩, fun hw => by rw [hwr] at hw; simp at hw, by simp [wrT, hcal], fun _ => rfl⟩
          simp only [evO, hcal, hca2 s2 h2]
          rw [a1, a2, a3, h]
          simp only [Option.map_some, ← a1, ← a3]
        · obtain ⟨hnn, hin2⟩ := hin.resolve_left hsh
          subst hnn
          refine ⟨rfl, fun _ => ⟨rfl, rfl⟩, fun _ => rfl, fun s2 h2 _ hS _ _ => ⟨s2, ?_, rfl, fun hw => ?_, fun _ => ⟨rfl, rfl⟩, by simp [wrT, hcal], fun _ => rfl⟩⟩
          · simp only [evO, hcal, hca2 s2 h2, hin2 s2.S s2.tk s2.n, Option.map_some]
          · exact hS hw
      · simp at h
    | invoke rx m =>
      simp only [evO, hcal, calleeA] at h
      simp at h
  all_goals first
    | (simp at hsel; done)
    | (simp only [evO, Option.map_eq_some_iff] at h
       obtain ⟨v', h1, h2⟩ := h
       exact frame_quiet h1 h2 rfl rfl (fun s2 => by simp only [evO]))

/-- one step of the text's order -/
def StepT [Globs] (P : Program) (call : CallA) (all : List Oper) (o : Oper) (s s' : St) (v : AV) : Prop :=
  (wantA all s.T o = some false ∧ v = .prim undef ∧ s' = { s with T := putT s.T o.dst v }) ∨ (wantA all s.T o = some true ∧ ∃ s1, evO P call o s = some (v, s1) ∧ s' = { s1 with T := putT s1.T o.dst v })
theorem seq_of [Globs] {call : CallA} {all : List Oper} : ∀ {l : List Oper} {st st' : St}, evOs P call all l st = some st' → ∃ (sts : Nat → St) (val : Nat → AV), sts 0 = st ∧ sts l.length = st' ∧ ∀ (i : Nat) o, l[i]? = some o → StepT P call all o (sts i) (sts (i + 1)) (val i)
  | [], st, st', h => by
    simp only [evOs, Option.some.injEq] at h; subst h
    exact ⟨fun _ => st, fun _ => .bot, rfl, rfl, by simp⟩
  | o :: l, st, st', h => by
    have key : ∀ {s1 : St} {v : AV}, StepT P call all o st s1 v → evOs P call all l s1 = some st' → ∃ (sts : Nat → St) (val : Nat → AV), sts 0 = st ∧ sts (o :: l).length = st' ∧ ∀ (i : Nat) o', (o :: l)[i]? = some o' → StepT P call all o' (sts i) (sts (i + 1)) (val i) := by
      intro s1 v hs h
      obtain ⟨sts, val, h1, h2, h3⟩ := seq_of h
      refine ⟨fun | 0 => st | i + 1 => sts i, fun | 0 => v | i + 1 => val i, rfl, h2, fun i o' ho => ?_⟩
      cases i with
      | zero =>
        simp only [List.getElem?_cons_zero, Option.some.injEq] at ho; subst ho
        show StepT P call all o st (sts 0) v
        rw [h1]; exact hs
      | succ i => exact h3 i o' (by simpa using ho)
    simp only [evOs] at h
    split at h
    · simp at h
    · rename_i hw
      exact key (.inl ⟨hw, rfl, rfl⟩) h
    · rename_i hw
      split at h
      · rename_i v s1 ho
        exact key (.inr ⟨hw, s1, ho, rfl⟩) h
      · simp at h
theorem putT_length (T : List AV) (d : Option Tmp) (v : AV) : (putT T d v).length = T.length := by
  cases d <;> simp [putT, put_len]
theorem getT_put_same : ∀ {T : List AV} {d : Nat} {v : AV}, d < T.length → getT (put T d v) d = v
  | _ :: _, 0, _, _ => rfl
  | _ :: T, d + 1, v, h => getT_put_same (T := T) (by simpa using h)
  | [], _, _, h => by simp at h
theorem getT_put_other : ∀ {T : List AV} {d t : Nat} {v : AV}, d ≠ t → getT (put T d v) t = getT T t
  | _ :: _, 0, 0, _, h => absurd rfl h
  | _ :: _, 0, _ + 1, _, _ => rfl
  | _ :: _, _ + 1, 0, _, _ => rfl
  | _ :: T, d + 1, t + 1, v, h => getT_put_other (T := T) (by omega)
  | [], _, _, _, _ => rfl
theorem getT_ext : ∀ {T T' : List AV}, T.length = T'.length → (∀ t, getT T t = getT T' t) → T = T'
  | [], [], _, _ => rfl
  | x :: T, y :: T', h, hg => by
    have h0 := hg 0
    simp only [getT] at h0
    rw [h0, getT_ext (T := T) (T' := T') (by simpa using h) fun t => hg (t + 1)]
  | [], _ :: _, h, _ => by simp at h
  | _ :: _, [], h, _ => by simp at h
/-- the least operation of a kind that has not come yet -/
def IsCur (w : Nat → Bool) (listed : Array Bool) (n c : Nat) : Prop := c ≤ n ∧ (∀ j, j < c → w j = true → listed.getD j false = true) ∧ (c < n → w c = true ∧ listed.getD c false = false)
theorem cur_from (w : Nat → Bool) (listed : Array Bool) (n : Nat) : ∀ k c, n - c ≤ k → c ≤ n → (∀ j, j < c → w j = true → listed.getD j false = true) → ∃ c', c ≤ c' ∧ IsCur w listed n c' ∧ ∀ j, c ≤ j → j < c' → w j = true → listed.getD j false = true
  | 0, c, hk, hc, h => ⟨c, Nat.le_refl _, ⟨hc, h, fun h => by omega⟩, fun j h1 h2 => by omega⟩
  | k + 1, c, hk, hc, h => by
    by_cases hn : c < n ∧ w c = true ∧ listed.getD c false = false
    · exact ⟨c, Nat.le_refl _, ⟨hc, h, fun _ => hn.2⟩, fun j h1 h2 => by omega⟩
    · by_cases hcn : c < n
      · obtain ⟨c', h1, h2, h3⟩ := cur_from w listed n k (c + 1) (by omega) (by omega) (fun j hj hw => by
          by_cases e : j = c
          · subst e
            cases hl : listed.getD j false with
            | true => rfl
            | false => exact absurd ⟨hcn, hw, hl⟩ hn
          · exact h j (by omega) hw)
        exact ⟨c', by omega, h2, fun j h4 h5 hw => h2.2.1 j h5 hw⟩
      · exact ⟨c, Nat.le_refl _, ⟨hc, h, fun h => absurd h hcn⟩, fun j h1 h2 => by omega⟩
def wS [Globs] (ops : Array Oper) (j : Nat) : Bool := match ops[j]? with | some o => wrS o | none => false
def wT (ops : Array Oper) (j : Nat) : Bool := match ops[j]? with | some o => wrT o | none => false

structure DInv [Globs] (ops : Array Oper) (st : St) (sts : Nat → St) (val : Nat → AV) (listed : Array Bool) (s : St) : Prop where
  len : listed.size = ops.size
  closed : ∀ j, listed.getD j false = true → ∀ e ∈ depsOf ops j, listed.getD e false = true
  lenT : s.T.length = st.T.length
  t1 : ∀ j t, listed.getD j false = true → dstOf ops j = some t → getT s.T t = if t < st.T.length then val j else .bot
  t2 : ∀ t, (∀ j, listed.getD j false = true → dstOf ops j ≠ some t) → getT s.T t = getT st.T t
  cS : ∃ c, IsCur (wS ops) listed ops.size c ∧ s.S = (sts c).S ∧ s.n = (sts c).n
  cT : ∃ c, IsCur (wT ops) listed ops.size c ∧ s.tk = (sts c).tk

theorem drawOk0_sound [Globs] (hm : P.follows .mixedOrders = true) : ∀ (call : CallA), CallOk P call → IndepC call → ∀ (ops : Array Oper) (id : Nat) (C : Cx) (st st' : St) (a : Act) (Q : Exit → Act → World → Prop), drawOk0 st ops.toList = true → Rel C st a → evOs P call ops.toList ops.toList st = some st' →
    (∀ a' C', Le C C' → Rel C' st' a' → Q .normal a' C'.w) → (Code.region id ops true).wp P Q a C.w := by
  intro call hc hi ops id C st st' a Q hok hr h hQ
  obtain ⟨sts, val, hs0, hsn, hstep⟩ := seq_of h
  simp only [Array.length_toList] at hsn
  have hstep' : ∀ (i : Nat) o, ops[i]? = some o → StepT P call ops.toList o (sts i) (sts (i + 1)) (val i) := fun i o ho => hstep i o (by simpa using ho)
  -- what the test says
  have hall0 : ∀ i o, ops[i]? = some o → opOk ops i o = true ∧ ∀ j p, j < i → ops[j]? = some p → ((!conf p o && !(wrS p && rdS o) && !(rdS p && wrS o)) || (reachAt ops i).contains j || (!conf p o && (if rdS o = true then apartS st ops i o p else apartS st ops j p o))) = true := by
    intro i o ho
    have hlt := (Array.getElem?_eq_some_iff.1 ho).1
    unfold drawOk0 at hok
    rw [List.all_eq_true] at hok
    have h1 := hok i (by simpa using hlt)
    simp only [Array.toArray_toList, ho, Bool.and_eq_true] at h1
    refine ⟨h1.1, fun j p hj hp => ?_⟩
    have h2 := List.all_eq_true.1 h1.2 j (by simpa using hj)
    simp only [hp] at h2
    exact h2
  have hall : ∀ i o, ops[i]? = some o → opOk ops i o = true ∧ ∀ j p, j < i → ops[j]? = some p → conf p o = true → j ∈ reachAt ops i := by
    intro i o ho
    refine ⟨(hall0 i o ho).1, fun j p hj hp hcf => ?_⟩
    have h2 := (hall0 i o ho).2 j p hj hp
    simp only [hcf, Bool.not_true, Bool.false_and, Bool.false_or, Bool.or_false] at h2
    simpa using h2
  have hrw : ∀ i o, ops[i]? = some o → ∀ j p, j < i → ops[j]? = some p → ((wrS p && rdS o) || (rdS p && wrS o)) = true → j ∈ reachAt ops i ∨ (if rdS o = true then apartS st ops i o p else apartS st ops j p o) = true := by
    intro i o ho j p hj hp hcf
    have h2 := (hall0 i o ho).2 j p hj hp
    have h3 : (!conf p o && !(wrS p && rdS o) && !(rdS p && wrS o)) = false := by
      simp only [Bool.or_eq_true] at hcf
      rcases hcf with h | h <;> simp [h]
    rw [h3] at h2
    simp only [Bool.false_or, Bool.or_eq_true, Bool.and_eq_true] at h2
    rcases h2 with h2 | h2
    · exact .inl (by simpa using h2)
    · exact .inr h2.2
  have hop : ∀ i o, ops[i]? = some o → (match o.op with | .select .. => false | _ => true) = true ∧ (∀ j ∈ depsOf ops i, j < i) ∧ (∀ g w, o.guard = some (g, w) → g ∈ depsOf ops i) ∧ (∀ d, o.dst = some d → ∀ j, j < i → dstOf ops j ≠ some d) ∧
      (∀ t, Operand.tmp t ∈ o.op.operands → ∀ j, dstOf ops j = some t → j = i ∨ j ∈ reachAt ops i ∨ i ∈ reachAt ops j) := by
    intro i o ho
    have h1 := (hall i o ho).1
    unfold opOk at h1
    simp only [Bool.and_eq_true] at h1
    obtain ⟨⟨⟨⟨a1, a2⟩, a3⟩, a4⟩, a5⟩ := h1
    refine ⟨a1, fun j hj => by simpa using List.all_eq_true.1 a2 j hj, fun g w hg => by rw [hg] at a3; simpa using a3, fun d hd j hj => ?_, fun t ht j hj => ?_⟩
    · rw [hd] at a4
      simp only [Option.all_some] at a4
      have := List.all_eq_true.1 a4 j (by simpa using hj)
      simpa using this
    · have h2 := Array.all_eq_true_iff_forall_mem.1 a5 (.tmp t) ht
      have hjlt : j < ops.size := by
        unfold dstOf at hj
        cases hx : ops[j]? with
        | none => rw [hx] at hj; simp at hj
        | some _ => exact (Array.getElem?_eq_some_iff.1 hx).1
      have h3 := List.all_eq_true.1 h2 j (by simpa using hjlt)
      simp only [hj, bne_self_eq_false, Bool.false_or, Bool.or_eq_true, beq_iff_eq, List.contains_iff_mem] at h3
      rcases h3 with (h3 | h3) | h3
      · exact .inl h3
      · exact .inr (.inl h3)
      · exact .inr (.inr h3)
  have hdst : ∀ {j : Nat} {d : Tmp}, dstOf ops j = some d → ∃ o, ops[j]? = some o ∧ o.dst = some d := by
    intro j d hj
    unfold dstOf at hj
    cases hx : ops[j]? with
    | none => rw [hx] at hj; simp at hj
    | some o => rw [hx] at hj; exact ⟨o, rfl, by simpa using hj⟩
  have hinj : ∀ {i j : Nat} {d : Tmp}, dstOf ops i = some d → dstOf ops j = some d → i = j := by
    intro i j d h1 h2
    obtain ⟨o, ho, hod⟩ := hdst h1
    obtain ⟨p, hp, hpd⟩ := hdst h2
    rcases Nat.lt_trichotomy i j with hh | hh | hh
    · exact absurd h1 ((hop j p hp).2.2.2.1 d hpd i hh)
    · exact hh
    · exact absurd h2 ((hop i o ho).2.2.2.1 d hod j hh)
  -- the text's order
  have stepT : ∀ i o, ops[i]? = some o → (sts (i + 1)).T = putT (sts i).T o.dst (val i) ∧ (wrS o = false → (sts (i + 1)).S = (sts i).S ∧ (sts (i + 1)).n = (sts i).n) ∧ (wrT o = false → (sts (i + 1)).tk = (sts i).tk) := by
    intro i o ho
    rcases hstep' i o ho with ⟨-, -, e⟩ | ⟨-, s1, h1, e⟩
    · rw [e]; exact ⟨rfl, fun _ => ⟨rfl, rfl⟩, fun _ => rfl⟩
    · obtain ⟨g1, g2, g3, -⟩ := evO_frame hi (hop i o ho).1 h1
      rw [e]; exact ⟨by simp only [g1], g2, g3⟩
  have textLen : ∀ i, i ≤ ops.size → (sts i).T.length = st.T.length := by
    intro i
    induction i with
    | zero => intro _; rw [hs0]
    | succ i ih =>
      intro hlt
      rw [(stepT i _ (Array.getElem?_eq_getElem (show i < ops.size by omega))).1, putT_length, ih (by omega)]
  have text2 : ∀ i, i ≤ ops.size → ∀ t, (∀ j, j < i → dstOf ops j ≠ some t) → getT (sts i).T t = getT st.T t := by
    intro i
    induction i with
    | zero => intro _ t _; rw [hs0]
    | succ i ih =>
      intro hlt t ht
      have ho := Array.getElem?_eq_getElem (show i < ops.size by omega)
      rw [(stepT i _ ho).1]
      have hne : (ops[i]'(by omega)).dst ≠ some t := fun e => ht i (by omega) (by unfold dstOf; rw [ho]; simpa using e)
      cases hd : (ops[i]'(by omega)).dst with
      | none => simp only [putT]; exact ih (by omega) t fun j hj => ht j (by omega)
      | some d =>
        simp only [putT]
        rw [getT_put_other (fun e => hne (by rw [hd, e]))]
        exact ih (by omega) t fun j hj => ht j (by omega)
  have text1 : ∀ i, i ≤ ops.size → ∀ j t, j < i → dstOf ops j = some t → getT (sts i).T t = if t < st.T.length then val j else .bot := by
    intro i
    induction i with
    | zero => intro _ j t hj; omega
    | succ i ih =>
      intro hlt j t hj hd
      have ho := Array.getElem?_eq_getElem (show i < ops.size by omega)
      rw [(stepT i _ ho).1]
      by_cases e : j = i
      · subst e
        have hd' : (ops[j]'(by omega)).dst = some t := by unfold dstOf at hd; rw [ho] at hd; simpa using hd
        rw [hd']
        simp only [putT]
        by_cases hlt' : t < st.T.length
        · rw [if_pos hlt']
          exact getT_put_same (by rw [textLen j (by omega)]; exact hlt')
        · rw [if_neg hlt']
          refine getT_out ?_
          rw [put_len, textLen j (by omega)]; exact Nat.le_of_not_lt hlt'
      · have hne : dstOf ops i ≠ some t := fun x => e (hinj hd x)
        have hne' : (ops[i]'(by omega)).dst ≠ some t := fun x => hne (by unfold dstOf; rw [ho]; simpa using x)
        cases hd' : (ops[i]'(by omega)).dst with
        | none => simp only [putT]; exact ih (by omega) j t (by omega) hd
        | some d =>
          simp only [putT]
          rw [getT_put_other (fun x => hne' (by rw [hd', x]))]
          exact ih (by omega) j t (by omega) hd
  have constS : ∀ k i, i + k ≤ ops.size → (∀ j, i ≤ j → j < i + k → wS ops j = false) → (sts (i + k)).S = (sts i).S ∧ (sts (i + k)).n = (sts i).n := by
    intro k
    induction k with
    | zero => intro i _ _; exact ⟨rfl, rfl⟩
    | succ k ih =>
      intro i hle hw
      have ho := Array.getElem?_eq_getElem (show i + k < ops.size by omega)
      have h1 := hw (i + k) (by omega) (by omega)
      unfold wS at h1; rw [ho] at h1
      have h2 := (stepT (i + k) _ ho).2.1 h1
      have h3 := ih i (by omega) fun j a b => hw j a (by omega)
      exact ⟨by rw [← h3.1, ← h2.1]; rfl, by rw [← h3.2, ← h2.2]; rfl⟩
  have constT : ∀ k i, i + k ≤ ops.size → (∀ j, i ≤ j → j < i + k → wT ops j = false) → (sts (i + k)).tk = (sts i).tk := by
    intro k
    induction k with
    | zero => intro i _ _; rfl
    | succ k ih =>
      intro i hle hw
      have ho := Array.getElem?_eq_getElem (show i + k < ops.size by omega)
      have h1 := hw (i + k) (by omega) (by omega)
      unfold wT at h1; rw [ho] at h1
      have h2 := (stepT (i + k) _ ho).2.2 h1
      have h3 := ih i (by omega) fun j a b => hw j a (by omega)
      rw [← h3, ← h2]; rfl
  -- what a load looks at
  have ldB : ∀ i o t q id ep off b, ops[i]? = some o → o.op = .load t (.tmp q) → ldBase st ops i o = some b → getT (sts i).T q = .ref id ep off → b = some id ∧ id < st.S.length := by
    intro i o t q id ep off b ho hop' hb hv
    have hil := (Array.getElem?_eq_some_iff.1 ho).1
    have base : ∀ x, unwr ops x = true → ∀ m, m ≤ ops.size → getT (sts m).T x = getT st.T x := by
      intro x hx m hm'
      refine text2 m hm' x fun j hj hd => ?_
      have := List.all_eq_true.1 hx j (by simp; omega)
      rw [hd] at this; simp at this
    unfold ldBase at hb
    rw [hop'] at hb
    simp only at hb
    split at hb
    · rename_i hu
      rw [← base q hu i (by omega), hv] at hb
      simp only at hb
      split at hb
      · rename_i hl; simp only [Option.some.injEq] at hb; exact ⟨hb.symm, hl⟩
      · simp at hb
    · obtain ⟨m, hm', hmb⟩ := List.exists_of_findSome?_eq_some hb
      have hmi : m < i := by simpa using hm'
      split at hmb
      · rename_i o1 hom
        split at hmb
        · rename_i d t' x k' hd1 hop1
          split at hmb
          · rename_i hdx
            obtain ⟨rfl, hux⟩ := hdx
            have hval := text1 i (by omega) m d hmi (by unfold dstOf; rw [hom]; exact hd1)
            rw [hv] at hval
            have hvm : val m = .ref id ep off := by
              split at hval
              · exact hval.symm
              · simp at hval
            rcases hstep' m _ hom with ⟨-, hsk, -⟩ | ⟨-, s1, hev, -⟩
            · rw [hsk] at hvm; simp at hvm
            · simp only [evO, evQ, hop1, Option.map_eq_some_iff, Prod.mk.injEq] at hev
              obtain ⟨v, hev, rfl, -⟩ := hev
              simp only [opv] at hev
              rw [base x hux m (by omega)] at hev
              unfold fldA at hev
              split at hev
              · rename_i hx
                simp only [Option.some.injEq] at hev
                rw [hvm] at hev; simp at hev
              · rename_i id0 e0 o0 hf hx
                rw [hx] at hmb
                simp only at hmb
                simp only [Option.some.injEq] at hev
                rw [hvm] at hev
                simp only [AV.ref.injEq] at hev
                obtain ⟨rfl, -⟩ := hev
                split at hmb
                · rename_i hl; simp only [Option.some.injEq] at hmb; exact ⟨hmb.symm, hl⟩
                · simp at hmb
              · simp at hev
          · simp at hmb
        · simp at hmb
      · simp at hmb
  have growS : ∀ m, m ≤ ops.size → st.S.length ≤ (sts m).S.length := by
    intro m
    induction m with
    | zero => intro _; rw [hs0]; exact Nat.le_refl _
    | succ m ih =>
      intro hlt
      have ho := Array.getElem?_eq_getElem (show m < ops.size by omega)
      refine Nat.le_trans (ih (by omega)) ?_
      rcases hstep' m _ ho with ⟨-, -, e⟩ | ⟨-, s1, hev, e⟩
      · rw [e]; exact Nat.le_refl _
      · rw [e]
        by_cases hw : wrS (ops[m]'(by omega)) = true
        · unfold wrS at hw
          unfold evO at hev
          split at hev
          · rename_i h'; rw [h'] at hw; simp at hw
          · simp only [Option.map_eq_some_iff, Prod.mk.injEq] at hev
            obtain ⟨S', hst, -, rfl⟩ := hev
            unfold stA at hst
            split at hst
            · split at hst
              · split at hst
                · split at hst
                  · simp only [Option.some.injEq] at hst; subst hst; simp [put_len]
                  · simp at hst
                · simp at hst
              · simp at hst
            · simp at hst
          · simp only [Option.map_eq_some_iff, Prod.mk.injEq] at hev
            obtain ⟨cs, -, -, rfl⟩ := hev
            simp
          · simp only [Option.map_eq_some_iff, Prod.mk.injEq] at hev
            obtain ⟨cs, -, -, rfl⟩ := hev
            simp
          · rename_i t l c h'
            rw [h'] at hw
            have hl : len0 l = false := by simpa using hw
            simp only [Option.map_eq_some_iff, Prod.exists, hl] at hev
            obtain ⟨l', sz, cs, -, hh⟩ := hev
            rw [if_neg (by simp)] at hh
            simp only [Prod.mk.injEq] at hh
            obtain ⟨-, rfl⟩ := hh
            simp
          · rename_i c h'
            rw [h'] at hw
            simp only at hw
            cases hcal : c.callee with
            | builtin b =>
              rw [hcal] at hw
              cases b <;> simp at hw
              simp only [hcal] at hev
              split at hev
              · simp only [Option.map_eq_some_iff, Prod.mk.injEq, Prod.exists] at hev
                obtain ⟨mm, S', hcp, -, rfl⟩ := hev
                rw [cpA_len hcp]; exact Nat.le_refl _
              · simp at hev
            | value x =>
              simp only [hcal] at hev
              split at hev
              · simp only [Option.map_eq_some_iff, Prod.mk.injEq, Prod.exists] at hev
                obtain ⟨r, S', tk', n', hcl, -, rfl⟩ := hev
                have := (hi _ _ _ _ _ _ _ _ _ hcl).1
                simp only [this]; exact Nat.le_refl _
              · simp at hev
            | invoke _ _ => rw [hcal] at hw; simp at hw
          · rename_i h1 h2 h3 h4 h5 h6
            split at hw
            · exact absurd (by assumption) (h2 _ _ _)
            · exact absurd (by assumption) (h3 _)
            · exact absurd (by assumption) (h4 _ _)
            · exact absurd (by assumption) (h5 _ _ _)
            · exact absurd (by assumption) (h6 _)
            · simp at hw
        · have := (evO_frame hi (hop m _ ho).1 hev).2.1 (by simpa using hw)
          rw [this.1]; exact Nat.le_refl _
  -- a writer that is apart leaves the entry alone
  have apartStep : ∀ i o k pk t q id ep off, ops[i]? = some o → ops[k]? = some pk → o.op = .load t (.tmp q) → getT (sts i).T q = .ref id ep off → apartS st ops i o pk = true → wrS pk = true → nth (sts (k + 1)).S id = nth (sts k).S id := by
    intro i o k pk t q id ep off ho hk hlo hv hap hwk
    have hkl := (Array.getElem?_eq_some_iff.1 hk).1
    unfold apartS at hap
    cases hb : ldBase st ops i o with
    | none => rw [hb] at hap; simp at hap
    | some b =>
      obtain ⟨rfl, hidl⟩ := ldB i o t q id ep off b ho hlo hb hv
      rw [hb] at hap
      simp only at hap
      have hgrow := growS k (by omega)
      rcases hstep' k pk hk with ⟨-, -, e⟩ | ⟨-, s1, hev, e⟩
      · rw [e]
      · rw [e]
        unfold evO at hev
        split at hap
        · rename_i t' q' x' hpo
          simp only [Bool.and_eq_true] at hap
          obtain ⟨hu, hne⟩ := hap
          simp only [hpo, Option.map_eq_some_iff, Prod.mk.injEq] at hev
          obtain ⟨S', hst, -, rfl⟩ := hev
          have hq : getT (sts k).T q' = getT st.T q' := text2 k (by omega) q' fun j hj hd => by
            have := List.all_eq_true.1 hu j (by simp; omega)
            rw [hd] at this; simp at this
          simp only [opv] at hst
          rw [hq] at hst
          split at hne
          · rename_i id' e' o' hx
            rw [hx] at hst
            simp only [decide_eq_true_eq] at hne
            exact stA_other hst (fun h => hne h.symm)
          · simp at hne
        · rename_i t' hpo
          simp only [hpo, Option.map_eq_some_iff, Prod.mk.injEq] at hev
          obtain ⟨cs, -, -, rfl⟩ := hev
          simp only
          rw [nth_get, nth_get, List.getElem?_append_left (by omega)]
        · rename_i t' x' hpo
          simp only [hpo, Option.map_eq_some_iff, Prod.mk.injEq] at hev
          obtain ⟨cs, -, -, rfl⟩ := hev
          simp only
          rw [nth_get, nth_get, List.getElem?_append_left (by omega)]
        · rename_i t' l' c' hpo
          simp only [hpo, Option.map_eq_some_iff, Prod.exists] at hev
          obtain ⟨l0, sz0, cs0, -, hh⟩ := hev
          split at hh
          · simp only [Prod.mk.injEq] at hh
            obtain ⟨-, rfl⟩ := hh
            rfl
          · simp only [Prod.mk.injEq] at hh
            obtain ⟨-, rfl⟩ := hh
            simp only
            rw [nth_get, nth_get, List.getElem?_append_left (by omega)]
        · rename_i c hpo
          split at hap
          · rename_i x hcal
            simp only [hpo, hcal] at hev
            split at hev
            · simp only [Option.map_eq_some_iff, Prod.mk.injEq, Prod.exists] at hev
              obtain ⟨r, S', tk', n', hcl, -, rfl⟩ := hev
              have := (hi _ _ _ _ _ _ _ _ _ hcl).1
              simp only [this]
            · simp at hev
          · simp at hap
        · simp at hap
  have constE : ∀ id k i, i + k ≤ ops.size → (∀ j p, i ≤ j → j < i + k → ops[j]? = some p → wrS p = true → nth (sts (j + 1)).S id = nth (sts j).S id) → nth (sts (i + k)).S id = nth (sts i).S id := by
    intro id k
    induction k with
    | zero => intro i _ _; rfl
    | succ k ih =>
      intro i hle hw
      have ho := Array.getElem?_eq_getElem (show i + k < ops.size by omega)
      have h3 := ih i (by omega) fun j p a b => hw j p a (by omega)
      rw [← h3]
      show nth (sts (i + k + 1)).S id = _
      by_cases hwk : wrS (ops[i + k]'(by omega)) = true
      · exact hw (i + k) _ (by omega) (by omega) ho hwk
      · rw [((stepT (i + k) _ ho).2.1 (by simpa using hwk)).1]
  refine wp_region_any hm ?_
  -- at the end
  have fin : ∀ {listed : Array Bool} {s : St}, DInv ops st sts val listed s → (∀ j, j < ops.size → listed.getD j false = true) → s = st' := by
    intro listed s hD hl
    have eT : s.T = st'.T := by
      refine getT_ext (by rw [hD.lenT, ← hsn, textLen _ (Nat.le_refl _)]) fun t => ?_
      rw [← hsn]
      by_cases hx : ∃ j, dstOf ops j = some t
      · obtain ⟨j, hj⟩ := hx
        obtain ⟨o, ho, -⟩ := hdst hj
        have hlt := (Array.getElem?_eq_some_iff.1 ho).1
        rw [hD.t1 j t (hl j hlt) hj, text1 _ (Nat.le_refl _) j t hlt hj]
      · rw [hD.t2 t fun j _ hj => hx ⟨j, hj⟩, text2 _ (Nat.le_refl _) t fun j _ hj => hx ⟨j, hj⟩]
    obtain ⟨c, hc1, hc2, hc3⟩ := hD.cS
    obtain ⟨c', hc4, hc5⟩ := hD.cT
    have e1 : c = ops.size := by
      rcases Nat.lt_or_ge c ops.size with h | h
      · have := (hc1.2.2 h).2; rw [hl c h] at this; simp at this
      · have := hc1.1; omega
    have e2 : c' = ops.size := by
      rcases Nat.lt_or_ge c' ops.size with h | h
      · have := (hc4.2.2 h).2; rw [hl c' h] at this; simp at this
      · have := hc4.1; omega
    subst e1
    rw [e2] at hc5
    rw [hsn] at hc2 hc3 hc5
    cases s; cases st'
    simp_all
  have none_ready : ∀ {listed : Array Bool} {s : St}, DInv ops st sts val listed s → Region.ready .any ops listed = [] → ∀ j, j < ops.size → listed.getD j false = true := by
    intro listed s hD hnil j
    induction j using Nat.strongRecOn with
    | _ j ihj =>
      intro hj
      cases hl : listed.getD j false with
      | true => rfl
      | false =>
        exfalso
        have ho : ops[j]? = some (ops[j]'hj) := Array.getElem?_eq_getElem hj
        have : j ∈ Region.ready .any ops listed := by
          apply mem_ready.2
          refine ⟨?_, _, ho, fun e he hb => ?_⟩
          · have hjl : j < listed.size := by rw [hD.len]; exact hj
            simpa [Array.getD, hjl] using hl
          · have hm' : e.on ∈ depsOf ops j := by
              unfold depsOf; rw [ho]
              exact List.mem_map.2 ⟨e, List.mem_filter.2 ⟨by simpa using he, hb⟩, rfl⟩
            have := (hop j _ ho).2.1 _ hm'
            exact ihj _ this (by omega)
        rw [hnil] at this; simp at this
  -- one step
  have step : ∀ {listed : Array Bool} {s : St}, DInv ops st sts val listed s → ∀ i ∈ Region.ready .any ops listed, ∃ o, ops[i]? = some o ∧ listed.getD i false = false ∧
      ∃ b s2, wantA ops.toList s.T o = some b ∧ (b = true → evO P call o s = some (val i, s2)) ∧ (b = false → val i = .prim undef ∧ s2 = s) ∧ s2.T = s.T ∧ DInv ops st sts val (listed.setIfInBounds i true) { s2 with T := putT s2.T o.dst (val i) } := by
    intro listed s hD i hri
    obtain ⟨h0, o, ho, hdeps⟩ := ready_of hri
    obtain ⟨hun, hil⟩ := unlisted_false h0
    rw [hD.len] at hil
    refine ⟨o, ho, hun, ?_⟩
    have hreach := reach_listed hD.closed hdeps
    have hback : ∀ j, listed.getD j false = true → i ∈ reachAt ops j → False := fun j hj hr' => by
      have := reach_listed hD.closed (hD.closed j hj) i hr'
      rw [hun] at this; simp at this
    obtain ⟨hsel, hdlt, hgd, hdd, hops⟩ := hop i o ho
    -- the values of temporaries
    have agree : ∀ t, (∀ j, dstOf ops j = some t → j = i ∨ j ∈ reachAt ops i ∨ i ∈ reachAt ops j) → getT s.T t = getT (sts i).T t := by
      intro t ht
      by_cases hx : ∃ j, listed.getD j false = true ∧ dstOf ops j = some t
      · obtain ⟨j, hj, hjd⟩ := hx
        have hji : j < i := by
          rcases ht j hjd with e | e | e
          · subst e; rw [hun] at hj; simp at hj
          · -- what is reached comes before
            have : ∀ e ∈ reachAt ops i, e < i := by
              unfold reachAt
              have key : ∀ (l : List Nat) (s : List Nat), (∀ e ∈ s, e < i) → ∀ e ∈ l.foldl (fun s j => if s.contains j then depsOf ops j ++ s else s) s, e < i := by
                intro l
                induction l with
                | nil => intro s hs; exact hs
                | cons j l ih =>
                  intro s hs
                  simp only [List.foldl_cons]
                  apply ih
                  split
                  · rename_i hj
                    intro e he
                    rcases List.mem_append.1 he with h | h
                    · have hjlt := hs j (by simpa using hj)
                      cases hx : ops[j]? with
                      | none => unfold depsOf at h; rw [hx] at h; simp at h
                      | some p => have := (hop j p hx).2.1 e h; omega
                    · exact hs e h
                  · exact hs
              exact key _ _ hdlt
            exact this j e
          · exact (hback j hj e).elim
        rw [hD.t1 j t hj hjd, text1 i (by omega) j t hji hjd]
      · rw [hD.t2 t fun j hj hjd => hx ⟨j, hj, hjd⟩, text2 i (by omega) t fun j hj hjd => ?_]
        rcases ht j hjd with e | e | e
        · omega
        · exact hx ⟨j, hreach j e, hjd⟩
        · -- i before j in the order, j before i in the text: not so
          have : i < j := by
            have key : ∀ (l : List Nat) (s : List Nat), (∀ e ∈ s, e < j) → ∀ e ∈ l.foldl (fun s j => if s.contains j then depsOf ops j ++ s else s) s, e < j := by
              intro l
              induction l with
              | nil => intro s hs; exact hs
              | cons k l ih =>
                intro s hs
                simp only [List.foldl_cons]
                apply ih
                split
                · rename_i hk
                  intro e he
                  rcases List.mem_append.1 he with h | h
                  · have hklt := hs k (by simpa using hk)
                    cases hx : ops[k]? with
                    | none => unfold depsOf at h; rw [hx] at h; simp at h
                    | some p => have := (hop k p hx).2.1 e h; omega
                  · exact hs e h
                · exact hs
            obtain ⟨p, hp, -⟩ := hdst hjd
            exact key _ _ (hop j p hp).2.1 i e
          omega
    have agreeO : ∀ x ∈ o.op.operands, opv s.T x = opv (sts i).T x := by
      intro x hx
      cases x with
      | tmp t => exact agree t (hops t hx)
      | _ => rfl
    have agreeG : wantA ops.toList s.T o = wantA ops.toList (sts i).T o := by
      unfold wantA
      cases hg : o.guard with
      | none => rfl
      | some gw =>
        obtain ⟨g, w⟩ := gw
        have hgm := hgd g w hg
        simp only
        cases hgb : (nth ops.toList g).bind (·.dst) with
        | none => rfl
        | some d =>
          have hd' : dstOf ops g = some d := by unfold dstOf; rw [nth_get] at hgb; simpa using hgb
          have : getT s.T d = getT (sts i).T d := agree d fun j hj => by
            have := hinj hj hd'
            subst this
            right; left
            have key : ∀ (l : List Nat) (s : List Nat) (x : Nat), x ∈ s → x ∈ l.foldl (fun s j => if s.contains j then depsOf ops j ++ s else s) s := by
              intro l
              induction l with
              | nil => intro s x hs; exact hs
              | cons k l ih =>
                intro s x hs
                simp only [List.foldl_cons]
                apply ih
                split
                · exact List.mem_append_right _ hs
                · exact hs
            exact key _ _ _ hgm
          simp only [this]
    -- the variables
    have confl : ∀ j p, ops[j]? = some p → conf p o = true → conf o p = true → j ≠ i → (listed.getD j false = true ↔ j < i) := by
      intro j p hp h1 h2 hne
      rcases Nat.lt_or_gt_of_ne hne with hlt | hgt
      · exact ⟨fun _ => hlt, fun _ => hreach j ((hall i o ho).2 j p hlt hp h1)⟩
      · exact ⟨fun hl => (hback j hl ((hall j p hp).2 i o hgt ho h2)).elim, fun h => by omega⟩
    have curS : (wrS o = true ∨ rdA o = true) → s.S = (sts i).S ∧ s.n = (sts i).n ∧ (wrS o = true → IsCur (wS ops) listed ops.size i) := by
      intro hrw
      obtain ⟨c, hc1, hc2, hc3⟩ := hD.cS
      have hw : ∀ j, j ≠ i → wS ops j = true → (listed.getD j false = true ↔ j < i) := by
        intro j hne hwj
        unfold wS at hwj
        cases hp : ops[j]? with
        | none => rw [hp] at hwj; simp at hwj
        | some p =>
          rw [hp] at hwj
          refine confl j p hp ?_ ?_ hne
          · rcases hrw with hrw | hrw <;> simp [conf, hwj, hrw]
          · rcases hrw with hrw | hrw <;> simp [conf, hwj, hrw]
      rcases Nat.lt_trichotomy c i with hlt | heq | hgt
      · have := hc1.2.2 (by omega)
        have h2 := (hw c (by omega) this.1).2 hlt
        rw [this.2] at h2; simp at h2
      · subst heq; exact ⟨hc2, hc3, fun _ => hc1⟩
      · have hnw : wrS o = false := by
          cases hwo : wrS o with
          | false => rfl
          | true =>
            have := hc1.2.1 i hgt (by unfold wS; rw [ho]; exact hwo)
            rw [hun] at this; simp at this
        have hno : ∀ j, i ≤ j → j < i + (c - i) → wS ops j = false := by
          intro j h1 h2
          by_cases e : j = i
          · subst e; unfold wS; rw [ho]; exact hnw
          · cases hwj : wS ops j with
            | false => rfl
            | true =>
              have h3 := hc1.2.1 j (by omega) hwj
              have := (hw j e hwj).1 h3
              omega
        have := constS (c - i) i (by have := hc1.1; omega) hno
        rw [show i + (c - i) = c from by omega] at this
        exact ⟨by rw [hc2, this.1], by rw [hc3, this.2], fun h => by rw [hnw] at h; simp at h⟩
    have curR : ∀ t x id ep off, o.op = .load t x → opv (sts i).T x = .ref id ep off → nth s.S id = nth (sts i).S id := by
      intro t x id ep off hlo hv
      cases x with
      | tmp q =>
        simp only [opv] at hv
        have hrd : rdS o = true := by unfold rdS; rw [hlo]
        have hnw : wrS o = false := by unfold wrS; rw [hlo]
        obtain ⟨c, hc1, hc2, -⟩ := hD.cS
        have nord : ∀ pk, wrS pk = true → rdS pk = false := by
          intro pk hw
          unfold wrS at hw
          unfold rdS
          split at hw <;> rename_i h' <;> first | (rw [h']) | simp at hw
        rw [hc2]
        rcases Nat.lt_or_ge c i with hlt | hge
        · have := constE id (i - c) c (by omega) fun k pk h1 h2 hk hwk => ?_
          · rw [show c + (i - c) = i from by omega] at this; exact this.symm
          · have hku : listed.getD k false = false := by
              cases hlk : listed.getD k false with
              | false => rfl
              | true =>
                have hcu := (hc1.2.2 (by omega)).2
                by_cases hck : k = c
                · subst hck; rw [hlk] at hcu; simp at hcu
                · have hwc := (hc1.2.2 (by omega)).1
                  unfold wS at hwc
                  cases hpc : ops[c]? with
                  | none => rw [hpc] at hwc; simp at hwc
                  | some pc =>
                    rw [hpc] at hwc
                    have := reach_listed hD.closed (hD.closed k hlk) c ((hall k pk hk).2 c pc (by omega) hpc (by simp [conf, hwc, hwk]))
                    rw [hcu] at this; simp at this
            have hki : k < i := by omega
            rcases hrw i o ho k pk hki hk (by simp [hwk, hrd]) with h3 | h3
            · have := hreach k h3; rw [hku] at this; simp at this
            · rw [if_pos hrd] at h3
              exact apartStep i o k pk t q id ep off ho hk hlo hv h3 hwk
        · have := constE id (c - i) i (by have := hc1.1; omega) fun k pk h1 h2 hk hwk => ?_
          · rw [show i + (c - i) = c from by omega] at this; exact this
          · have hki : k ≠ i := fun e => by
              subst e
              rw [ho] at hk
              simp only [Option.some.injEq] at hk
              subst hk
              rw [hnw] at hwk; simp at hwk
            have hlk := hc1.2.1 k (by omega) (by unfold wS; rw [hk]; exact hwk)
            rcases hrw k pk hk i o (by omega) ho (by simp [hwk, hrd]) with h3 | h3
            · exact (hback k hlk h3).elim
            · rw [if_neg (by rw [nord pk hwk]; simp)] at h3
              exact apartStep i o k pk t q id ep off ho hk hlo hv h3 hwk
      | const v => simp only [opv] at hv; unfold cst at hv; split at hv; (· simp at hv); (· unfold cst1 at hv; split at hv <;> simp at hv)
      | global g => simp [opv] at hv
      | func f => simp [opv] at hv
    have curT : (wrT o = true ∨ rdA o = true) → s.tk = (sts i).tk ∧ (wrT o = true → IsCur (wT ops) listed ops.size i) := by
      intro hrw
      obtain ⟨c, hc1, hc2⟩ := hD.cT
      have hw : ∀ j, j ≠ i → wT ops j = true → (listed.getD j false = true ↔ j < i) := by
        intro j hne hwj
        unfold wT at hwj
        cases hp : ops[j]? with
        | none => rw [hp] at hwj; simp at hwj
        | some p =>
          rw [hp] at hwj
          refine confl j p hp ?_ ?_ hne
          · rcases hrw with hrw | hrw <;> simp [conf, hwj, hrw]
          · rcases hrw with hrw | hrw <;> simp [conf, hwj, hrw]
      rcases Nat.lt_trichotomy c i with hlt | heq | hgt
      · have := hc1.2.2 (by omega)
        have h2 := (hw c (by omega) this.1).2 hlt
        rw [this.2] at h2; simp at h2
      · subst heq; exact ⟨hc2, fun _ => hc1⟩
      · have hnw : wrT o = false := by
          cases hwo : wrT o with
          | false => rfl
          | true =>
            have := hc1.2.1 i hgt (by unfold wT; rw [ho]; exact hwo)
            rw [hun] at this; simp at this
        have hno : ∀ j, i ≤ j → j < i + (c - i) → wT ops j = false := by
          intro j h1 h2
          by_cases e : j = i
          · subst e; unfold wT; rw [ho]; exact hnw
          · cases hwj : wT ops j with
            | false => rfl
            | true =>
              have h3 := hc1.2.1 j (by omega) hwj
              have := (hw j e hwj).1 h3
              omega
        have := constT (c - i) i (by have := hc1.1; omega) hno
        rw [show i + (c - i) = c from by omega] at this
        exact ⟨by rw [hc2, this], fun h => by rw [hnw] at h; simp at h⟩
    -- what comes of it
    obtain ⟨st1, st2, st3⟩ := stepT i o ho
    have fromS : ∀ {s2 : St}, s2.T = s.T → (wrS o = true → s2.S = (sts (i + 1)).S ∧ s2.n = (sts (i + 1)).n) → (wrS o = false → s2.S = s.S ∧ s2.n = s.n) → (wrT o = true → s2.tk = (sts (i + 1)).tk) → (wrT o = false → s2.tk = s.tk) →
        DInv ops st sts val (listed.setIfInBounds i true) { s2 with T := putT s2.T o.dst (val i) } := by
      intro s2 eT k1 k2 k3 k4
      have hset : ∀ j, (listed.setIfInBounds i true).getD j false = true ↔ j = i ∨ listed.getD j false = true := by
        intro j
        by_cases e : i = j
        · subst e
          simp [getD_set_same' (l := listed) (b := true) (d := false) (show i < listed.size by rw [hD.len]; exact hil)]
        · rw [getD_set_ne' e]
          exact ⟨.inr, fun h => h.resolve_left fun x => e x.symm⟩
      refine ⟨by simp [hD.len], fun j hj e he => (hset e).2 (.inr ?_), by simp only [putT_length, eT, hD.lenT], fun j t hj hd => ?_, fun t ht => ?_, ?_, ?_⟩
      · rcases (hset j).1 hj with rfl | hj
        · exact hdeps e he
        · exact hD.closed j hj e he
      · simp only [eT]
        rcases (hset j).1 hj with rfl | hj'
        · have hd' : o.dst = some t := by unfold dstOf at hd; rw [ho] at hd; simpa using hd
          rw [hd']
          simp only [putT]
          by_cases hlt' : t < st.T.length
          · rw [if_pos hlt']
            exact getT_put_same (by rw [hD.lenT]; exact hlt')
          · rw [if_neg hlt']
            refine getT_out ?_
            rw [put_len, hD.lenT]; exact Nat.le_of_not_lt hlt'
        · have hne : o.dst ≠ some t := fun x => by
            have : dstOf ops i = some t := by unfold dstOf; rw [ho]; simpa using x
            have := hinj this hd
            subst this
            rw [hun] at hj'; simp at hj'
          cases hd' : o.dst with
          | none => simp only [putT]; exact hD.t1 j t hj' hd
          | some d =>
            simp only [putT]
            rw [getT_put_other (fun x => hne (by rw [hd', x]))]
            exact hD.t1 j t hj' hd
      · simp only [eT]
        have hne : o.dst ≠ some t := fun x => ht i ((hset i).2 (.inl rfl)) (by unfold dstOf; rw [ho]; simpa using x)
        have h3 := hD.t2 t fun j hj => ht j ((hset j).2 (.inr hj))
        cases hd' : o.dst with
        | none => simp only [putT]; exact h3
        | some d =>
          simp only [putT]
          rw [getT_put_other (fun x => hne (by rw [hd', x]))]
          exact h3
      · cases hwo : wrS o with
        | false =>
          obtain ⟨c, hc1, hc2, hc3⟩ := hD.cS
          have hci : c ≠ i := fun e => by
            subst e
            have := (hc1.2.2 hil).1
            unfold wS at this; rw [ho] at this
            simp only at this
            rw [hwo] at this; simp at this
          refine ⟨c, ⟨hc1.1, fun j hj hw => (hset j).2 (.inr (hc1.2.1 j hj hw)), fun hlt => ⟨(hc1.2.2 hlt).1, ?_⟩⟩, by simp only [(k2 hwo).1, hc2], by simp only [(k2 hwo).2, hc3]⟩
          rw [getD_set_ne' (fun e => hci e.symm)]; exact (hc1.2.2 hlt).2
        | true =>
          have hcur := (curS (.inl hwo)).2.2 hwo
          obtain ⟨c, g1, g2, g3⟩ := cur_from (wS ops) (listed.setIfInBounds i true) ops.size ops.size (i + 1) (by omega) (by omega) (fun j hj hw => (hset j).2 (by
            by_cases e : j = i
            · exact .inl e
            · exact .inr (hcur.2.1 j (by omega) hw)))
          have hno : ∀ j, i + 1 ≤ j → j < (i + 1) + (c - (i + 1)) → wS ops j = false := by
            intro j h1 h2
            cases hwj : wS ops j with
            | false => rfl
            | true =>
              have h3 := g3 j h1 (by omega) hwj
              rcases (hset j).1 h3 with h4 | h4
              · omega
              · exfalso
                unfold wS at hwj
                cases hp : ops[j]? with
                | none => rw [hp] at hwj; simp at hwj
                | some p =>
                  rw [hp] at hwj
                  have := (confl j p hp (by simp [conf, hwj, hwo]) (by simp [conf, hwj, hwo]) (by omega)).1 h4
                  omega
          have := constS (c - (i + 1)) (i + 1) (by have := g2.1; omega) hno
          rw [show i + 1 + (c - (i + 1)) = c from by omega] at this
          exact ⟨c, g2, by simp only [(k1 hwo).1, this.1], by simp only [(k1 hwo).2, this.2]⟩
      · cases hwo : wrT o with
        | false =>
          obtain ⟨c, hc1, hc2⟩ := hD.cT
          have hci : c ≠ i := fun e => by
            subst e
            have := (hc1.2.2 hil).1
            unfold wT at this; rw [ho] at this
            simp only at this
            rw [hwo] at this; simp at this
          refine ⟨c, ⟨hc1.1, fun j hj hw => (hset j).2 (.inr (hc1.2.1 j hj hw)), fun hlt => ⟨(hc1.2.2 hlt).1, ?_⟩⟩, by simp only [k4 hwo, hc2]⟩
          rw [getD_set_ne' (fun e => hci e.symm)]; exact (hc1.2.2 hlt).2
        | true =>
          have hcur := (curT (.inl hwo)).2 hwo
          obtain ⟨c, g1, g2, g3⟩ := cur_from (wT ops) (listed.setIfInBounds i true) ops.size ops.size (i + 1) (by omega) (by omega) (fun j hj hw => (hset j).2 (by
            by_cases e : j = i
            · exact .inl e
            · exact .inr (hcur.2.1 j (by omega) hw)))
          have hno : ∀ j, i + 1 ≤ j → j < (i + 1) + (c - (i + 1)) → wT ops j = false := by
            intro j h1 h2
            cases hwj : wT ops j with
            | false => rfl
            | true =>
              have h3 := g3 j h1 (by omega) hwj
              rcases (hset j).1 h3 with h4 | h4
              · omega
              · exfalso
                unfold wT at hwj
                cases hp : ops[j]? with
                | none => rw [hp] at hwj; simp at hwj
                | some p =>
                  rw [hp] at hwj
                  have := (confl j p hp (by simp [conf, hwj, hwo]) (by simp [conf, hwj, hwo]) (by omega)).1 h4
                  omega
          have := constT (c - (i + 1)) (i + 1) (by have := g2.1; omega) hno
          rw [show i + 1 + (c - (i + 1)) = c from by omega] at this
          exact ⟨c, g2, by simp only [k3 hwo, this]⟩
    rcases hstep' i o ho with ⟨hw, hv, he⟩ | ⟨hw, s1, h1, he⟩
    · refine ⟨false, s, by rw [agreeG]; exact hw, by simp, fun _ => ⟨hv, rfl⟩, rfl, fromS rfl (fun hwo => ?_) (fun _ => ⟨rfl, rfl⟩) (fun hwo => ?_) (fun _ => rfl)⟩
      · rw [he]; exact ⟨(curS (.inl hwo)).1, (curS (.inl hwo)).2.1⟩
      · rw [he]; exact (curT (.inl hwo)).1
    · obtain ⟨g1, g2, g3, g4⟩ := evO_frame hi hsel h1
      obtain ⟨s2, e1, e2, e3, e4, e5, e6⟩ := g4 s agreeO curR (fun hwo => ⟨(curS (.inl hwo)).1, (curS (.inl hwo)).2.1⟩) (fun hwo => (curT (.inl hwo)).1) (fun hA => ⟨(curS (.inr hA)).1, (curS (.inr hA)).2.1, (curT (.inr hA)).1⟩)
      refine ⟨true, s2, by rw [agreeG]; exact hw, fun _ => e1, by simp, e2, fromS e2 (fun hwo => ?_) e4 (fun hwo => ?_) e6⟩
      · rw [he]; exact e3 hwo
      · rw [he]; exact e5 hwo
  -- any order
  have main : ∀ (fuel : Nat) (listed : Array Bool) (s : St) (C1 : Cx) (a1 : Act), unlistedCount listed ops.size ≤ fuel → Le C C1 → Rel C1 s a1 → DInv ops st sts val listed s → wpAny P .any ops Q fuel listed a1 C1.w := by
    have done : ∀ {listed : Array Bool} {s : St} {C1 : Cx} {a1 : Act}, Le C C1 → Rel C1 s a1 → DInv ops st sts val listed s → (∀ j, j < ops.size → listed.getD j false = true) → Q .normal a1 C1.w := by
      intro listed s C1 a1 hle hr1 hD hl
      have e := fin hD hl
      subst e
      exact hQ a1 C1 hle hr1
    intro fuel
    induction fuel with
    | zero =>
      intro listed s C1 a1 hcnt hle hr1 hD
      have hl : ∀ j, j < ops.size → listed.getD j false = true := by
        intro j hj
        have h0 : unlistedCount listed ops.size = 0 := by omega
        unfold unlistedCount at h0
        rw [List.countP_eq_zero] at h0
        have := h0 j (by simpa using hj)
        simpa using this
      refine ⟨?_, done hle hr1 hD hl⟩
      cases hrd : Region.ready .any ops listed with
      | nil => rfl
      | cons x l =>
        have hx : x ∈ Region.ready .any ops listed := by rw [hrd]; simp
        obtain ⟨o, ho, hun, -⟩ := step hD x hx
        rw [hl x (Array.getElem?_eq_some_iff.1 ho).1] at hun; simp at hun
    | succ fuel ih =>
      intro listed s C1 a1 hcnt hle hr1 hD
      refine ⟨fun hnil => done hle hr1 hD (none_ready hD hnil), fun i hri => ?_⟩
      obtain ⟨o, ho, hun, b, s2, hw, hb1, hb2, hT, hD2⟩ := step hD i hri
      have hcnt2 := unlisted_set (Array.getElem?_eq_some_iff.1 ho).1 hD.len hun
      have hwanted := wantA_sound hr1.tmps hw
      unfold wpOp
      simp only [ho]
      cases b with
      | false =>
        rw [if_neg (by rw [hwanted]; simp)]
        obtain ⟨hv, rfl⟩ := hb2 rfl
        refine ih _ _ C1 _ (by omega) hle ?_ hD2
        rw [hv]
        exact hr1.put (Le.refl C1) hr1.sr hr1.S hr1.tk hr1.n (by simp only [VR]) rfl
      | true =>
        rw [if_pos hwanted]
        refine .inl (evO_sound hc hr1 (hb1 rfl) fun u C2 k1 k2 k3 k4 k5 k6 => ?_).1
        exact ih _ _ C2 _ (by omega) (hle.trans k1) (hr1.put k1 k2 k3 k4 k5 k6 hT) hD2
  have hbel : Below C.w.heap.size C.w C.w.drew := (Below.refl _ _).drew
  refine main ops.size _ st (C.at C.w.drew) a ?_ (Le.of_below hbel) ⟨hr.S, hr.tk, hr.n, VRs.mono (Le.of_below hbel) _ _ hr.tmps, hr.defers, SR.of_below hr.sr hbel⟩ ⟨by simp, ?_, rfl, ?_, fun t _ => rfl, ?_, ?_⟩
  · unfold unlistedCount
    exact Nat.le_trans List.countP_le_length (by simp)
  · intro j hj; simp [Array.getD] at hj
  · intro j t hj; simp [Array.getD] at hj
  · obtain ⟨c, h1, h2, h3⟩ := cur_from (wS ops) (Array.replicate ops.size false) ops.size ops.size 0 (by omega) (by omega) (by intro j hj; omega)
    have hno : ∀ j, 0 ≤ j → j < 0 + c → wS ops j = false := by
      intro j _ hj
      cases hwj : wS ops j with
      | false => rfl
      | true =>
        have := h2.2.1 j (by omega) hwj
        simp [Array.getD] at this
    have := constS c 0 (by have := h2.1; omega) hno
    rw [Nat.zero_add, hs0] at this
    exact ⟨c, h2, this.1.symm, this.2.symm⟩
  · obtain ⟨c, h1, h2, h3⟩ := cur_from (wT ops) (Array.replicate ops.size false) ops.size ops.size 0 (by omega) (by omega) (by intro j hj; omega)
    have hno : ∀ j, 0 ≤ j → j < 0 + c → wT ops j = false := by
      intro j _ hj
      cases hwj : wT ops j with
      | false => rfl
      | true =>
        have := h2.2.1 j (by omega) hwj
        simp [Array.getD] at this
    have := constT c 0 (by have := h2.1; omega) hno
    rw [Nat.zero_add, hs0] at this
    exact ⟨c, h2, this.symm⟩
theorem drawOk_sound [Globs] (hm : P.follows .mixedOrders = true) : DrawOk P drawOk := by
  intro call hc ops hi id C st st' a Q hok hr h hQ
  exact @drawOk0_sound P (gM (qm ops.toList)) hm call (CallOk_M hc) hi ops id C st st' a Q hok (Rel_M.2 hr) h (fun a' C' hle hr' => hQ a' C' hle (Rel_M.1 hr'))
end
end Go.Proofs.YtokncdoejnchfaaDoor
