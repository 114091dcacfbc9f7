/-
  Texts laid together: InvC, MC1.
-/
import Derived.Test.YtcandeobhlfkbaaZF13
import Derived.OrdersIn
import Derived.TacticsIn
/-
  The rule for drawn regions inside the wide fence.
-/



namespace Go.Proofs.Ytcandeobhlfkbaa.Iv
open Go Go.RowKit
section
variable {P : Program} {ops : Array Oper} {a0 : Act} {R1 R2 : World → Prop} {S : World → World → Prop} {Φ : Nat → World → Value → Prop} {m s n0 : Nat}
theorem wideSkip {A : Prop} {o : Oper} {w : World} {a : Act} (h : A) : (∀ f, o.about P w a.eval = some f → Fence.wide.fn f) ∧ A := ⟨fun _ _ => trivial, h⟩
theorem wpIn_of_gives {o : Oper} {a a' : Act} {w : World} {K : Act → World → Prop} {Q : Exit → Act → World → Prop} (he : execOp a'.eval o = execOp a.eval o)
    (h : Oper.gives P o a w fun v w' => K (a'.put o.dst v) w') : o.wpIn Fence.wide n0 P a' w K Q := by
  unfold Oper.gives at h
  unfold Oper.wpIn
  refine ⟨fun _ _ => trivial, ?_⟩
  have e : o.semAt Fence.wide.round a'.eval = execOp a.eval o := he
  rw [e]
  generalize (execOp a.eval o).run P w = r at *
  cases r with
  | ok n w' =>
    cases n <;> (try unfold Oper.uponIn) <;> dsimp only at h ⊢
    case value v => exact h
    case skip => exact h
    case enter f args => exact ⟨fun h0 => absurd h0 (by decide), CallsIn.mono (callsIn_wide.2 h) fun e w'' he => by cases e <;> first | exact he | exact False.elim he⟩
    case row row args => exact ⟨fun h0 => absurd h0 (by decide), fun c cs _ => let ⟨v, w'', r, s⟩ := h c cs; ⟨v, w'', r, stepsIn_wide.2 s⟩⟩
  | halt x w' => exact False.elim h
/-- from the tail on there is one order -/
theorem any_tailIn (hfit : regionFits ops a0.tmps.size m = true) {Q : Exit → Act → World → Prop} : ∀ (fuel k : Nat) (listed : Array Bool) (a : Act) (w : World), ops.size - k ≤ fuel → m ≤ k → listed.size = ops.size →
    (∀ j, listed.getD j false = true ↔ j < k) → k ≤ ops.size → wpOpsIn Fence.wide n0 P ops Q (List.range' k (ops.size - k)) a w → wpAnyIn Fence.wide n0 P .any ops Q fuel listed a w := by
  intro fuel
  have closed : ∀ (k : Nat) (listed : Array Bool), (∀ j, listed.getD j false = true ↔ j < k) → k ≤ ops.size → ∀ j, listed.getD j false = true → ∀ e ∈ depsOf ops j, listed.getD e false = true := by
    intro k listed hk hks j hj e he
    have hjk := (hk j).1 hj
    have ho : ops[j]? = some (ops[j]'(by omega)) := Array.getElem?_eq_getElem (by omega)
    have hf := fits_at hfit ho
    unfold opFits at hf
    simp only [Bool.and_eq_true] at hf
    have := List.all_eq_true.1 hf.1.1.1.2 e he
    simp only [decide_eq_true_eq] at this
    exact (hk e).2 (by omega)
  have rdy : ∀ (k : Nat) (listed : Array Bool), (∀ j, listed.getD j false = true ↔ j < k) → k ≤ ops.size → m ≤ k → listed.size = ops.size → ∀ i ∈ Region.ready .any ops listed, i = k := by
    intro k listed hk hks hm hl i hi
    obtain ⟨h0, o, ho, hd⟩ := ready_of hi
    have h1 := unlisted_false h0
    have hik : k ≤ i := by
      rcases Nat.lt_or_ge i k with h | h
      · rw [(hk i).2 h] at h1; simp at h1
      · exact h
    have := ready_tail hfit (closed k listed hk hks) hi (by omega)
    rcases Nat.lt_or_ge k i with h | h
    · exact absurd ((hk k).1 (this k h)) (by omega)
    · omega
  induction fuel with
  | zero =>
    intro k listed a w hf hm hl hk hks h
    have e : ops.size - k = 0 := by omega
    rw [e] at h
    refine ⟨?_, h⟩
    apply List.eq_nil_iff_forall_not_mem.2
    intro i hi
    have hik := rdy k listed hk hks hm hl i hi
    obtain ⟨_, o, ho, _⟩ := ready_of hi
    have := (Array.getElem?_eq_some_iff.1 ho).1
    omega
  | succ fuel ih =>
    intro k listed a w hf hm hl hk hks h
    refine ⟨fun h0 => ?_, fun i hi => ?_⟩
    · -- nothing is ready: the end
      have e : k = ops.size := by
        rcases Nat.lt_or_ge k ops.size with hlt | hge
        · have : k ∈ Region.ready .any ops listed := by
            apply mem_ready.2
            have ho : ops[k]? = some (ops[k]'hlt) := Array.getElem?_eq_getElem hlt
            refine ⟨?_, _, ho, fun e he hb => ?_⟩
            · have h1 : ¬ listed.getD k false = true := fun x => absurd ((hk k).1 x) (by omega)
              have hkl : k < listed.size := by omega
              simpa [Array.getD, hkl] using h1
            · have hf := fits_at hfit ho
              unfold opFits at hf
              simp only [Bool.and_eq_true] at hf
              have hm' : e.on ∈ depsOf ops k := by
                unfold depsOf; rw [ho]
                exact List.mem_map.2 ⟨e, List.mem_filter.2 ⟨by simpa using he, hb⟩, rfl⟩
              have := List.all_eq_true.1 hf.1.1.1.2 _ hm'
              simp only [decide_eq_true_eq] at this
              exact (hk _).2 this
          rw [h0] at this; simp at this
        · omega
      rw [e, Nat.sub_self] at h
      exact h
    · have hik := rdy k listed hk hks hm hl i hi
      subst hik
      obtain ⟨_, o, ho, _⟩ := ready_of hi
      have hlt := (Array.getElem?_eq_some_iff.1 ho).1
      have e : ops.size - i = (ops.size - (i + 1)) + 1 := by omega
      rw [e, List.range'_succ, wpOpsIn_cons] at h
      refine wpOpIn_mono (fun a w h => ih (i + 1) _ a w (by omega) (by omega) (by simpa using hl) (fun j => ?_) (by omega) h) h
      by_cases x : j = i
      · subst x; simp [Array.getD, hl, hlt]
      · rw [getD_set_ne false (fun y => x y.symm), hk j]
        omega

theorem wpOps_tailIn {Q : Exit → Act → World → Prop} {a : Act} {w : World} {k : Nat} (h : wpListIn Fence.wide n0 P ops Q (ops.toList.drop k) a w) : wpOpsIn Fence.wide n0 P ops Q (List.range' k (ops.size - k)) a w := by
  have e := wpOpsIn_eq_wpListIn (F := Fence.wide) (n := n0) (P := P) (ops := ops) (Q := Q) (ops.toList.drop k) k (fun j => by rw [List.getElem?_drop]; simp)
  rw [List.length_drop, Array.length_toList] at e
  rw [e]; exact h

/-- THE RULE: what each operation gives in whatever world extends the first, told by predicates that last; one operation (s) may write; then the tail, in the text's order. -/
theorem wpIn_region_inv {id : Nat} {Q : Exit → Act → World → Prop} {w : World} (s : Nat) (n : Nat) (hm : P.follows .mixedOrders = true) (hsz : ops.size = n) (hmn : m ≤ n) (hfit : regionFits ops a0.tmps.size m = true)
    (h0 : R1 w.drew) (h12 : ∀ w, R1 w → R2 w) (hS1 : ∀ w w', R1 w → S w w' → R1 w') (hS2 : ∀ w w', R2 w → S w w' → R2 w') (hmono : ∀ j w w' v, S w w' → Φ j w v → Φ j w' v)
    (hop : ∀ i, i < m → i ≠ s → ∀ o, ops[i]? = some o → ∀ (f : Nat → Value) (w' : World), R2 w' → (∀ j ∈ depsOf ops i, Φ j w' (f j)) →
      (if Region.wanted o (yielded ops (putList ops a0 f (depsOf ops i)).tmps) then Oper.gives P o (putList ops a0 f (depsOf ops i)) w' (fun v w'' => S w' w'' ∧ Φ i w'' v) else Φ i w' undef))
    (hsp : s < m → ∀ o, ops[s]? = some o → ∀ (f : Nat → Value) (w' : World), R1 w' → (∀ j ∈ depsOf ops s, Φ j w' (f j)) →
      (if Region.wanted o (yielded ops (putList ops a0 f (depsOf ops s)).tmps) then Oper.gives P o (putList ops a0 f (depsOf ops s)) w' (fun v w'' => R2 w'' ∧ Φ s w'' v ∧ ∀ j u, j ≠ s → Φ j w' u → Φ j w'' u) else Φ s w' undef))
    (hend : ∀ (f : Nat → Value) (w' : World), R2 w' → (∀ j, j < m → Φ j w' (f j)) → wpListIn Fence.wide n0 P ops Q (ops.toList.drop m) (putList ops a0 f (List.range m)) w') :
    (Code.region id ops true).wpIn Fence.wide n0 P Q a0 w := by
  apply wpIn_region_any hm
  have main : ∀ (fuel : Nat) (listed : Array Bool) (f : Nat → Value) (a : Act) (w' : World), unlistedCount listed ops.size ≤ fuel → (∀ j, m ≤ j → listed.getD j false = false) → Sofar ops a0 R1 R2 s Φ listed f a w' →
      wpAnyIn Fence.wide n0 P .any ops Q fuel listed a w' := by
    intro fuel
    induction fuel with
    | zero =>
      intro listed f a w' hc ht h
      have hall : ∀ j, j < ops.size → listed.getD j false = true := by
        intro j hj
        have h0 : unlistedCount listed ops.size = 0 := by omega
        unfold unlistedCount at h0
        rw [List.countP_eq_zero] at h0
        have := h0 j (by simpa using hj)
        simpa using this
      have hms : m = ops.size := by
        rcases Nat.lt_or_ge m ops.size with hlt | hge
        · have h1 := hall m hlt; rw [ht m (Nat.le_refl _)] at h1; simp at h1
        · omega
      have hk : ∀ j, listed.getD j false = true ↔ j < m := by
        intro j
        constructor
        · intro hj
          rcases Nat.lt_or_ge j m with hlt | hge
          · exact hlt
          · rw [ht j hge] at hj; simp at hj
        · intro hj; exact hall j (by omega)
      have e := h.full hfit hk
      refine any_tailIn hfit 0 m listed a w' (by omega) (Nat.le_refl _) h.len hk (by omega) (wpOps_tailIn ?_)
      rw [e]
      exact hend f w' h.two fun j hj => h.holds j ((hk j).2 hj)
    | succ fuel ih =>
      intro listed f a w' hc ht h
      have stepTail : (∀ j, j < m → listed.getD j false = true) → wpAnyIn Fence.wide n0 P .any ops Q (fuel + 1) listed a w' := by
        intro hall
        have hk : ∀ j, listed.getD j false = true ↔ j < m := by
          intro j
          constructor
          · intro hj
            rcases Nat.lt_or_ge j m with hlt | hge
            · exact hlt
            · rw [ht j hge] at hj; simp at hj
          · intro hj; exact hall j hj
        have e := h.full hfit hk
        have hcount : ops.size - m ≤ unlistedCount listed ops.size := by
          unfold unlistedCount
          have : List.range ops.size = List.range m ++ List.range' m (ops.size - m) := by
            have h1 := @List.range'_append_1 0 m (ops.size - m)
            rw [Nat.zero_add, show m + (ops.size - m) = ops.size from by omega] at h1
            rw [List.range_eq_range', List.range_eq_range', h1]
          rw [this, List.countP_append]
          have : (List.range' m (ops.size - m)).countP (fun j => decide (listed.getD j false = false)) = (List.range' m (ops.size - m)).length := by
            rw [List.countP_eq_length]
            intro j hj
            rw [List.mem_range'_1] at hj
            simp only [decide_eq_true_eq]
            exact ht j hj.1
          rw [this, List.length_range']
          omega
        refine any_tailIn hfit (fuel + 1) m listed a w' (by omega) (Nat.le_refl _) h.len hk (by omega) (wpOps_tailIn ?_)
        rw [e]
        exact hend f w' h.two fun j hj => h.holds j ((hk j).2 hj)
      by_cases hall : ∀ j, j < m → listed.getD j false = true
      · exact stepTail hall
      · have hfree : ∀ i ∈ Region.ready .any ops listed, i < m := by
          intro i hi
          rcases Nat.lt_or_ge i m with hlt | hge
          · exact hlt
          · exact absurd (fun j hj => ready_tail hfit h.closed hi hge j (by omega)) hall
        refine ⟨fun h0 => ?_, fun i hi => ?_⟩
        · -- the least one that is not listed is ready
          exfalso
          apply hall
          intro j
          induction j using Nat.strongRecOn with
          | _ j ihj =>
            intro hj
            cases hl : listed.getD j false with
            | true => rfl
            | false =>
              exfalso
              have hjs : j < ops.size := by omega
              have ho : ops[j]? = some (ops[j]'hjs) := Array.getElem?_eq_getElem hjs
              have : j ∈ Region.ready .any ops listed := by
                apply mem_ready.2
                refine ⟨?_, _, ho, fun e he hb => ?_⟩
                · have hjl : j < listed.size := by rw [h.len]; exact hjs
                  simpa [Array.getD, hjl] using hl
                · have hf := fits_at hfit ho
                  unfold opFits at hf
                  simp only [Bool.and_eq_true] at hf
                  have hm' : e.on ∈ depsOf ops j := by
                    unfold depsOf; rw [ho]
                    exact List.mem_map.2 ⟨e, List.mem_filter.2 ⟨by simpa using he, hb⟩, rfl⟩
                  have := List.all_eq_true.1 hf.1.1.1.2 _ hm'
                  simp only [decide_eq_true_eq] at this
                  exact ihj _ this (by omega)
              rw [h0] at this; simp at this
        · obtain ⟨h0, o, ho, hd⟩ := ready_of hi
          have hun := unlisted_false h0
          have him := hfree i hi
          have hlt := (Array.getElem?_eq_some_iff.1 ho).1
          obtain ⟨he, hw⟩ := h.eval hfit ho hun hd
          have hcnt := unlisted_set hlt h.len hun
          by_cases his : i = s
          · subst his
            have hg := hsp him o ho f w' (h.one hun) fun j hj => h.holds j (hd j hj)
            unfold wpOpIn
            simp only [ho]
            rw [hw]
            by_cases hwt : Region.wanted o (yielded ops (putList ops a0 f (depsOf ops i)).tmps) = true
            · rw [if_pos hwt] at hg ⊢
              exact (wpIn_of_gives he (gives_mono hg fun v w'' ⟨hr, hv, hp⟩ => ih _ _ _ _ (by omega) (fun j hj => by rw [getD_set_ne false (by omega)]; exact ht j hj) (h.next hfit ho hd (fun x => absurd rfl x) hr hp hv)))
            · rw [if_neg hwt] at hg ⊢
              exact wideSkip (ih _ _ _ _ (by omega) (fun j hj => by rw [getD_set_ne false (by omega)]; exact ht j hj) (h.next hfit ho hd (fun x => absurd rfl x) h.two (fun _ _ _ x => x) hg))
          · have hg := hop i him his o ho f w' h.two fun j hj => h.holds j (hd j hj)
            unfold wpOpIn
            simp only [ho]
            rw [hw]
            by_cases hwt : Region.wanted o (yielded ops (putList ops a0 f (depsOf ops i)).tmps) = true
            · rw [if_pos hwt] at hg ⊢
              exact (wpIn_of_gives he (gives_mono hg fun v w'' ⟨hr, hv⟩ => ih _ _ _ _ (by omega) (fun j hj => by rw [getD_set_ne false (by omega)]; exact ht j hj)
                (h.next hfit ho hd (fun _ hl => hS1 _ _ (h.one hl) hr) (hS2 _ _ h.two hr) (fun j u _ x => hmono j _ _ u hr x) hv)))
            · rw [if_neg hwt] at hg ⊢
              exact wideSkip (ih _ _ _ _ (by omega) (fun j hj => by rw [getD_set_ne false (by omega)]; exact ht j hj) (h.next hfit ho hd (fun _ hl => h.one hl) h.two (fun _ _ _ x => x) hg))
  refine main ops.size _ (fun _ => undef) a0 w.drew ?_ ?_ ⟨by simp, rfl, rfl, ?_, fun _ _ => rfl, ?_, fun _ => h0, h12 _ h0, ?_⟩
  · unfold unlistedCount
    exact Nat.le_trans List.countP_le_length (by simp)
  · intro j _; simp [Array.getD]
  · intro j d hj; simp [Array.getD] at hj
  · intro j hj; simp [Array.getD] at hj
  · intro j hj; simp [Array.getD] at hj
/-- A region whose operations read, call and make memory, and then a tail. -/
theorem wpIn_region_ext {id : Nat} {Q : Exit → Act → World → Prop} {w : World} (ds : List (Option Tmp)) (n m : Nat) (Ks : List Know) (hm : P.follows .mixedOrders = true) (hds : ops.toList.map (·.dst) = ds) (hsz : ops.size = n) (hmn : m ≤ n)
    (hfit : regionFits ops a0.tmps.size m = true)
    (hop : AllOps (OpGoal P ds a0 (Ext w) Ks n) 0 (ops.toList.take m))
    (hend : ∀ (f : Nat → Value) (w' : World), Ext w w' → KnowAll Ks f w' (List.range m) → wpListIn Fence.wide n0 P ops Q (ops.toList.drop m) (putD ds a0 f (List.range m)) w') :
    (Code.region id ops true).wpIn Fence.wide n0 P Q a0 w := by
  refine wpIn_region_inv (R1 := Ext w) (R2 := Ext w) (S := Ext) (Φ := phi Ks) (m := m) n n hm hsz hmn hfit ((Below.refl _ _).drew) (fun _ h => h) (fun _ _ h k => h.trans k) (fun _ _ h k => h.trans k) (phi_mono Ks) ?_ ?_ ?_
  · intro i hi hne o ho f w' hr hd
    have hg := allOps_at (k := i) hop (by rw [List.getElem?_take, if_pos hi]; simpa using ho)
    rw [Nat.zero_add] at hg
    rw [depsOf_eq ho] at hd ⊢
    rw [putD_eq hds, wantD_eq hds]
    rcases hg hne f w' hr (knowAll_iff.1 hd) with ⟨h1, h2⟩ | ⟨h1, h2⟩
    · rw [if_pos h1]; exact h2
    · rw [if_neg (by rw [h1]; decide)]; exact h2
  · intro h; omega
  · intro f w' hr hd
    rw [putD_eq hds]
    exact hend f w' hr (knowAll_iff.1 fun j hj => hd j (by simpa using hj))
theorem opGoal_skip {ds : List (Option Tmp)} {R : World → Prop} {Ks : List Know} {s i : Nat} {o : Oper}
    (h : ∀ (f : Nat → Value) (w' : World), R w' → KnowAll Ks f w' (depsO o) → wantD ds o (putD ds a0 f (depsO o)).tmps = false ∧ phi Ks i w' undef) : OpGoal P ds a0 R Ks s i o :=
  fun _ f w' hr hk => .inr (h f w' hr hk)
end
end Go.Proofs.Ytcandeobhlfkbaa.Iv
/-
  append where there is no room, in a world in which nothing is anybody's own.
-/


namespace Go.Proofs.Ytcandeobhlfkbaa
open Go Go.RowKit
variable {A : Nat → Nat → Prop}
theorem run_app0 {w : World} {t ty : TypeId} {es ys : List (List AV)} {c2 : Cap} {vx vy : Value} {sz : Nat} (hA : UnderA A w) (hx : VR (Cq A w) (.frz es .tight) vx) (hy : VR (Cq A w) (.frz ys c2) vy) (hT : apT Try.prog t = some sz) (h1 : rowsOk sz es = true) (h2 : rowsOk sz ys = true) (h3 : es.length + ys.length ≤ 1048576) :
    ∃ v w', (Builtin.append_ #[t, t] ty #[vx, vy]).run Try.prog w = .ok v w' ∧ Below w.heap.size w w' ∧ VR (Cq A w') (.frz (es ++ ys) .unk) v := by
  have hap : apA Try.prog t (.frz es .tight) (.frz ys c2) (Cq A w).tk = some (.frz (es ++ ys) (capNew [] .tight sz), capPut [] .tight) := by
    simp only [apA, hT]
    rw [if_pos ⟨rfl, h1, h2, by simpa [roomy] using h3⟩]; rfl
  obtain ⟨v, C', h4, hle, -, -, -, -, hv⟩ := apA_sound (P := Try.prog) (Cq_SR hA) hx hy hap
  refine ⟨v, C'.w, h4, ⟨hle.os, hle.tape, hle.output, hle.size, fun b hb => hle.keep b hb fun o hm => Cq_mut hm⟩, ?_⟩
  simp only [VR] at hv ⊢
  obtain ⟨a, len, cap, rfl, g1, g2, -, g4⟩ := hv
  refine ⟨a, len, cap, rfl, g1, g2, trivial, g4.imp id ?_⟩
  rintro ⟨b, o, s', rfl, hr⟩
  exact ⟨b, o, s', rfl, PRows.stays (A' := (Cq A C'.w).Avoid) (fun _ _ _ hv ha => ⟨hv, Cq_avoid fun h => ha (.inl (by rw [hle.av]; exact h))⟩) _ _ _ _ hr⟩
theorem exec_app {o : Oper} {ρ : Operand → Value} {s x : Operand} {t : TypeId} {w w' : World} {v : Value} (ho : o.op = .call { callee := .builtin .append, args := #[s, x], argTypes := #[t, t] }) (h : (Builtin.append_ #[t, t] o.type #[ρ s, ρ x]).run Try.prog w = .ok v w') :
    (execOp ρ o).run Try.prog w = .ok (.value v) w' := by
  simp [execOp, ho, resolve, invoke, builtin, h]
theorem wpList_app0 {ops : Array Oper} {rest : List Oper} {o : Oper} {a : Act} {Q : Exit → Act → World → Prop} {w : World} {s x : Operand} {t : TypeId} {es ys : List (List AV)} {c2 : Cap} {sz : Nat} (hg : o.guard = none) (ho : o.op = .call { callee := .builtin .append, args := #[s, x], argTypes := #[t, t] })
    (hA : UnderA A w) (hx : VR (Cq A w) (.frz es .tight) (a.eval s)) (hy : VR (Cq A w) (.frz ys c2) (a.eval x)) (hT : apT Try.prog t = some sz) (h1 : rowsOk sz es = true) (h2 : rowsOk sz ys = true) (h3 : es.length + ys.length ≤ 1048576)
    (h : ∀ v' w', Below w.heap.size w w' → VR (Cq A w') (.frz (es ++ ys) .unk) v' → wpList Try.prog ops Q rest (a.put o.dst v') w') : wpList Try.prog ops Q (o :: rest) a w := by
  obtain ⟨v, w', h4, h5, h6⟩ := run_app0 (ty := o.type) hA hx hy hT h1 h2 h3
  exact wpList_plain hg fun K hK => wp_value (exec_app ho h4) (hK _ _ (h v w' h5 h6))
theorem wpListIn_app0 {n : Nat} {ops : Array Oper} {rest : List Oper} {o : Oper} {a : Act} {Q : Exit → Act → World → Prop} {w : World} {s x : Operand} {t : TypeId} {es ys : List (List AV)} {c2 : Cap} {sz : Nat} (hg : o.guard = none) (ho : o.op = .call { callee := .builtin .append, args := #[s, x], argTypes := #[t, t] })
    (hA : UnderA A w) (hx : VR (Cq A w) (.frz es .tight) (a.eval s)) (hy : VR (Cq A w) (.frz ys c2) (a.eval x)) (hT : apT Try.prog t = some sz) (h1 : rowsOk sz es = true) (h2 : rowsOk sz ys = true) (h3 : es.length + ys.length ≤ 1048576)
    (h : ∀ v' w', Below w.heap.size w w' → VR (Cq A w') (.frz (es ++ ys) .unk) v' → wpListIn Fence.wide n Try.prog ops Q rest (a.put o.dst v') w') : wpListIn Fence.wide n Try.prog ops Q (o :: rest) a w := by
  obtain ⟨v, w', h4, h5, h6⟩ := run_app0 (ty := o.type) hA hx hy hT h1 h2 h3
  refine wpListIn_plain hg fun K hK => ⟨fun _ _ => trivial, ?_⟩
  have e : (o.semAt Fence.wide.round a.eval).run Try.prog w = .ok (.value v) w' := exec_app ho h4
  rw [e]
  exact hK _ _ (h v w' h5 h6)
/-- this knowledge lasts -/
def Kv (A : Nat → Nat → Prop) (a : AV) : Iv.Know := ⟨fun w v => VR (Cq A w) a v, fun _ _ _ h hv => hv.below0 h⟩
theorem tight_of {w : World} {pt : Pt} {a : Option Addr} {cap : Nat} (h : VR (Cq A w) (coefsA pt) (.slice a pt.length cap)) : VR (Cq A w) (.frz (pt.map coefC) .tight) (.slice a pt.length pt.length) := by
  simp only [coefsA, VR] at h ⊢
  obtain ⟨a', len, cap', h0, h1, h2, -, h4⟩ := h
  cases h0
  exact ⟨_, _, _, rfl, h1, Nat.le_refl _, rfl, h4⟩
theorem new_one {w : World} {s : ByteArray} {n : Int} {t : TypeId} (hA : UnderA A w) : VR (Cq A (w.alloc (.cells #[.string s, .int .i64 n] t))) (.frz [coefC (s, n)] .tight) (.slice (some ⟨w.heap.size, 0, none⟩) 1 1) := by
  have h : (w.alloc (.cells #[.string s, .int .i64 n] t)).heap[w.heap.size]? = some (.cells #[.string s, .int .i64 n] t (0, 0)) := heap_alloc_same w _
  simp only [VR]
  refine ⟨_, _, _, rfl, rfl, Nat.le_refl _, rfl, .inr ⟨w.heap.size, 0, 2, rfl, ?_⟩⟩
  exact prows_point [(s, n)] 0 fun j u hj => ⟨by
    show (w.alloc (.cells #[.string s, .int .i64 n] t)).cell? _ = some u
    match j, hj with
    | 0, hj => simp only [flatP, List.getElem?_cons_zero, Option.some.injEq] at hj; subst hj; unfold World.cell?; dsimp only; rw [h]; rfl
    | 1, hj => simp only [flatP, List.getElem?_cons_succ, List.getElem?_cons_zero, Option.some.injEq] at hj; subst hj; unfold World.cell?; dsimp only; rw [h]; rfl
    | j + 2, hj => simp [flatP] at hj, fun h => by have := hA _ _ h; omega⟩
end Go.Proofs.Ytcandeobhlfkbaa
