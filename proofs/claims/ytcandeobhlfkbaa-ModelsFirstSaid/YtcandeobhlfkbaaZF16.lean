/-
  Texts laid together: MFind, MExt, ML1, ML2, MF1.
-/
import Derived.Test.YtcandeobhlfkbaaZF15
import Derived.RangeFuncRecord
import Derived.RangeFuncOwn
import Derived.RangeFuncCalls
import Derived.Test.YtcandeobhlfkbaaZF13
/-
  The search for a point, walked: a loop over the radius, in it a range over a function.
-/




namespace Go.Proofs.Ytcandeobhlfkbaa
open Go Go.RowKit Go.Shelf
attribute [local go_sem] Oper.semAt_some
variable {A : Nat → Nat → Prop}
/-- the statement itself: the record is laid, the function is called -/
theorem range_lawF {F : Fence} {n : Nat} (hro : F.round = none) (hfa : ∀ f, F.fn f) (hd : ∀ k, F.depth.isSome = true → 1 ≤ k) {P : Program} {a : Act} {w : World} {g : Operand} {ps : Array Tmp} {assign body : Code} {Q : Exit → Act → World → Prop} (gf : FuncId) (lb : Array Value) (hg : a.eval g = .func (.func gf) #[] lb)
    (eg : ∀ args w, (callFunc gf args).run P w = .ok (.enter gf args) w)
    (h : ∀ (fn : FuncId) (rec : LoopState → Option Code → Loop), rec = (fun st pe => { state := st, pending := pe, fn, tmps := a.tmps, params := ps, assign, body, defers := w.heap.size }) →
      ∀ W1, (w.alloc (.deferred (some []))).alloc (.loop (rec .ready none)) = W1 →
        CallsIn F (n - 1) P gf (#[.func (.yield (w.heap.size + 1)) #[] #[]] ++ lb) W1 (rangePost F n P (w.heap.size + 1) Q { a with defers := [{ target := .collected w.heap.size, args := #[] }] ++ a.defers })) :
    (Code.rangeFunc g ps assign body).wpIn F n P Q a w := by
  refine wpIn_rangeFunc ?_
  intro fn hfn
  rw [hro]
  obtain ⟨rec, hrec⟩ : ∃ rec : LoopState → Option Code → Loop, rec = fun st pe => { state := st, pending := pe, fn, tmps := a.tmps, params := ps, assign, body, defers := w.heap.size } := ⟨_, rfl⟩
  obtain ⟨W1, hW1⟩ : ∃ W1, (w.alloc (.deferred (some []))).alloc (.loop (rec .ready none)) = W1 := ⟨_, rfl⟩
  refine ⟨w.heap.size + 1, [{ target := .collected w.heap.size, args := #[] }], W1, { target := .fn (.func gf) lb, args := #[.func (.yield (w.heap.size + 1)) #[] #[]] }, W1, gf,
    #[.func (.yield (w.heap.size + 1)) #[] #[]] ++ lb, W1, ?_, ?_, ?_, ?_, ?_, ?_⟩
  · rw [← hW1, hrec]; exact run_enterLoop_outer _ _ _ _ _
  · have e1 : (resolve a.eval (rangeCall g (w.heap.size + 1)) 0).run P W1 = .ok { target := .fn (.func gf) lb, args := #[.func (.yield (w.heap.size + 1)) #[] #[]] } W1 := by
      simp only [resolve, hg]
      simp [go_sem]
    exact e1
  · intro f' hf'; exact hfa f'
  · have e2 : (invoke (.fn (.func gf) lb) #[.func (.yield (w.heap.size + 1)) #[] #[]]).run P W1 = .ok (.enter gf (#[.func (.yield (w.heap.size + 1)) #[] #[]] ++ lb)) W1 := by
      simp [invoke, go_sem, eg]
    exact e2
  · exact hd _
  · exact h fn rec hrec W1 hW1
/-- the mark of a range -/
def mk (r : Nat) : Deferred := { target := .collected r, args := #[] }
theorem leave_all {n : Nat} {P : Program} {fn : Func} {tmps : Array Value} {R : Ending → World → Prop} : ∀ (ds : List Nat) (W : World), ds.Nodup → (∀ r ∈ ds, W.heap[r]? = some (.deferred (some []))) →
    (∀ W' : World, W'.heap.size = W.heap.size → W'.os = W.os → W'.tape = W.tape → W'.output = W.output → (∀ k, k ∉ ds → W'.heap[k]? = W.heap[k]?) → ∃ v, (results fn tmps).run P W' = .ok v W' ∧ R (.returned v) W') →
    LeavesInM Fence.wide n P fn tmps R (ds.map mk) .returning W
  | [], W, _, _, h => h W rfl rfl rfl rfl fun _ _ => rfl
  | r :: ds, W, hnd, hd, h => by
    obtain ⟨h1, h2⟩ := List.nodup_cons.1 hnd
    have hr := hd r (by simp)
    refine ⟨by simp, .inl ⟨r, _, rfl, run_takeDeferred hr, leave_all ds _ h2 (fun k hk => ?_) fun W' g1 g2 g3 g4 g5 => h W' (by rw [g1, World.putObj_size]) g2 g3 g4 fun k hk => ?_⟩⟩
    · rw [World.putObj_heap_other (fun e => h1 (by rw [← e]; exact hk))]; exact hd k (by simp [hk])
    · simp only [List.mem_cons, not_or] at hk
      rw [g5 k hk.2, World.putObj_heap_other hk.1]
theorem flatP_kind : ∀ (p : Pt) (u : Value), u ∈ flatP p → (∃ s, u = .string s) ∨ ∃ n, u = .int .i64 n
  | [], u, h => by simp [flatP] at h
  | c :: r, u, h => by
    simp only [flatP, List.mem_cons] at h
    rcases h with rfl | rfl | h
    · exact .inl ⟨_, rfl⟩
    · exact .inr ⟨_, rfl⟩
    · exact flatP_kind r u h
theorem lit40 {T : List Value} (h : T.length = 40) : ∃ x0 x1 x2 x3 x4 x5 x6 x7 x8 x9 x10 x11 x12 x13 x14 x15 x16 x17 x18 x19 x20 x21 x22 x23 x24 x25 x26 x27 x28 x29 x30 x31 x32 x33 x34 x35 x36 x37 x38 x39, T = [x0, x1, x2, x3, x4, x5, x6, x7, x8, x9, x10, x11, x12, x13, x14, x15, x16, x17, x18, x19, x20, x21, x22, x23, x24, x25, x26, x27, x28, x29, x30, x31, x32, x33, x34, x35, x36, x37, x38, x39] := by
  match T, h with
  | x0 :: x1 :: x2 :: x3 :: x4 :: x5 :: x6 :: x7 :: x8 :: x9 :: x10 :: x11 :: x12 :: x13 :: x14 :: x15 :: x16 :: x17 :: x18 :: x19 :: x20 :: x21 :: x22 :: x23 :: x24 :: x25 :: x26 :: x27 :: x28 :: x29 :: x30 :: x31 :: x32 :: x33 :: x34 :: x35 :: x36 :: x37 :: x38 :: x39 :: [], _ => exact ⟨x0, x1, x2, x3, x4, x5, x6, x7, x8, x9, x10, x11, x12, x13, x14, x15, x16, x17, x18, x19, x20, x21, x22, x23, x24, x25, x26, x27, x28, x29, x30, x31, x32, x33, x34, x35, x36, x37, x38, x39, rfl⟩
theorem tab40 {t : Array Value} (h : t.size = 40) : ∃ x0 x1 x2 x3 x4 x5 x6 x7 x8 x9 x10 x11 x12 x13 x14 x15 x16 x17 x18 x19 x20 x21 x22 x23 x24 x25 x26 x27 x28 x29 x30 x31 x32 x33 x34 x35 x36 x37 x38 x39, t = #[x0, x1, x2, x3, x4, x5, x6, x7, x8, x9, x10, x11, x12, x13, x14, x15, x16, x17, x18, x19, x20, x21, x22, x23, x24, x25, x26, x27, x28, x29, x30, x31, x32, x33, x34, x35, x36, x37, x38, x39] := by
  obtain ⟨l⟩ := t
  obtain ⟨x0, x1, x2, x3, x4, x5, x6, x7, x8, x9, x10, x11, x12, x13, x14, x15, x16, x17, x18, x19, x20, x21, x22, x23, x24, x25, x26, x27, x28, x29, x30, x31, x32, x33, x34, x35, x36, x37, x38, x39, e⟩ := lit40 (T := l) h
  exact ⟨x0, x1, x2, x3, x4, x5, x6, x7, x8, x9, x10, x11, x12, x13, x14, x15, x16, x17, x18, x19, x20, x21, x22, x23, x24, x25, x26, x27, x28, x29, x30, x31, x32, x33, x34, x35, x36, x37, x38, x39, by rw [e]⟩
theorem res_find {tmps : Array Value} {W : World} {B : Nat} {v u : Value} (h4 : tmps[4]? = some (.pointer (some ⟨B + 1, 0, none⟩))) (h5 : tmps[5]? = some (.pointer (some ⟨B + 2, 0, none⟩))) (c4 : W.cell? ⟨B + 1, 0, none⟩ = some v) (c5 : W.cell? ⟨B + 2, 0, none⟩ = some u) :
    (results Try.f17 tmps).run Try.prog W = .ok (.tuple #[v, u]) W := by
  have hr : Try.f17.results = #[.cell 4 24, .cell 5 4] := rfl
  have ha : aggT Try.prog 24 = some false := by kernel_rfl
  have hb : aggT Try.prog 4 = some false := by kernel_rfl
  simp [results, hr, h4, h5, asAddr, loadVar, run_agg ha, run_agg hb]
  rw [c4]
  show (match W.cell? _ with | some v => _ | none => _ : Result Value).andThen _ = _
  rw [c5]
  rfl
theorem chk_in : ∀ {cs : List (ByteArray × Int)} {n : Int} {q : Option ByteArray}, chkFrom n q cs = 0 → (∀ c ∈ cs, c.2.natAbs ≤ 1000000000000) ∧ n.natAbs ≤ 1000000000000
  | [], n, q, h => by
    unfold chkFrom at h
    split at h
    · rename_i h1; rw [inB_true] at h1; exact ⟨by simp, by omega⟩
    · cases h
  | c :: r, n, q, h => by
    unfold chkFrom at h
    split at h
    · cases h
    · split at h
      · cases h
      · rename_i h1 h2
        split at h
        · cases h
        · obtain ⟨h3, h4⟩ := chk_in h
          refine ⟨fun d hd => ?_, h4⟩
          rcases List.mem_cons.1 hd with rfl | hd
          · simp only [Bool.or_eq_true, Bool.not_eq_true', not_or, Bool.not_eq_false, inB_true] at h2
            omega
          · exact h3 d hd
theorem first_mem : ∀ {l : List RowT}, firstE l = 0 → ∀ r ∈ l, checkF r.1 r.2.1 = 0
  | [], _ => fun r hr => by simp at hr
  | r :: l, h => by
    unfold firstE at h
    by_cases h0 : checkF r.1 r.2.1 = 0
    · rw [h0] at h
      simp only [bne_self_eq_false, Bool.false_eq_true, if_false] at h
      intro x hx
      rcases List.mem_cons.1 hx with rfl | hx
      · exact h0
      · exact first_mem h x hx
    · rw [if_pos (by simpa using h0)] at h; exact absurd h h0
theorem rows_ok {l : List RowT} (h : sysE l = 0) : RowsOk l := by
  obtain ⟨h1, h2, -, h3⟩ := sys_few h
  have key : ∀ r ∈ l, (∀ c ∈ r.1, c.2.natAbs ≤ 1000000000000) ∧ r.2.1.natAbs ≤ 1000000000000 := fun r hr => by
    have := first_mem h3 r hr
    unfold checkF at this
    split at this
    · cases this
    · exact chk_in this
  exact ⟨h2, h1, fun r hr => (key r hr).1, fun r hr => (key r hr).2⟩
theorem vars_apart (l : List RowT) : (varsF l).Pairwise (· ≠ ·) := (uni_facts (namesOf l)).1.imp fun h e => by subst e; exact nlt_irrefl _ h
set_option maxRecDepth 100000 in
set_option maxHeartbeats 4000000 in
theorem find_in (l : List RowT) (most : Int) (w : World) (a : Option Addr) (cap : Nat) (hA : UnderA A w) (hv : VR (Cq A w) (rowsA l) (.slice a l.length cap)) :
    CallsIn Fence.wide 4 Try.prog 17 #[.slice a l.length cap, .int .i64 most] w fun e w' => ∃ v, e = .returned (.tuple #[v, .bool (findF l most).isSome]) ∧ VR (Cq A w') (coefsA ((findF l most).getD [])) v ∧ Below w.heap.size w w' := by
  refine callsIn_of_wp_marks Try.func17 rfl trivial ?_ rfl
  simp only [Try.ntmps17, List.size_toArray, List.length_cons, List.length_nil, Nat.reduceAdd, Nat.reduceSub, Array.replicate_succ, Array.replicate_zero, List.push_toArray, List.append_toArray, List.nil_append, List.cons_append]
  obtain ⟨w1, hw1⟩ : ∃ w1, w1 = ((w.alloc (.cells #[.slice a l.length cap] 22)).alloc (.cells #[.slice none 0 0] 24)).alloc (.cells #[.bool false] 4) := ⟨_, rfl⟩
  have hb1 : Below w.heap.size w w1 := by rw [hw1]; exact (((Below.refl _ w).alloc (Nat.le_refl _) _).alloc (by simp) _).alloc (by simp; omega) _
  have hs1 : w1.heap.size = w.heap.size + 3 := by rw [hw1]; simp
  have hB0 : w1.heap[w.heap.size]? = some (.cells #[.slice a l.length cap] 22 (0, 0)) := by
    rw [hw1, Below.heap_alloc _ _ _ (by simp; omega), Below.heap_alloc _ _ _ (by simp)]; exact heap_alloc_same w _
  have hB1 : w1.heap[w.heap.size + 1]? = some (.cells #[.slice none 0 0] 24 (0, 0)) := by
    rw [hw1, Below.heap_alloc _ _ _ (by simp)]
    have := heap_alloc_same (w.alloc (.cells #[.slice a l.length cap] 22)) (.cells #[.slice none 0 0] 24); rwa [World.size_alloc] at this
  have hB2 : w1.heap[w.heap.size + 2]? = some (.cells #[.bool false] 4 (0, 0)) := by
    rw [hw1]
    have := heap_alloc_same ((w.alloc (.cells #[.slice a l.length cap] 22)).alloc (.cells #[.slice none 0 0] 24)) (.cells #[.bool false] 4); rwa [World.size_alloc, World.size_alloc] at this
  have hrd : ∀ {W : World}, Below w1.heap.size w1 W → W.cell? ⟨w.heap.size, 0, none⟩ = some (.slice a l.length cap) ∧ W.cell? ⟨w.heap.size + 1, 0, none⟩ = some (.slice none 0 0) ∧ W.frozen? ⟨w.heap.size + 1, 0, none⟩ = false ∧ W.cell? ⟨w.heap.size + 2, 0, none⟩ = some (.bool false) ∧ W.frozen? ⟨w.heap.size + 2, 0, none⟩ = false := by
    intro W hb
    have h0 := (hb.block w.heap.size (by omega)).trans hB0
    have h1 := (hb.block (w.heap.size + 1) (by omega)).trans hB1
    have h2 := (hb.block (w.heap.size + 2) (by omega)).trans hB2
    simp [World.cell?, World.frozen?, h0, h1, h2]
  have hv1 : VR (Cq A w1) (rowsA l) (.slice a l.length cap) := hv.below0 hb1
  have hC := call0 (vs := #[.slice a l.length cap]) (w := w1) (hA.le hb1.size) (fun S tk k => simplex_Check S tk k l) (by simp only [VRs, and_true]; exact hv1)
  obtain ⟨r0, r1, r2, r3, r4⟩ := hrd (Below.refl _ w1)
  gi_wp2_with fail
  rw [← hw1]
  refine ⟨trivial, (callsIn_wide.2 hC).mono ?_⟩
  clear hC
  rintro e w2 ⟨v2, rfl, hb2, hv2⟩
  simp only [VR] at hv2
  subst hv2
  obtain ⟨d0, d1, d2, d3, d4⟩ := hrd hb2
  have hs2 := hb2.size
  have none_case : ∀ (W : World), Below w1.heap.size w1 W → findF l most = none → ∀ (R : Array Value), R[4]? = some (.pointer (some ⟨w.heap.size + 1, 0, none⟩)) → R[5]? = some (.pointer (some ⟨w.heap.size + 2, 0, none⟩)) →
      ∃ v, (results Try.f17 R).run Try.prog ((W.setCell ⟨w.heap.size + 1, 0, none⟩ (.slice none 0 0)).setCell ⟨w.heap.size + 2, 0, none⟩ (.bool false)) = .ok v ((W.setCell ⟨w.heap.size + 1, 0, none⟩ (.slice none 0 0)).setCell ⟨w.heap.size + 2, 0, none⟩ (.bool false)) ∧
        ∃ u, Ending.returned v = .returned (.tuple #[u, .bool (findF l most).isSome]) ∧ VR (Cq A ((W.setCell ⟨w.heap.size + 1, 0, none⟩ (.slice none 0 0)).setCell ⟨w.heap.size + 2, 0, none⟩ (.bool false))) (coefsA ((findF l most).getD [])) u ∧ Below w.heap.size w ((W.setCell ⟨w.heap.size + 1, 0, none⟩ (.slice none 0 0)).setCell ⟨w.heap.size + 2, 0, none⟩ (.bool false)) := by
    intro W hW hf R h4 h5
    obtain ⟨q0, q1, q2, q3, q4⟩ := hrd hW
    refine ⟨.tuple #[.slice none 0 0, .bool false], res_find h4 h5 ?_ ?_, .slice none 0 0, by rw [hf] <;> rfl, ?_, ?_⟩
    · rw [World.cell?_setCell_other _ _ _ _ (by simp)]; exact World.cell?_setCell_same' _ _ _ (by rw [q1]; rfl)
    · exact World.cell?_setCell_same' _ _ _ (by rw [World.cell?_setCell_other _ _ _ _ (by simp), q3]; rfl)
    · rw [hf]; simp only [Option.getD, coefsA, VR]; exact ⟨_, _, _, rfl, rfl, Nat.le_refl _, trivial, .inl rfl⟩
    · exact ((hb1.trans (hW.mono (by omega))).setCell (p := ⟨w.heap.size + 1, 0, none⟩) (by simp) _).setCell (p := ⟨w.heap.size + 2, 0, none⟩) (by simp) _
  by_cases hsys : sysE l = 0
  case neg =>
    have hf : findF l most = none := by unfold findF okF; simp [hsys]
    gi_wp2_with fail
    exact none_case w2 hb2 hf _ rfl rfl
  by_cases h0 : most < 0
  · have hf : findF l most = none := by unfold findF okF; rw [if_neg (by simp <;> omega)]
    gi_wp2_with fail
    exact none_case w2 hb2 hf _ rfl rfl
  by_cases h8 : 8 < most
  · have hf : findF l most = none := by unfold findF okF; rw [if_neg (by simp <;> omega)]
    have h8' : most > 8 := h8
    gi_wp2_with fail
    exact none_case w2 hb2 hf _ rfl rfl
  have h8' : ¬ most > 8 := h8
  have hV := call0 (vs := #[.slice a l.length cap]) (w := w2) (hA.le (Nat.le_trans hb1.size hb2.size)) (fun S tk k => simplex_Vars S tk k l) (by simp only [VRs, and_true]; exact hv1.below0 hb2)
  gi_wp2_with fail
  refine ⟨trivial, (callsIn_wide.2 hV).mono ?_⟩
  clear hV
  rintro e w3 ⟨v3, rfl, hb3, hv3⟩
  have hvo : varsOf l = varsF l := if_pos hsys
  rw [hvo] at hv3
  obtain ⟨na, nc, rfl, hnc, hns⟩ := names_at hv3
  have hb13 : Below w1.heap.size w1 w3 := hb2.trans (hb3.mono hs2)
  by_cases h6 : 6 < (varsF l).length
  · have hf : findF l most = none := by unfold findF okF; rw [if_neg (by simp <;> omega)]
    have h6' : ((varsF l).length : Int) > 6 := by omega
    obtain ⟨e0, e1, e2, e3, e4⟩ := hrd hb13
    gi_wp2_with fail
    exact none_case w3 hb13 hf _ rfl rfl
  have h6' : ¬ ((varsF l).length : Int) > 6 := by omega
  obtain ⟨m, rfl⟩ : ∃ m : Nat, most = (m : Int) := ⟨most.toNat, by omega⟩
  have hwm : IntKind.i64.wrap ((m : Int) + 1) = (m : Int) + 1 := Go.IntWalk.i64_in _ (by omega)
  gi_wp2_with fail
  have hnl : (varsF l).length ≤ 6 := by omega
  have hok : okF l (m : Int) = true := by unfold okF; simp; omega
  have hfind : findF l (m : Int) = fromF (satF l) (varsF l) 0 (m + 1) := by unfold findF; rw [if_pos hok]; rfl
  obtain ⟨I, hI⟩ : ∃ I : Act → World → Prop, I = fun a' W => ∃ (j : Nat) (ds : List Nat), a'.tmps.size = 40 ∧ a'.tmps[2]? = some (.pointer (some ⟨w.heap.size, 0, none⟩)) ∧ a'.tmps[4]? = some (.pointer (some ⟨w.heap.size + 1, 0, none⟩)) ∧ a'.tmps[5]? = some (.pointer (some ⟨w.heap.size + 1 + 1, 0, none⟩)) ∧
      a'.tmps[6]? = some (.slice na (varsF l).length nc) ∧ a'.tmps[26]? = some (.int .i64 ((m : Int) + 1)) ∧ a'.tmps[27]? = some (.int .i64 (j : Nat)) ∧ a'.defers = ds.map mk ∧ j ≤ m + 1 ∧ (∀ r ∈ ds, W.heap[r]? = some (.deferred (some [])) ∧ w3.heap.size ≤ r) ∧ ds.Nodup ∧ Below w3.heap.size w3 W ∧
      fromF (satF l) (varsF l) 0 (m + 1) = fromF (satF l) (varsF l) j (m + 1 - j) := ⟨_, rfl⟩
  refine wpIn_loop I (fun a' _ => m + 1 - (intOf (a'.tmps.getD 27 undef)).toNat) ?_ ?_
  · rw [hI]
    exact ⟨0, [], rfl, rfl, rfl, rfl, rfl, rfl, rfl, rfl, Nat.zero_le _, by simp, List.nodup_nil, Below.refl _ _, rfl⟩
  rintro ⟨t, df⟩ W hinv
  rw [hI] at hinv
  obtain ⟨j, ds, q0, q2, q4, q5, q6, q26, q27, rfl, hj, hds, hnd, hbW, hE⟩ := hinv
  obtain ⟨x0, x1, x2, x3, x4, x5, x6, x7, x8, x9, x10, x11, x12, x13, x14, x15, x16, x17, x18, x19, x20, x21, x22, x23, x24, x25, x26, x27, x28, x29, x30, x31, x32, x33, x34, x35, x36, x37, x38, x39, rfl⟩ := tab40 q0
  simp only [List.getElem?_toArray, List.getElem?_cons_succ, List.getElem?_cons_zero, Option.some.injEq] at q2 q4 q5 q6 q26 q27
  subst q2 q4 q5 q6 q26 q27
  have hb1W : Below w1.heap.size w1 W := hb13.trans (hbW.mono hb13.size)
  obtain ⟨g0, g1, g2, g3, g4⟩ := hrd hb1W
  by_cases hlt : j < m + 1
  case neg =>
    have hji : ¬ ((j : Nat) : Int) < (m : Int) + 1 := by omega
    have hn0 : m + 1 - j = 0 := by omega
    have hfn : findF l (m : Int) = none := by rw [hfind, hE, hn0]; rfl
    gi_wp2_with fail
    obtain ⟨X, hX⟩ : ∃ X, X = (W.setCell ⟨w.heap.size + 1, 0, none⟩ (.slice none 0 0)).setCell ⟨w.heap.size + 1 + 1, 0, none⟩ (.bool false) := ⟨_, rfl⟩
    rw [← hX]
    obtain ⟨v, k1, u, k2, k3, k4⟩ := none_case W hb1W hfn #[x0, x1, .pointer (some ⟨w.heap.size, 0, none⟩), x3, .pointer (some ⟨w.heap.size + 1, 0, none⟩), .pointer (some ⟨w.heap.size + 1 + 1, 0, none⟩)] rfl rfl
    have hXh : ∀ k, k ≠ w.heap.size + 1 → k ≠ w.heap.size + 1 + 1 → X.heap[k]? = W.heap[k]? := fun k h1 h2 => by
      rw [hX, Below.heap_setCell _ _ _ _ (by simpa using h2), Below.heap_setCell _ _ _ _ (by simpa using h1)]
    have hs3 := hb13.size
    refine leave_all (R := _) ds X hnd (fun r hr => by rw [hXh r (by have := (hds r hr).2; omega) (by have := (hds r hr).2; omega)]; exact (hds r hr).1) fun W' s1 s2 s3 s4 s5 => ?_
    have cs : ∀ {p : Addr} {v : Value}, p.block < w3.heap.size → X.cell? p = some v → W'.cell? p = some v := fun {p v} hp h => by
      rw [World.cell?_of_block (w := X) (s5 p.block fun hm => by have := (hds _ hm).2; omega)]; exact h
    have c1 : X.cell? ⟨w.heap.size + 1, 0, none⟩ = some (.slice none 0 0) := by
      rw [hX, World.cell?_setCell_other _ _ _ _ (by simp)]; exact World.cell?_setCell_same' _ _ _ (by rw [g1]; rfl)
    have c2 : X.cell? ⟨w.heap.size + 1 + 1, 0, none⟩ = some (.bool false) := by
      rw [hX]; exact World.cell?_setCell_same' _ _ _ (by rw [World.cell?_setCell_other _ _ _ _ (by simp), g3]; rfl)
    refine ⟨_, res_find (B := w.heap.size) rfl rfl (cs (by simp only; omega) c1) (cs (by simp only; omega) c2), .slice none 0 0, by first | rfl | (rw [hn0]; rfl), ?_, ?_⟩
    · try rw [hn0]
      simp only [fromF, Option.getD, coefsA, VR]; exact ⟨_, _, _, rfl, rfl, Nat.le_refl _, trivial, .inl rfl⟩
    · have kb : Below w.heap.size w X := by rw [hX]; exact k4
      exact ⟨s2.trans kb.os, s3.trans kb.tape, s4.trans kb.output, by rw [s1]; exact kb.size, fun k hk => (s5 k fun hm => by have := (hds _ hm).2; omega).trans (kb.block k hk)⟩
  have hji : ((j : Nat) : Int) < (m : Int) + 1 := by omega
  have hP := points_in W (.slice a l.length cap) (.slice na (varsF l).length nc) (j : Int) rfl rfl
  gi_wp2_with fail
  refine ⟨trivial, (callsIn_wide.2 (callsIn_wide.1 hP)).mono ?_⟩
  clear hP
  rintro e w4 ⟨rfl, hw4⟩
  have hbW4 : Below W.heap.size W w4 := by rw [hw4]; exact (((Below.refl _ W).alloc (Nat.le_refl _) _).alloc (by simp) _).alloc (by simp; omega) _
  have hsW4 : W.heap.size + 3 = w4.heap.size := by rw [hw4]; simp
  have hP0 : w4.heap[W.heap.size]? = some (.cells #[.slice a l.length cap] 22 (0, 0)) := by
    rw [hw4, Below.heap_alloc _ _ _ (by simp; omega), Below.heap_alloc _ _ _ (by simp)]; exact heap_alloc_same W _
  have hP1 : w4.heap[W.heap.size + 1]? = some (.cells #[.slice na (varsF l).length nc] 36 (0, 0)) := by
    rw [hw4, Below.heap_alloc _ _ _ (by simp)]
    have := heap_alloc_same (W.alloc (.cells #[.slice a l.length cap] 22)) (.cells #[.slice na (varsF l).length nc] 36); rwa [World.size_alloc] at this
  have hP2 : w4.heap[W.heap.size + 2]? = some (.cells #[.int .i64 (j : Int)] 3 (0, 0)) := by
    rw [hw4]
    have := heap_alloc_same ((W.alloc (.cells #[.slice a l.length cap] 22)).alloc (.cells #[.slice na (varsF l).length nc] 36)) (.cells #[.int .i64 (j : Int)] 3); rwa [World.size_alloc, World.size_alloc] at this
  have hsle : W.heap.size ≤ w4.heap.size := hbW4.size
  clear hw4
  gi_wp2_with fail
  refine range_lawF (n := 4) rfl (fun _ => trivial) hdw 50 #[.pointer (some ⟨W.heap.size, 0, none⟩), .pointer (some ⟨W.heap.size + 2, 0, none⟩), .pointer (some ⟨W.heap.size + 1, 0, none⟩)] rfl (enters_of Try.func50 (by kernel_rfl) rfl) ?_
  intro fn rec hrec W1 hW1
  have hL1 : W1.heap[w4.heap.size + 1]? = some (.loop (rec .ready none)) := by
    rw [← hW1]; have := World.alloc_heap_new (w4.alloc (.deferred (some []))) (.loop (rec .ready none)); rwa [World.size_alloc] at this
  have hK1 : W1.heap[w4.heap.size]? = some (.deferred (some [])) := by
    rw [← hW1]; exact (Below.heap_alloc _ _ _ (by simp)).trans (World.alloc_heap_new w4 _)
  have hbW1 : Below w4.heap.size w4 W1 := by rw [← hW1]; exact ((Below.refl _ w4).alloc (Nat.le_refl _) _).alloc (by simp) _
  have hsW1 : w4.heap.size + 1 < W1.heap.size := by rw [← hW1]; simp
  clear hW1
  have hbW' : Below W.heap.size W W1 := hbW4.trans (hbW1.mono hsle)
  have hs3 := hb13.size
  have hsW := hbW.size
  have hds1 : ∀ r ∈ ds, r < W.heap.size := fun r hr => (Array.getElem?_eq_some_iff.1 (hds r hr).1).1
  have hrounds : Rounds A l (varsF l).length W1 (w4.heap.size + 1) (fun p W' => W'.heap[w4.heap.size + 1]? = some (.loop (rec .done (some .ret))) ∧ W'.heap[w4.heap.size]? = some (.deferred (some [])) ∧ (∀ r ∈ ds, W'.heap[r]? = some (.deferred (some []))) ∧
      (∃ v, W'.cell? ⟨w.heap.size + 1, 0, none⟩ = some v ∧ VR (Cq A W') (coefsA p) v) ∧ W'.cell? ⟨w.heap.size + 2, 0, none⟩ = some (.bool true) ∧ Below w.heap.size w W') := by
    intro V p v hpl hB hvp
    have hl : V.heap[w4.heap.size + 1]? = some (.loop (rec .ready none)) := (hB.block _ (by omega)).trans hL1
    have hk : V.heap[w4.heap.size]? = some (.deferred (some [])) := (hB.block _ (by omega)).trans hK1
    have hdV : ∀ r ∈ ds, V.heap[r]? = some (.deferred (some [])) := fun r hr => (hB.block r (by have := hds1 r hr; omega)).trans ((hbW'.block r (hds1 r hr)).trans (hds r hr).1)
    have hy := run_yield (P := Try.prog) (args := #[v]) hl (by rw [hrec]; rfl)
    rw [hrec] at hy
    refine ⟨fn, _, _, _, hy, roundIn_of_wpIn trivial ?_⟩
    obtain ⟨pa, pc, rfl, hpc, hcells⟩ := point_at hvp
    have HPL := Lib.hid hpl
    clear hpl
    have hsV := hB.size
    have hlt : w4.heap.size + 1 < V.heap.size := by omega
    gi_wp2_with fail
    refine ⟨_, run_beginRound hl (by rw [hrec]), ?_⟩
    obtain ⟨Wb, hWb⟩ : ∃ Wb, Wb = V.putObj (w4.heap.size + 1) (.loop { rec .ready none with state := .busy }) := ⟨_, rfl⟩
    rw [← hWb]
    have hsb : Wb.heap.size = V.heap.size := by rw [hWb]; simp
    have hob : ∀ k, k ≠ w4.heap.size + 1 → Wb.heap[k]? = V.heap[k]? := fun k hk => by rw [hWb, World.putObj_heap_other hk]
    have hlb : Wb.heap[w4.heap.size + 1]? = some (.loop { rec .ready none with state := .busy }) := by
      rw [hWb]; exact World.putObj_heap_same (by omega)
    have hos : Wb.os = V.os ∧ Wb.tape = V.tape ∧ Wb.output = V.output := by rw [hWb]; exact ⟨rfl, rfl, rfl⟩
    clear hWb
    have hbV : Below w4.heap.size w4 V := hbW1.trans (hB.mono (by omega))
    have hb4b : Below w4.heap.size w4 Wb := ⟨hos.1.trans hbV.os, hos.2.1.trans hbV.tape, hos.2.2.trans hbV.output, by omega, fun k hk => (hob k (by omega)).trans (hbV.block k hk)⟩
    have hb1b : Below w1.heap.size w1 Wb := hb1W.trans ((hbW4.trans (hb4b.mono hsle)).mono hb1W.size)
    have hvb : VR (Cq A Wb) (coefsA p) (.slice pa p.length pc) := by
      simp only [coefsA, VR] at hvp ⊢
      obtain ⟨a', len, cap', e0, e1, e2, -, e4⟩ := hvp
      refine ⟨a', len, cap', e0, e1, e2, trivial, e4.imp id ?_⟩
      rintro ⟨b, o, sz, rfl, hr⟩
      refine ⟨b, o, sz, rfl, PRows.stays (A' := (Cq A Wb).Avoid) (fun b' o' v' hv' ha => ⟨?_, ha⟩) _ _ _ _ hr⟩
      refine (World.cell?_of_block (w := (Cq A V).w) (hob b' fun e => ?_)).trans hv'
      subst e
      have hv'' : V.cell? ⟨w4.heap.size + 1, o', none⟩ = some v' := hv'
      unfold World.cell? at hv''
      dsimp only at hv''
      rw [hl] at hv''
      simp at hv''
    obtain ⟨z0, z1, z2, z3, z4⟩ := hrd hb1b
    have hS := call0 (vs := #[.slice a l.length cap, .slice pa p.length pc]) (w := Wb) (hA.le (Nat.le_trans hb1.size hb1b.size)) (fun S tk k => models_Satisfies S tk k l p (by have := (sys_few hsys).2.1; omega) (fun r hr => by have := (sys_few hsys).1 r hr; omega) (by have := HPL.out; omega)) (by
      simp only [VRs, and_true]; exact ⟨hv1.below0 hb1b, hvb⟩)
    clear hy
    gi_wp2_with fail
    refine ⟨trivial, (CallsIn.inRound (w4.heap.size + 1) (callsIn_wide.2 hS)).mono ?_⟩
    clear hS
    rintro e w5 ⟨v5, rfl, hb5, hv5⟩
    simp only [VR] at hv5
    subst hv5
    have hs5 := hb5.size
    have hl5 : w5.heap[w4.heap.size + 1]? = some (.loop { rec .ready none with state := .busy }) := (hb5.block _ (by omega)).trans hlb
    obtain ⟨z0, z1, z2, z3, z4⟩ := hrd (hb1b.trans (hb5.mono hb1b.size))
    cases hsat : satF l p with
    | false =>
      gi_wp2_with fail
      refine ⟨_, _, run_endRound none hl5, .inl ⟨hsat, rfl, ?_⟩⟩
      obtain ⟨W6, hW6⟩ : ∃ W6, W6 = w5.putObj (w4.heap.size + 1) (.loop { ({ rec .ready none with state := .busy } : Loop) with state := if (none : Option Code).isNone then .ready else .done, pending := none }) := ⟨_, rfl⟩
      rw [← hW6]
      have h6s : W6.heap.size = w5.heap.size := by rw [hW6]; simp
      have h6o : ∀ k, k ≠ w4.heap.size + 1 → W6.heap[k]? = w5.heap[k]? := fun k hk => by rw [hW6, World.putObj_heap_other hk]
      have h6l : W6.heap[w4.heap.size + 1]? = some (.loop (rec .ready none)) := by
        rw [hW6, World.putObj_heap_same (by omega), hrec]; rfl
      have h6e : W6.os = w5.os ∧ W6.tape = w5.tape ∧ W6.output = w5.output := by rw [hW6]; exact ⟨rfl, rfl, rfl⟩
      clear hW6
      refine ⟨h6e.1.trans (hb5.os.trans hos.1), h6e.2.1.trans (hb5.tape.trans hos.2.1), h6e.2.2.trans (hb5.output.trans hos.2.2), by omega, fun k hk => ?_⟩
      by_cases hkl : k = w4.heap.size + 1
      · rw [hkl, h6l, hl]
      · rw [h6o k hkl, hb5.block k (by omega), hob k hkl]
    | true =>
      gi_wp2_with fail
      obtain ⟨X, hX⟩ : ∃ X, X = (w5.setCell ⟨w.heap.size + 1, 0, none⟩ (.slice pa p.length pc)).setCell ⟨w.heap.size + 1 + 1, 0, none⟩ (.bool true) := ⟨_, rfl⟩
      rw [← hX]
      have hXs : X.heap.size = w5.heap.size := by rw [hX]; simp
      have hXo : ∀ k, k ≠ w.heap.size + 1 → k ≠ w.heap.size + 1 + 1 → X.heap[k]? = w5.heap[k]? := fun k h1 h2 => by
        rw [hX, Below.heap_setCell _ _ _ _ (by simpa using h2), Below.heap_setCell _ _ _ _ (by simpa using h1)]
      have hX1 : X.cell? ⟨w.heap.size + 1, 0, none⟩ = some (.slice pa p.length pc) := by
        rw [hX, World.cell?_setCell_other _ _ _ _ (by simp)]; exact World.cell?_setCell_same' _ _ _ (by rw [z1]; rfl)
      have hX2 : X.cell? ⟨w.heap.size + 1 + 1, 0, none⟩ = some (.bool true) := by
        rw [hX]; exact World.cell?_setCell_same' _ _ _ (by rw [World.cell?_setCell_other _ _ _ _ (by simp), z3]; rfl)
      have hb1V : Below w.heap.size w w5 := hb1.trans (((hb1b.trans (hb5.mono hb1b.size))).mono (by omega))
      have hbX : Below w.heap.size w X := by
        rw [hX]; exact (hb1V.setCell (p := ⟨w.heap.size + 1, 0, none⟩) (by simp) _).setCell (p := ⟨w.heap.size + 1 + 1, 0, none⟩) (by simp only; omega) _
      clear hX
      have hlX : X.heap[w4.heap.size + 1]? = some (.loop { rec .ready none with state := .busy }) := by
        rw [hXo _ (by omega) (by omega)]; exact hl5
      refine ⟨_, _, run_endRound (some .ret) hlX, .inr ⟨hsat, rfl, ?_⟩⟩
      obtain ⟨Y, hYd⟩ : ∃ Y, Y = X.putObj (w4.heap.size + 1) (.loop { ({ rec .ready none with state := .busy } : Loop) with state := if (some Code.ret).isNone then .ready else .done, pending := some .ret }) := ⟨_, rfl⟩
      rw [← hYd]
      have hYo : ∀ k, k ≠ w4.heap.size + 1 → Y.heap[k]? = X.heap[k]? := fun k hk => by rw [hYd, World.putObj_heap_other hk]
      have hYl : Y.heap[w4.heap.size + 1]? = some (.loop (rec .done (some .ret))) := by
        rw [hYd, World.putObj_heap_same (by omega), hrec]; rfl
      have hYe : Y.os = X.os ∧ Y.tape = X.tape ∧ Y.output = X.output ∧ Y.heap.size = X.heap.size := by rw [hYd]; exact ⟨rfl, rfl, rfl, World.putObj_size⟩
      clear hYd
      have up : ∀ k, k ≠ w4.heap.size + 1 → k ≠ w.heap.size + 1 → k ≠ w.heap.size + 1 + 1 → k < V.heap.size → Y.heap[k]? = V.heap[k]? := fun k h1 h2 h3 h4 => by
        rw [hYo k h1, hXo k h2 h3, hb5.block k (by omega), hob k h1]
      refine ⟨hYl, ?_, fun r hr => ?_, ⟨.slice pa p.length pc, ?_, ?_⟩, ?_, ?_⟩
      · rw [up _ (by omega) (by omega) (by omega) (by omega)]; exact hk
      · rw [up r (by have := hds1 r hr; omega) (by have := (hds r hr).2; omega) (by have := (hds r hr).2; omega) (by have := hds1 r hr; omega)]; exact hdV r hr
      · rw [World.cell?_of_block (w := X) (hYo _ (by simp; omega))]; exact hX1
      · rcases hcells with rfl | ⟨b, o, rfl, hcl⟩
        · simp only [coefsA, VR]; exact ⟨_, _, _, rfl, rfl, hpc, trivial, .inl rfl⟩
        · refine point_of hpc fun q u hq => ?_
          obtain ⟨hq', hna⟩ := hcl q u hq
          have hone : ∀ (v : Value), v = u → (∃ s, v = .string s) ∨ ∃ n, v = .int .i64 n := fun v hv => by
            subst hv; exact flatP_kind p _ (List.mem_of_getElem? hq)
          have hbV1 : Below w1.heap.size w1 V := hb1W.trans ((hbW4.trans (hbV.mono hsle)).mono hb1W.size)
          have n1 : b ≠ w.heap.size + 1 := fun e => by
            subst e
            have hh := (hbV1.block (w.heap.size + 1) (by omega)).trans hB1
            simp only [World.cell?, hh] at hq'
            have hq2 : (#[Value.slice none 0 0] : Array Value)[o + q]? = some u := by simpa using hq'
            have : u = .slice none 0 0 := by
              have hm := Array.mem_of_getElem? hq2
              simpa using hm
            rcases hone u rfl with ⟨s, e⟩ | ⟨s, e⟩ <;> rw [this] at e <;> cases e
          have n2 : b ≠ w.heap.size + 1 + 1 := fun e => by
            subst e
            have hh := (hbV1.block (w.heap.size + 2) (by omega)).trans hB2
            simp only [World.cell?, hh] at hq'
            have hq2 : (#[Value.bool false] : Array Value)[o + q]? = some u := by simpa using hq'
            have : u = .bool false := by
              have hm := Array.mem_of_getElem? hq2
              simpa using hm
            rcases hone u rfl with ⟨s, e⟩ | ⟨s, e⟩ <;> rw [this] at e <;> cases e
          have n3 : b ≠ w4.heap.size + 1 := fun e => by
            subst e
            unfold World.cell? at hq'
            dsimp only at hq'
            rw [hl] at hq'
            simp at hq'
          exact ⟨(World.cell?_of_block (w := V) (up b n3 n1 n2 (cell_lt hq'))).trans hq', hna⟩
      · rw [World.cell?_of_block (w := X) (hYo _ (by simp; omega))]; exact hX2
      · exact ⟨hYe.1.trans hbX.os, hYe.2.1.trans hbX.tape, hYe.2.2.1.trans hbX.output, by rw [hYe.2.2.2]; exact hbX.size, fun k hk => (hYo k (by omega)).trans (hbX.block k hk)⟩
  have rd : ∀ {V : World}, Below w4.heap.size w4 V → V.cell? ⟨W.heap.size, 0, none⟩ = some (.slice a l.length cap) ∧ V.cell? ⟨W.heap.size + 1, 0, none⟩ = some (.slice na (varsF l).length nc) ∧ V.cell? ⟨W.heap.size + 2, 0, none⟩ = some (.int .i64 (j : Int)) := by
    intro V hb
    have h0 := (hb.block W.heap.size (by omega)).trans hP0
    have h1 := (hb.block (W.heap.size + 1) (by omega)).trans hP1
    have h2 := (hb.block (W.heap.size + 2) (by omega)).trans hP2
    simp [World.cell?, h0, h1, h2]
  obtain ⟨p0, p1, p2⟩ := rd hbW1
  have hbl : Below w1.heap.size w1 W1 := hb1W.trans (hbW'.mono hb1W.size)
  have hb3l : Below w3.heap.size w3 W1 := hbW.trans (hbW'.mono hsW)
  refine ((callsIn_wide.2 (callsIn_wide.1 (points1_in (W := W1) (hA.le (Nat.le_trans hb1.size hbl.size)) (rows_ok hsys) hnl (vars_apart l) ⟨by omega, by omega⟩ hrounds ⟨_, p0, hv1.below0 hbl⟩ p2 ⟨_, p1, hv3.below0 hb3l⟩)))).mono ?_
  rintro e W7 ⟨⟨v7, rfl⟩, (⟨hf0, hb7⟩ | ⟨p, hf0, hl7, hk7, hd7, ⟨pv, hc7, hv7⟩, hc8, hb7⟩)⟩
  · have hl7 : W7.heap[w4.heap.size + 1]? = some (.loop (rec .ready none)) := (hb7.block _ (by omega)).trans hL1
    have hk7 : W7.heap[w4.heap.size]? = some (.deferred (some [])) := (hb7.block _ (by omega)).trans hK1
    refine ⟨_, _, run_endLoop hl7 (by rw [hrec]; simp), ?_⟩
    rw [show (rec .ready none).pending = none by rw [hrec]]
    dsimp only
    obtain ⟨W8, hW8⟩ : ∃ W8, W8 = W7.putObj (w4.heap.size + 1) (.loop { (rec .ready none) with state := .exhausted, pending := none }) := ⟨_, rfl⟩
    rw [← hW8]
    have h8o : ∀ k, k ≠ w4.heap.size + 1 → W8.heap[k]? = W7.heap[k]? := fun k hk => by rw [hW8, World.putObj_heap_other hk]
    have h8e : W8.os = W7.os ∧ W8.tape = W7.tape ∧ W8.output = W7.output ∧ W8.heap.size = W7.heap.size := by rw [hW8]; exact ⟨rfl, rfl, rfl, World.putObj_size⟩
    clear hW8
    have hk8 := (h8o w4.heap.size (by omega)).trans hk7
    have hb47 : Below W.heap.size W W7 := hbW'.trans (hb7.mono hbW'.size)
    have hb48 : Below W.heap.size W W8 := ⟨h8e.1.trans hb47.os, h8e.2.1.trans hb47.tape, h8e.2.2.1.trans hb47.output, by rw [h8e.2.2.2]; exact hb47.size, fun k hk => (h8o k (by omega)).trans (hb47.block k hk)⟩
    have hwj : IntKind.i64.wrap ((j : Int) + 1) = ((j + 1 : Nat) : Int) := by rw [Go.IntWalk.i64_in _ (by omega)]; omega
    have hstep : fromF (satF l) (varsF l) j (m + 1 - j) = fromF (satF l) (varsF l) (j + 1) (m + 1 - (j + 1)) := by
      have e1 : m + 1 - j = (m + 1 - (j + 1)) + 1 := by omega
      rw [e1, fromF, hf0]
    gi_wp2_with fail
    refine ⟨⟨j + 1, by omega, w4.heap.size :: ds, rfl, by omega, fun r hr => ?_, ?_, ?_, ?_⟩, by simp [intOf]; omega⟩
    · rcases List.mem_cons.1 hr with rfl | hr
      · exact ⟨hk8, by omega⟩
      · have := hds1 r hr
        refine ⟨?_, (hds r hr).2⟩
        rw [hb48.block r this]; exact (hds r hr).1
    · exact List.nodup_cons.2 ⟨fun hm => by have := hds1 _ hm; omega, hnd⟩
    · exact hbW.trans (hb48.mono hsW)
    · rw [show m + 1 - (j + 1) = m - j by omega]
  · have hs7 := hb7.size
    refine ⟨_, _, run_endLoop hl7 (by rw [hrec]; simp), ?_⟩
    rw [show (rec .done (some .ret)).pending = some .ret by rw [hrec]]
    dsimp only
    obtain ⟨W8, hW8⟩ : ∃ W8, W8 = W7.putObj (w4.heap.size + 1) (.loop { (rec .done (some .ret)) with state := .exhausted, pending := some .ret }) := ⟨_, rfl⟩
    rw [← hW8]
    have h8o : ∀ k, k ≠ w4.heap.size + 1 → W8.heap[k]? = W7.heap[k]? := fun k hk => by rw [hW8, World.putObj_heap_other hk]
    have h8e : W8.os = W7.os ∧ W8.tape = W7.tape ∧ W8.output = W7.output ∧ W8.heap.size = W7.heap.size := by rw [hW8]; exact ⟨rfl, rfl, rfl, World.putObj_size⟩
    clear hW8
    have hk8 := (h8o w4.heap.size (by omega)).trans hk7
    have hd8 : ∀ r ∈ ds, W8.heap[r]? = some (.deferred (some [])) := fun r hr => (h8o r (by have := hds1 r hr; omega)).trans (hd7 r hr)
    have hfp : fromF (satF l) (varsF l) j (m + 1 - j) = some p := by
      have e1 : m + 1 - j = (m - j) + 1 := by omega
      rw [e1, fromF, hf0]
    have hnd2 : (w4.heap.size :: ds).Nodup := List.nodup_cons.2 ⟨fun hm => by have := hds1 _ hm; omega, hnd⟩
    have hfl : findF l (m : Int) = some p := by rw [hfind, hE, hfp]
    gi_wp2_with fail
    refine leave_all (w4.heap.size :: ds) W8 hnd2 (fun r hr => by
      rcases List.mem_cons.1 hr with rfl | hr
      · exact hk8
      · exact hd8 r hr) fun W' s1 s2 s3 s4 s5 => ?_
    have hno : ∀ {b o : Nat} {u : Value}, W7.cell? ⟨b, o, none⟩ = some u → b ≠ w4.heap.size + 1 ∧ b ∉ w4.heap.size :: ds := fun {b o u} h => by
      refine ⟨fun e => ?_, fun hm => ?_⟩
      · subst e
        unfold World.cell? at h
        dsimp only at h
        rw [hl7] at h
        simp at h
      · have hh : W7.heap[b]? = some (.deferred (some [])) := by
          rcases List.mem_cons.1 hm with rfl | hm
          · exact hk7
          · exact hd7 b hm
        unfold World.cell? at h
        dsimp only at h
        rw [hh] at h
        simp at h
    have keep : ∀ {b o : Nat} {u : Value}, W7.cell? ⟨b, o, none⟩ = some u → W'.cell? ⟨b, o, none⟩ = some u := fun {b o u} h => by
      obtain ⟨n1, n2⟩ := hno h
      rw [World.cell?_of_block (w := W8) (s5 b n2), World.cell?_of_block (w := W7) (h8o b n1)]; exact h
    refine ⟨_, res_find (B := w.heap.size) rfl rfl (keep hc7) (keep hc8), pv, ?_, ?_, ?_⟩
    · first | rfl | (rw [hfl]; rfl) | (simp only [hfp]; rfl)
    · have hgoal : VR (Cq A W') (coefsA p) pv := by
        simp only [coefsA, VR] at hv7 ⊢
        obtain ⟨a', len, cap', e0, e1, e2, -, e4⟩ := hv7
        refine ⟨a', len, cap', e0, e1, e2, trivial, e4.imp id ?_⟩
        rintro ⟨b, o, sz, rfl, hr⟩
        exact ⟨b, o, sz, rfl, PRows.stays (A' := (Cq A W').Avoid) (fun b' o' v' hv' ha => ⟨keep hv', ha⟩) _ _ _ _ hr⟩
      first | exact hgoal | (rw [hfl]; exact hgoal) | (simp only [hfp]; exact hgoal)
    · refine ⟨s2.trans (h8e.1.trans hb7.os), s3.trans (h8e.2.1.trans hb7.tape), s4.trans (h8e.2.2.1.trans hb7.output), by rw [s1, h8e.2.2.2]; exact hb7.size, fun k hk => ?_⟩
      rw [s5 k (fun hm => by
        rcases List.mem_cons.1 hm with rfl | hm
        · omega
        · have := (hds k hm).2; omega), h8o k (by omega)]
      exact hb7.block k hk
end Go.Proofs.Ytcandeobhlfkbaa
/-
  From here on the search is told as well.
-/

namespace Go.Proofs.Ytcandeobhlfkbaa
open Go Go.RowKit
theorem coefs_inj : ∀ {a b : List (ByteArray × Int)}, a.map coefC = b.map coefC → a = b
  | [], [], _ => rfl
  | [], _ :: _, h => by simp at h
  | _ :: _, [], h => by simp at h
  | x :: a, y :: b, h => by
    simp only [List.map_cons, List.cons.injEq, coefC, AV.prim.injEq, Value.string.injEq, Value.int.injEq, and_true, true_and] at h
    rw [coefs_inj h.2, Prod.ext h.1.1 h.1.2]
theorem rows_inj : ∀ {a b : List RowT}, a.map rowC = b.map rowC → a = b
  | [], [], _ => rfl
  | [], _ :: _, h => by simp at h
  | _ :: _, [], h => by simp at h
  | x :: a, y :: b, h => by
    simp only [List.map_cons, List.cons.injEq, rowC, coefsA, AV.frz.injEq, AV.prim.injEq, Value.bool.injEq, Value.int.injEq, and_true, true_and] at h
    rw [rows_inj h.2, Prod.ext (coefs_inj h.1.1) (Prod.ext h.1.2.1 h.1.2.2)]
def fndA (l : List RowT) (most : Int) : AV := .tup [coefsA ((findF l most).getD []), .prim (.bool (findF l most).isSome)]
open Classical in
noncomputable def fndC (args : List AV) : Option AV := if h : ∃ q : List RowT × Int, args = [rowsA q.1, .prim (.int .i64 q.2)] then some (fndA h.choose.1 h.choose.2) else none
theorem fndC_some {args : List AV} {r : AV} (h : fndC args = some r) : ∃ l most, args = [rowsA l, .prim (.int .i64 most)] ∧ r = fndA l most := by
  unfold fndC at h
  split at h
  · rename_i hp
    simp only [Option.some.injEq] at h
    exact ⟨_, _, hp.choose_spec, h.symm⟩
  · simp at h
theorem fndC_of (l : List RowT) (most : Int) : fndC [rowsA l, .prim (.int .i64 most)] = some (fndA l most) := by
  have hx : ∃ q : List RowT × Int, [rowsA l, AV.prim (.int .i64 most)] = [rowsA q.1, .prim (.int .i64 q.2)] := ⟨(l, most), rfl⟩
  unfold fndC
  rw [dif_pos hx]
  have h1 := hx.choose_spec
  generalize hx.choose = q at h1 ⊢
  simp only [rowsA, List.cons.injEq, AV.frz.injEq, AV.prim.injEq, Value.int.injEq, and_true, true_and] at h1
  rw [← rows_inj h1.1, ← h1.2]
noncomputable def fndX (f : FuncId) (args : List AV) (S : List Ent) (tk : List Nat) (n : Nat) : Option (AV × List Ent × List Nat × Nat) :=
  if f == 17 then (fndC (args.map w2)).map fun r => (r, S, tk, n) else uniC f args S tk n
@[reducible] noncomputable def E1 : Ext Try.prog where
  on := fun f => f == 53 || f == 17
  mv := fun _ => false
  call := fndX
theorem E0_le : CLe uniC (@Ext.call Try.prog E1) := by
  intro f args S tk n r h
  have hf := (uni_some h).1
  subst hf
  show fndX _ _ _ _ _ = some r
  unfold fndX
  rw [if_neg (by decide)]; exact h
theorem told1 {f : FuncId} {args : List AV} {S : List Ent} {tk : List Nat} {n : Nat} {r : AV × List Ent × List Nat × Nat} (h : @cL _ Try.prog E0 f args S tk n = some r) : @cL _ Try.prog E1 f args S tk n = some r := told_sub (E := E1) E0_le h
theorem Fnd_ok {C : Cx} {vs : Array Value} (hs : SR C) (l : List RowT) (most : Int) (hv : VRs C [rowsA l, .prim (.int .i64 most)] vs.toList) :
    Calls Try.prog 17 vs C.w fun e w' => ∃ v C', e = .returned v ∧ C'.w = w' ∧ Le C C' ∧ SR C' ∧ C'.S = C.S ∧ C'.tk = C.tk ∧ C'.n = C.n ∧ VR C' (fndA l most) v := by
  obtain ⟨vl⟩ := vs
  match vl, hv with
  | [x, y], hv =>
  simp only [VRs, VR, rowsA, and_true] at hv
  obtain ⟨⟨a, len, cap, rfl, h1, h2, -, h4⟩, rfl⟩ := hv
  rw [List.length_map] at h1
  subst h1
  have hA : UnderA C.Avoid C.w := fun b o h => by
    rcases h with h | h
    · exact hs.avlt b o h
    · exact mut_lt hs h
  have hv0 : VR (Cq C.Avoid C.w) (rowsA l) (.slice a l.length cap) := by
    simp only [rowsA, VR]
    refine ⟨_, _, _, rfl, by simp, h2, trivial, h4.imp id ?_⟩
    rintro ⟨b, o, sz, rfl, hr⟩
    exact ⟨b, o, sz, rfl, PRows.stays (A' := (Cq C.Avoid C.w).Avoid) (fun _ _ _ hv ha => ⟨hv, Cq_avoid ha⟩) _ _ _ _ hr⟩
  refine (callsIn_wide.1 (find_in l most C.w a cap hA hv0)).mono ?_
  rintro e w' ⟨v, rfl, hp, hb⟩
  refine ⟨_, C.at w', rfl, rfl, Le.of_below hb, SR.of_below hs hb, rfl, rfl, rfl, ?_⟩
  simp only [fndA, VR]
  refine ⟨_, rfl, ?_⟩
  simp only [VRs, VR, and_true]
  simp only [coefsA, VR] at hp ⊢
  obtain ⟨a', len, cap', rfl, g1, g2, -, g4⟩ := hp
  refine ⟨a', len, cap', rfl, g1, g2, trivial, g4.imp id ?_⟩
  rintro ⟨b, o, sz, rfl, hr⟩
  refine ⟨b, o, sz, rfl, PRows.stays (A' := (C.at w').Avoid) (fun b' o' _ hv ha => ⟨hv, fun h => Cq_of ha ?_⟩) _ _ _ _ hr⟩
  exact h
theorem ext1_some {f : FuncId} {args : List AV} {S : List Ent} {tk : List Nat} {n : Nat} {r : AV} {S' : List Ent} {tk' : List Nat} {n' : Nat} (h : @extC Try.prog E1 f args S tk n = some (r, S', tk', n')) :
    S' = S ∧ tk' = tk ∧ n' = n ∧ ((f = 17 ∧ ∃ l most, args.map w2 = [rowsA l, .prim (.int .i64 most)] ∧ r = fndA l most) ∨ (f = 53 ∧ ∃ l c, args = [.frz (l.map strC) c, .frz [] .nilc] ∧ l.length ≤ 1000000 ∧ (!l.isEmpty || isNilc c) = true ∧ r = strsA (uniS l))) := by
  unfold extC at h
  split at h
  · change fndX f args S tk n = _ at h
    unfold fndX at h
    split at h
    · rename_i hf
      simp only [Option.map_eq_some_iff, Prod.mk.injEq] at h
      obtain ⟨x, hx, rfl, rfl, rfl, rfl⟩ := h
      exact ⟨rfl, rfl, rfl, .inl ⟨by simpa using hf, fndC_some hx⟩⟩
    · obtain ⟨h1, l, c, h2, h3, h4, h5⟩ := uni_some h
      simp only [Prod.mk.injEq] at h5
      exact ⟨h5.2.1, h5.2.2.1, h5.2.2.2, .inr ⟨h1, l, c, h2, h3, h4, h5.1⟩⟩
  · simp at h
theorem ext1_same {f : FuncId} {args : List AV} {S S2 : List Ent} {tk tk2 : List Nat} {n n2 : Nat} {r : AV} {S' : List Ent} {tk' : List Nat} {n' : Nat} (h : @extC Try.prog E1 f args S tk n = some (r, S', tk', n')) : @extC Try.prog E1 f args S2 tk2 n2 = some (r, S2, tk2, n2) := by
  obtain ⟨-, -, -, hh⟩ := ext1_some h
  rcases hh with ⟨rfl, l, most, ha, rfl⟩ | ⟨rfl, l, c, rfl, hlen, hc, rfl⟩
  · show (if _ then fndX _ _ _ _ _ else none) = _
    simp [Ext.on, fndX, ha, fndC_of]
  · show (if _ then fndX _ _ _ _ _ else none) = _
    rw [if_pos (by simp [Ext.on])]
    unfold fndX
    rw [if_neg (by decide)]
    exact uni_of hlen hc S2 tk2 n2
@[reducible] noncomputable instance E1i : Ext Try.prog := E1
instance ok1 : ExtOk Try.prog := {
  ok := fun f args S tk n r S' tk' n' h => by
    obtain ⟨rfl, rfl, rfl, hh⟩ := ext1_some h
    rcases hh with ⟨rfl, l, most, ha, rfl⟩ | ⟨rfl, l, c, rfl, hlen, hc, rfl⟩
    · refine ⟨⟨_, Try.func17, by decide +kernel, by decide +kernel⟩, fun C vs h1 h2 h3 hs hv => ?_⟩
      subst h1 h2 h3
      exact Fnd_ok hs l most (by rw [← ha]; exact VRs_w2 hv)
    · refine ⟨⟨_, Try.func53, by decide +kernel, by decide +kernel⟩, fun C vs h1 h2 h3 hs hv => ?_⟩
      subst h1 h2 h3
      exact Uni_ok hs hlen hc hv
  indep := fun M f args S tk n r S' tk' n' h => by
    unfold callP at h
    split at h
    · rename_i hp
      obtain ⟨e1, e2, e3, -⟩ := ext1_some h
      refine ⟨e1, e2, .inr ⟨e3, fun S2 tk2 n2 => ?_⟩⟩
      unfold callP
      rw [if_pos hp]
      exact ext1_same h
    · simp at h }
theorem ext_mv1 (f : FuncId) : @Ext.mv Try.prog E1i f = false := rfl
theorem models_Find (S : List Ent) (tk : List Nat) (k : Nat) (l : List RowT) (c : Cap) (most : Int) : cL Try.prog 17 [.frz (l.map rowC) c, .int most] S tk k = some (fndA l most, S, tk, k) := by
  refine call_ext rfl ?_
  show fndX _ _ _ _ _ = _
  have h : [AV.frz (l.map rowC) c, AV.int most].map w2 = [rowsA l, .prim (.int .i64 most)] := rfl
  simp [fndX, h, fndC_of]
end Go.Proofs.Ytcandeobhlfkbaa
/-
  The laws' examples hold; three laws, walked.
-/

namespace Go.Proofs.Ytcandeobhlfkbaa
open Go
theorem vals2 : (valsF 2).map intC = [[.prim (.int .i64 0)], [.prim (.int .i64 1)], [.prim (.int .i64 (-1))], [.prim (.int .i64 2)], [.prim (.int .i64 (-2))]] := rfl
def rw1 : List RowT := [([(nX, 1)], -3, false), ([(nX, -1)], 2, false)]
def rw2 : List RowT := [([(nX, 2)], -1, true)]
theorem fnd1 : findF rw1 4 = some [(nX, 2)] := by decide +kernel
theorem fnd2 : findF rw2 4 = none := by decide +kernel
theorem fnd3 : findF [] 0 = some [] := by decide +kernel
def pxy (x y : Int) : Pt := [(nX, x), (nY, y)]
theorem ord1 : ordF (pxy 1 0) (pxy 1 1) = -1 := by decide +kernel
theorem ord2 : ordF (pxy (-1) 0) (pxy 1 1) = 1 := by decide +kernel
theorem ord3 : ordF (pxy 2 0) (pxy (-1) 0) = 1 := by decide +kernel
theorem ord4 : ordF (pxy 1 0) [(nX, 1)] = 0 := by decide +kernel
theorem sat1 : satF [([(nX, 1), (nY, 1)], -3, false)] (pxy 1 2) = true := by decide +kernel
theorem sat2 : satF [([(nX, 1), (nY, 1)], -3, true)] (pxy 1 1) = false := by decide +kernel
theorem pxy_i {x y : Int} (hx : i64 x) (hy : i64 y) : PtI (pxy x y) := by
  intro c hc
  simp only [pxy, List.mem_cons, List.not_mem_nil, or_false] at hc
  rcases hc with rfl | rfl <;> assumption
theorem x_i {x : Int} (hx : i64 x) : PtI [(nX, x)] := by
  intro c hc
  simp only [List.mem_cons, List.not_mem_nil, or_false] at hc
  subst hc; exact hx
section
variable {S : List Ent} {tk : List Nat} {k : Nat} {A B : List (List AV)}
theorem ord_t : cL Try.prog 14 [.frz A .unk, .frz B .tight] S tk k = cL Try.prog 14 [.frz A .unk, .frz B .unk] S tk k := cL_w2 rfl rfl rfl
theorem sat_t : cL Try.prog 10 [.frz A .tight, .frz B .unk] S tk k = cL Try.prog 10 [.frz A .unk, .frz B .unk] S tk k := cL_w2 rfl rfl rfl
end
section
variable (S : List Ent) (tk : List Nat) (k : Nat)
set_option maxRecDepth 100000 in
set_option maxHeartbeats 2000000 in
theorem L15_awake : cL Try.prog 9 [] S tk k = some (.bool true, S, tk, k) := by
  have i0 : i64 0 := by simp [i64]
  have i1 : i64 1 := by simp [i64]
  have i2 : i64 2 := by simp [i64]
  have i3 : i64 (-1) := by simp [i64]
  have hR1 := fun S tk k => told1 (L15_row1 S tk k 1 (-3) false rfl)
  have hR2 := fun S tk k => told1 (L15_row1 S tk k (-1) 2 false rfl)
  have hR3 := fun S tk k => told1 (L15_row1 S tk k 2 (-1) true rfl)
  have hR4 := fun S tk k => told1 (L15_row2 S tk k 1 1 (-3) false rfl rfl)
  have hR5 := fun S tk k => told1 (L15_row2 S tk k 1 1 (-3) true rfl rfl)
  have hF1 : ∀ S tk k, cL Try.prog 17 [.frz [rowC ([(nX, 1)], -3, false), rowC ([(nX, -1)], 2, false)] .tight, .int 4] S tk k = some (.tup [.frz [[.prim (.string ⟨#[120]⟩), .prim (.int .i64 2)]] .unk, .bool true], S, tk, k) := fun S tk k => by
    have := models_Find S tk k rw1 .tight 4
    rw [fndA, fnd1] at this; exact this
  have hF2 : ∀ S tk k, cL Try.prog 17 [.frz [rowC ([(nX, 2)], -1, true)] .tight, .int 4] S tk k = some (.tup [.frz [] .unk, .bool false], S, tk, k) := fun S tk k => by
    have := models_Find S tk k rw2 .tight 4
    rw [fndA, fnd2] at this; exact this
  have hF3 : ∀ S tk k, cL Try.prog 17 [.frz [] .nilc, .int 0] S tk k = some (.tup [.frz [] .unk, .bool true], S, tk, k) := fun S tk k => by
    have := models_Find S tk k [] .nilc 0
    rw [fndA, fnd3] at this; exact this
  have hV := fun S tk k => told1 (models_Values S tk k 2)
  rw [vals2] at hV
  have hA1 : ∀ S tk k, cL Try.prog 23 [.int 1, .int 0] S tk k = some (coefsA (pxy 1 0), S, tk, k) := fun S tk k => told1 (L15_at S tk k 1 0)
  have hA2 : ∀ S tk k, cL Try.prog 23 [.int 1, .int 1] S tk k = some (coefsA (pxy 1 1), S, tk, k) := fun S tk k => told1 (L15_at S tk k 1 1)
  have hA3 : ∀ S tk k, cL Try.prog 23 [.int (-1), .int 0] S tk k = some (coefsA (pxy (-1) 0), S, tk, k) := fun S tk k => told1 (L15_at S tk k (-1) 0)
  have hA4 : ∀ S tk k, cL Try.prog 23 [.int 2, .int 0] S tk k = some (coefsA (pxy 2 0), S, tk, k) := fun S tk k => told1 (L15_at S tk k 2 0)
  have hA5 : ∀ S tk k, cL Try.prog 23 [.int 1, .int 2] S tk k = some (coefsA (pxy 1 2), S, tk, k) := fun S tk k => told1 (L15_at S tk k 1 2)
  have hO1 := fun S tk k => told1 (models_Order S tk k (pxy 1 0) (pxy 1 1) (by decide) (by decide) (pxy_i i1 i0) (pxy_i i1 i1))
  have hO2 := fun S tk k => told1 (models_Order S tk k (pxy (-1) 0) (pxy 1 1) (by decide) (by decide) (pxy_i i3 i0) (pxy_i i1 i1))
  have hO3 := fun S tk k => told1 (models_Order S tk k (pxy 2 0) (pxy (-1) 0) (by decide) (by decide) (pxy_i i2 i0) (pxy_i i3 i0))
  have hO4 : ∀ S tk k, cL Try.prog 14 [coefsA (pxy 1 0), .frz [[.prim (.string ⟨#[120]⟩), .prim (.int .i64 1)]] .unk] S tk k = some (.int (ordF (pxy 1 0) [(nX, 1)]), S, tk, k) := fun S tk k => told1 (models_Order S tk k (pxy 1 0) [(nX, 1)] (by decide) (by decide) (pxy_i i1 i0) (x_i i1))
  have hS1 : ∀ S tk k, cL Try.prog 10 [.frz [rowC ([(nX, 1), (nY, 1)], -3, false)] .unk, coefsA (pxy 1 2)] S tk k = some (.bool (satF [([(nX, 1), (nY, 1)], -3, false)] (pxy 1 2)), S, tk, k) := fun S tk k => told1 (models_Satisfies S tk k [([(nX, 1), (nY, 1)], -3, false)] (pxy 1 2) (by decide) (by intro r hr; simp only [List.mem_cons, List.not_mem_nil, or_false] at hr; subst hr; decide) (by decide))
  have hS2 : ∀ S tk k, cL Try.prog 10 [.frz [rowC ([(nX, 1), (nY, 1)], -3, true)] .unk, coefsA (pxy 1 1)] S tk k = some (.bool (satF [([(nX, 1), (nY, 1)], -3, true)] (pxy 1 1)), S, tk, k) := fun S tk k => told1 (models_Satisfies S tk k [([(nX, 1), (nY, 1)], -3, true)] (pxy 1 1) (by decide) (by intro r hr; simp only [List.mem_cons, List.not_mem_nil, or_false] at hr; subst hr; decide) (by decide))
  rw [ord1] at hO1
  rw [ord2] at hO2
  rw [ord3] at hO3
  rw [ord4] at hO4
  rw [sat1] at hS1
  rw [sat2] at hS2
  generalize pxy 1 0 = p10 at *
  generalize pxy 1 1 = p11 at *
  generalize pxy (-1) 0 = pm10 at *
  generalize pxy 2 0 = p20 at *
  generalize pxy 1 2 = p12 at *
  generalize ([(nX, (1 : Int))], (-3 : Int), false) = r1 at *
  generalize ([(nX, (-1 : Int))], (2 : Int), false) = r2 at *
  generalize ([(nX, (2 : Int))], (-1 : Int), true) = r3 at *
  generalize ([(nX, (1 : Int)), (nY, (1 : Int))], (-3 : Int), false) = r4 at *
  generalize ([(nX, (1 : Int)), (nY, (1 : Int))], (-3 : Int), true) = r5 at *
  simp only [rowC, coefsA] at *
  have n1 : (((1 : Nat) : Int) == 1) = true := rfl
  have n0 : (((0 : Nat) : Int) == 0) = true := rfl
  have n5 : (((5 : Nat) : Int) == 5) = true := rfl
  have q1 : intN (AV.prim (.int .i64 1)) = some 1 := rfl
  have q2 : intN (AV.prim (.int .i64 2)) = some 2 := rfl
  have q4 : intN (AV.prim (.int .i64 4)) = some 4 := rfl
  have qs : sEq ⟨#[120]⟩ ⟨#[120]⟩ = true := by decide +kernel
  refine call_pure Try.func9 rfl rfl (by decide +kernel) (by decide +kernel) Try.ntmps9 rfl rfl _ _ _ (rfl) ?_; simp only [List.append_eq, List.cons_append, List.nil_append]; rw [RK_KX]
  simp (maxSteps := 1000000) +contextual (disch := first | with_reducible assumption | exact ⟨rfl⟩ | exact ⟨rfl, rfl⟩ | (refine _root_.id ?_; kernel_rfl) | omega) only [evs, ext_mv, nth, put, putT, getT, binInt, binStr, binBool, aUn, outA, resA, mapO, resA1, oneOf, w1, w2, w3, bots, cond_true, cond_false, if_true, if_false, ite_true, ite_false, reduceIte, reduceCtorEq, implies_true, Nat.reduceAdd, Nat.reduceSub, AV.int, AV.bool, AV.str, Nat.reduceBEq, Nat.reduceEqDiff, Nat.reduceMul, Nat.reduceLT, Nat.reduceLeDiff, Int.reduceNeg, BEq.rfl, beq_self_eq_true, tabl, cellsOf, fldA, ldA, stA, entAt, partA, takeN, over, leafOk, Value.oneCell', idxA, nilA, cellsEq, fillA, elemsA, pure1, pure2, reps, chkA, tys, Try.results9, KX_draw, KX_drawQ, KX_tail, lastO_one, lastO_more, dropL_one, dropL_more, callP_eq, callM_true, ext_mv1, hR1, hR2, hR3, hR4, hR5, hF1, hF2, hF3, hV, hA1, hA2, hA3, hA4, hA5, hO1, hO2, hO3, hO4, hS1, hS2, ord_t, sat_t, n1, n0, n5, q1, q2, q4, qs]
  skip
end
end Go.Proofs.Ytcandeobhlfkbaa
/-
  Three laws, walked: points that satisfy rows, values and their order, the order by itself.
-/


namespace Go.Proofs.Ytcandeobhlfkbaa
open Go
theorem light_len {l : List RowT} (h : lightF l = true) : l.length ≤ 8 ∧ ∀ r ∈ l, r.1.length ≤ 8 := by
  unfold lightF at h
  rw [Bool.and_eq_true, decide_eq_true_eq, List.all_eq_true] at h
  exact ⟨h.1, fun r hr => by simpa using h.2 r hr⟩
theorem ord_range (a b : Pt) : -1 ≤ ordF a b ∧ ordF a b ≤ 1 := by
  rcases ord_cases a b with ⟨e, _⟩ | ⟨e, _⟩ | ⟨e, _⟩ <;> omega
theorem ord_wrap (a b : Pt) : IntKind.i64.wrap (0 - ordF a b) = -ordF a b := by
  have := ord_range a b
  rw [wrap_of (by unfold i64; omega)]; omega
def sameC (a b : Pt) (c : ByteArray × Int) : Bool := findS c.1 a == findS c.1 b
theorem same_all (a b : Pt) : (ordF a b == 0) = (a.all (sameC a b) && b.all (sameC a b)) := by
  have h1 := ord_zero a b
  have h2 := same_iff a b
  have h3 : (a.all (sameC a b) && b.all (sameC a b)) = true ↔ SameP a b := by
    rw [h2, Bool.and_eq_true, List.all_eq_true, List.all_eq_true]
    constructor
    · rintro ⟨g1, g2⟩ c hc
      rcases List.mem_append.1 hc with hc | hc
      · simpa [sameC] using g1 c hc
      · simpa [sameC] using g2 c hc
    · intro g
      exact ⟨fun c hc => by simpa [sameC] using g c (by simp [hc]), fun c hc => by simpa [sameC] using g c (by simp [hc])⟩
  cases hq : (a.all (sameC a b) && b.all (sameC a b)) with
  | true => simpa using h1.2 (h3.1 hq)
  | false =>
    have : ¬ ordF a b = 0 := fun e => by rw [h3.2 (h1.1 e)] at hq; cases hq
    simpa using this
theorem all_take {α : Type} {f : α → Bool} {l : List α} {i : Nat} {x : α} (h : nth l i = some x) : (l.take (i + 1)).all f = ((l.take i).all f && f x) := by
  rw [take_snoc h, List.all_append]; simp
section
variable (S : List Ent) (tk : List Nat) (k : Nat)
theorem L15_ModelsSatisfies (l : List RowT) (p : Pt) : cL Try.prog 3 [rowsA l, coefsA p] S tk k = some (.bool true, S, tk, k) := by
  have hL := fun S tk k => told1 (L15_light S tk k l)
  have hS : ∀ S tk k, cL Try.prog 8 [.frz [[coefsA p]] .tight] S tk k = some (.bool (shortF [p]), S, tk, k) := fun S tk k => told1 (L15_short S tk k [p] .tight (by simp))
  have hA := fun S tk k => L15_awake S tk k
  simp only [rowsA, coefsA] at hL hS
  refine call_pure Try.func3 rfl rfl (by decide +kernel) (by decide +kernel) Try.ntmps3 rfl rfl _ _ _ (rfl) ?_; rw [RK_KX]
  cases h1 : lightF l with
  | false =>
    rw [h1] at hL
    simp (maxSteps := 1000000) +contextual (disch := first | with_reducible assumption | exact ⟨rfl⟩ | exact ⟨rfl, rfl⟩ | (refine _root_.id ?_; kernel_rfl) | omega) only [evs, ext_mv, nth, put, putT, getT, binInt, binStr, binBool, aUn, outA, resA, mapO, resA1, oneOf, w1, w2, w3, bots, cond_true, cond_false, if_true, if_false, ite_true, ite_false, reduceIte, reduceCtorEq, implies_true, Nat.reduceAdd, Nat.reduceSub, AV.int, AV.bool, AV.str, Nat.reduceBEq, Nat.reduceEqDiff, Nat.reduceMul, Nat.reduceLT, Nat.reduceLeDiff, Int.reduceNeg, BEq.rfl, beq_self_eq_true, tabl, cellsOf, fldA, ldA, stA, entAt, partA, takeN, over, leafOk, Value.oneCell', idxA, nilA, cellsEq, fillA, elemsA, pure1, pure2, reps, chkA, tys, Try.results3, KX_draw, KX_drawQ, KX_tail, lastO_one, lastO_more, dropL_one, dropL_more, callP_eq, callM_true, ext_mv1, rowsA, coefsA, hL, hA]
  | true =>
    rw [h1] at hL
    cases h2 : shortF [p] with
    | false =>
      rw [h2] at hS
      simp (maxSteps := 1000000) +contextual (disch := first | with_reducible assumption | exact ⟨rfl⟩ | exact ⟨rfl, rfl⟩ | (refine _root_.id ?_; kernel_rfl) | omega) only [evs, ext_mv, nth, put, putT, getT, binInt, binStr, binBool, aUn, outA, resA, mapO, resA1, oneOf, w1, w2, w3, bots, cond_true, cond_false, if_true, if_false, ite_true, ite_false, reduceIte, reduceCtorEq, implies_true, Nat.reduceAdd, Nat.reduceSub, AV.int, AV.bool, AV.str, Nat.reduceBEq, Nat.reduceEqDiff, Nat.reduceMul, Nat.reduceLT, Nat.reduceLeDiff, Int.reduceNeg, BEq.rfl, beq_self_eq_true, tabl, cellsOf, fldA, ldA, stA, entAt, partA, takeN, over, leafOk, Value.oneCell', idxA, nilA, cellsEq, fillA, elemsA, pure1, pure2, reps, chkA, tys, Try.results3, KX_draw, KX_drawQ, KX_tail, lastO_one, lastO_more, dropL_one, dropL_more, callP_eq, callM_true, ext_mv1, rowsA, coefsA, hL, hS, hA]
    | true =>
      rw [h2] at hS
      obtain ⟨g1, g2⟩ := light_len h1
      have g3 : p.length ≤ 12 := by simpa [shortF] using h2
      have hM := fun S tk k => told1 (models_Satisfies S tk k l p (by omega) (fun r hr => by have := g2 r hr; omega) (by omega))
      have hR := fun S tk k => told1 (R15_Satisfies S tk k l p (by omega) (fun r hr => by have := g2 r hr; omega) (by omega))
      simp only [rowsA, coefsA] at hM hR
      simp (maxSteps := 1000000) +contextual (disch := first | with_reducible assumption | exact ⟨rfl⟩ | exact ⟨rfl, rfl⟩ | (refine _root_.id ?_; kernel_rfl) | omega) only [evs, ext_mv, nth, put, putT, getT, binInt, binStr, binBool, aUn, outA, resA, mapO, resA1, oneOf, w1, w2, w3, bots, cond_true, cond_false, if_true, if_false, ite_true, ite_false, reduceIte, reduceCtorEq, implies_true, Nat.reduceAdd, Nat.reduceSub, AV.int, AV.bool, AV.str, Nat.reduceBEq, Nat.reduceEqDiff, Nat.reduceMul, Nat.reduceLT, Nat.reduceLeDiff, Int.reduceNeg, BEq.rfl, beq_self_eq_true, tabl, cellsOf, fldA, ldA, stA, entAt, partA, takeN, over, leafOk, Value.oneCell', idxA, nilA, cellsEq, fillA, elemsA, pure1, pure2, reps, chkA, tys, Try.results3, KX_draw, KX_drawQ, KX_tail, lastO_one, lastO_more, dropL_one, dropL_more, callP_eq, callM_true, ext_mv1, rowsA, coefsA, hL, hS, hA, hM, hR]
theorem L15_ModelsValues (most : Int) (a b : Pt) (ia : PtI a) (ib : PtI b) : cL Try.prog 4 [.int most, coefsA a, coefsA b] S tk k = some (.bool true, S, tk, k) := by
  have hS : ∀ S tk k, cL Try.prog 8 [.frz [[coefsA a], [coefsA b]] .tight] S tk k = some (.bool (shortF [a, b]), S, tk, k) := fun S tk k => told1 (L15_short S tk k [a, b] .tight (by simp))
  have hA := fun S tk k => L15_awake S tk k
  simp only [coefsA] at hS
  refine call_pure Try.func4 rfl rfl (by decide +kernel) (by decide +kernel) Try.ntmps4 rfl rfl _ _ _ (rfl) ?_; rw [RK_KX]
  cases h2 : shortF [a, b] with
  | false =>
    rw [h2] at hS
    simp (maxSteps := 1000000) +contextual (disch := first | with_reducible assumption | exact ⟨rfl⟩ | exact ⟨rfl, rfl⟩ | (refine _root_.id ?_; kernel_rfl) | omega) only [evs, ext_mv, nth, put, putT, getT, binInt, binStr, binBool, aUn, outA, resA, mapO, resA1, oneOf, w1, w2, w3, bots, cond_true, cond_false, if_true, if_false, ite_true, ite_false, reduceIte, reduceCtorEq, implies_true, Nat.reduceAdd, Nat.reduceSub, AV.int, AV.bool, AV.str, Nat.reduceBEq, Nat.reduceEqDiff, Nat.reduceMul, Nat.reduceLT, Nat.reduceLeDiff, Int.reduceNeg, BEq.rfl, beq_self_eq_true, tabl, cellsOf, fldA, ldA, stA, entAt, partA, takeN, over, leafOk, Value.oneCell', idxA, nilA, cellsEq, fillA, elemsA, pure1, pure2, reps, chkA, tys, Try.results4, KX_draw, KX_drawQ, KX_tail, lastO_one, lastO_more, dropL_one, dropL_more, callP_eq, callM_true, ext_mv1, coefsA, hS, hA]
  | true =>
    rw [h2] at hS
    have g3 : a.length ≤ 12 ∧ b.length ≤ 12 := by simpa [shortF] using h2
    have hV1 := fun S tk k => told1 (models_Values S tk k most)
    have hV2 := fun S tk k => told1 (R15_Values S tk k most)
    have hO1 := fun S tk k => told1 (models_Order S tk k a b (by omega) (by omega) ia ib)
    have hO2 := fun S tk k => told1 (R15_Order S tk k a b (by omega) (by omega) ia ib)
    simp only [coefsA] at hO1 hO2
    have hvl : (valsF most).length ≤ 100 := by
      unfold valsF
      split
      · simp
      · rw [valsN_len]; omega
    generalize valsF most = vs at *
    simp (maxSteps := 1000000) +contextual (disch := first | with_reducible assumption | exact ⟨rfl⟩ | exact ⟨rfl, rfl⟩ | (refine _root_.id ?_; kernel_rfl) | omega) only [evs, ext_mv, nth, put, putT, getT, binInt, binStr, binBool, aUn, outA, resA, mapO, resA1, oneOf, w1, w2, w3, bots, cond_true, cond_false, if_true, if_false, ite_true, ite_false, reduceIte, reduceCtorEq, implies_true, Nat.reduceAdd, Nat.reduceSub, AV.int, AV.bool, AV.str, Nat.reduceBEq, Nat.reduceEqDiff, Nat.reduceMul, Nat.reduceLT, Nat.reduceLeDiff, Int.reduceNeg, BEq.rfl, beq_self_eq_true, tabl, cellsOf, fldA, ldA, stA, entAt, partA, takeN, over, leafOk, Value.oneCell', idxA, nilA, cellsEq, fillA, elemsA, pure1, pure2, reps, chkA, tys, Try.results4, KX_draw, KX_drawQ, KX_tail, lastO_one, lastO_more, dropL_one, dropL_more, callP_eq, callM_true, ext_mv1, coefsA, hS, hA, hV1, hV2, hO1, hO2, bne_self_eq_false]
    refine loop1 (P := Try.prog) (fun x st => st.T.length = 50 ∧ (x ≤ vs.length) ∧ getT st.T 7 = .frz (vs.map intC) .unk ∧ getT st.T 8 = .frz (vs.map intC) .unk ∧ getT st.T 9 = .int (x : Nat) ∧ st.S = []) (fun x => vs.length - x) (fun x => .bool true) (0) ?_ ?_
    case refine_2 => exact ⟨rfl, Nat.zero_le _, rfl, rfl, rfl, rfl⟩
    rintro i ⟨T, S', tk', n'⟩ ⟨hl, hi, e7, e8, e9, eS⟩ IH
    subst eS
    obtain ⟨g, hg, hT⟩ := tab_of hl
    rw [hg] at e7 e8 e9
    subst hT
    clear hg hl
    have hiw := wrap_add (i := i) (m := 0) (by omega)
    by_cases hlt : i < vs.length
    · have d1 : decide ((i : Int) < (vs.length : Int)) = true := by simpa using hlt
      obtain ⟨x, hx⟩ := nth_some hlt
      have hx' : nth (vs.map intC) i = some [.prim (.int .i64 x)] := by rw [nth_map, hx]; rfl
      simp (maxSteps := 1000000) +contextual (disch := first | with_reducible assumption | exact ⟨rfl⟩ | exact ⟨rfl, rfl⟩ | (refine _root_.id ?_; kernel_rfl) | omega) only [evs, ext_mv, nth, put, putT, getT, binInt, binStr, binBool, aUn, outA, resA, mapO, resA1, oneOf, w1, w2, w3, bots, cond_true, cond_false, if_true, if_false, ite_true, ite_false, reduceIte, reduceCtorEq, implies_true, Nat.reduceAdd, Nat.reduceSub, AV.int, AV.bool, AV.str, Nat.reduceBEq, Nat.reduceEqDiff, Nat.reduceMul, Nat.reduceLT, Nat.reduceLeDiff, Int.reduceNeg, BEq.rfl, beq_self_eq_true, tabl, cellsOf, fldA, ldA, stA, entAt, partA, takeN, over, leafOk, Value.oneCell', idxA, nilA, cellsEq, fillA, elemsA, pure1, pure2, reps, chkA, tys, Try.results4, KX_draw, KX_drawQ, KX_tail, lastO_one, lastO_more, dropL_one, dropL_more, callP_eq, callM_true, ext_mv1, e7, e8, e9, d1, hx', hiw, bne_self_eq_false]
      exact IH (i + 1) _ (by first | omega | (simp only; omega)) ⟨rfl, by first | omega | (dsimp only; omega), rfl, rfl, rfl, rfl⟩
    · have d1 : decide ((i : Int) < (vs.length : Int)) = false := by simpa using hlt
      simp (maxSteps := 1000000) +contextual (disch := first | with_reducible assumption | exact ⟨rfl⟩ | exact ⟨rfl, rfl⟩ | (refine _root_.id ?_; kernel_rfl) | omega) only [evs, ext_mv, nth, put, putT, getT, binInt, binStr, binBool, aUn, outA, resA, mapO, resA1, oneOf, w1, w2, w3, bots, cond_true, cond_false, if_true, if_false, ite_true, ite_false, reduceIte, reduceCtorEq, implies_true, Nat.reduceAdd, Nat.reduceSub, AV.int, AV.bool, AV.str, Nat.reduceBEq, Nat.reduceEqDiff, Nat.reduceMul, Nat.reduceLT, Nat.reduceLeDiff, Int.reduceNeg, BEq.rfl, beq_self_eq_true, tabl, cellsOf, fldA, ldA, stA, entAt, partA, takeN, over, leafOk, Value.oneCell', idxA, nilA, cellsEq, fillA, elemsA, pure1, pure2, reps, chkA, tys, Try.results4, KX_draw, KX_drawQ, KX_tail, lastO_one, lastO_more, dropL_one, dropL_more, callP_eq, callM_true, ext_mv1, e7, e8, e9, d1, hA]
set_option maxRecDepth 100000 in
set_option maxHeartbeats 1000000 in
theorem L15_ModelsOrders (a b c : Pt) (ia : PtI a) (ib : PtI b) (ic : PtI c) : cL Try.prog 6 [coefsA a, coefsA b, coefsA c] S tk k = some (.bool true, S, tk, k) := by
  have hS : ∀ S tk k, cL Try.prog 8 [.frz [[coefsA a], [coefsA b], [coefsA c]] .tight] S tk k = some (.bool (shortF [a, b, c]), S, tk, k) := fun S tk k => told1 (L15_short S tk k [a, b, c] .tight (by simp))
  have hA := fun S tk k => L15_awake S tk k
  simp only [coefsA] at hS
  refine call_pure Try.func6 rfl rfl (by decide +kernel) (by decide +kernel) Try.ntmps6 rfl rfl _ _ _ (rfl) ?_; rw [RK_KX]
  cases h2 : shortF [a, b, c] with
  | false =>
    rw [h2] at hS
    simp (maxSteps := 1000000) +contextual (disch := first | with_reducible assumption | exact ⟨rfl⟩ | exact ⟨rfl, rfl⟩ | (refine _root_.id ?_; kernel_rfl) | omega) only [evs, ext_mv, nth, put, putT, getT, binInt, binStr, binBool, aUn, outA, resA, mapO, resA1, oneOf, w1, w2, w3, bots, cond_true, cond_false, if_true, if_false, ite_true, ite_false, reduceIte, reduceCtorEq, implies_true, Nat.reduceAdd, Nat.reduceSub, AV.int, AV.bool, AV.str, Nat.reduceBEq, Nat.reduceEqDiff, Nat.reduceMul, Nat.reduceLT, Nat.reduceLeDiff, Int.reduceNeg, BEq.rfl, beq_self_eq_true, tabl, cellsOf, fldA, ldA, stA, entAt, partA, takeN, over, leafOk, Value.oneCell', idxA, nilA, cellsEq, fillA, elemsA, pure1, pure2, reps, chkA, tys, Try.results6, KX_draw, KX_drawQ, KX_tail, lastO_one, lastO_more, dropL_one, dropL_more, callP_eq, callM_true, ext_mv1, coefsA, hS, hA]
  | true =>
    rw [h2] at hS
    have g3 : a.length ≤ 12 ∧ b.length ≤ 12 ∧ c.length ≤ 12 := by simpa [shortF] using h2
    have hO1 := fun S tk k => told1 (models_Order S tk k a b (by omega) (by omega) ia ib)
    have hO2 := fun S tk k => told1 (models_Order S tk k b c (by omega) (by omega) ib ic)
    have hO3 := fun S tk k => told1 (models_Order S tk k b a (by omega) (by omega) ib ia)
    have hO4 := fun S tk k => told1 (models_Order S tk k a c (by omega) (by omega) ia ic)
    have hO5 := fun S tk k => told1 (models_Order S tk k a a (by omega) (by omega) ia ia)
    rw [ord_neg a b] at hO3
    rw [ord_refl a] at hO5
    have hw := ord_wrap a b
    have hz := same_all a b
    have ht : ordF a b ≤ 0 → ordF b c ≤ 0 → ordF a c ≤ 0 := ord_trans
    simp only [coefsA] at hO1 hO2 hO3 hO4 hO5
    generalize ordF a b = ox at *
    generalize ordF b c = oy at *
    generalize ordF a c = oz at *
    have h0 : ((0 : Int) != 0) = false := rfl
    by_cases c1 : ox ≤ 0
    · have dx : decide (ox ≤ 0) = true := by simpa using c1
      by_cases c2 : oy ≤ 0
      · have dy : decide (oy ≤ 0) = true := by simpa using c2
        have dz : decide (oz > 0) = false := by have := ht c1 c2; simp; omega
        simp (maxSteps := 1000000) +contextual (disch := first | with_reducible assumption | exact ⟨rfl⟩ | exact ⟨rfl, rfl⟩ | (refine _root_.id ?_; kernel_rfl) | omega) only [evs, ext_mv, nth, put, putT, getT, binInt, binStr, binBool, aUn, outA, resA, mapO, resA1, oneOf, w1, w2, w3, bots, cond_true, cond_false, if_true, if_false, ite_true, ite_false, reduceIte, reduceCtorEq, implies_true, Nat.reduceAdd, Nat.reduceSub, AV.int, AV.bool, AV.str, Nat.reduceBEq, Nat.reduceEqDiff, Nat.reduceMul, Nat.reduceLT, Nat.reduceLeDiff, Int.reduceNeg, BEq.rfl, beq_self_eq_true, tabl, cellsOf, fldA, ldA, stA, entAt, partA, takeN, over, leafOk, Value.oneCell', idxA, nilA, cellsEq, fillA, elemsA, pure1, pure2, reps, chkA, tys, Try.results6, KX_draw, KX_drawQ, KX_tail, lastO_one, lastO_more, dropL_one, dropL_more, callP_eq, callM_true, ext_mv1, coefsA, hS, hA, hO1, hO2, hO3, hO4, hO5, hw, dx, dy, dz, h0, bne_self_eq_false]
        refine loop1 (P := Try.prog) (fun x st => st.T.length = 106 ∧ (x.1 ≤ a.length) ∧ (x.2 = (a.take x.1).all (sameC a b)) ∧ getT st.T 0 = coefsA a ∧ getT st.T 1 = coefsA b ∧ getT st.T 7 = .int ox ∧ getT st.T 9 = .bool x.2 ∧ getT st.T 10 = .int (x.1 : Nat) ∧ st.S = []) (fun x => a.length - x.1) (fun x => .bool true) (0, true) ?_ ?_
        case refine_2 => exact ⟨rfl, Nat.zero_le _, rfl, rfl, rfl, rfl, rfl, rfl, rfl⟩
        rintro ⟨i, q⟩ ⟨T, S', tk', n'⟩ ⟨hl, hi, hq, e0, e1, e7, e9, e10, eS⟩ IH
        simp only at hi hq e0 e1 e7 e9 e10 eS
        subst eS
        obtain ⟨g, hg, hT⟩ := tab_of hl
        rw [hg] at e0 e1 e7 e9 e10
        subst hT
        clear hg hl
        have hiw := wrap_add (i := i) (m := 0) (by omega)
        by_cases hlt : i < a.length
        · have d1 : decide ((i : Int) < (a.length : Int)) = true := by simpa using hlt
          obtain ⟨e, he⟩ := nth_some hlt
          have he' := nth_coef he
          simp only [coefC] at he'
          have hC1 := fun S tk k => told1 (L15_coordinate S tk k a e.1 (by omega))
          have hC2 := fun S tk k => told1 (L15_coordinate S tk k b e.1 (by omega))
          simp only [coefsA] at hC1 hC2
          have hst := all_take (f := sameC a b) he
          rw [← hq] at hst
          cases q with
          | false =>
            simp (maxSteps := 1000000) +contextual (disch := first | with_reducible assumption | exact ⟨rfl⟩ | exact ⟨rfl, rfl⟩ | (refine _root_.id ?_; kernel_rfl) | omega) only [evs, ext_mv, nth, put, putT, getT, binInt, binStr, binBool, aUn, outA, resA, mapO, resA1, oneOf, w1, w2, w3, bots, cond_true, cond_false, if_true, if_false, ite_true, ite_false, reduceIte, reduceCtorEq, implies_true, Nat.reduceAdd, Nat.reduceSub, AV.int, AV.bool, AV.str, Nat.reduceBEq, Nat.reduceEqDiff, Nat.reduceMul, Nat.reduceLT, Nat.reduceLeDiff, Int.reduceNeg, BEq.rfl, beq_self_eq_true, tabl, cellsOf, fldA, ldA, stA, entAt, partA, takeN, over, leafOk, Value.oneCell', idxA, nilA, cellsEq, fillA, elemsA, pure1, pure2, reps, chkA, tys, Try.results6, KX_draw, KX_drawQ, KX_tail, lastO_one, lastO_more, dropL_one, dropL_more, callP_eq, callM_true, ext_mv1, e0, e1, e7, e9, e10, d1, coefsA, he', hiw, hC1, hC2]
            exact IH (i + 1, false) _ (by first | omega | (simp only; omega)) ⟨rfl, by first | omega | (dsimp only; omega), by rw [hst, Bool.false_and], rfl, rfl, rfl, rfl, rfl, rfl⟩
          | true =>
            rw [Bool.true_and] at hst
            cases hsc : (findS e.1 a == findS e.1 b) with
            | true =>
              simp (maxSteps := 1000000) +contextual (disch := first | with_reducible assumption | exact ⟨rfl⟩ | exact ⟨rfl, rfl⟩ | (refine _root_.id ?_; kernel_rfl) | omega) only [evs, ext_mv, nth, put, putT, getT, binInt, binStr, binBool, aUn, outA, resA, mapO, resA1, oneOf, w1, w2, w3, bots, cond_true, cond_false, if_true, if_false, ite_true, ite_false, reduceIte, reduceCtorEq, implies_true, Nat.reduceAdd, Nat.reduceSub, AV.int, AV.bool, AV.str, Nat.reduceBEq, Nat.reduceEqDiff, Nat.reduceMul, Nat.reduceLT, Nat.reduceLeDiff, Int.reduceNeg, BEq.rfl, beq_self_eq_true, tabl, cellsOf, fldA, ldA, stA, entAt, partA, takeN, over, leafOk, Value.oneCell', idxA, nilA, cellsEq, fillA, elemsA, pure1, pure2, reps, chkA, tys, Try.results6, KX_draw, KX_drawQ, KX_tail, lastO_one, lastO_more, dropL_one, dropL_more, callP_eq, callM_true, ext_mv1, e0, e1, e7, e9, e10, d1, coefsA, he', hiw, hC1, hC2, hsc]
              exact IH (i + 1, true) _ (by first | omega | (simp only; omega)) ⟨rfl, by first | omega | (dsimp only; omega), by rw [hst]; exact hsc.symm, rfl, rfl, rfl, rfl, rfl, rfl⟩
            | false =>
              simp (maxSteps := 1000000) +contextual (disch := first | with_reducible assumption | exact ⟨rfl⟩ | exact ⟨rfl, rfl⟩ | (refine _root_.id ?_; kernel_rfl) | omega) only [evs, ext_mv, nth, put, putT, getT, binInt, binStr, binBool, aUn, outA, resA, mapO, resA1, oneOf, w1, w2, w3, bots, cond_true, cond_false, if_true, if_false, ite_true, ite_false, reduceIte, reduceCtorEq, implies_true, Nat.reduceAdd, Nat.reduceSub, AV.int, AV.bool, AV.str, Nat.reduceBEq, Nat.reduceEqDiff, Nat.reduceMul, Nat.reduceLT, Nat.reduceLeDiff, Int.reduceNeg, BEq.rfl, beq_self_eq_true, tabl, cellsOf, fldA, ldA, stA, entAt, partA, takeN, over, leafOk, Value.oneCell', idxA, nilA, cellsEq, fillA, elemsA, pure1, pure2, reps, chkA, tys, Try.results6, KX_draw, KX_drawQ, KX_tail, lastO_one, lastO_more, dropL_one, dropL_more, callP_eq, callM_true, ext_mv1, e0, e1, e7, e9, e10, d1, coefsA, he', hiw, hC1, hC2, hsc]
              exact IH (i + 1, false) _ (by first | omega | (simp only; omega)) ⟨rfl, by first | omega | (dsimp only; omega), by rw [hst]; exact hsc.symm, rfl, rfl, rfl, rfl, rfl, rfl⟩
        · have d1 : decide ((i : Int) < (a.length : Int)) = false := by simpa using hlt
          have hie : i = a.length := by omega
          rw [hie, List.take_length] at hq
          simp (maxSteps := 1000000) +contextual (disch := first | with_reducible assumption | exact ⟨rfl⟩ | exact ⟨rfl, rfl⟩ | (refine _root_.id ?_; kernel_rfl) | omega) only [evs, ext_mv, nth, put, putT, getT, binInt, binStr, binBool, aUn, outA, resA, mapO, resA1, oneOf, w1, w2, w3, bots, cond_true, cond_false, if_true, if_false, ite_true, ite_false, reduceIte, reduceCtorEq, implies_true, Nat.reduceAdd, Nat.reduceSub, AV.int, AV.bool, AV.str, Nat.reduceBEq, Nat.reduceEqDiff, Nat.reduceMul, Nat.reduceLT, Nat.reduceLeDiff, Int.reduceNeg, BEq.rfl, beq_self_eq_true, tabl, cellsOf, fldA, ldA, stA, entAt, partA, takeN, over, leafOk, Value.oneCell', idxA, nilA, cellsEq, fillA, elemsA, pure1, pure2, reps, chkA, tys, Try.results6, KX_draw, KX_drawQ, KX_tail, lastO_one, lastO_more, dropL_one, dropL_more, callP_eq, callM_true, ext_mv1, e0, e1, e7, e9, e10, d1, coefsA]
          refine loop1 (P := Try.prog) (fun x st => st.T.length = 106 ∧ (x.1 ≤ b.length) ∧ (x.2 = (q && (b.take x.1).all (sameC a b))) ∧ getT st.T 0 = coefsA a ∧ getT st.T 1 = coefsA b ∧ getT st.T 7 = .int ox ∧ getT st.T 9 = .bool x.2 ∧ getT st.T 11 = .int (x.1 : Nat) ∧ st.S = []) (fun x => b.length - x.1) (fun x => .bool true) (0, q) ?_ ?_
          case refine_2 => exact ⟨rfl, Nat.zero_le _, by simp, rfl, rfl, rfl, rfl, rfl, rfl⟩
          rintro ⟨j, r⟩ ⟨T, S', tk', n'⟩ ⟨hl, hj, hr, e0, e1, e7, e9, e11, eS⟩ IH
          simp only at hj hr e0 e1 e7 e9 e11 eS
          subst eS
          obtain ⟨g, hg, hT⟩ := tab_of hl
          rw [hg] at e0 e1 e7 e9 e11
          subst hT
          clear hg hl
          have hjw := wrap_add (i := j) (m := 0) (by omega)
          by_cases hlt2 : j < b.length
          · have d2 : decide ((j : Int) < (b.length : Int)) = true := by simpa using hlt2
            obtain ⟨e, he⟩ := nth_some hlt2
            have he' := nth_coef he
            simp only [coefC] at he'
            have hC1 := fun S tk k => told1 (L15_coordinate S tk k a e.1 (by omega))
            have hC2 := fun S tk k => told1 (L15_coordinate S tk k b e.1 (by omega))
            simp only [coefsA] at hC1 hC2
            have hst := all_take (f := sameC a b) he
            have hst2 : (q && (b.take (j + 1)).all (sameC a b)) = (r && sameC a b e) := by rw [hst, hr, Bool.and_assoc]
            cases r with
            | false =>
              simp (maxSteps := 1000000) +contextual (disch := first | with_reducible assumption | exact ⟨rfl⟩ | exact ⟨rfl, rfl⟩ | (refine _root_.id ?_; kernel_rfl) | omega) only [evs, ext_mv, nth, put, putT, getT, binInt, binStr, binBool, aUn, outA, resA, mapO, resA1, oneOf, w1, w2, w3, bots, cond_true, cond_false, if_true, if_false, ite_true, ite_false, reduceIte, reduceCtorEq, implies_true, Nat.reduceAdd, Nat.reduceSub, AV.int, AV.bool, AV.str, Nat.reduceBEq, Nat.reduceEqDiff, Nat.reduceMul, Nat.reduceLT, Nat.reduceLeDiff, Int.reduceNeg, BEq.rfl, beq_self_eq_true, tabl, cellsOf, fldA, ldA, stA, entAt, partA, takeN, over, leafOk, Value.oneCell', idxA, nilA, cellsEq, fillA, elemsA, pure1, pure2, reps, chkA, tys, Try.results6, KX_draw, KX_drawQ, KX_tail, lastO_one, lastO_more, dropL_one, dropL_more, callP_eq, callM_true, ext_mv1, e0, e1, e7, e9, e11, d2, coefsA, he', hjw, hC1, hC2]
              exact IH (j + 1, false) _ (by first | omega | (simp only; omega)) ⟨rfl, by first | omega | (dsimp only; omega), by rw [hst2, Bool.false_and], rfl, rfl, rfl, rfl, rfl, rfl⟩
            | true =>
              rw [Bool.true_and] at hst2
              cases hsc : (findS e.1 a == findS e.1 b) with
              | true =>
                simp (maxSteps := 1000000) +contextual (disch := first | with_reducible assumption | exact ⟨rfl⟩ | exact ⟨rfl, rfl⟩ | (refine _root_.id ?_; kernel_rfl) | omega) only [evs, ext_mv, nth, put, putT, getT, binInt, binStr, binBool, aUn, outA, resA, mapO, resA1, oneOf, w1, w2, w3, bots, cond_true, cond_false, if_true, if_false, ite_true, ite_false, reduceIte, reduceCtorEq, implies_true, Nat.reduceAdd, Nat.reduceSub, AV.int, AV.bool, AV.str, Nat.reduceBEq, Nat.reduceEqDiff, Nat.reduceMul, Nat.reduceLT, Nat.reduceLeDiff, Int.reduceNeg, BEq.rfl, beq_self_eq_true, tabl, cellsOf, fldA, ldA, stA, entAt, partA, takeN, over, leafOk, Value.oneCell', idxA, nilA, cellsEq, fillA, elemsA, pure1, pure2, reps, chkA, tys, Try.results6, KX_draw, KX_drawQ, KX_tail, lastO_one, lastO_more, dropL_one, dropL_more, callP_eq, callM_true, ext_mv1, e0, e1, e7, e9, e11, d2, coefsA, he', hjw, hC1, hC2, hsc]
                exact IH (j + 1, true) _ (by first | omega | (simp only; omega)) ⟨rfl, by first | omega | (dsimp only; omega), by rw [hst2]; exact hsc.symm, rfl, rfl, rfl, rfl, rfl, rfl⟩
              | false =>
                simp (maxSteps := 1000000) +contextual (disch := first | with_reducible assumption | exact ⟨rfl⟩ | exact ⟨rfl, rfl⟩ | (refine _root_.id ?_; kernel_rfl) | omega) only [evs, ext_mv, nth, put, putT, getT, binInt, binStr, binBool, aUn, outA, resA, mapO, resA1, oneOf, w1, w2, w3, bots, cond_true, cond_false, if_true, if_false, ite_true, ite_false, reduceIte, reduceCtorEq, implies_true, Nat.reduceAdd, Nat.reduceSub, AV.int, AV.bool, AV.str, Nat.reduceBEq, Nat.reduceEqDiff, Nat.reduceMul, Nat.reduceLT, Nat.reduceLeDiff, Int.reduceNeg, BEq.rfl, beq_self_eq_true, tabl, cellsOf, fldA, ldA, stA, entAt, partA, takeN, over, leafOk, Value.oneCell', idxA, nilA, cellsEq, fillA, elemsA, pure1, pure2, reps, chkA, tys, Try.results6, KX_draw, KX_drawQ, KX_tail, lastO_one, lastO_more, dropL_one, dropL_more, callP_eq, callM_true, ext_mv1, e0, e1, e7, e9, e11, d2, coefsA, he', hjw, hC1, hC2, hsc]
                exact IH (j + 1, false) _ (by first | omega | (simp only; omega)) ⟨rfl, by first | omega | (dsimp only; omega), by rw [hst2]; exact hsc.symm, rfl, rfl, rfl, rfl, rfl, rfl⟩
          · have d2 : decide ((j : Int) < (b.length : Int)) = false := by simpa using hlt2
            have hje : j = b.length := by omega
            rw [hje, List.take_length, hq, ← hz] at hr
            have dr : ((ox == 0) == r) = true := by rw [hr]; simp
            simp (maxSteps := 1000000) +contextual (disch := first | with_reducible assumption | exact ⟨rfl⟩ | exact ⟨rfl, rfl⟩ | (refine _root_.id ?_; kernel_rfl) | omega) only [evs, ext_mv, nth, put, putT, getT, binInt, binStr, binBool, aUn, outA, resA, mapO, resA1, oneOf, w1, w2, w3, bots, cond_true, cond_false, if_true, if_false, ite_true, ite_false, reduceIte, reduceCtorEq, implies_true, Nat.reduceAdd, Nat.reduceSub, AV.int, AV.bool, AV.str, Nat.reduceBEq, Nat.reduceEqDiff, Nat.reduceMul, Nat.reduceLT, Nat.reduceLeDiff, Int.reduceNeg, BEq.rfl, beq_self_eq_true, tabl, cellsOf, fldA, ldA, stA, entAt, partA, takeN, over, leafOk, Value.oneCell', idxA, nilA, cellsEq, fillA, elemsA, pure1, pure2, reps, chkA, tys, Try.results6, KX_draw, KX_drawQ, KX_tail, lastO_one, lastO_more, dropL_one, dropL_more, callP_eq, callM_true, ext_mv1, e0, e1, e7, e9, e11, d2, coefsA, hA, dr]
      · have dy : decide (oy ≤ 0) = false := by simpa using c2
        simp (maxSteps := 1000000) +contextual (disch := first | with_reducible assumption | exact ⟨rfl⟩ | exact ⟨rfl, rfl⟩ | (refine _root_.id ?_; kernel_rfl) | omega) only [evs, ext_mv, nth, put, putT, getT, binInt, binStr, binBool, aUn, outA, resA, mapO, resA1, oneOf, w1, w2, w3, bots, cond_true, cond_false, if_true, if_false, ite_true, ite_false, reduceIte, reduceCtorEq, implies_true, Nat.reduceAdd, Nat.reduceSub, AV.int, AV.bool, AV.str, Nat.reduceBEq, Nat.reduceEqDiff, Nat.reduceMul, Nat.reduceLT, Nat.reduceLeDiff, Int.reduceNeg, BEq.rfl, beq_self_eq_true, tabl, cellsOf, fldA, ldA, stA, entAt, partA, takeN, over, leafOk, Value.oneCell', idxA, nilA, cellsEq, fillA, elemsA, pure1, pure2, reps, chkA, tys, Try.results6, KX_draw, KX_drawQ, KX_tail, lastO_one, lastO_more, dropL_one, dropL_more, callP_eq, callM_true, ext_mv1, coefsA, hS, hA, hO1, hO2, hO3, hO4, hO5, hw, dx, dy, h0, bne_self_eq_false]
        refine loop1 (P := Try.prog) (fun x st => st.T.length = 106 ∧ (x.1 ≤ a.length) ∧ (x.2 = (a.take x.1).all (sameC a b)) ∧ getT st.T 0 = coefsA a ∧ getT st.T 1 = coefsA b ∧ getT st.T 7 = .int ox ∧ getT st.T 9 = .bool x.2 ∧ getT st.T 10 = .int (x.1 : Nat) ∧ st.S = []) (fun x => a.length - x.1) (fun x => .bool true) (0, true) ?_ ?_
        case refine_2 => exact ⟨rfl, Nat.zero_le _, rfl, rfl, rfl, rfl, rfl, rfl, rfl⟩
        rintro ⟨i, q⟩ ⟨T, S', tk', n'⟩ ⟨hl, hi, hq, e0, e1, e7, e9, e10, eS⟩ IH
        simp only at hi hq e0 e1 e7 e9 e10 eS
        subst eS
        obtain ⟨g, hg, hT⟩ := tab_of hl
        rw [hg] at e0 e1 e7 e9 e10
        subst hT
        clear hg hl
        have hiw := wrap_add (i := i) (m := 0) (by omega)
        by_cases hlt : i < a.length
        · have d1 : decide ((i : Int) < (a.length : Int)) = true := by simpa using hlt
          obtain ⟨e, he⟩ := nth_some hlt
          have he' := nth_coef he
          simp only [coefC] at he'
          have hC1 := fun S tk k => told1 (L15_coordinate S tk k a e.1 (by omega))
          have hC2 := fun S tk k => told1 (L15_coordinate S tk k b e.1 (by omega))
          simp only [coefsA] at hC1 hC2
          have hst := all_take (f := sameC a b) he
          rw [← hq] at hst
          cases q with
          | false =>
            simp (maxSteps := 1000000) +contextual (disch := first | with_reducible assumption | exact ⟨rfl⟩ | exact ⟨rfl, rfl⟩ | (refine _root_.id ?_; kernel_rfl) | omega) only [evs, ext_mv, nth, put, putT, getT, binInt, binStr, binBool, aUn, outA, resA, mapO, resA1, oneOf, w1, w2, w3, bots, cond_true, cond_false, if_true, if_false, ite_true, ite_false, reduceIte, reduceCtorEq, implies_true, Nat.reduceAdd, Nat.reduceSub, AV.int, AV.bool, AV.str, Nat.reduceBEq, Nat.reduceEqDiff, Nat.reduceMul, Nat.reduceLT, Nat.reduceLeDiff, Int.reduceNeg, BEq.rfl, beq_self_eq_true, tabl, cellsOf, fldA, ldA, stA, entAt, partA, takeN, over, leafOk, Value.oneCell', idxA, nilA, cellsEq, fillA, elemsA, pure1, pure2, reps, chkA, tys, Try.results6, KX_draw, KX_drawQ, KX_tail, lastO_one, lastO_more, dropL_one, dropL_more, callP_eq, callM_true, ext_mv1, e0, e1, e7, e9, e10, d1, coefsA, he', hiw, hC1, hC2]
            exact IH (i + 1, false) _ (by first | omega | (simp only; omega)) ⟨rfl, by first | omega | (dsimp only; omega), by rw [hst, Bool.false_and], rfl, rfl, rfl, rfl, rfl, rfl⟩
          | true =>
            rw [Bool.true_and] at hst
            cases hsc : (findS e.1 a == findS e.1 b) with
            | true =>
              simp (maxSteps := 1000000) +contextual (disch := first | with_reducible assumption | exact ⟨rfl⟩ | exact ⟨rfl, rfl⟩ | (refine _root_.id ?_; kernel_rfl) | omega) only [evs, ext_mv, nth, put, putT, getT, binInt, binStr, binBool, aUn, outA, resA, mapO, resA1, oneOf, w1, w2, w3, bots, cond_true, cond_false, if_true, if_false, ite_true, ite_false, reduceIte, reduceCtorEq, implies_true, Nat.reduceAdd, Nat.reduceSub, AV.int, AV.bool, AV.str, Nat.reduceBEq, Nat.reduceEqDiff, Nat.reduceMul, Nat.reduceLT, Nat.reduceLeDiff, Int.reduceNeg, BEq.rfl, beq_self_eq_true, tabl, cellsOf, fldA, ldA, stA, entAt, partA, takeN, over, leafOk, Value.oneCell', idxA, nilA, cellsEq, fillA, elemsA, pure1, pure2, reps, chkA, tys, Try.results6, KX_draw, KX_drawQ, KX_tail, lastO_one, lastO_more, dropL_one, dropL_more, callP_eq, callM_true, ext_mv1, e0, e1, e7, e9, e10, d1, coefsA, he', hiw, hC1, hC2, hsc]
              exact IH (i + 1, true) _ (by first | omega | (simp only; omega)) ⟨rfl, by first | omega | (dsimp only; omega), by rw [hst]; exact hsc.symm, rfl, rfl, rfl, rfl, rfl, rfl⟩
            | false =>
              simp (maxSteps := 1000000) +contextual (disch := first | with_reducible assumption | exact ⟨rfl⟩ | exact ⟨rfl, rfl⟩ | (refine _root_.id ?_; kernel_rfl) | omega) only [evs, ext_mv, nth, put, putT, getT, binInt, binStr, binBool, aUn, outA, resA, mapO, resA1, oneOf, w1, w2, w3, bots, cond_true, cond_false, if_true, if_false, ite_true, ite_false, reduceIte, reduceCtorEq, implies_true, Nat.reduceAdd, Nat.reduceSub, AV.int, AV.bool, AV.str, Nat.reduceBEq, Nat.reduceEqDiff, Nat.reduceMul, Nat.reduceLT, Nat.reduceLeDiff, Int.reduceNeg, BEq.rfl, beq_self_eq_true, tabl, cellsOf, fldA, ldA, stA, entAt, partA, takeN, over, leafOk, Value.oneCell', idxA, nilA, cellsEq, fillA, elemsA, pure1, pure2, reps, chkA, tys, Try.results6, KX_draw, KX_drawQ, KX_tail, lastO_one, lastO_more, dropL_one, dropL_more, callP_eq, callM_true, ext_mv1, e0, e1, e7, e9, e10, d1, coefsA, he', hiw, hC1, hC2, hsc]
              exact IH (i + 1, false) _ (by first | omega | (simp only; omega)) ⟨rfl, by first | omega | (dsimp only; omega), by rw [hst]; exact hsc.symm, rfl, rfl, rfl, rfl, rfl, rfl⟩
        · have d1 : decide ((i : Int) < (a.length : Int)) = false := by simpa using hlt
          have hie : i = a.length := by omega
          rw [hie, List.take_length] at hq
          simp (maxSteps := 1000000) +contextual (disch := first | with_reducible assumption | exact ⟨rfl⟩ | exact ⟨rfl, rfl⟩ | (refine _root_.id ?_; kernel_rfl) | omega) only [evs, ext_mv, nth, put, putT, getT, binInt, binStr, binBool, aUn, outA, resA, mapO, resA1, oneOf, w1, w2, w3, bots, cond_true, cond_false, if_true, if_false, ite_true, ite_false, reduceIte, reduceCtorEq, implies_true, Nat.reduceAdd, Nat.reduceSub, AV.int, AV.bool, AV.str, Nat.reduceBEq, Nat.reduceEqDiff, Nat.reduceMul, Nat.reduceLT, Nat.reduceLeDiff, Int.reduceNeg, BEq.rfl, beq_self_eq_true, tabl, cellsOf, fldA, ldA, stA, entAt, partA, takeN, over, leafOk, Value.oneCell', idxA, nilA, cellsEq, fillA, elemsA, pure1, pure2, reps, chkA, tys, Try.results6, KX_draw, KX_drawQ, KX_tail, lastO_one, lastO_more, dropL_one, dropL_more, callP_eq, callM_true, ext_mv1, e0, e1, e7, e9, e10, d1, coefsA]
          refine loop1 (P := Try.prog) (fun x st => st.T.length = 106 ∧ (x.1 ≤ b.length) ∧ (x.2 = (q && (b.take x.1).all (sameC a b))) ∧ getT st.T 0 = coefsA a ∧ getT st.T 1 = coefsA b ∧ getT st.T 7 = .int ox ∧ getT st.T 9 = .bool x.2 ∧ getT st.T 11 = .int (x.1 : Nat) ∧ st.S = []) (fun x => b.length - x.1) (fun x => .bool true) (0, q) ?_ ?_
          case refine_2 => exact ⟨rfl, Nat.zero_le _, by simp, rfl, rfl, rfl, rfl, rfl, rfl⟩
          rintro ⟨j, r⟩ ⟨T, S', tk', n'⟩ ⟨hl, hj, hr, e0, e1, e7, e9, e11, eS⟩ IH
          simp only at hj hr e0 e1 e7 e9 e11 eS
          subst eS
          obtain ⟨g, hg, hT⟩ := tab_of hl
          rw [hg] at e0 e1 e7 e9 e11
          subst hT
          clear hg hl
          have hjw := wrap_add (i := j) (m := 0) (by omega)
          by_cases hlt2 : j < b.length
          · have d2 : decide ((j : Int) < (b.length : Int)) = true := by simpa using hlt2
            obtain ⟨e, he⟩ := nth_some hlt2
            have he' := nth_coef he
            simp only [coefC] at he'
            have hC1 := fun S tk k => told1 (L15_coordinate S tk k a e.1 (by omega))
            have hC2 := fun S tk k => told1 (L15_coordinate S tk k b e.1 (by omega))
            simp only [coefsA] at hC1 hC2
            have hst := all_take (f := sameC a b) he
            have hst2 : (q && (b.take (j + 1)).all (sameC a b)) = (r && sameC a b e) := by rw [hst, hr, Bool.and_assoc]
            cases r with
            | false =>
              simp (maxSteps := 1000000) +contextual (disch := first | with_reducible assumption | exact ⟨rfl⟩ | exact ⟨rfl, rfl⟩ | (refine _root_.id ?_; kernel_rfl) | omega) only [evs, ext_mv, nth, put, putT, getT, binInt, binStr, binBool, aUn, outA, resA, mapO, resA1, oneOf, w1, w2, w3, bots, cond_true, cond_false, if_true, if_false, ite_true, ite_false, reduceIte, reduceCtorEq, implies_true, Nat.reduceAdd, Nat.reduceSub, AV.int, AV.bool, AV.str, Nat.reduceBEq, Nat.reduceEqDiff, Nat.reduceMul, Nat.reduceLT, Nat.reduceLeDiff, Int.reduceNeg, BEq.rfl, beq_self_eq_true, tabl, cellsOf, fldA, ldA, stA, entAt, partA, takeN, over, leafOk, Value.oneCell', idxA, nilA, cellsEq, fillA, elemsA, pure1, pure2, reps, chkA, tys, Try.results6, KX_draw, KX_drawQ, KX_tail, lastO_one, lastO_more, dropL_one, dropL_more, callP_eq, callM_true, ext_mv1, e0, e1, e7, e9, e11, d2, coefsA, he', hjw, hC1, hC2]
              exact IH (j + 1, false) _ (by first | omega | (simp only; omega)) ⟨rfl, by first | omega | (dsimp only; omega), by rw [hst2, Bool.false_and], rfl, rfl, rfl, rfl, rfl, rfl⟩
            | true =>
              rw [Bool.true_and] at hst2
              cases hsc : (findS e.1 a == findS e.1 b) with
              | true =>
                simp (maxSteps := 1000000) +contextual (disch := first | with_reducible assumption | exact ⟨rfl⟩ | exact ⟨rfl, rfl⟩ | (refine _root_.id ?_; kernel_rfl) | omega) only [evs, ext_mv, nth, put, putT, getT, binInt, binStr, binBool, aUn, outA, resA, mapO, resA1, oneOf, w1, w2, w3, bots, cond_true, cond_false, if_true, if_false, ite_true, ite_false, reduceIte, reduceCtorEq, implies_true, Nat.reduceAdd, Nat.reduceSub, AV.int, AV.bool, AV.str, Nat.reduceBEq, Nat.reduceEqDiff, Nat.reduceMul, Nat.reduceLT, Nat.reduceLeDiff, Int.reduceNeg, BEq.rfl, beq_self_eq_true, tabl, cellsOf, fldA, ldA, stA, entAt, partA, takeN, over, leafOk, Value.oneCell', idxA, nilA, cellsEq, fillA, elemsA, pure1, pure2, reps, chkA, tys, Try.results6, KX_draw, KX_drawQ, KX_tail, lastO_one, lastO_more, dropL_one, dropL_more, callP_eq, callM_true, ext_mv1, e0, e1, e7, e9, e11, d2, coefsA, he', hjw, hC1, hC2, hsc]
                exact IH (j + 1, true) _ (by first | omega | (simp only; omega)) ⟨rfl, by first | omega | (dsimp only; omega), by rw [hst2]; exact hsc.symm, rfl, rfl, rfl, rfl, rfl, rfl⟩
              | false =>
                simp (maxSteps := 1000000) +contextual (disch := first | with_reducible assumption | exact ⟨rfl⟩ | exact ⟨rfl, rfl⟩ | (refine _root_.id ?_; kernel_rfl) | omega) only [evs, ext_mv, nth, put, putT, getT, binInt, binStr, binBool, aUn, outA, resA, mapO, resA1, oneOf, w1, w2, w3, bots, cond_true, cond_false, if_true, if_false, ite_true, ite_false, reduceIte, reduceCtorEq, implies_true, Nat.reduceAdd, Nat.reduceSub, AV.int, AV.bool, AV.str, Nat.reduceBEq, Nat.reduceEqDiff, Nat.reduceMul, Nat.reduceLT, Nat.reduceLeDiff, Int.reduceNeg, BEq.rfl, beq_self_eq_true, tabl, cellsOf, fldA, ldA, stA, entAt, partA, takeN, over, leafOk, Value.oneCell', idxA, nilA, cellsEq, fillA, elemsA, pure1, pure2, reps, chkA, tys, Try.results6, KX_draw, KX_drawQ, KX_tail, lastO_one, lastO_more, dropL_one, dropL_more, callP_eq, callM_true, ext_mv1, e0, e1, e7, e9, e11, d2, coefsA, he', hjw, hC1, hC2, hsc]
                exact IH (j + 1, false) _ (by first | omega | (simp only; omega)) ⟨rfl, by first | omega | (dsimp only; omega), by rw [hst2]; exact hsc.symm, rfl, rfl, rfl, rfl, rfl, rfl⟩
          · have d2 : decide ((j : Int) < (b.length : Int)) = false := by simpa using hlt2
            have hje : j = b.length := by omega
            rw [hje, List.take_length, hq, ← hz] at hr
            have dr : ((ox == 0) == r) = true := by rw [hr]; simp
            simp (maxSteps := 1000000) +contextual (disch := first | with_reducible assumption | exact ⟨rfl⟩ | exact ⟨rfl, rfl⟩ | (refine _root_.id ?_; kernel_rfl) | omega) only [evs, ext_mv, nth, put, putT, getT, binInt, binStr, binBool, aUn, outA, resA, mapO, resA1, oneOf, w1, w2, w3, bots, cond_true, cond_false, if_true, if_false, ite_true, ite_false, reduceIte, reduceCtorEq, implies_true, Nat.reduceAdd, Nat.reduceSub, AV.int, AV.bool, AV.str, Nat.reduceBEq, Nat.reduceEqDiff, Nat.reduceMul, Nat.reduceLT, Nat.reduceLeDiff, Int.reduceNeg, BEq.rfl, beq_self_eq_true, tabl, cellsOf, fldA, ldA, stA, entAt, partA, takeN, over, leafOk, Value.oneCell', idxA, nilA, cellsEq, fillA, elemsA, pure1, pure2, reps, chkA, tys, Try.results6, KX_draw, KX_drawQ, KX_tail, lastO_one, lastO_more, dropL_one, dropL_more, callP_eq, callM_true, ext_mv1, e0, e1, e7, e9, e11, d2, coefsA, hA, dr]
    · have dx : decide (ox ≤ 0) = false := by simpa using c1
      simp (maxSteps := 1000000) +contextual (disch := first | with_reducible assumption | exact ⟨rfl⟩ | exact ⟨rfl, rfl⟩ | (refine _root_.id ?_; kernel_rfl) | omega) only [evs, ext_mv, nth, put, putT, getT, binInt, binStr, binBool, aUn, outA, resA, mapO, resA1, oneOf, w1, w2, w3, bots, cond_true, cond_false, if_true, if_false, ite_true, ite_false, reduceIte, reduceCtorEq, implies_true, Nat.reduceAdd, Nat.reduceSub, AV.int, AV.bool, AV.str, Nat.reduceBEq, Nat.reduceEqDiff, Nat.reduceMul, Nat.reduceLT, Nat.reduceLeDiff, Int.reduceNeg, BEq.rfl, beq_self_eq_true, tabl, cellsOf, fldA, ldA, stA, entAt, partA, takeN, over, leafOk, Value.oneCell', idxA, nilA, cellsEq, fillA, elemsA, pure1, pure2, reps, chkA, tys, Try.results6, KX_draw, KX_drawQ, KX_tail, lastO_one, lastO_more, dropL_one, dropL_more, callP_eq, callM_true, ext_mv1, coefsA, hS, hA, hO1, hO2, hO3, hO4, hO5, hw, dx, h0, bne_self_eq_false]
      refine loop1 (P := Try.prog) (fun x st => st.T.length = 106 ∧ (x.1 ≤ a.length) ∧ (x.2 = (a.take x.1).all (sameC a b)) ∧ getT st.T 0 = coefsA a ∧ getT st.T 1 = coefsA b ∧ getT st.T 7 = .int ox ∧ getT st.T 9 = .bool x.2 ∧ getT st.T 10 = .int (x.1 : Nat) ∧ st.S = []) (fun x => a.length - x.1) (fun x => .bool true) (0, true) ?_ ?_
      case refine_2 => exact ⟨rfl, Nat.zero_le _, rfl, rfl, rfl, rfl, rfl, rfl, rfl⟩
      rintro ⟨i, q⟩ ⟨T, S', tk', n'⟩ ⟨hl, hi, hq, e0, e1, e7, e9, e10, eS⟩ IH
      simp only at hi hq e0 e1 e7 e9 e10 eS
      subst eS
      obtain ⟨g, hg, hT⟩ := tab_of hl
      rw [hg] at e0 e1 e7 e9 e10
      subst hT
      clear hg hl
      have hiw := wrap_add (i := i) (m := 0) (by omega)
      by_cases hlt : i < a.length
      · have d1 : decide ((i : Int) < (a.length : Int)) = true := by simpa using hlt
        obtain ⟨e, he⟩ := nth_some hlt
        have he' := nth_coef he
        simp only [coefC] at he'
        have hC1 := fun S tk k => told1 (L15_coordinate S tk k a e.1 (by omega))
        have hC2 := fun S tk k => told1 (L15_coordinate S tk k b e.1 (by omega))
        simp only [coefsA] at hC1 hC2
        have hst := all_take (f := sameC a b) he
        rw [← hq] at hst
        cases q with
        | false =>
          simp (maxSteps := 1000000) +contextual (disch := first | with_reducible assumption | exact ⟨rfl⟩ | exact ⟨rfl, rfl⟩ | (refine _root_.id ?_; kernel_rfl) | omega) only [evs, ext_mv, nth, put, putT, getT, binInt, binStr, binBool, aUn, outA, resA, mapO, resA1, oneOf, w1, w2, w3, bots, cond_true, cond_false, if_true, if_false, ite_true, ite_false, reduceIte, reduceCtorEq, implies_true, Nat.reduceAdd, Nat.reduceSub, AV.int, AV.bool, AV.str, Nat.reduceBEq, Nat.reduceEqDiff, Nat.reduceMul, Nat.reduceLT, Nat.reduceLeDiff, Int.reduceNeg, BEq.rfl, beq_self_eq_true, tabl, cellsOf, fldA, ldA, stA, entAt, partA, takeN, over, leafOk, Value.oneCell', idxA, nilA, cellsEq, fillA, elemsA, pure1, pure2, reps, chkA, tys, Try.results6, KX_draw, KX_drawQ, KX_tail, lastO_one, lastO_more, dropL_one, dropL_more, callP_eq, callM_true, ext_mv1, e0, e1, e7, e9, e10, d1, coefsA, he', hiw, hC1, hC2]
          exact IH (i + 1, false) _ (by first | omega | (simp only; omega)) ⟨rfl, by first | omega | (dsimp only; omega), by rw [hst, Bool.false_and], rfl, rfl, rfl, rfl, rfl, rfl⟩
        | true =>
          rw [Bool.true_and] at hst
          cases hsc : (findS e.1 a == findS e.1 b) with
          | true =>
            simp (maxSteps := 1000000) +contextual (disch := first | with_reducible assumption | exact ⟨rfl⟩ | exact ⟨rfl, rfl⟩ | (refine _root_.id ?_; kernel_rfl) | omega) only [evs, ext_mv, nth, put, putT, getT, binInt, binStr, binBool, aUn, outA, resA, mapO, resA1, oneOf, w1, w2, w3, bots, cond_true, cond_false, if_true, if_false, ite_true, ite_false, reduceIte, reduceCtorEq, implies_true, Nat.reduceAdd, Nat.reduceSub, AV.int, AV.bool, AV.str, Nat.reduceBEq, Nat.reduceEqDiff, Nat.reduceMul, Nat.reduceLT, Nat.reduceLeDiff, Int.reduceNeg, BEq.rfl, beq_self_eq_true, tabl, cellsOf, fldA, ldA, stA, entAt, partA, takeN, over, leafOk, Value.oneCell', idxA, nilA, cellsEq, fillA, elemsA, pure1, pure2, reps, chkA, tys, Try.results6, KX_draw, KX_drawQ, KX_tail, lastO_one, lastO_more, dropL_one, dropL_more, callP_eq, callM_true, ext_mv1, e0, e1, e7, e9, e10, d1, coefsA, he', hiw, hC1, hC2, hsc]
            exact IH (i + 1, true) _ (by first | omega | (simp only; omega)) ⟨rfl, by first | omega | (dsimp only; omega), by rw [hst]; exact hsc.symm, rfl, rfl, rfl, rfl, rfl, rfl⟩
          | false =>
            simp (maxSteps := 1000000) +contextual (disch := first | with_reducible assumption | exact ⟨rfl⟩ | exact ⟨rfl, rfl⟩ | (refine _root_.id ?_; kernel_rfl) | omega) only [evs, ext_mv, nth, put, putT, getT, binInt, binStr, binBool, aUn, outA, resA, mapO, resA1, oneOf, w1, w2, w3, bots, cond_true, cond_false, if_true, if_false, ite_true, ite_false, reduceIte, reduceCtorEq, implies_true, Nat.reduceAdd, Nat.reduceSub, AV.int, AV.bool, AV.str, Nat.reduceBEq, Nat.reduceEqDiff, Nat.reduceMul, Nat.reduceLT, Nat.reduceLeDiff, Int.reduceNeg, BEq.rfl, beq_self_eq_true, tabl, cellsOf, fldA, ldA, stA, entAt, partA, takeN, over, leafOk, Value.oneCell', idxA, nilA, cellsEq, fillA, elemsA, pure1, pure2, reps, chkA, tys, Try.results6, KX_draw, KX_drawQ, KX_tail, lastO_one, lastO_more, dropL_one, dropL_more, callP_eq, callM_true, ext_mv1, e0, e1, e7, e9, e10, d1, coefsA, he', hiw, hC1, hC2, hsc]
            exact IH (i + 1, false) _ (by first | omega | (simp only; omega)) ⟨rfl, by first | omega | (dsimp only; omega), by rw [hst]; exact hsc.symm, rfl, rfl, rfl, rfl, rfl, rfl⟩
      · have d1 : decide ((i : Int) < (a.length : Int)) = false := by simpa using hlt
        have hie : i = a.length := by omega
        rw [hie, List.take_length] at hq
        simp (maxSteps := 1000000) +contextual (disch := first | with_reducible assumption | exact ⟨rfl⟩ | exact ⟨rfl, rfl⟩ | (refine _root_.id ?_; kernel_rfl) | omega) only [evs, ext_mv, nth, put, putT, getT, binInt, binStr, binBool, aUn, outA, resA, mapO, resA1, oneOf, w1, w2, w3, bots, cond_true, cond_false, if_true, if_false, ite_true, ite_false, reduceIte, reduceCtorEq, implies_true, Nat.reduceAdd, Nat.reduceSub, AV.int, AV.bool, AV.str, Nat.reduceBEq, Nat.reduceEqDiff, Nat.reduceMul, Nat.reduceLT, Nat.reduceLeDiff, Int.reduceNeg, BEq.rfl, beq_self_eq_true, tabl, cellsOf, fldA, ldA, stA, entAt, partA, takeN, over, leafOk, Value.oneCell', idxA, nilA, cellsEq, fillA, elemsA, pure1, pure2, reps, chkA, tys, Try.results6, KX_draw, KX_drawQ, KX_tail, lastO_one, lastO_more, dropL_one, dropL_more, callP_eq, callM_true, ext_mv1, e0, e1, e7, e9, e10, d1, coefsA]
        refine loop1 (P := Try.prog) (fun x st => st.T.length = 106 ∧ (x.1 ≤ b.length) ∧ (x.2 = (q && (b.take x.1).all (sameC a b))) ∧ getT st.T 0 = coefsA a ∧ getT st.T 1 = coefsA b ∧ getT st.T 7 = .int ox ∧ getT st.T 9 = .bool x.2 ∧ getT st.T 11 = .int (x.1 : Nat) ∧ st.S = []) (fun x => b.length - x.1) (fun x => .bool true) (0, q) ?_ ?_
        case refine_2 => exact ⟨rfl, Nat.zero_le _, by simp, rfl, rfl, rfl, rfl, rfl, rfl⟩
        rintro ⟨j, r⟩ ⟨T, S', tk', n'⟩ ⟨hl, hj, hr, e0, e1, e7, e9, e11, eS⟩ IH
        simp only at hj hr e0 e1 e7 e9 e11 eS
        subst eS
        obtain ⟨g, hg, hT⟩ := tab_of hl
        rw [hg] at e0 e1 e7 e9 e11
        subst hT
        clear hg hl
        have hjw := wrap_add (i := j) (m := 0) (by omega)
        by_cases hlt2 : j < b.length
        · have d2 : decide ((j : Int) < (b.length : Int)) = true := by simpa using hlt2
          obtain ⟨e, he⟩ := nth_some hlt2
          have he' := nth_coef he
          simp only [coefC] at he'
          have hC1 := fun S tk k => told1 (L15_coordinate S tk k a e.1 (by omega))
          have hC2 := fun S tk k => told1 (L15_coordinate S tk k b e.1 (by omega))
          simp only [coefsA] at hC1 hC2
          have hst := all_take (f := sameC a b) he
          have hst2 : (q && (b.take (j + 1)).all (sameC a b)) = (r && sameC a b e) := by rw [hst, hr, Bool.and_assoc]
          cases r with
          | false =>
            simp (maxSteps := 1000000) +contextual (disch := first | with_reducible assumption | exact ⟨rfl⟩ | exact ⟨rfl, rfl⟩ | (refine _root_.id ?_; kernel_rfl) | omega) only [evs, ext_mv, nth, put, putT, getT, binInt, binStr, binBool, aUn, outA, resA, mapO, resA1, oneOf, w1, w2, w3, bots, cond_true, cond_false, if_true, if_false, ite_true, ite_false, reduceIte, reduceCtorEq, implies_true, Nat.reduceAdd, Nat.reduceSub, AV.int, AV.bool, AV.str, Nat.reduceBEq, Nat.reduceEqDiff, Nat.reduceMul, Nat.reduceLT, Nat.reduceLeDiff, Int.reduceNeg, BEq.rfl, beq_self_eq_true, tabl, cellsOf, fldA, ldA, stA, entAt, partA, takeN, over, leafOk, Value.oneCell', idxA, nilA, cellsEq, fillA, elemsA, pure1, pure2, reps, chkA, tys, Try.results6, KX_draw, KX_drawQ, KX_tail, lastO_one, lastO_more, dropL_one, dropL_more, callP_eq, callM_true, ext_mv1, e0, e1, e7, e9, e11, d2, coefsA, he', hjw, hC1, hC2]
            exact IH (j + 1, false) _ (by first | omega | (simp only; omega)) ⟨rfl, by first | omega | (dsimp only; omega), by rw [hst2, Bool.false_and], rfl, rfl, rfl, rfl, rfl, rfl⟩
          | true =>
            rw [Bool.true_and] at hst2
            cases hsc : (findS e.1 a == findS e.1 b) with
            | true =>
              simp (maxSteps := 1000000) +contextual (disch := first | with_reducible assumption | exact ⟨rfl⟩ | exact ⟨rfl, rfl⟩ | (refine _root_.id ?_; kernel_rfl) | omega) only [evs, ext_mv, nth, put, putT, getT, binInt, binStr, binBool, aUn, outA, resA, mapO, resA1, oneOf, w1, w2, w3, bots, cond_true, cond_false, if_true, if_false, ite_true, ite_false, reduceIte, reduceCtorEq, implies_true, Nat.reduceAdd, Nat.reduceSub, AV.int, AV.bool, AV.str, Nat.reduceBEq, Nat.reduceEqDiff, Nat.reduceMul, Nat.reduceLT, Nat.reduceLeDiff, Int.reduceNeg, BEq.rfl, beq_self_eq_true, tabl, cellsOf, fldA, ldA, stA, entAt, partA, takeN, over, leafOk, Value.oneCell', idxA, nilA, cellsEq, fillA, elemsA, pure1, pure2, reps, chkA, tys, Try.results6, KX_draw, KX_drawQ, KX_tail, lastO_one, lastO_more, dropL_one, dropL_more, callP_eq, callM_true, ext_mv1, e0, e1, e7, e9, e11, d2, coefsA, he', hjw, hC1, hC2, hsc]
              exact IH (j + 1, true) _ (by first | omega | (simp only; omega)) ⟨rfl, by first | omega | (dsimp only; omega), by rw [hst2]; exact hsc.symm, rfl, rfl, rfl, rfl, rfl, rfl⟩
            | false =>
              simp (maxSteps := 1000000) +contextual (disch := first | with_reducible assumption | exact ⟨rfl⟩ | exact ⟨rfl, rfl⟩ | (refine _root_.id ?_; kernel_rfl) | omega) only [evs, ext_mv, nth, put, putT, getT, binInt, binStr, binBool, aUn, outA, resA, mapO, resA1, oneOf, w1, w2, w3, bots, cond_true, cond_false, if_true, if_false, ite_true, ite_false, reduceIte, reduceCtorEq, implies_true, Nat.reduceAdd, Nat.reduceSub, AV.int, AV.bool, AV.str, Nat.reduceBEq, Nat.reduceEqDiff, Nat.reduceMul, Nat.reduceLT, Nat.reduceLeDiff, Int.reduceNeg, BEq.rfl, beq_self_eq_true, tabl, cellsOf, fldA, ldA, stA, entAt, partA, takeN, over, leafOk, Value.oneCell', idxA, nilA, cellsEq, fillA, elemsA, pure1, pure2, reps, chkA, tys, Try.results6, KX_draw, KX_drawQ, KX_tail, lastO_one, lastO_more, dropL_one, dropL_more, callP_eq, callM_true, ext_mv1, e0, e1, e7, e9, e11, d2, coefsA, he', hjw, hC1, hC2, hsc]
              exact IH (j + 1, false) _ (by first | omega | (simp only; omega)) ⟨rfl, by first | omega | (dsimp only; omega), by rw [hst2]; exact hsc.symm, rfl, rfl, rfl, rfl, rfl, rfl⟩
        · have d2 : decide ((j : Int) < (b.length : Int)) = false := by simpa using hlt2
          have hje : j = b.length := by omega
          rw [hje, List.take_length, hq, ← hz] at hr
          have dr : ((ox == 0) == r) = true := by rw [hr]; simp
          simp (maxSteps := 1000000) +contextual (disch := first | with_reducible assumption | exact ⟨rfl⟩ | exact ⟨rfl, rfl⟩ | (refine _root_.id ?_; kernel_rfl) | omega) only [evs, ext_mv, nth, put, putT, getT, binInt, binStr, binBool, aUn, outA, resA, mapO, resA1, oneOf, w1, w2, w3, bots, cond_true, cond_false, if_true, if_false, ite_true, ite_false, reduceIte, reduceCtorEq, implies_true, Nat.reduceAdd, Nat.reduceSub, AV.int, AV.bool, AV.str, Nat.reduceBEq, Nat.reduceEqDiff, Nat.reduceMul, Nat.reduceLT, Nat.reduceLeDiff, Int.reduceNeg, BEq.rfl, beq_self_eq_true, tabl, cellsOf, fldA, ldA, stA, entAt, partA, takeN, over, leafOk, Value.oneCell', idxA, nilA, cellsEq, fillA, elemsA, pure1, pure2, reps, chkA, tys, Try.results6, KX_draw, KX_drawQ, KX_tail, lastO_one, lastO_more, dropL_one, dropL_more, callP_eq, callM_true, ext_mv1, e0, e1, e7, e9, e11, d2, coefsA, hA, dr]
end
end Go.Proofs.Ytcandeobhlfkbaa
/-
  The search for a point, plain: what is found is the first in the order; a greater bound finds the same.
-/

namespace Go.Proofs.Ytcandeobhlfkbaa
open Go
theorem befF_lt {a b : Int} (h : a.natAbs < b.natAbs) : befF a b = true := by
  unfold befF
  rw [if_neg (by omega)]; simpa using h
theorem valsN_pw : ∀ n, (valsN n).Pairwise fun a b => befF a b = true
  | 0 => by simp [valsN]
  | n + 1 => by
    rw [valsN, List.pairwise_append]
    refine ⟨valsN_pw n, ?_, fun x hx y hy => ?_⟩
    · simp only [List.pairwise_cons, List.mem_cons, List.not_mem_nil, or_false, forall_eq, false_implies, implies_true, List.Pairwise.nil, and_true]
      unfold befF
      rw [if_pos (by omega)]
      simp only [decide_eq_true_eq]; omega
    · rw [mem_vals] at hx
      simp only [List.mem_cons, List.not_mem_nil, or_false] at hy
      exact befF_lt (by omega)
theorem valsF_pw (r : Int) : (valsF r).Pairwise fun a b => befF a b = true := by
  unfold valsF
  split
  · exact List.Pairwise.nil
  · exact valsN_pw _
/-- the first of an ordered list -/
theorem find_first {α β : Type} {f : α → Option β} {R : α → α → Prop} : ∀ {l : List α} {y : β}, l.Pairwise R → l.findSome? f = some y → ∃ a ∈ l, f a = some y ∧ ∀ b ∈ l, b = a ∨ R a b ∨ f b = none
  | [], _, _, h => by simp at h
  | x :: l, y, hp, h => by
    obtain ⟨h1, h2⟩ := List.pairwise_cons.1 hp
    rw [List.findSome?_cons] at h
    cases hx : f x with
    | some z =>
      rw [hx] at h
      simp only [Option.some.injEq] at h
      subst h
      refine ⟨x, by simp, hx, fun b hb => ?_⟩
      rcases List.mem_cons.1 hb with rfl | hb
      · exact .inl rfl
      · exact .inr (.inl (h1 b hb))
    | none =>
      rw [hx] at h
      obtain ⟨a, ha, e, h3⟩ := find_first h2 h
      refine ⟨a, by simp [ha], e, fun b hb => ?_⟩
      rcases List.mem_cons.1 hb with rfl | hb
      · exact .inr (.inr hx)
      · exact h3 b hb
def Lex : Pt → Pt → Prop
  | x :: a, y :: b => befF x.2 y.2 = true ∨ (x.2 = y.2 ∧ Lex a b)
  | _, _ => False
/-- a point within a radius, which reaches it -/
def AtR (r : Int) (ns : List ByteArray) (reached : Bool) (ext : Pt) : Prop := ext.map (·.1) = ns ∧ (∀ x ∈ ext, x.2 ∈ valsF r) ∧ (reached = true ∨ ∃ x ∈ ext, x.2 = r ∨ x.2 = -r)
theorem AtR_cons {r : Int} {s : ByteArray} {ns : List ByteArray} {reached : Bool} {ext : Pt} (h : AtR r (s :: ns) reached ext) : ∃ n ext', ext = (s, n) :: ext' ∧ n ∈ valsF r ∧ AtR r ns (reached || n == r || n == -r) ext' := by
  obtain ⟨h1, h2, h3⟩ := h
  match ext, h1 with
  | [], h1 => simp at h1
  | x :: ext', h1 =>
    rw [List.map_cons, List.cons.injEq] at h1
    refine ⟨x.2, ext', by rw [← h1.1], h2 x (by simp), h1.2, fun y hy => h2 y (by simp [hy]), ?_⟩
    rcases h3 with h3 | ⟨y, hy, h3⟩
    · left; simp [h3]
    · rcases List.mem_cons.1 hy with rfl | hy
      · left
        rcases h3 with h3 | h3 <;> simp [h3]
      · exact .inr ⟨y, hy, h3⟩
theorem search_none {sat : Pt → Bool} {r : Int} : ∀ {ns : List ByteArray} {pt : Pt} {reached : Bool}, searchF sat r ns pt reached = none → ∀ ext, AtR r ns reached ext → sat (pt ++ ext) = false
  | [], pt, reached, h, ext, ha => by
    obtain ⟨h1, -, h3⟩ := ha
    have he : ext = [] := by simpa using h1
    subst he
    have hr : reached = true := by
      rcases h3 with h3 | ⟨x, hx, -⟩
      · exact h3
      · simp at hx
    simp only [searchF] at h
    split at h
    · cases h
    · rename_i hs
      rw [hr, Bool.true_and] at hs
      simpa using hs
  | s :: ns, pt, reached, h, ext, ha => by
    obtain ⟨n, ext', rfl, hn, ha'⟩ := AtR_cons ha
    simp only [searchF] at h
    rw [List.findSome?_eq_none_iff] at h
    have := search_none (h n hn) ext' ha'
    rw [List.append_assoc] at this
    simpa using this
theorem search_first {sat : Pt → Bool} {r : Int} : ∀ {ns : List ByteArray} {pt : Pt} {reached : Bool} {ext ext2 : Pt}, searchF sat r ns pt reached = some (pt ++ ext) → AtR r ns reached ext2 → sat (pt ++ ext2) = true → ext2 = ext ∨ Lex ext ext2
  | [], pt, reached, ext, ext2, h, h2, hs => by
    have e2 : ext2 = [] := by simpa using h2.1
    simp only [searchF] at h
    split at h
    · simp only [Option.some.injEq] at h
      have : ext = [] := by simpa using h.symm
      exact .inl (by rw [e2, this])
    · cases h
  | s :: ns, pt, reached, ext, ext2, h, h2, hs => by
    obtain ⟨n2, ext2, rfl, hn2, ha2⟩ := AtR_cons h2
    simp only [searchF] at h
    obtain ⟨n, hn, h1, hall⟩ := find_first (valsF_pw r) h
    obtain ⟨-, ex, he, -, -, -⟩ := search_some h1
    rw [List.append_assoc, List.append_cancel_left_eq] at he
    subst he
    rcases hall n2 hn2 with rfl | h3 | h3
    · have h4 : searchF sat r ns (pt ++ [(s, n2)]) (reached || n2 == r || n2 == -r) = some ((pt ++ [(s, n2)]) ++ ex) := by rw [h1]; simp
      rcases search_first h4 ha2 (by simpa using hs) with rfl | h5
      · left; rfl
      · right; exact .inr ⟨rfl, h5⟩
    · right; exact .inl h3
    · have := search_none h3 ext2 ha2
      rw [List.append_assoc] at this
      rw [show [(s, n2)] ++ ext2 = (s, n2) :: ext2 from rfl, hs] at this
      cases this
theorem findS_out {t : ByteArray} {a : Pt} (h : ∀ x ∈ a, x.1 ≠ t) : findS t a = 0 := Decidable.byContradiction fun h0 => by
  obtain ⟨c, hc, e⟩ := findS_mem h0
  exact h c hc e
theorem findS_hd {s : ByteArray} {n : Int} {a : Pt} : findS s ((s, n) :: a) = n := by
  rw [findS, if_pos (by rw [sEq_nm]; simp)]
theorem findS_tl {s t : ByteArray} {n : Int} {a : Pt} (h : s ≠ t) : findS t ((s, n) :: a) = findS t a := by
  rw [findS, if_neg (by rw [sEq_nm]; simpa using h)]
theorem lex_first : ∀ {ns : List ByteArray} {a b : Pt}, Inc ns → a.map (·.1) = ns → b.map (·.1) = ns → Lex a b → ∃ s, befF (findS s a) (findS s b) = true ∧ ∀ t, nm t < nm s → findS t a = findS t b
  | [], a, b, _, ha, _, h => by
    have : a = [] := by simpa using ha
    subst this; exact h.elim
  | s :: ns, a, b, hi, ha, hb, h => by
    obtain ⟨i1, i2⟩ := List.pairwise_cons.1 hi
    match a, b, ha, hb with
    | x :: a, y :: b, ha, hb =>
    obtain ⟨xs, xv⟩ := x
    obtain ⟨ys, yv⟩ := y
    simp only [List.map_cons, List.cons.injEq] at ha hb
    obtain ⟨rfl, ha2⟩ := ha
    obtain ⟨rfl, hb2⟩ := hb
    have na : ∀ t, ¬ nm ys < nm t → findS t a = 0 := fun t ht => findS_out fun x hx e => ht (by rw [← e]; exact i1 x.1 (by rw [← ha2]; exact List.mem_map_of_mem hx))
    have nb : ∀ t, ¬ nm ys < nm t → findS t b = 0 := fun t ht => findS_out fun x hx e => ht (by rw [← e]; exact i1 x.1 (by rw [← hb2]; exact List.mem_map_of_mem hx))
    rcases h with h | ⟨hv, h⟩
    · refine ⟨ys, by rw [findS_hd, findS_hd]; exact h, fun t ht => ?_⟩
      have hne : ys ≠ t := by rintro rfl; exact nlt_irrefl _ ht
      rw [findS_tl hne, findS_tl hne, na t fun h2 => nlt_irrefl _ (nlt_trans ht h2), nb t fun h2 => nlt_irrefl _ (nlt_trans ht h2)]
    · simp only at hv
      subst hv
      obtain ⟨s2, h1, h2⟩ := lex_first i2 ha2 hb2 h
      have hne : ys ≠ s2 := by
        rintro rfl
        rw [na _ (nlt_irrefl _), nb _ (nlt_irrefl _), befF_irr] at h1
        cases h1
      refine ⟨s2, by rw [findS_tl hne, findS_tl hne]; exact h1, fun t ht => ?_⟩
      by_cases hst : ys = t
      · subst hst; rw [findS_hd, findS_hd]
      · rw [findS_tl hst, findS_tl hst]; exact h2 t ht
theorem inc_of {ns : List ByteArray} {s : ByteArray} (h : Inc (s :: ns)) : ∀ t ∈ ns, nm s < nm t := (List.pairwise_cons.1 h).1
theorem findS_of : ∀ {a : Pt}, Inc (a.map (·.1)) → ∀ c ∈ a, findS c.1 a = c.2
  | [], _, c, hc => by simp at hc
  | x :: a, hi, c, hc => by
    obtain ⟨i1, i2⟩ := List.pairwise_cons.1 hi
    rcases List.mem_cons.1 hc with rfl | hc
    · exact findS_hd
    · have hlt : nm x.1 < nm c.1 := i1 c.1 (List.mem_map_of_mem hc)
      have hne : x.1 ≠ c.1 := fun e => nlt_irrefl (nm x.1) (by have h2 := hlt; rwa [← e] at h2)
      exact (findS_tl (s := x.1) (n := x.2) hne).trans (findS_of i2 c hc)
theorem rad_all {a : Pt} (hi : Inc (a.map (·.1))) (n : Nat) : radF a ≤ n ↔ ∀ c ∈ a, c.2.natAbs ≤ n := by
  rw [radF_le]
  constructor
  · intro h c hc
    have := h c.1
    rwa [findS_of hi c hc] at this
  · intro h s
    by_cases h0 : findS s a = 0
    · rw [h0]; simp
    · obtain ⟨c, hc, rfl⟩ := findS_mem h0
      rw [findS_of hi c hc]; exact h c hc
theorem rad_hit {a : Pt} (hi : Inc (a.map (·.1))) : radF a = 0 ∨ ∃ c ∈ a, c.2.natAbs = radF a := by
  cases hr : radF a with
  | zero => exact .inl rfl
  | succ n =>
    right
    refine Classical.byContradiction fun hx => ?_
    have : radF a ≤ n := (rad_all hi n).2 fun c hc => by
      have h1 := (rad_all hi (n + 1)).1 (by omega) c hc
      have h2 : c.2.natAbs ≠ n + 1 := fun e => hx ⟨c, hc, e⟩
      omega
    omega
/-- a point within its own radius -/
theorem at_own {a : Pt} {ns : List ByteArray} (hi : Inc ns) (ha : a.map (·.1) = ns) (h8 : radF a ≤ 8) : AtR (radF a : Nat) ns (((radF a : Nat) : Int) == 0) a := by
  subst ha
  refine ⟨rfl, fun x hx => ?_, ?_⟩
  · rw [mem_valsF (by omega) (by omega)]
    have := (rad_all hi (radF a)).1 (Nat.le_refl _) x hx
    omega
  · rcases rad_hit hi with h | ⟨c, hc, h⟩
    · left; simp [h]
    · right
      exact ⟨c, hc, by omega⟩
theorem at_rad {a : Pt} {ns : List ByteArray} {r : Nat} (hi : Inc ns) (h8 : r ≤ 8) (h : AtR (r : Nat) ns ((r : Int) == 0) a) : radF a = r := by
  obtain ⟨rfl, h2, h3⟩ := h
  have hle : radF a ≤ r := (rad_all hi r).2 fun c hc => by
    have := (mem_valsF (by omega) (by omega)).1 (h2 c hc)
    omega
  rcases h3 with h3 | ⟨x, hx, h3⟩
  · have : r = 0 := by simpa using h3
    omega
  · have := (rad_all hi (radF a)).1 (Nat.le_refl _) x hx
    omega
theorem from_some {sat : Pt → Bool} {ns : List ByteArray} : ∀ {k j : Nat} {p : Pt}, fromF sat ns j k = some p → ∃ r : Nat, j ≤ r ∧ r < j + k ∧ searchF sat (r : Int) ns [] ((r : Int) == 0) = some p ∧ ∀ i : Nat, j ≤ i → i < r → searchF sat (i : Int) ns [] ((i : Int) == 0) = none
  | 0, j, p, h => by simp [fromF] at h
  | k + 1, j, p, h => by
    rw [fromF] at h
    cases hs : searchF sat (j : Int) ns [] ((j : Int) == 0) with
    | some q =>
      rw [hs] at h
      simp only [Option.some.injEq] at h
      subst h
      exact ⟨j, Nat.le_refl _, by omega, hs, fun i h1 h2 => by omega⟩
    | none =>
      rw [hs] at h
      obtain ⟨r, h1, h2, h3, h4⟩ := from_some h
      refine ⟨r, by omega, by omega, h3, fun i h5 h6 => ?_⟩
      by_cases he : i = j
      · subst he; exact hs
      · exact h4 i (by omega) h6
theorem from_none {sat : Pt → Bool} {ns : List ByteArray} : ∀ {k j : Nat}, fromF sat ns j k = none → ∀ i : Nat, j ≤ i → i < j + k → searchF sat (i : Int) ns [] ((i : Int) == 0) = none
  | 0, j, _, i, h1, h2 => by omega
  | k + 1, j, h, i, h1, h2 => by
    rw [fromF] at h
    cases hs : searchF sat (j : Int) ns [] ((j : Int) == 0) with
    | some q => rw [hs] at h; cases h
    | none =>
      rw [hs] at h
      by_cases he : i = j
      · subst he; exact hs
      · exact from_none h i (by omega) (by omega)
theorem from_more {sat : Pt → Bool} {ns : List ByteArray} : ∀ {k j : Nat} {p : Pt}, fromF sat ns j k = some p → fromF sat ns j (k + 1) = some p
  | 0, j, p, h => by simp [fromF] at h
  | k + 1, j, p, h => by
    rw [fromF] at h ⊢
    cases hs : searchF sat (j : Int) ns [] ((j : Int) == 0) with
    | some q => rw [hs] at h; exact h
    | none => rw [hs] at h; exact from_more h
/-- a point that names the variables, each within a bound -/
def insF (most : Int) : Pt → List ByteArray → Bool
  | [], [] => true
  | c :: p, s :: ns => (sEq c.1 s && (decide (c.2 ≥ -most) && decide (c.2 ≤ most))) && insF most p ns
  | _, _ => false
theorem ins_iff {most : Int} : ∀ {p : Pt} {ns : List ByteArray}, insF most p ns = true ↔ p.map (·.1) = ns ∧ ∀ c ∈ p, -most ≤ c.2 ∧ c.2 ≤ most
  | [], [] => by simp [insF]
  | [], _ :: _ => by simp [insF]
  | _ :: _, [] => by simp [insF]
  | c :: p, s :: ns => by
    have he : sEq c.1 s = true ↔ c.1 = s := by rw [sEq_nm]; simp
    simp only [insF, Bool.and_eq_true, decide_eq_true_eq, he, ins_iff (p := p), List.map_cons, List.cons.injEq, List.mem_cons, forall_eq_or_imp]
    constructor
    · rintro ⟨⟨h1, h2, h3⟩, h4, h5⟩; exact ⟨⟨h1, h4⟩, ⟨h2, h3⟩, h5⟩
    · rintro ⟨⟨h1, h4⟩, ⟨h2, h3⟩, h5⟩; exact ⟨⟨h1, h2, h3⟩, h4, h5⟩
theorem vars_inc (l : List RowT) : Inc (varsF l) := (uni_facts _).1
theorem ok_facts {l : List RowT} {most : Int} (h : okF l most = true) : sysE l = 0 ∧ 0 ≤ most ∧ most ≤ 8 ∧ (varsF l).length ≤ 6 := by
  unfold okF at h
  simp only [Bool.and_eq_true, decide_eq_true_eq] at h
  exact ⟨h.1.1.1, h.1.1.2, h.1.2, h.2⟩
theorem find_some {l : List RowT} {most : Int} {q : Pt} (h : findF l most = some q) : okF l most = true ∧ satF l q = true ∧ insF most q (varsF l) = true ∧
    (∀ p, insF most p (varsF l) = true → satF l p = true → ordF q p ≤ 0) ∧ (most ≤ 7 → findF l (most + 1) = some q) := by
  unfold findF at h
  split at h
  rotate_left
  · cases h
  rename_i hok
  obtain ⟨o1, o2, o3, o4⟩ := ok_facts hok
  have hi := vars_inc l
  obtain ⟨r, h1, h2, h3, h4⟩ := from_some h
  obtain ⟨g1, ext, g2, g3, g4, g5⟩ := search_some h3
  simp only [List.nil_append] at g2
  subst g2
  have hat : AtR (r : Nat) (varsF l) ((r : Int) == 0) q := ⟨g3, g4, g5⟩
  have hr := at_rad hi (by omega) hat
  have hq := (rad_all (g3 ▸ hi) r).1 (by omega)
  refine ⟨hok, g1, ins_iff.2 ⟨g3, fun c hc => by have := hq c hc; omega⟩, fun p hp hs => ?_, fun h7 => ?_⟩
  · obtain ⟨p1, p2⟩ := ins_iff.1 hp
    have hpi : Inc (p.map (·.1)) := p1 ▸ hi
    have hpr : radF p ≤ most.toNat := (rad_all hpi _).2 fun c hc => by have := p2 c hc; omega
    have hown := at_own hi p1 (by omega)
    have hge : r ≤ radF p := by
      refine Decidable.byContradiction fun hlt => ?_
      have := search_none (h4 (radF p) (by omega) (by omega)) p hown
      rw [List.nil_append, hs] at this
      cases this
    by_cases heq : radF p = r
    · rw [heq] at hown
      rcases search_first (pt := []) (ext := q) h3 hown hs with rfl | hlex
      · rw [ord_refl]; omega
      · obtain ⟨s, b1, b2⟩ := lex_first hi g3 p1 hlex
        exact ord_le (.inl (.inr ⟨by omega, s, b1, b2⟩))
    · exact ord_le (.inl (.inl (by omega)))
  · unfold findF
    have hok2 : okF l (most + 1) = true := by
      unfold okF
      simp only [Bool.and_eq_true, decide_eq_true_eq]
      exact ⟨⟨⟨o1, by omega⟩, by omega⟩, o4⟩
    rw [if_pos hok2]
    have : (most + 1).toNat + 1 = (most.toNat + 1) + 1 := by omega
    rw [this]
    exact from_more h
theorem find_none {l : List RowT} {most : Int} (h : findF l most = none) (h0 : 0 ≤ most) (h8 : most ≤ 8) (hs : sysE l = 0) (h6 : (varsF l).length ≤ 6) {p : Pt} (hp : insF most p (varsF l) = true) : satF l p = false := by
  have hok : okF l most = true := by
    unfold okF
    simp only [Bool.and_eq_true, decide_eq_true_eq]
    exact ⟨⟨⟨hs, h0⟩, h8⟩, h6⟩
  unfold findF at h
  rw [if_pos hok] at h
  obtain ⟨p1, p2⟩ := ins_iff.1 hp
  have hi := vars_inc l
  have hpi : Inc (p.map (·.1)) := p1 ▸ hi
  have hpr : radF p ≤ most.toNat := (rad_all hpi _).2 fun c hc => by have := p2 c hc; omega
  have hown := at_own hi p1 (by omega)
  have := search_none (from_none h (radF p) (by omega) (by omega)) p hown
  simpa using this
end Go.Proofs.Ytcandeobhlfkbaa
