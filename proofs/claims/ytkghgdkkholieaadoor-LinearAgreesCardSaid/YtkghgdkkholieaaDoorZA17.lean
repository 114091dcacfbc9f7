/-
  Texts laid together: DChk, DE1.
-/
import Derived.Test.YtkghgdkkholieaaDoorZA16
import Derived.RangeFuncRecord
import Derived.RangeFuncOwn
import Derived.RangeFuncCalls
import Derived.Test.YtkghgdkkholieaaDoorZA12
/-
  The check of a predicate, walked: a range over a function.
-/




namespace Go.Proofs.YtkghgdkkholieaaDoor
open Go Go.RowKit Go.Shelf
attribute [local go_sem] Oper.semAt_some
/-- the statement itself: the record is laid, the function is called -/
theorem range_lawF {F : Fence} {n : Nat} (hro : F.round = none) (hfa : ∀ f, F.fn f) (hd : ∀ k, F.depth.isSome = true → 1 ≤ k) {P : Program} {a : Act} {w : World} {g : Operand} {ps : Array Tmp} {assign body : Code} {Q : Exit → Act → World → Prop} (gf : FuncId) (lb : Array Value) (hg : a.eval g = .func (.func gf) #[] lb)
    (eg : ∀ args w, (callFunc gf args).run P w = .ok (.enter gf args) w)
    (h : ∀ (fn : FuncId) (rec : LoopState → Option Code → Loop), rec = (fun st pe => { state := st, pending := pe, fn, tmps := a.tmps, params := ps, assign, body, defers := w.heap.size }) →
      ∀ W1, (w.alloc (.deferred (some []))).alloc (.loop (rec .ready none)) = W1 →
        CallsIn F (n - 1) P gf (#[.func (.yield (w.heap.size + 1)) #[] #[]] ++ lb) W1 (rangePost F n P (w.heap.size + 1) Q { a with defers := [{ target := .collected w.heap.size, args := #[] }] ++ a.defers })) :
    (Code.rangeFunc g ps assign body).wpIn F n P Q a w := by
  refine wpIn_rangeFunc ?_
  intro fn hfn
  rw [hro]
  obtain ⟨rec, hrec⟩ : ∃ rec : LoopState → Option Code → Loop, rec = fun st pe => { state := st, pending := pe, fn, tmps := a.tmps, params := ps, assign, body, defers := w.heap.size } := ⟨_, rfl⟩
  obtain ⟨W1, hW1⟩ : ∃ W1, (w.alloc (.deferred (some []))).alloc (.loop (rec .ready none)) = W1 := ⟨_, rfl⟩
  refine ⟨w.heap.size + 1, [{ target := .collected w.heap.size, args := #[] }], W1, { target := .fn (.func gf) lb, args := #[.func (.yield (w.heap.size + 1)) #[] #[]] }, W1, gf,
    #[.func (.yield (w.heap.size + 1)) #[] #[]] ++ lb, W1, ?_, ?_, ?_, ?_, ?_, ?_⟩
  · rw [← hW1, hrec]; exact run_enterLoop_outer _ _ _ _ _
  · have e1 : (resolve a.eval (rangeCall g (w.heap.size + 1)) 0).run P W1 = .ok { target := .fn (.func gf) lb, args := #[.func (.yield (w.heap.size + 1)) #[] #[]] } W1 := by
      simp only [resolve, hg]
      simp [go_sem]
    exact e1
  · intro f' hf'; exact hfa f'
  · have e2 : (invoke (.fn (.func gf) lb) #[.func (.yield (w.heap.size + 1)) #[] #[]]).run P W1 = .ok (.enter gf (#[.func (.yield (w.heap.size + 1)) #[] #[]] ++ lb)) W1 := by
      simp [invoke, go_sem, eg]
    exact e2
  · exact hd _
  · exact h fn rec hrec W1 hW1
theorem range_law {P : Program} {a : Act} {w : World} {g : Operand} {ps : Array Tmp} {assign body : Code} {Q : Exit → Act → World → Prop} (gf : FuncId) (lb : Array Value) (hg : a.eval g = .func (.func gf) #[] lb)
    (eg : ∀ args w, (callFunc gf args).run P w = .ok (.enter gf args) w)
    (h : ∀ (fn : FuncId) (rec : LoopState → Option Code → Loop), rec = (fun st pe => { state := st, pending := pe, fn, tmps := a.tmps, params := ps, assign, body, defers := w.heap.size }) →
      ∀ W1, (w.alloc (.deferred (some []))).alloc (.loop (rec .ready none)) = W1 →
        CallsIn Fence.wide (3 - 1) P gf (#[.func (.yield (w.heap.size + 1)) #[] #[]] ++ lb) W1 (rangePost Fence.wide 3 P (w.heap.size + 1) Q { a with defers := [{ target := .collected w.heap.size, args := #[] }] ++ a.defers })) :
    (Code.rangeFunc g ps assign body).wpIn Fence.wide 3 P Q a w := range_lawF rfl (fun _ => trivial) hdw gf lb hg eg h
/-- what the walk asks of the functions that look at a node -/
structure NodeFns : Prop where
  nodes : ∀ p, kidsMax p → ∀ S tk k, cL Tryd.prog 45 [.agg (predC p)] S tk k = some (.int (nodesW p), S, tk, k)
  depth : ∀ p, kidsMax p → ∀ S tk k, cL Tryd.prog 46 [.agg (predC p)] S tk k = some (.int (depthW p), S, tk, k)
  node : ∀ p, kidsMax p → ∀ S tk k, cL Tryd.prog 48 [.agg (predC p)] S tk k = some (.int (nodeP p), S, tk, k)
theorem call1 {f : FuncId} {p : PT} {r : Int} {v : Value} {w : World} (hcl : ∀ S tk k, cL Tryd.prog f [.agg (predC p)] S tk k = some (.int r, S, tk, k)) (ht : Tab0 w) (hv : PV w p v) :
    CallsIn Fence.wide 3 Tryd.prog f #[v] w fun e w' => e = .returned (.int .i64 r) ∧ Below w.heap.size w w' := by
  refine callsIn_wide.2 ((call0 hcl ht (vs := #[v]) (by simp only [VRs, and_true]; exact hv)).mono ?_)
  rintro e w' ⟨v, rfl, hb, hr⟩
  simp only [VR] at hr
  exact ⟨by rw [hr], hb⟩
theorem res_check {tmps : Array Value} {W : World} {B : Nat} {v : Int} (hp : tmps[2]? = some (.pointer (some ⟨B, 0, none⟩))) (hc : W.cell? ⟨B, 0, none⟩ = some (.int .i64 v)) :
    (results Tryd.f24 tmps).run Tryd.prog W = .ok (.int .i64 v) W := by
  have hr : Tryd.f24.results = #[.cell 2 47] := rfl
  have hu := Tryd.underlying47
  have ha : aggT Tryd.prog 47 = some false := by kernel_rfl
  simp [results, hr, hp, asAddr, loadVar, run_agg ha]
  rw [hc]
set_option maxRecDepth 100000 in
set_option maxHeartbeats 4000000 in
theorem check_in (N : NodeFns) (p : PT) (hn : kidsMax p) (w : World) (v : Value) (ht : Tab0 w) (hv : PV w p v) :
    CallsIn Fence.wide 3 Tryd.prog 24 #[v] w fun e w' => e = .returned (.int .i64 (checkP p)) ∧ Below w.heap.size w w' := by
  obtain ⟨a, cap, rfl⟩ : ∃ a cap, v = .agg #[.int .i64 p.op, .string p.name, .int .i64 p.n, .slice a p.kids.length cap] := by
    cases p with
    | node o s n ks => obtain ⟨a, cap, rfl, -⟩ := PV_cells hv; exact ⟨a, cap, rfl⟩
  refine callsIn_of_wp_marks Tryd.func24 rfl trivial ?_ rfl
  simp only [Tryd.ntmps24, List.size_toArray, List.length_cons, List.length_nil, Nat.reduceAdd, Nat.reduceSub, Array.replicate_succ, Array.replicate_zero, List.push_toArray, List.append_toArray, List.nil_append, List.cons_append]
  obtain ⟨w1, hw1⟩ : ∃ w1, w1 = (w.alloc (.cells #[.int .i64 p.op, .string p.name, .int .i64 p.n, .slice a p.kids.length cap] 25)).alloc (.cells #[.int .i64 0] 47) := ⟨_, rfl⟩
  have hb1 : Below w.heap.size w w1 := by rw [hw1]; exact ((Below.refl _ w).alloc (Nat.le_refl _) _).alloc (by simp) _
  have hs1 : w1.heap.size = w.heap.size + 2 := by rw [hw1]; simp
  have hB1 : w1.heap[w.heap.size]? = some (.cells #[.int .i64 p.op, .string p.name, .int .i64 p.n, .slice a p.kids.length cap] 25 (0, 0)) := by
    rw [hw1, Below.heap_alloc _ _ _ (by simp)]; exact heap_alloc_same w _
  have hB2 : w1.heap[w.heap.size + 1]? = some (.cells #[.int .i64 0] 47 (0, 0)) := by
    rw [hw1]; have := heap_alloc_same (w.alloc (.cells #[.int .i64 p.op, .string p.name, .int .i64 p.n, .slice a p.kids.length cap] 25)) (.cells #[.int .i64 0] 47); rwa [World.size_alloc] at this
  have ht1 : Tab0 w1 := ht.below ht.pos (hb1.mono (by omega))
  have c1 := call1 (N.nodes p hn) ht1 (hv.below hb1)
  have hbox : ∀ {W : World}, Below w1.heap.size w1 W → W.cell? ⟨w.heap.size, 0, none⟩ = some (.int .i64 p.op) ∧ W.cell? ⟨w.heap.size, 1, none⟩ = some (.string p.name) ∧ W.cell? ⟨w.heap.size, 2, none⟩ = some (.int .i64 p.n) ∧ W.cell? ⟨w.heap.size, 3, none⟩ = some (.slice a p.kids.length cap) := by
    intro W hb
    have h := (hb.block w.heap.size (by omega)).trans hB1
    simp [World.cell?, h]
  have hres : ∀ {W : World}, Below w1.heap.size w1 W → W.cell? ⟨w.heap.size + 1, 0, none⟩ = some (.int .i64 0) ∧ W.frozen? ⟨w.heap.size + 1, 0, none⟩ = false := by
    intro W hb
    have h := (hb.block (w.heap.size + 1) (by omega)).trans hB2
    simp [World.cell?, World.frozen?, h]
  obtain ⟨b0, b1', b2, b3⟩ := hbox (Below.refl _ w1)
  gi_wp2_with fail
  rw [← hw1]
  refine ⟨trivial, (callsIn_wide.2 (callsIn_wide.1 c1)).mono ?_⟩
  clear c1
  rintro e w2 ⟨rfl, hb2⟩
  obtain ⟨d0, d1, d2, d3⟩ := hbox hb2
  obtain ⟨r0, r1⟩ := hres hb2
  have hs2 := hb2.size
  have hn2 : ∀ {W : World} {u : Value}, Below w.heap.size w W → Below w.heap.size w (W.setCell ⟨w.heap.size + 1, 0, none⟩ u) := fun h => h.setCell (p := ⟨w.heap.size + 1, 0, none⟩) (by simp) _
  by_cases h400 : 400 < nodesW p
  · have g1 : nodesW p > 400 := by omega
    gi_wp2_with fail
    refine ⟨_, res_check rfl (World.cell?_setCell_same' _ _ _ (by rw [r0]; rfl)), ?_, hn2 (hb1.trans (hb2.mono (by omega)))⟩
    unfold checkP; rw [if_pos h400]
  have g1 : ¬ nodesW p > 400 := by omega
  have c2 := call1 (N.depth p hn) (ht1.below ht1.pos hb2) ((hv.below hb1).below hb2)
  gi_wp2_with fail
  refine ⟨trivial, (callsIn_wide.2 (callsIn_wide.1 c2)).mono ?_⟩
  clear c2
  rintro e w3 ⟨rfl, hb3⟩
  have hb13 : Below w1.heap.size w1 w3 := hb2.trans (hb3.mono hs2)
  obtain ⟨q0, q1, q2, q3⟩ := hbox hb13
  obtain ⟨r0', r1'⟩ := hres hb13
  have hs3 := hb13.size
  by_cases h40 : 40 < depthW p
  · have g2 : depthW p > 40 := by omega
    gi_wp2_with fail
    refine ⟨_, res_check rfl (World.cell?_setCell_same' _ _ _ (by rw [r0']; rfl)), ?_, hn2 (hb1.trans (hb13.mono (by omega)))⟩
    unfold checkP; rw [if_neg (by omega), if_pos h40]
  have g2 : ¬ depthW p > 40 := by omega
  have c3 := before_in w3 (.int .i64 p.op) (.string p.name) (.int .i64 p.n) (.slice a p.kids.length cap) rfl
  gi_wp2_with fail
  refine ⟨trivial, (callsIn_wide.2 (callsIn_wide.1 c3)).mono ?_⟩
  clear c3
  rintro e w4 ⟨rfl, hw4⟩
  have hb34 : Below w3.heap.size w3 w4 := by rw [hw4]; exact (Below.refl _ _).alloc (Nat.le_refl _) _
  have hb14 : Below w1.heap.size w1 w4 := hb13.trans (hb34.mono hs3)
  have hs4 : w3.heap.size < w4.heap.size := by rw [hw4]; simp
  have hB4 : w4.heap[w3.heap.size]? = some (.cells #[.int .i64 p.op, .string p.name, .int .i64 p.n, .slice a p.kids.length cap] 25 (0, 0)) := by rw [hw4]; exact heap_alloc_same _ _
  have hv4 : PV w4 p (.agg #[.int .i64 p.op, .string p.name, .int .i64 p.n, .slice a p.kids.length cap]) := (hv.below hb1).below (hb14.mono (Nat.le_refl _))
  have ht4 : Tab0 w4 := ht1.below ht1.pos hb14
  clear hw4
  gi_wp2_with fail
  refine range_law 58 #[.pointer (some ⟨w3.heap.size, 0, none⟩)] rfl (enters_of Tryd.func58 (by kernel_rfl) rfl) ?_
  intro fn rec hrec W1 hW1
  have hL1 : W1.heap[w4.heap.size + 1]? = some (.loop (rec .ready none)) := by
    rw [← hW1]; have := World.alloc_heap_new (w4.alloc (.deferred (some []))) (.loop (rec .ready none)); rwa [World.size_alloc] at this
  have hK1 : W1.heap[w4.heap.size]? = some (.deferred (some [])) := by
    rw [← hW1]; exact (Below.heap_alloc _ _ _ (by simp)).trans (World.alloc_heap_new w4 _)
  have hbW : Below w4.heap.size w4 W1 := by rw [← hW1]; exact ((Below.refl _ w4).alloc (Nat.le_refl _) _).alloc (by simp) _
  have hsW : w4.heap.size + 1 < W1.heap.size := by rw [← hW1]; simp
  clear hW1
  have hrounds : Rounds w4 W1 (w4.heap.size + 1) (fun er W' => W'.heap[w4.heap.size + 1]? = some (.loop (rec .done (some .ret))) ∧ W'.heap[w4.heap.size]? = some (.deferred (some [])) ∧ W'.cell? ⟨w.heap.size + 1, 0, none⟩ = some (.int .i64 er) ∧ Below w.heap.size w W') := by
    intro W q v hnq hB hvq
    have hl : W.heap[w4.heap.size + 1]? = some (.loop (rec .ready none)) := (hB.block _ (by omega)).trans hL1
    have hk : W.heap[w4.heap.size]? = some (.deferred (some [])) := (hB.block _ (by omega)).trans hK1
    have hy := run_yield (P := Tryd.prog) (args := #[v]) hl (by rw [hrec]; rfl)
    rw [hrec] at hy
    refine ⟨fn, _, _, _, hy, roundIn_of_wpIn trivial ?_⟩
    obtain ⟨a2, n2, c2, rfl⟩ : ∃ a2 n2 c2, v = .agg #[.int .i64 q.op, .string q.name, .int .i64 q.n, .slice a2 n2 c2] := by
      cases q with
      | node o s n ks => obtain ⟨a, cap, rfl, -⟩ := PV_cells hvq; exact ⟨a, _, cap, rfl⟩
    have hsW2 := hB.size
    have hlt : w4.heap.size + 1 < W.heap.size := by omega
    gi_wp2_with fail
    have hl' : (W.alloc (.cells #[.int .i64 q.op, .string q.name, .int .i64 q.n, .slice a2 n2 c2] 25)).heap[w4.heap.size + 1]? = some (.loop (rec .ready none)) := (Below.heap_alloc _ _ _ hlt).trans hl
    refine ⟨_, run_beginRound hl' (by rw [hrec]), ?_⟩
    obtain ⟨Wb, hWb⟩ : ∃ Wb, Wb = (W.alloc (.cells #[.int .i64 q.op, .string q.name, .int .i64 q.n, .slice a2 n2 c2] 25)).putObj (w4.heap.size + 1) (.loop { rec .ready none with state := .busy }) := ⟨_, rfl⟩
    rw [← hWb]
    have hsb : W.heap.size < Wb.heap.size := by rw [hWb]; simp
    have hob : ∀ k, k ≠ w4.heap.size + 1 → k < W.heap.size → Wb.heap[k]? = W.heap[k]? := fun k hk hkl => by
      rw [hWb, World.putObj_heap_other hk]; exact Below.heap_alloc _ _ _ hkl
    have hlb : Wb.heap[w4.heap.size + 1]? = some (.loop { rec .ready none with state := .busy }) := by
      rw [hWb]; exact World.putObj_heap_same (by simp; omega)
    have hbb : Wb.heap[W.heap.size]? = some (.cells #[.int .i64 q.op, .string q.name, .int .i64 q.n, .slice a2 n2 c2] 25 (0, 0)) := by
      rw [hWb, World.putObj_heap_other (by omega)]; exact heap_alloc_same _ _
    have hos : Wb.os = W.os ∧ Wb.tape = W.tape ∧ Wb.output = W.output := by rw [hWb]; exact ⟨rfl, rfl, rfl⟩
    clear hWb
    have hb4b : Below w4.heap.size w4 Wb := by
      have h1 : Below w4.heap.size w4 W := hbW.trans (hB.mono (by omega))
      exact ⟨hos.1.trans h1.os, hos.2.1.trans h1.tape, hos.2.2.trans h1.output, by omega, fun k hk => (hob k (by omega) (by omega)).trans (h1.block k hk)⟩
    have cn := call1 (N.node q hnq) (ht4.below ht4.pos hb4b) (hvq.below hb4b)
    have e0 : Wb.cell? ⟨W.heap.size, 0, none⟩ = some (.int .i64 q.op) := by simp [World.cell?, hbb]
    have e1 : Wb.cell? ⟨W.heap.size, 1, none⟩ = some (.string q.name) := by simp [World.cell?, hbb]
    have e2 : Wb.cell? ⟨W.heap.size, 2, none⟩ = some (.int .i64 q.n) := by simp [World.cell?, hbb]
    have e3 : Wb.cell? ⟨W.heap.size, 3, none⟩ = some (.slice a2 n2 c2) := by simp [World.cell?, hbb]
    clear hy hbb hl'
    gi_wp2_with fail
    refine ⟨trivial, (CallsIn.inRound (w4.heap.size + 1) (callsIn_wide.2 (callsIn_wide.1 cn))).mono ?_⟩
    clear cn
    rintro e w5 ⟨rfl, hb5⟩
    have hs5 := hb5.size
    have hl5 : w5.heap[w4.heap.size + 1]? = some (.loop { rec .ready none with state := .busy }) := (hb5.block _ (by omega)).trans hlb
    have hb45 : Below w4.heap.size w4 w5 := hb4b.trans (hb5.mono (by omega))
    obtain ⟨z0, z1⟩ := hres (hb14.trans (hb45.mono (Nat.le_trans hb14.size (Nat.le_refl _))))
    by_cases hq0 : nodeP q = 0
    · have g3 : ¬ (nodeP q ≠ 0) := by omega
      gi_wp2_with fail
      refine ⟨_, _, run_endRound none hl5, .inl ⟨hq0, rfl, ?_⟩⟩
      obtain ⟨W6, hW6⟩ : ∃ W6, W6 = w5.putObj (w4.heap.size + 1) (.loop { ({ rec .ready none with state := .busy } : Loop) with state := if (none : Option Code).isNone then .ready else .done, pending := none }) := ⟨_, rfl⟩
      rw [← hW6]
      have h6s : W6.heap.size = w5.heap.size := by rw [hW6]; simp
      have h6o : ∀ k, k ≠ w4.heap.size + 1 → W6.heap[k]? = w5.heap[k]? := fun k hk => by rw [hW6, World.putObj_heap_other hk]
      have h6l : W6.heap[w4.heap.size + 1]? = some (.loop (rec .ready none)) := by
        rw [hW6, World.putObj_heap_same (by omega), hrec]; rfl
      have h6e : W6.os = w5.os ∧ W6.tape = w5.tape ∧ W6.output = w5.output := by rw [hW6]; exact ⟨rfl, rfl, rfl⟩
      clear hW6
      refine ⟨h6e.1.trans (hb5.os.trans hos.1), h6e.2.1.trans (hb5.tape.trans hos.2.1), h6e.2.2.trans (hb5.output.trans hos.2.2), by omega, fun k hk => ?_⟩
      by_cases hkl : k = w4.heap.size + 1
      · rw [hkl, h6l, hl]
      · rw [h6o k hkl, hb5.block k (by omega), hob k hkl hk]
    · gi_wp2_with fail
      have hls : (w5.setCell ⟨w.heap.size + 1, 0, none⟩ (.int .i64 (nodeP q))).heap[w4.heap.size + 1]? = some (.loop { rec .ready none with state := .busy }) := by
        rw [← hl5]; exact Below.heap_setCell _ _ _ _ (by simp; omega)
      refine ⟨_, _, run_endRound (some .ret) hls, .inr ⟨hq0, rfl, ?_, ?_, ?_, ?_⟩⟩
      · rw [World.putObj_heap_same (by rw [World.size_setCell]; omega), hrec]; rfl
      · rw [World.putObj_heap_other (by omega), Below.heap_setCell _ _ _ _ (by simp; omega), hb5.block _ (by omega), hob _ (by omega) (by omega), hk]
      · have h0 : (w5.setCell ⟨w.heap.size + 1, 0, none⟩ (.int .i64 (nodeP q))).cell? ⟨w.heap.size + 1, 0, none⟩ = some (.int .i64 (nodeP q)) := World.cell?_setCell_same' _ _ _ (by rw [z0]; rfl)
        rw [← h0]
        unfold World.cell?
        rw [World.putObj_heap_other (by simp; omega)]
      · have h1 : Below w.heap.size w (w5.setCell ⟨w.heap.size + 1, 0, none⟩ (.int .i64 (nodeP q))) := hn2 (hb1.trans ((hb14.trans (hb45.mono hb14.size)).mono (by omega)))
        refine ⟨h1.os, h1.tape, h1.output, by rw [World.putObj_size]; exact h1.size, fun k hk => ?_⟩
        rw [World.putObj_heap_other (by omega)]; exact h1.block k hk
  refine ((callsIn_wide.2 (callsIn_wide.1 (before1_in (wp := w4) (w0 := W1) hbW hrounds p hn W1 (.int .i64 p.op) (.string p.name) (.int .i64 p.n) (.slice a p.kids.length cap) (Below.refl _ _) hv4 w3.heap.size ?_ ?_ ?_ ?_)))).mono ?_
  · have := (hbW.block w3.heap.size (by omega)).trans hB4; simp [World.cell?, this]
  · have := (hbW.block w3.heap.size (by omega)).trans hB4; simp [World.cell?, this]
  · have := (hbW.block w3.heap.size (by omega)).trans hB4; simp [World.cell?, this]
  · have := (hbW.block w3.heap.size (by omega)).trans hB4; simp [World.cell?, this]
  rintro e W7 ⟨⟨v7, rfl⟩, (⟨hf0, hb7⟩ | ⟨hf0, hl7, hk7, hc7, hb7⟩)⟩
  · have hl7 : W7.heap[w4.heap.size + 1]? = some (.loop (rec .ready none)) := (hb7.block _ (by omega)).trans hL1
    have hk7 : W7.heap[w4.heap.size]? = some (.deferred (some [])) := (hb7.block _ (by omega)).trans hK1
    refine ⟨_, _, run_endLoop hl7 (by rw [hrec]; simp), ?_⟩
    rw [show (rec .ready none).pending = none by rw [hrec]]
    dsimp only
    obtain ⟨W8, hW8⟩ : ∃ W8, W8 = W7.putObj (w4.heap.size + 1) (.loop { (rec .ready none) with state := .exhausted, pending := none }) := ⟨_, rfl⟩
    rw [← hW8]
    have h8o : ∀ k, k ≠ w4.heap.size + 1 → W8.heap[k]? = W7.heap[k]? := fun k hk => by rw [hW8, World.putObj_heap_other hk]
    have h8e : W8.os = W7.os ∧ W8.tape = W7.tape ∧ W8.output = W7.output ∧ W8.heap.size = W7.heap.size := by rw [hW8]; exact ⟨rfl, rfl, rfl, World.putObj_size⟩
    clear hW8
    have hk8 := (h8o w4.heap.size (by omega)).trans hk7
    have hb47 : Below w4.heap.size w4 W7 := hbW.trans (hb7.mono (by omega))
    have hb48 : Below w4.heap.size w4 W8 := ⟨h8e.1.trans hb47.os, h8e.2.1.trans hb47.tape, h8e.2.2.1.trans hb47.output, by rw [h8e.2.2.2]; exact hb47.size, fun k hk => (h8o k (by omega)).trans (hb47.block k hk)⟩
    have hb18 : Below w1.heap.size w1 W8 := hb14.trans (hb48.mono hb14.size)
    obtain ⟨z0, z1⟩ := hres hb18
    have hz8 := hb48.size
    gi_wp2_with fail
    have hk9 : (W8.setCell ⟨w.heap.size + 1, 0, none⟩ (.int .i64 0)).heap[w4.heap.size]? = some (.deferred (some [])) := by
      rw [← hk8]; exact Below.heap_setCell _ _ _ _ (by simp; omega)
    have hc9 : (W8.setCell ⟨w.heap.size + 1, 0, none⟩ (.int .i64 0)).cell? ⟨w.heap.size + 1, 0, none⟩ = some (.int .i64 0) := World.cell?_setCell_same' _ _ _ (by rw [z0]; rfl)
    have hb9 : Below w.heap.size w (W8.setCell ⟨w.heap.size + 1, 0, none⟩ (.int .i64 0)) := hn2 (hb1.trans (hb18.mono (by omega)))
    refine ⟨by simp, .inl ⟨_, _, rfl, run_takeDeferred hk9, ⟨_, res_check (v := 0) rfl ?_, ?_, ?_⟩⟩⟩
    · rw [← hc9]; unfold World.cell?; rw [World.putObj_heap_other (by simp; omega)]
    · unfold checkP; rw [if_neg (by omega), if_neg (by omega), hf0]
    · refine ⟨hb9.os, hb9.tape, hb9.output, by rw [World.putObj_size]; exact hb9.size, fun k hk => ?_⟩
      rw [World.putObj_heap_other (by omega)]; exact hb9.block k hk
  · refine ⟨_, _, run_endLoop hl7 (by rw [hrec]; simp), ?_⟩
    rw [show (rec .done (some .ret)).pending = some .ret by rw [hrec]]
    dsimp only
    obtain ⟨W8, hW8⟩ : ∃ W8, W8 = W7.putObj (w4.heap.size + 1) (.loop { (rec .done (some .ret)) with state := .exhausted, pending := some .ret }) := ⟨_, rfl⟩
    rw [← hW8]
    have h8o : ∀ k, k ≠ w4.heap.size + 1 → W8.heap[k]? = W7.heap[k]? := fun k hk => by rw [hW8, World.putObj_heap_other hk]
    have h8e : W8.os = W7.os ∧ W8.tape = W7.tape ∧ W8.output = W7.output ∧ W8.heap.size = W7.heap.size := by rw [hW8]; exact ⟨rfl, rfl, rfl, World.putObj_size⟩
    clear hW8
    have hk8 := (h8o w4.heap.size (by omega)).trans hk7
    have hb18 : Below w.heap.size w W8 := ⟨h8e.1.trans hb7.os, h8e.2.1.trans hb7.tape, h8e.2.2.1.trans hb7.output, by rw [h8e.2.2.2]; exact hb7.size, fun k hk => (h8o k (by omega)).trans (hb7.block k hk)⟩
    have hc8 : W8.cell? ⟨w.heap.size + 1, 0, none⟩ = some (.int .i64 (formP p)) := by
      rw [← hc7]; unfold World.cell?; rw [h8o _ (by simp; omega)]
    gi_wp2_with fail
    refine ⟨by simp, .inl ⟨_, _, rfl, run_takeDeferred hk8, ⟨_, res_check (v := formP p) rfl ?_, ?_, ?_⟩⟩⟩
    · rw [← hc8]; unfold World.cell?; rw [World.putObj_heap_other (by simp; omega)]
    · unfold checkP; rw [if_neg (by omega), if_neg (by omega)]
    · refine ⟨hb18.os, hb18.tape, hb18.output, by rw [World.putObj_size]; exact hb18.size, fun k hk => ?_⟩
      rw [World.putObj_heap_other (by omega)]; exact hb18.block k hk
end Go.Proofs.YtkghgdkkholieaaDoor
/-
  From here on the check of predicates is told as well.
-/


namespace Go.Proofs.YtkghgdkkholieaaDoor
open Go Go.RowKit
theorem PV_any {C : Cx} (hs : SR C) {p : PT} {v : Value} (h : VR C (.agg (predC p)) v) : PV C.w p v := by
  cases p with
  | node o s n ks =>
    unfold PV
    simp only [predC, VR] at h ⊢
    obtain ⟨vs, rfl, h⟩ := h
    refine ⟨vs, rfl, ?_⟩
    obtain ⟨l⟩ := vs
    match l, h with
    | [x0, x1, x2, x3], h =>
      simp only [VRs, VR, and_true] at h ⊢
      obtain ⟨h0, h1, h2, a, len, cap, rfl, q1, q2, -, q4⟩ := h
      refine ⟨h0, h1, h2, a, len, cap, rfl, q1, q2, trivial, q4.imp id ?_⟩
      rintro ⟨b, o', sz, ea, hr⟩
      exact ⟨b, o', sz, ea, PRows.stays (A := C.Avoid) (fun b' o'' v hv ha => ⟨hv, C0_avoid fun hb => ha (.inl (by rw [hb]; exact (tab0_of hs).2 o''))⟩) b sz o' _ hr⟩
    | [], h => simp [VRs] at h
    | [_], h => simp [VRs] at h
    | [_, _], h => simp [VRs] at h
    | [_, _, _], h => simp [VRs] at h
    | _ :: _ :: _ :: _ :: _ :: _, h => simp [VRs] at h
theorem nodeFns : NodeFns where
  nodes := fun p hn S tk k => pred_Nodes p hn S tk k
  depth := fun p hn S tk k => pred_Depth p hn S tk k
  node := fun p _ S tk k => by cases p with | node o s n ks => exact pred_node S tk k o s n ks
theorem Chk_ok {C : Cx} {vs : Array Value} (hs : SR C) (p : PT) (hn : kidsMax p) (hv : VRs C [.agg (predC p)] vs.toList) :
    Calls Tryd.prog 24 vs C.w fun e w' => ∃ v C', e = .returned v ∧ C'.w = w' ∧ Le C C' ∧ SR C' ∧ C'.S = C.S ∧ C'.tk = C.tk ∧ C'.n = C.n ∧ VR C' (.prim (.int .i64 (checkP p))) v := by
  obtain ⟨vl⟩ := vs
  match vl, hv with
  | [x], hv =>
  simp only [VRs, and_true] at hv
  refine (callsIn_wide.1 (check_in nodeFns p hn C.w x (tab0_of hs).1 (PV_any hs hv))).mono ?_
  rintro e w' ⟨rfl, hb⟩
  exact ⟨_, C.at w', rfl, rfl, Le.of_below hb, SR.of_below hs hb, rfl, rfl, rfl, by simp [VR]⟩
theorem chkC_some {args : List AV} {r : AV} (h : chkC args = some r) : ∃ p, args = [.agg (predC p)] ∧ kidsMax p ∧ r = .prim (.int .i64 (checkP p)) := by
  unfold chkC at h
  split at h
  · rename_i hp
    simp only [Option.some.injEq] at h
    exact ⟨hp.choose, hp.choose_spec.1, hp.choose_spec.2, h.symm⟩
  · simp at h
theorem chkC_pred (p : PT) (hn : kidsMax p) : chkC [.agg (predC p)] = some (.prim (.int .i64 (checkP p))) := by
  have hx : ∃ q, [AV.agg (predC p)] = [.agg (predC q)] ∧ kidsMax q := ⟨p, rfl, hn⟩
  unfold chkC
  rw [dif_pos hx]
  have h1 : [AV.agg (predC p)] = [AV.agg (predC hx.choose)] := hx.choose_spec.1
  have h2 : predC p = predC hx.choose := by
    injection h1 with h1 _
    injection h1
  rw [← predC_inj h2]
theorem ext1_some {f : FuncId} {args : List AV} {S : List Ent} {tk : List Nat} {n : Nat} {r : AV} {S' : List Ent} {tk' : List Nat} {n' : Nat} (h : @extC Tryd.prog E1 f args S tk n = some (r, S', tk', n')) :
    S' = S ∧ tk' = tk ∧ n' = n ∧ ((f = 76 ∧ ∃ s, args = [.prim (.string s)] ∧ r = .prim (.bool (kwF s))) ∨ (f = 24 ∧ ∃ p, args = [.agg (predC p)] ∧ kidsMax p ∧ r = .prim (.int .i64 (checkP p)))) := by
  unfold extC at h
  split at h
  · change (if f == 76 then (kwC args).map fun r => (r, S, tk, n) else if f == 24 then (chkC args).map fun r => (r, S, tk, n) else none) = _ at h
    split at h
    · rename_i hf
      simp only [Option.map_eq_some_iff, Prod.mk.injEq] at h
      obtain ⟨x, hx, rfl, rfl, rfl, rfl⟩ := h
      exact ⟨rfl, rfl, rfl, .inl ⟨by simpa using hf, kwC_some hx⟩⟩
    · split at h
      · rename_i hf
        simp only [Option.map_eq_some_iff, Prod.mk.injEq] at h
        obtain ⟨x, hx, rfl, rfl, rfl, rfl⟩ := h
        exact ⟨rfl, rfl, rfl, .inr ⟨by simpa using hf, chkC_some hx⟩⟩
      · simp at h
  · simp at h
theorem ext1_same {f : FuncId} {args : List AV} {S S2 : List Ent} {tk tk2 : List Nat} {n n2 : Nat} {r : AV} {S' : List Ent} {tk' : List Nat} {n' : Nat} (h : @extC Tryd.prog E1 f args S tk n = some (r, S', tk', n')) : @extC Tryd.prog E1 f args S2 tk2 n2 = some (r, S2, tk2, n2) := by
  obtain ⟨-, -, -, hh⟩ := ext1_some h
  rcases hh with ⟨rfl, s, rfl, rfl⟩ | ⟨rfl, p, rfl, hn, rfl⟩
  · simp [extC, Ext.on, Ext.call, kwC]
  · simp [extC, Ext.on, Ext.call, chkC_pred p hn]
@[reducible] noncomputable instance E1i : Ext Tryd.prog := E1
instance ok1 : ExtOk Tryd.prog := {
  ok := fun f args S tk n r S' tk' n' h => by
    obtain ⟨rfl, rfl, rfl, hh⟩ := ext1_some h
    rcases hh with ⟨rfl, s, rfl, rfl⟩ | ⟨rfl, p, rfl, hn, rfl⟩
    · refine ⟨⟨_, Tryd.func76, by decide +kernel, by decide +kernel⟩, fun C vs h1 h2 h3 hs hv => ?_⟩
      subst h1 h2 h3
      exact Kw_ok hs s hv
    · refine ⟨⟨_, Tryd.func24, by decide +kernel, by decide +kernel⟩, fun C vs h1 h2 h3 hs hv => ?_⟩
      subst h1 h2 h3
      exact Chk_ok hs p hn hv
  indep := fun M f args S tk n r S' tk' n' h => by
    unfold callP at h
    split at h
    · rename_i hp
      obtain ⟨e1, e2, e3, -⟩ := ext1_some h
      refine ⟨e1, e2, .inr ⟨e3, fun S2 tk2 n2 => ?_⟩⟩
      unfold callP
      rw [if_pos hp]
      exact ext1_same h
    · simp at h }
theorem ext_mv1 (f : FuncId) : @Ext.mv Tryd.prog E1i f = false := rfl
theorem pred_Check (S : List Ent) (tk : List Nat) (k : Nat) (p : PT) (hn : kidsMax p) : cL Tryd.prog 24 [.agg (predC p)] S tk k = some (.int (checkP p), S, tk, k) := by
  refine call_ext rfl ?_
  simp [Ext.call, chkC_pred p hn]
end Go.Proofs.YtkghgdkkholieaaDoor
