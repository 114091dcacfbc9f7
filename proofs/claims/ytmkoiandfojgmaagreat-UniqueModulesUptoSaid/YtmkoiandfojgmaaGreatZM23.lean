/-
  Texts laid together: UM, UM2, UM3, UOk1, UOk2.
-/
import Derived.Test.YtmkoiandfojgmaaGreatZM22
import Derived.Maps.RangeRun
import Derived.Laws.AppendOwn
namespace Go.Proofs.YtmkoiandfojgmaaGreat
open Go
open Go.ChangeMaps (setBlock)
theorem ev_same {a : Act} {d : Tmp} {v : Value} (h : d < a.tmps.size) : (a.put (some d) v).eval (.tmp d) = v := by
  simp [Act.put, Act.eval, h]
theorem ev_other {a : Act} {d t : Tmp} {v : Value} (h : t ≠ d) : (a.put (some d) v).eval (.tmp t) = a.eval (.tmp t) := by
  simp [Act.put, Act.eval, Array.getElem?_setIfInBounds_ne (Ne.symm h)]
theorem put_size {a : Act} {d : Tmp} {v : Value} : (a.put (some d) v).tmps.size = a.tmps.size := by simp [Act.put]
theorem Act.put_none {a : Act} {v : Value} : a.put none v = a := rfl
theorem put_defers {a : Act} {d : Tmp} {v : Value} : (a.put (some d) v).defers = a.defers := rfl
section
variable {P : Program} {ops : Array Oper} {Q : Exit → Act → World → Prop} {rest : List Oper} {o : Oper} {a : Act} {w w' : World} {v : Value}
theorem step_value (hg : o.guard = none) (h : (execOp a.eval o).run P w = .ok (.value v) w') (k : wpList P ops Q rest (a.put o.dst v) w') : wpList P ops Q (o :: rest) a w :=
  wpList_plain hg fun K hK => by unfold Oper.wp; rw [h]; exact hK _ _ k
theorem step_skip (hg : o.guard = none) (h : (execOp a.eval o).run P w = .ok .skip w') (k : wpList P ops Q rest (a.put o.dst undef) w') : wpList P ops Q (o :: rest) a w :=
  wpList_plain hg fun K hK => by unfold Oper.wp; rw [h]; exact hK _ _ k
end
theorem wp_regionL {P : Program} {Q : Exit → Act → World → Prop} {a : Act} {w : World} {id : Nat} {l : List Oper} (h : wpList P l.toArray Q l a w) : (Code.region id l.toArray false).wp P Q a w := by
  refine wp_region ?_
  have e := wpOps_eq_wpList (P := P) (ops := l.toArray) (Q := Q) l 0 (fun j => by simp)
  rw [List.range_eq_range']
  simp only [List.size_toArray]
  rw [e]; exact h
theorem up_raw {P : Program} {w : World} {t kt et : TypeId} {b : Nat} {es : Array MapEntry} {clock : Nat} {s : Sn} {x : ByteArray} (ht : setT P t = true) (hb : w.heap[b]? = some (.map es clock)) (hok : MapOk es clock s) :
    ∃ es' clock', (Instr.mapUpdate t (.map (some b)) (.string x) (.bool true)).run P w = .ok () (setBlock w b (.map es' clock')) ∧ MapOk es' clock' (addK s x) := by
  obtain ⟨kt, et, i, hu, hku, hi, hz⟩ := setT_und ht
  rcases mapOk_look hok x with ⟨h1, h2, h3⟩ | ⟨j, e, h1, h2, h3, h4, h5⟩
  · refine ⟨es.push ⟨.string x, .bool true, clock⟩, clock + 1, ?_, mapOk_push hok h3⟩
    simp [Instr.mapUpdate, run_und hu, MapKept.run_getObj_map hb, run_check hku, run_find hku h1, MapKept.run_setObj_map _ hb, setBlock]
  · refine ⟨es, clock, ?_, mapOk_same hok h5⟩
    have hj : es[j]? = some e := by simpa using h2
    have hst : (Instr.keyThatStays (.string x) (.string x)).run P w = .ok (.string x) w := by
      unfold Instr.keyThatStays
      rw [if_pos (by simp [Instr.sameBits, (MapKept.bytes_beq x x).2 rfl])]
      rfl
    simp [Instr.mapUpdate, run_und hu, MapKept.run_getObj_map hb, run_check hku, run_find hku h1, hj, h3, hst, MapKept.run_setObj_map _ hb, setBlock, modify_self h2 h3 h4]
def Cx.putW (C : Cx) (w : World) (id ep : Nat) (s : Sn) : Cx := { C with w := w, S := put C.S id ⟨ep, [.mset s]⟩ }
section
variable [Globs] {C : Cx} {id : Nat} {e : Ent} {w : World} {s0 s : Sn}
theorem Le.putW (hsr : SR C) (he : nth C.S id = some e) (hm0 : e.cells = [.mset s0]) (hg : C.w.grownBy w (some (C.φ id))) : Le C (C.putW w id e.ep s) := by
  have hb : MapIs C.w (C.φ id) s0 := by
    rcases (hsr.ent id e he).2 with ⟨hn, -⟩ | ⟨s', hs, hm⟩
    · rw [hm0] at hn; cases hn
    · rw [hm0] at hs
      simp only [List.cons.injEq, AV.mset.injEq, and_true] at hs
      subst hs; exact hm
  obtain ⟨es, clock, hb, -⟩ := hb
  have hm : ∀ o, C.Mut (C.φ id) o := fun o => .inl ⟨id, nth_lt he, rfl⟩
  have ho : ∀ b, b < C.w.heap.size → b ≠ C.φ id → w.heap[b]? = C.w.heap[b]? := fun b h1 h2 => hg.block b h1 (by simpa using h2)
  refine ⟨hg.os, hg.tape, hg.output, hg.size, rfl, Nat.le_refl _, ?_, ?_, ?_, ?_, ?_, fun _ k hk => ⟨k, hk, Nat.le_refl _, fun _ => rfl⟩⟩
  · rintro b o - (⟨i, hi, h⟩ | h)
    · exact .inl ⟨i, by simpa [Cx.putW, put_len] using hi, h⟩
    · exact .inr h
  · intro b o v hv hn
    have hne : b ≠ C.φ id := fun h => hn (h ▸ hm o)
    simpa [World.cell?, Cx.putW, ho b (cell_lt hv) hne] using hv
  · intro b hlt hn
    exact ho b hlt fun h => hn 0 (h ▸ hm 0)
  · intro b d t' fz hd
    have hne : b ≠ C.φ id := by rintro rfl; rw [hb] at hd; cases hd
    exact ⟨d, by simp only [Cx.putW]; rw [ho b (Array.getElem?_eq_some_iff.1 hd).1 hne]; exact hd, rfl⟩
  · intro i x hx _
    by_cases h : id = i
    · subst h
      have := nth_put_same hx
      subst this
      exact ⟨e, he, rfl, rfl⟩
    · simp only [Cx.putW] at hx
      rw [nth_put_other h] at hx
      exact ⟨x, hx, rfl, rfl⟩
theorem SR.putW (hsr : SR C) (he : nth C.S id = some e) (hm0 : e.cells = [.mset s0]) (hg : C.w.grownBy w (some (C.φ id))) (hm : MapIs w (C.φ id) s) : SR (C.putW w id e.ep s) := by
  have hle := Le.putW (s := s) hsr he hm0 hg
  refine ⟨fun i x hx => ?_, fun i j hi hj h => hsr.ne i j (by simpa [Cx.putW, put_len] using hi) (by simpa [Cx.putW, put_len] using hj) h, hsr.tok, fun i j o hi hj => hsr.apart i j o (by simpa [Cx.putW, put_len] using hi) hj, ?_, fun b o ha => Nat.lt_of_lt_of_le (hsr.avlt b o ha) hle.size, fun i o hi h1 h2 => Nat.lt_of_lt_of_le (hsr.tlt i o hi h1 h2) hle.size, glob_le hsr hle⟩
  · by_cases h : id = i
    · subst h
      have := nth_put_same hx
      subst this
      exact ⟨(hsr.ent id e he).1, .inr ⟨s, rfl, hm⟩⟩
    · have hx' : nth C.S i = some x := by simp only [Cx.putW] at hx; rw [← nth_put_other h]; exact hx
      have hne : C.φ i ≠ C.φ id := fun hh => h (hsr.ne i id (nth_lt hx') (nth_lt he) hh).symm
      exact ⟨(hsr.ent i x hx').1, (hsr.ent i x hx').2.move (hg.block _ (hsr.lt hx') (fun h => hne (Option.some.inj h))) (VRs.mono hle _)⟩
  · rintro b o (⟨i, hi, h⟩ | h)
    · exact hsr.own b o (.inl ⟨i, by simpa [Cx.putW, put_len] using hi, h⟩)
    · exact hsr.own b o (.inr h)
end
end Go.Proofs.YtmkoiandfojgmaaGreat
namespace Go.Proofs.YtmkoiandfojgmaaGreat
open Go
open Go.ChangeMaps Go.MapKept
noncomputable def seenS (es : Array MapEntry) (seen : Array Nat) : Sn := fun x => @decide (∃ e ∈ es.toList, e.key = .string x ∧ seen.contains e.born = true) (Classical.propDecidable _)
theorem seenS_iff {es : Array MapEntry} {seen : Array Nat} {x : ByteArray} : seenS es seen x = true ↔ ∃ e ∈ es.toList, e.key = .string x ∧ seen.contains e.born = true := @decide_eq_true_iff _ (Classical.propDecidable _)
theorem sn_ext {G H : Sn} (h : ∀ x, G x = true ↔ H x = true) : G = H := by
  funext x
  cases hg : G x <;> cases hh : H x
  · rfl
  · have := (h x).2 hh; rw [hg] at this; cases this
  · have := (h x).1 hg; rw [hh] at this; cases this
  · rfl
theorem seenS_none (es : Array MapEntry) : seenS es #[] = noK := by
  refine sn_ext fun x => ?_
  rw [seenS_iff]
  simp [noK]
theorem seenS_all {es : Array MapEntry} {clock : Nat} {s : Sn} {seen : Array Nat} (hm : MapOk es clock s) (h : (leftOf es seen).size = 0) : seenS es seen = s := by
  refine sn_ext fun x => ?_
  have ha := all_seen es seen h
  obtain ⟨-, -, -, -, h5⟩ := hm
  rw [seenS_iff, h5 x]
  exact ⟨fun ⟨e, he, hk, _⟩ => ⟨e, he, hk⟩, fun ⟨e, he, hk⟩ => ⟨e, he, hk, ha e he⟩⟩
theorem seenS_push {es : Array MapEntry} {clock : Nat} {s : Sn} {seen : Array Nat} {e : MapEntry} {x : ByteArray} (hm : MapOk es clock s) (he : e ∈ es.toList) (hk : e.key = .string x) : seenS es (seen.push e.born) = addK (seenS es seen) x := by
  refine sn_ext fun y => ?_
  obtain ⟨-, -, h3, -, -⟩ := hm
  unfold addK
  rw [Bool.or_eq_true, decide_eq_true_iff, seenS_iff, seenS_iff]
  constructor
  · rintro ⟨e', he', hk', hc⟩
    by_cases hyx : y = x
    · exact .inl hyx
    right
    refine ⟨e', he', hk', ?_⟩
    rw [contains_push, Bool.or_eq_true] at hc
    rcases hc with hc | hc
    · exact hc
    · exfalso
      have hc : e'.born = e.born := by simpa using hc
      have hpe : e' = e := by
        apply Classical.byContradiction
        intro hne
        obtain ⟨i, hi⟩ := List.getElem?_of_mem he'
        obtain ⟨j, hj⟩ := List.getElem?_of_mem he
        have hij : i ≠ j := fun e0 => by subst e0; rw [hi] at hj; exact hne (Option.some.inj hj)
        rcases Nat.lt_or_gt_of_ne hij with hl | hl
        · exact List.pairwise_iff_getElem.1 h3 i j (List.getElem?_eq_some_iff.1 hi).1 (List.getElem?_eq_some_iff.1 hj).1 hl (by rw [(List.getElem?_eq_some_iff.1 hi).2, (List.getElem?_eq_some_iff.1 hj).2]; exact hc)
        · exact List.pairwise_iff_getElem.1 h3 j i (List.getElem?_eq_some_iff.1 hj).1 (List.getElem?_eq_some_iff.1 hi).1 hl (by rw [(List.getElem?_eq_some_iff.1 hi).2, (List.getElem?_eq_some_iff.1 hj).2]; exact hc.symm)
      subst hpe
      rw [hk] at hk'
      exact hyx (Value.string.inj hk').symm
  · rintro (rfl | ⟨e', he', hk', hc⟩)
    · exact ⟨e, he, hk, by rw [contains_push]; simp⟩
    · exact ⟨e', he', hk', by rw [contains_push, hc]; rfl⟩
theorem born_nodup {es : Array MapEntry} {clock : Nat} {s : Sn} (hm : MapOk es clock s) : (es.toList.map (·.born)).Nodup := by
  obtain ⟨-, -, h3, -, -⟩ := hm
  rw [List.nodup_iff_pairwise_ne, List.pairwise_map]
  exact h3
set_option maxHeartbeats 1000000 in
theorem copy_wp {W0 : World} {a : Act} {bg bm : Nat} {es : Array MapEntry} {clock : Nat} {s s' : Sn} (hg0 : MapIs W0 bg s) (hb0 : W0.heap[bm]? = some (.map es clock)) (hm0 : MapOk es clock s') (hne : bg ≠ bm) (hsz : a.tmps.size = 16) (h0 : a.eval (.tmp 0) = .map (some bg)) (h1 : a.eval (.tmp 1) = .map (some bm))
    {Q : Exit → Act → World → Prop} (hQ : ∀ a' w', a'.tmps.size = 16 → a'.defers = a.defers → W0.grownBy w' (some bg) → MapIs w' bg (uniK s s') → Q .normal a' w') : copyL.wp Tryz.prog Q a W0 := by
  have hset : setT Tryz.prog 95 = true := by kernel_rfl
  obtain ⟨kt, et, i, hu, -, -, -⟩ := setT_und hset
  have hbm : bm < W0.heap.size := (Array.getElem?_eq_some_iff.1 hb0).1
  have hbg : bg < W0.heap.size := by obtain ⟨_, _, h, -⟩ := hg0; exact (Array.getElem?_eq_some_iff.1 h).1
  obtain ⟨A0, hA0⟩ : ∃ A0, A0 = a.defers := ⟨_, rfl⟩
  rw [← hA0] at hQ
  show (Code.seq _ _).wp _ _ _ _
  refine wp_seq (wp_regionL ?_)
  refine step_value rfl rfl ?_
  refine step_value (v := .pointer (some ⟨W0.heap.size, 0, none⟩)) (w' := W0.alloc (.mapIter (some bm) clock #[] clock)) rfl ?_ ?_
  · have e : (a.put (some 6) (a.eval (.tmp 1))).eval (.tmp 6) = .map (some bm) := by rw [ev_same (by rw [hsz]; decide), h1]
    simp [execOp, e, run_range_map W0 _ kt et bm es clock hu hb0]
  refine wp_block ?_
  refine wp_loop_idx (fun n a w => ∃ seen c0, n = (leftOf es seen).size ∧ a.tmps.size = 16 ∧ a.defers = A0 ∧ a.eval (.tmp 0) = .map (some bg) ∧ a.eval (.tmp 7) = .pointer (some ⟨W0.heap.size, 0, none⟩) ∧ W0.grownBy w (some bg) ∧ W0.heap.size < w.heap.size ∧ w.heap[W0.heap.size]? = some (.mapIter (some bm) clock seen c0) ∧ clock ≤ c0 ∧ MapIs w bg (uniK s (seenS es seen))) ?_ (n := (leftOf es #[]).size) ?_
  · rintro n a w ⟨seen, c0, rfl, hsz, hdf, h0, h7, hg, hlt, hr, hcc, hmi⟩
    have hbm' : w.heap[bm]? = some (.map es clock) := (hg.block bm hbm (fun h => hne (Option.some.inj h).symm)).trans hb0
    refine wp_seq (wp_regionL ?_)
    rcases run_next_at (P := Tryz.prog) w 0 W0.heap.size bm clock c0 seen es clock hr hbm' hm0.2.2.2.1 hcc with ⟨hz, hrun⟩ | ⟨e, he, w1, hal, hrun⟩
    · refine step_value (v := .tuple #[.bool false]) (w' := w) rfl ?_ ?_
      · simp [execOp, h7, hrun]
      refine step_value (v := .bool false) (w' := w) rfl ?_ ?_
      · have e8 : (a.put (some 8) (.tuple #[.bool false])).eval (.tmp 8) = .tuple #[.bool false] := ev_same (by rw [hsz]; decide)
        simp [execOp, e8, Instr.extract]
      show (Code.seq _ _).wp _ _ _ _
      refine wp_seq (wp_cond_false ?_ (wp_exit ?_))
      · exact ev_same (by rw [put_size, hsz]; decide)
      show Q .normal _ _
      rw [seenS_all hm0 hz] at hmi
      exact hQ _ _ (by rw [put_size, put_size, hsz]) hdf hg hmi
    · obtain ⟨hem, hes⟩ := mem_left he
      obtain ⟨x, hk, hv⟩ := hm0.1 e hem
      have hh1 : w1.heap = w.heap := by rcases hal with rfl | rfl <;> rfl
      obtain ⟨w2, hw2⟩ : ∃ w2, w2 = setBlock w1 W0.heap.size (.mapIter (some bm) clock (seen.push e.born) clock) := ⟨_, rfl⟩
      rw [← hw2] at hrun
      have hr1 : w1.heap[W0.heap.size]? = some (.mapIter (some bm) clock seen c0) := by rw [hh1]; exact hr
      have hr2 : w2.heap[W0.heap.size]? = some (.mapIter (some bm) clock (seen.push e.born) clock) := by rw [hw2]; exact (heap_set hr1).1
      have ho2 : ∀ b, b ≠ W0.heap.size → w2.heap[b]? = w.heap[b]? := fun b hb => by rw [hw2]; exact ((heap_set hr1).2 b hb).trans (by rw [hh1])
      have hs2 : w2.heap.size = w.heap.size := by rw [hw2]; simp [setBlock, hh1]
      have hb2 : w2.heap[bm]? = some (.map es clock) := (ho2 bm (by omega)).trans hbm'
      have hen := run_entry_at (P := Tryz.prog) w2 W0.heap.size bm clock seen es clock e hr2 hb2 hem (born_nodup hm0)
      obtain ⟨es', clock', hgb, hok⟩ := hmi
      have hgb2 : w2.heap[bg]? = some (.map es' clock') := (ho2 bg (by omega)).trans hgb
      obtain ⟨es3, clock3, hup, hok3⟩ := up_raw (P := Tryz.prog) (kt := kt) (et := et) (x := x) hset hgb2 hok
      have fin : ∀ (A : Act), A.tmps.size = 16 → A.defers = A0 → A.eval (.tmp 0) = .map (some bg) → A.eval (.tmp 7) = .pointer (some ⟨W0.heap.size, 0, none⟩) → ∃ m, m < (leftOf es seen).size ∧ ∃ seen c0, m = (leftOf es seen).size ∧ A.tmps.size = 16 ∧ A.defers = A0 ∧ A.eval (.tmp 0) = .map (some bg) ∧ A.eval (.tmp 7) = .pointer (some ⟨W0.heap.size, 0, none⟩) ∧ W0.grownBy (setBlock w2 bg (.map es3 clock3)) (some bg) ∧ W0.heap.size < (setBlock w2 bg (.map es3 clock3)).heap.size ∧ (setBlock w2 bg (.map es3 clock3)).heap[W0.heap.size]? = some (.mapIter (some bm) clock seen c0) ∧ clock ≤ c0 ∧ MapIs (setBlock w2 bg (.map es3 clock3)) bg (uniK s (seenS es seen)) := by
        intro A A1 A2 A3 A4
        have ho3 : ∀ b, b ≠ bg → (setBlock w2 bg (.map es3 clock3)).heap[b]? = w2.heap[b]? := fun b hb => heap_setBlock_other hgb2 _ hb
        refine ⟨_, left_shrinks es seen e he, seen.push e.born, clock, rfl, A1, A2, A3, A4, ?_, ?_, ?_, Nat.le_refl _, ?_⟩
        · refine ⟨?_, ?_, ?_, ?_, fun b hb hn => ?_⟩
          · rcases hal with rfl | rfl <;> (rw [hw2]; exact hg.os)
          · rcases hal with rfl | rfl <;> (rw [hw2]; exact hg.tape)
          · rcases hal with rfl | rfl <;> (rw [hw2]; exact hg.output)
          · show W0.heap.size ≤ (w2.heap.setIfInBounds _ _).size
            rw [Array.size_setIfInBounds, hs2]; omega
          · rw [ho3 b (fun h => hn (by rw [h])), ho2 b (by omega)]; exact hg.block b hb hn
        · show W0.heap.size < (w2.heap.setIfInBounds _ _).size
          rw [Array.size_setIfInBounds, hs2]; exact hlt
        · rw [ho3 _ (by omega)]; exact hr2
        · refine ⟨es3, clock3, heap_setBlock_same hgb2 _, ?_⟩
          rw [seenS_push hm0 hem hk, show uniK s (addK (seenS es seen) x) = addK (uniK s (seenS es seen)) x from by
            funext y; simp only [uniK, addK]; cases s y <;> simp]
          exact hok3
      rw [hk, hv] at hrun hen
      refine step_value (v := .tuple #[.bool true, .string x, .bool true]) (w' := w2) rfl (by simp [execOp, h7, hrun]) ?_
      refine step_value (v := .bool true) (w' := w2) rfl (by simp [execOp, ev_same, hsz, Instr.extract]) ?_
      show (Code.seq _ _).wp _ _ _ _
      refine wp_seq (wp_cond_true ?_ (wp_skip ?_))
      · exact ev_same (by rw [put_size, hsz]; decide)
      show (Code.block _ _).wp _ _ _ _
      refine wp_block (wp_seq (wp_regionL ?_))
      refine step_value (v := .tuple #[.string x, .bool true]) (w' := w2) rfl (by simp [execOp, ev_other, h7, hen]) ?_
      refine step_value (v := .string x) (w' := w2) rfl (by simp [execOp, ev_same, put_size, hsz, Instr.extract]) ?_
      refine step_value (v := .bool true) (w' := w2) rfl (by simp [execOp, ev_same, ev_other, put_size, hsz, Instr.extract]) ?_
      refine step_value (v := .string x) (w' := w2) rfl (by simp [execOp, ev_same, ev_other, put_size, hsz]) ?_
      refine step_value (v := .bool true) (w' := w2) rfl (by simp [execOp, ev_same, ev_other, put_size, hsz]) ?_
      show (Code.region _ _ _).wp _ _ _ _
      refine wp_regionL ?_
      refine step_value (v := .map (some bg)) (w' := w2) rfl (by simp [execOp, ev_same, ev_other, put_size, hsz, h0]) ?_
      refine step_value (v := .string x) (w' := w2) rfl (by simp [execOp, ev_same, ev_other, put_size, hsz]) ?_
      refine step_value (v := .bool true) (w' := w2) rfl (by simp [execOp, ev_same, ev_other, put_size, hsz]) ?_
      refine step_skip (w' := setBlock w2 bg (.map es3 clock3)) rfl (by simp [execOp, ev_same, ev_other, put_size, hsz, hup]) ?_
      exact fin _ (by simp [Act.put_none, put_size, hsz]) (by simp [Act.put_none, put_defers, hdf]) (by simp [ev_other, Act.put_none, h0]) (by simp [ev_other, Act.put_none, h7])
  · refine ⟨#[], clock, rfl, ?_, hA0.symm, ?_, ?_, ?_, ?_, ?_, Nat.le_refl _, ?_⟩
    · dsimp only; rw [put_size, put_size, hsz]
    · simp [ev_other, h0]
    · exact ev_same (by rw [put_size, hsz]; decide)
    · exact ⟨rfl, rfl, rfl, by show W0.heap.size ≤ (W0.heap.push _).size; simp, fun k hk _ => (MapKept.heap_alloc W0 _).2 k hk⟩
    · show W0.heap.size < (W0.heap.push _).size; simp
    · exact (MapKept.heap_alloc W0 _).1
    · rw [seenS_none, show uniK s noK = s from by funext x; simp [uniK, noK]]
      obtain ⟨es', clock', h, hok⟩ := hg0
      exact ⟨es', clock', ((MapKept.heap_alloc W0 _).2 bg hbg).trans h, hok⟩
end Go.Proofs.YtmkoiandfojgmaaGreat
namespace Go.Proofs.YtmkoiandfojgmaaGreat
open Go
open Go.ChangeMaps Go.MapKept Go.RowKit
theorem step_call {P : Program} {ops : Array Oper} {Q : Exit → Act → World → Prop} {rest : List Oper} {o : Oper} {a : Act} {w : World} {f : FuncId} {args : Array Value} (hg : o.guard = none) (h : (execOp a.eval o).run P w = .ok (.enter f args) w) (hc : Calls P f args w fun e w' => ∃ v, e = .returned v ∧ wpList P ops Q rest (a.put o.dst v) w') : wpList P ops Q (o :: rest) a w :=
  wpList_plain hg fun K hK => by
    unfold Oper.wp; rw [h, Oper.upon_enter]
    refine Calls.mono hc ?_
    rintro e w' ⟨v, rfl, k⟩
    exact hK _ _ k
theorem out_in {G S : Sn} {bs : List ByteArray} {x : ByteArray} (h : memB bs x = true) : uniK G (outK (addK S x) bs) = uniK G (outK S bs) := by
  funext y
  simp only [uniK, outK, addK]
  by_cases hy : y = x
  · subst hy; simp [h]
  · simp [hy]
theorem out_out {G S : Sn} {bs : List ByteArray} {x : ByteArray} (h : memB bs x = false) : uniK G (outK (addK S x) bs) = addK (uniK G (outK S bs)) x := by
  funext y
  simp only [uniK, outK, addK]
  by_cases hy : y = x
  · subst hy; simp [h]
  · simp [hy]
theorem ent_neM {S : List Ent} {i j ep ep' : Nat} {cs : List AV} {s : Sn} (h : entAt S i ep = some cs) (h' : mapAt S j ep' = some s) : i ≠ j := by
  rintro rfl
  obtain ⟨e, h1, h2, h3⟩ := entAt_some h
  have h4 := mapAt_some h'
  have h5 := entAt_notM h
  rw [h1] at h4
  simp only [Option.some.injEq] at h4
  subst h4
  subst h3
  simp [notM, isMs] at h5
theorem Contains_raw (hm : Tryz.prog.follows .mixedOrders = true) {C : Cx} (hs : SR C) {l : List ByteArray} {c : Cap} {s : ByteArray} {x : Value} (hl : l.length ≤ 1048576) (hx : VR C (.frz (l.map strC) c) x) :
    Calls Tryz.prog 53 #[x, .string s] C.w fun e w' => e = .returned (.bool (memB l s)) ∧ Below C.w.heap.size C.w w' := by
  have hst : Stays C.w C.alone.w C.Avoid C.alone.Avoid := fun b o v h1 h2 => ⟨h1, fun h3 => h3.elim h2 alone_mut⟩
  have hx' : VR C.alone (.frz (l.map strC) .unk) x := by
    simp only [VR] at hx ⊢
    obtain ⟨a, len, cap, h1, h2, h3, -, h5⟩ := hx
    refine ⟨a, len, cap, h1, h2, h3, trivial, h5.imp id ?_⟩
    rintro ⟨b, o, sz, ea, hr⟩
    exact ⟨b, o, sz, ea, PRows.stays hst b sz o _ hr⟩
  refine Calls.mono (UN.Contains_calls hm hs.alone hl hx') ?_
  rintro e w' ⟨C', rfl, rfl, hle, -, -, -, -⟩
  exact ⟨rfl, hle.os, hle.tape, hle.output, hle.size, fun b hb => hle.keep b hb fun o => alone_mut⟩
set_option maxHeartbeats 2000000 in
theorem ins_wp (hmx : Tryz.prog.follows .mixedOrders = true) {C : Cx} {a : Act} (hsr : SR C) (hsz : a.tmps.size = 46) {pi pe ii ie gi ge oi oe : Nat} {bs : List ByteArray} {c : Cap} {p1 i1 : AV} {G H : Sn} (h3 : VR C (.frz (bs.map strC) c) (a.eval (.tmp 3))) (h4 : VR C (.ref pi pe 0) (a.eval (.tmp 4))) (h9 : VR C (.ref ii ie 0) (a.eval (.tmp 9)))
    (hp : entAt C.S pi pe = some [p1, .mref gi ge]) (hi : entAt C.S ii ie = some [i1, .mref oi oe]) (hG : mapAt C.S gi ge = some G) (hH : mapAt C.S oi oe = some H) (hne : gi ≠ oi) (hbs : bs.length ≤ 1048576)
    {Q : Exit → Act → World → Prop} (hQ : ∀ a' w', a'.tmps.size = 46 → a'.defers = a.defers → C.w.grownBy w' (some (C.φ gi)) → MapIs w' (C.φ gi) (uniK G (outK H bs)) → Q .normal a' w') : insL.wp Tryz.prog Q a C.w := by
  have hset : setT Tryz.prog 95 = true := by kernel_rfl
  obtain ⟨kt, et, i, hu, -, -, -⟩ := setT_und hset
  have hGe := mapAt_some hG
  have hHe := mapAt_some hH
  obtain ⟨es, clock, hb0, hm0⟩ := mapAt_ent hsr hH
  have hg0 := mapAt_ent hsr hG
  have hbne : C.φ gi ≠ C.φ oi := fun h => hne (hsr.ne gi oi (nth_lt hGe) (nth_lt hHe) h)
  have hbm : C.φ oi < C.w.heap.size := hsr.lt hHe
  have hbg : C.φ gi < C.w.heap.size := hsr.lt hGe
  have f1 : ∀ q e, fldA Tryz.prog 98 (.ref q e 0) 1 = some (.ref q e 1) := fun q e => by kernel_rfl
  have f2 : szOf Tryz.prog 95 = some 1 := by kernel_rfl
  have f3 : aggT Tryz.prog 95 = some false := by kernel_rfl
  have f4 : ∀ (S : List Ent) q e x m, entAt S q e = some [x, m] → ldA Tryz.prog 95 (.ref q e 1) S = some m := fun S q e x m h => by
    unfold ldA; simp only [f2, f3, h]; rfl
  obtain ⟨A0, hA0⟩ : ∃ A0, A0 = a.defers := ⟨_, rfl⟩
  rw [← hA0] at hQ
  obtain ⟨v32, r32, k32⟩ := fldA_sound (k := 1) h9 (f1 ii ie)
  obtain ⟨v33, r33, k33⟩ := ldA_sound hsr k32 (f4 _ _ _ _ _ hi)
  obtain rfl := VR_mref k33 hH
  show (Code.seq _ _).wp _ _ _ _
  refine wp_seq (wp_regionL ?_)
  refine step_value (v := v32) (w' := C.w) rfl (by simp [execOp, r32]) ?_
  refine step_value (v := .map (some (C.φ oi))) (w' := C.w) rfl (by simp [execOp, ev_same, hsz, r33]) ?_
  refine step_value (v := .pointer (some ⟨C.w.heap.size, 0, none⟩)) (w' := C.w.alloc (.mapIter (some (C.φ oi)) clock #[] clock)) rfl (by simp [execOp, ev_same, put_size, hsz, run_range_map C.w _ kt et (C.φ oi) es clock hu hb0]) ?_
  refine wp_block ?_
  refine wp_loop_idx (fun n a2 w => ∃ seen c0, n = (leftOf es seen).size ∧ a2.tmps.size = 46 ∧ a2.defers = A0 ∧ a2.eval (.tmp 3) = a.eval (.tmp 3) ∧ a2.eval (.tmp 4) = a.eval (.tmp 4) ∧ a2.eval (.tmp 34) = .pointer (some ⟨C.w.heap.size, 0, none⟩) ∧ C.w.grownBy w (some (C.φ gi)) ∧ C.w.heap.size < w.heap.size ∧ w.heap[C.w.heap.size]? = some (.mapIter (some (C.φ oi)) clock seen c0) ∧ clock ≤ c0 ∧ MapIs w (C.φ gi) (uniK G (outK (seenS es seen) bs))) ?_ (n := (leftOf es #[]).size) ?_
  · rintro n a2 w ⟨seen, c0, rfl, hsz, hdf, e3, e4, e34, hg, hlt, hr, hcc, hmi⟩
    have hbm' : w.heap[C.φ oi]? = some (.map es clock) := (hg.block _ hbm (fun h => hbne (Option.some.inj h).symm)).trans hb0
    refine wp_seq (wp_regionL ?_)
    rcases run_next_at (P := Tryz.prog) w 0 C.w.heap.size (C.φ oi) clock c0 seen es clock hr hbm' hm0.2.2.2.1 hcc with ⟨hz, hrun⟩ | ⟨e, he, w1, hal, hrun⟩
    · refine step_value (v := .tuple #[.bool false]) (w' := w) rfl (by simp [execOp, e34, hrun]) ?_
      refine step_value (v := .bool false) (w' := w) rfl (by simp [execOp, ev_same, hsz, Instr.extract]) ?_
      show (Code.seq _ _).wp _ _ _ _
      refine wp_seq (wp_cond_false ?_ (wp_exit ?_))
      · exact ev_same (by rw [put_size, hsz]; decide)
      show Q .normal _ _
      rw [seenS_all hm0 hz] at hmi
      exact hQ _ _ (by rw [put_size, put_size, hsz]) hdf hg hmi
    · obtain ⟨hem, hes⟩ := mem_left he
      obtain ⟨x, hk, hv⟩ := hm0.1 e hem
      have hh1 : w1.heap = w.heap := by rcases hal with rfl | rfl <;> rfl
      obtain ⟨w2, hw2⟩ : ∃ w2, w2 = setBlock w1 C.w.heap.size (.mapIter (some (C.φ oi)) clock (seen.push e.born) clock) := ⟨_, rfl⟩
      rw [← hw2] at hrun
      have hr1 : w1.heap[C.w.heap.size]? = some (.mapIter (some (C.φ oi)) clock seen c0) := by rw [hh1]; exact hr
      have hr2 : w2.heap[C.w.heap.size]? = some (.mapIter (some (C.φ oi)) clock (seen.push e.born) clock) := by rw [hw2]; exact (heap_set hr1).1
      have ho2 : ∀ b, b ≠ C.w.heap.size → w2.heap[b]? = w.heap[b]? := fun b hb => by rw [hw2]; exact ((heap_set hr1).2 b hb).trans (by rw [hh1])
      have hs2 : w2.heap.size = w.heap.size := by rw [hw2]; simp [setBlock, hh1]
      have hb2 : w2.heap[C.φ oi]? = some (.map es clock) := (ho2 _ (by omega)).trans hbm'
      have hen := run_entry_at (P := Tryz.prog) w2 C.w.heap.size (C.φ oi) clock seen es clock e hr2 hb2 hem (born_nodup hm0)
      have hg2 : C.w.grownBy w2 (some (C.φ gi)) := by
        refine ⟨?_, ?_, ?_, by omega, fun b hb hn => ?_⟩
        · rcases hal with rfl | rfl <;> (rw [hw2]; exact hg.os)
        · rcases hal with rfl | rfl <;> (rw [hw2]; exact hg.tape)
        · rcases hal with rfl | rfl <;> (rw [hw2]; exact hg.output)
        · rw [ho2 b (by omega)]; exact hg.block b hb hn
      have hmi2 : MapIs w2 (C.φ gi) (uniK G (outK (seenS es seen) bs)) := by
        obtain ⟨es', clock', h, hok⟩ := hmi
        exact ⟨es', clock', (ho2 _ (by omega)).trans h, hok⟩
      have hsr2 := SR.putW hsr hGe rfl hg2 hmi2
      have hle2 : Le C (C.putW w2 gi ge (uniK G (outK (seenS es seen) bs))) := Le.putW hsr hGe rfl hg2
      have hcon := Contains_raw hmx hsr2 (s := x) hbs (VR.mono hle2 _ _ h3)
      have fin : ∀ (A : Act) (W : World), C.w.grownBy W (some (C.φ gi)) → C.w.heap.size < W.heap.size → W.heap[C.w.heap.size]? = some (.mapIter (some (C.φ oi)) clock (seen.push e.born) clock) → MapIs W (C.φ gi) (uniK G (outK (addK (seenS es seen) x) bs)) → A.tmps.size = 46 → A.defers = A0 → A.eval (.tmp 3) = a.eval (.tmp 3) → A.eval (.tmp 4) = a.eval (.tmp 4) → A.eval (.tmp 34) = .pointer (some ⟨C.w.heap.size, 0, none⟩) →
          ∃ m, m < (leftOf es seen).size ∧ ∃ seen c0, m = (leftOf es seen).size ∧ A.tmps.size = 46 ∧ A.defers = A0 ∧ A.eval (.tmp 3) = a.eval (.tmp 3) ∧ A.eval (.tmp 4) = a.eval (.tmp 4) ∧ A.eval (.tmp 34) = .pointer (some ⟨C.w.heap.size, 0, none⟩) ∧ C.w.grownBy W (some (C.φ gi)) ∧ C.w.heap.size < W.heap.size ∧ W.heap[C.w.heap.size]? = some (.mapIter (some (C.φ oi)) clock seen c0) ∧ clock ≤ c0 ∧ MapIs W (C.φ gi) (uniK G (outK (seenS es seen) bs)) :=
        fun A W q1 q2 q3 q4 q5 q6 q7 q8 q9 => ⟨_, left_shrinks es seen e he, seen.push e.born, clock, rfl, q5, q6, q7, q8, q9, q1, q2, q3, Nat.le_refl _, by rw [seenS_push hm0 hem hk]; exact q4⟩
      rw [hk, hv] at hrun hen
      refine step_value (v := .tuple #[.bool true, .string x, .bool true]) (w' := w2) rfl (by simp [execOp, e34, hrun]) ?_
      refine step_value (v := .bool true) (w' := w2) rfl (by simp [execOp, ev_same, hsz, Instr.extract]) ?_
      show (Code.seq _ _).wp _ _ _ _
      refine wp_seq (wp_cond_true ?_ (wp_skip ?_))
      · exact ev_same (by rw [put_size, hsz]; decide)
      show (Code.block _ _).wp _ _ _ _
      refine wp_block (wp_seq (wp_regionL ?_))
      refine step_value (v := .tuple #[.string x, .bool true]) (w' := w2) rfl (by simp [execOp, ev_other, e34, hen]) ?_
      refine step_value (v := .string x) (w' := w2) rfl (by simp [execOp, ev_same, put_size, hsz, Instr.extract]) ?_
      refine step_value (v := .string x) (w' := w2) rfl (by simp [execOp, ev_same, ev_other, put_size, hsz]) ?_
      show (Code.seq _ _).wp _ _ _ _
      refine wp_seq (wp_regionL ?_)
      refine step_value (v := a.eval (.tmp 3)) (w' := w2) rfl (by simp [execOp, ev_same, ev_other, put_size, hsz, e3]) ?_
      refine step_value (v := .string x) (w' := w2) rfl (by simp [execOp, ev_same, ev_other, put_size, hsz]) ?_
      refine step_call (f := 53) (args := #[a.eval (.tmp 3), .string x]) rfl ?_ ?_
      · have hn1 : ¬ Tryz.f53.name = "runtime.NumGoroutine" := by
          have : (Tryz.f53.name == "runtime.NumGoroutine") = false := by kernel_rfl
          simpa using this
        have hn3 : ¬ Tryz.f53.body = none := by
          have hb : Tryz.f53.body.isNone = false := by kernel_rfl
          intro h; rw [h] at hb; cases hb
        have q39 : ∀ A : Act, A.eval (.func 53) = .func (.func 53) #[] #[] := fun _ => rfl
        simp [execOp, resolve, Deferred.ofValue, invoke, callFunc, q39, Tryz.func53, hn1, hn3, ev_same, ev_other, put_size, hsz]
      refine Calls.mono hcon ?_
      rintro e' w3 ⟨rfl, hbel⟩
      refine ⟨_, rfl, ?_⟩
      have hg3 : C.w.grownBy w3 (some (C.φ gi)) := ⟨hbel.os.trans hg2.os, hbel.tape.trans hg2.tape, hbel.output.trans hg2.output, Nat.le_trans hg2.size hbel.size, fun b hb hn => (hbel.block b (by show b < w2.heap.size; omega)).trans (hg2.block b hb hn)⟩
      have hs3 : C.w.heap.size < w3.heap.size := by have : w2.heap.size ≤ w3.heap.size := hbel.size; omega
      have hr3 : w3.heap[C.w.heap.size]? = some (.mapIter (some (C.φ oi)) clock (seen.push e.born) clock) := (hbel.block _ (by show _ < w2.heap.size; omega)).trans hr2
      have hmi3 : MapIs w3 (C.φ gi) (uniK G (outK (seenS es seen) bs)) := by
        obtain ⟨es', clock', h, hok⟩ := hmi2
        exact ⟨es', clock', (hbel.block _ (by show _ < w2.heap.size; omega)).trans h, hok⟩
      cases hmb : memB bs x with
      | true =>
        refine step_value (v := .bool false) (w' := w3) rfl (by simp [execOp, ev_same, put_size, hsz]; rfl) ?_
        show (Code.cond _ _ _).wp _ _ _ _
        refine wp_cond_false ?_ (wp_skip ?_)
        · exact ev_same (by simp [put_size, hsz])
        rw [← out_in (G := G) (S := seenS es seen) hmb] at hmi3
        exact fin _ _ hg3 hs3 hr3 hmi3 (by simp [put_size, hsz]) (by simp [put_defers, hdf]) (by simp [ev_other, e3]) (by simp [ev_other, e4]) (by simp [ev_other, e34])
      | false =>
        refine step_value (v := .bool true) (w' := w3) rfl (by simp [execOp, ev_same, put_size, hsz]; rfl) ?_
        show (Code.cond _ _ _).wp _ _ _ _
        refine wp_cond_true ?_ (wp_regionL ?_)
        · exact ev_same (by simp [put_size, hsz])
        have hsr3 := SR.putW hsr hGe rfl hg3 hmi3
        have hle3 : Le C (C.putW w3 gi ge (uniK G (outK (seenS es seen) bs))) := Le.putW hsr hGe rfl hg3
        have hpg : entAt (put C.S gi ⟨ge, [.mset (uniK G (outK (seenS es seen) bs))]⟩) pi pe = some [p1, .mref gi ge] := by rw [entAt_put_other (Ne.symm (ent_neM hp hG))]; exact hp
        obtain ⟨v43, r43, k43⟩ := fldA_sound (k := 1) (VR.mono hle3 _ _ h4) (f1 pi pe)
        obtain ⟨v44, r44, k44⟩ := ldA_sound hsr3 k43 (f4 _ _ _ _ _ hpg)
        have hv44 : v44 = .map (some (C.φ gi)) := VR_mref (C := C.putW w3 gi ge (uniK G (outK (seenS es seen) bs))) (s := uniK G (outK (seenS es seen) bs)) k44 (mapAt_put (mapAt_lt hG))
        subst hv44
        obtain ⟨es4, clock4, hb4, hok4⟩ := hmi3
        obtain ⟨es5, clock5, hup, hok5⟩ := up_raw (P := Tryz.prog) (kt := kt) (et := et) (x := x) hset hb4 hok4
        have r43' : (Instr.fieldAt 98 (a.eval (.tmp 4)) 1).run Tryz.prog w3 = .ok v43 w3 := r43
        have r44' : (Instr.loadAt 95 v43).run Tryz.prog w3 = .ok (.map (some (C.φ gi))) w3 := r44
        refine step_value (v := v43) (w' := w3) rfl (by simp [execOp, ev_other, e4, r43']) ?_
        refine step_value (v := .map (some (C.φ gi))) (w' := w3) rfl (by simp [execOp, ev_same, put_size, hsz, r44']) ?_
        refine step_value (v := .string x) (w' := w3) rfl (by simp [execOp, ev_same, ev_other, put_size, hsz]) ?_
        have qc : ∀ A : Act, A.eval (.const (.bool true)) = .bool true := fun _ => rfl
        refine step_skip (w' := setBlock w3 (C.φ gi) (.map es5 clock5)) rfl (by simp [execOp, ev_same, ev_other, put_size, hsz, hup, qc]) ?_
        have ho5 : ∀ b, b ≠ C.φ gi → (setBlock w3 (C.φ gi) (.map es5 clock5)).heap[b]? = w3.heap[b]? := fun b hb => heap_setBlock_other hb4 _ hb
        have hs5 : (setBlock w3 (C.φ gi) (.map es5 clock5)).heap.size = w3.heap.size := by simp [setBlock]
        refine fin _ _ ⟨hg3.os, hg3.tape, hg3.output, by rw [hs5]; exact hg3.size, fun b hb hn => ?_⟩ (by rw [hs5]; exact hs3) ?_ ⟨es5, clock5, heap_setBlock_same hb4 _, ?_⟩ (by simp [Act.put_none, put_size, hsz]) (by simp [Act.put_none, put_defers, hdf]) (by simp [Act.put_none, ev_other, e3]) (by simp [Act.put_none, ev_other, e4]) (by simp [Act.put_none, ev_other, e34])
        · rw [ho5 b (fun h => hn (by rw [h]))]; exact hg3.block b hb hn
        · rw [ho5 _ (by omega)]; exact hr3
        · rw [out_out hmb]; exact hok5
  · refine ⟨#[], clock, rfl, ?_, hA0.symm, ?_, ?_, ?_, ?_, ?_, ?_, Nat.le_refl _, ?_⟩
    · dsimp only; rw [put_size, put_size, put_size, hsz]
    · simp [ev_other]
    · simp [ev_other]
    · exact ev_same (by rw [put_size, put_size, hsz]; decide)
    · exact ⟨rfl, rfl, rfl, by show C.w.heap.size ≤ (C.w.heap.push _).size; simp, fun k hk _ => (MapKept.heap_alloc C.w _).2 k hk⟩
    · show C.w.heap.size < (C.w.heap.push _).size; simp
    · exact (MapKept.heap_alloc C.w _).1
    · rw [seenS_none, show uniK G (outK noK bs) = G from by funext x; simp [uniK, outK, noK]]
      obtain ⟨es', clock', h, hok⟩ := hg0
      exact ⟨es', clock', ((MapKept.heap_alloc C.w _).2 _ hbg).trans h, hok⟩
end Go.Proofs.YtmkoiandfojgmaaGreat
namespace Go.Proofs.YtmkoiandfojgmaaGreat
open Go
theorem VRs_any {C : Cx} : ∀ vs : List Value, VRs C (bots vs.length) vs
  | [] => by simp only [List.length_nil, bots, VRs]
  | v :: vs => by simp only [List.length_cons, bots, VRs, VR]; exact ⟨trivial, VRs_any vs⟩
theorem rel_put {C : Cx} {st : St} {a a' : Act} {w : World} {i e n : Nat} {G G' : Sn} (hr : Rel C st a) (hG : mapAt st.S i e = some G) (hg : C.w.grownBy w (some (C.φ i))) (hm : MapIs w (C.φ i) G') (hsz : a'.tmps.size = n) (hdf : a'.defers = a.defers) :
    Le C (C.putW w i e G') ∧ Rel (C.putW w i e G') ⟨bots n, put st.S i ⟨e, [.mset G']⟩, st.tk, st.n⟩ a' := by
  have hGe := mapAt_some hG
  rw [← hr.S] at hGe
  refine ⟨Le.putW hr.sr hGe rfl hg, ?_, hr.tk, hr.n, ?_, hdf.trans hr.defers, SR.putW hr.sr hGe rfl hg hm⟩
  · show put C.S i _ = put st.S i _
    rw [hr.S]
  · have := VRs_any (C := C.putW w i e G') a'.tmps.toList
    rwa [Array.length_toList, hsz] at this
theorem rel_size {C : Cx} {st : St} {a : Act} (hr : Rel C st a) : a.tmps.size = st.T.length := by
  have := VRs_length hr.tmps
  simpa using this.symm
theorem rel_at {C : Cx} {st : St} {a : Act} (hr : Rel C st a) {t : Tmp} {v : AV} (h : getT st.T t = v) : VR C v (a.eval (.tmp t)) := by
  have := VR_opv hr.tmps (.tmp t)
  simp only [opv] at this
  rwa [h] at this
theorem lp_ok (hmx : Tryz.prog.follows .mixedOrders = true) (d : Nat) : @LpOk _ Tryz.prog (EI d) := by
  intro c st st' hrg hlp C a Q hr hQ
  replace hlp : lpU c st = some st' := hlp
  unfold lpU at hlp
  split at hlp
  · rename_i hc
    subst hc
    unfold lpCopy at hlp
    split at hlp
    · rename_i hT
      split at hlp
      · rename_i i e j e' h0 h1
        split at hlp
        · rename_i s s' hs hs'
          split at hlp
          · cases hlp
          · rename_i hij
            simp only [Option.some.injEq] at hlp
            subst hlp
            have hs1 := hs
            have hs1' := hs'
            rw [← hr.S] at hs1 hs1'
            obtain ⟨es, clock, hb0, hm0⟩ := mapAt_ent hr.sr hs1'
            refine copy_wp (mapAt_ent hr.sr hs1) hb0 hm0 (fun h => hij (hr.sr.ne i j (mapAt_lt hs1) (mapAt_lt hs1') h)) (by rw [rel_size hr, hT]) (VR_mref (rel_at hr h0) hs1) (VR_mref (rel_at hr h1) hs1') fun a' w' k1 k2 k3 k4 => ?_
            obtain ⟨q1, q2⟩ := rel_put hr hs k3 k4 k1 k2
            exact hQ a' _ q1 q2
        · cases hlp
      · cases hlp
    · cases hlp
  · split at hlp
    · rename_i hc
      subst hc
      unfold lpIns at hlp
      split at hlp
      · rename_i hT
        split at hlp
        · rename_i es c pi pe ii ie h3 h4 h9
          split at hlp
          · rename_i bs gi ge oi oe k1 k2 k3
            split at hlp
            · rename_i G H hG hH
              split at hlp
              · cases hlp
              · rename_i hno
                simp only [Option.some.injEq] at hlp
                subst hlp
                simp only [not_or] at hno
                have := strsOf_some k1
                subst this
                have hG1 := hG
                have hH1 := hH
                rw [← hr.S] at hG1 hH1
                have mi : ∀ {o : Option (List AV)} {x y : Nat}, mapIn o = some (x, y) → ∃ p, o = some [p, .mref x y] := by
                  intro o x y h
                  unfold mapIn at h
                  split at h
                  · simp only [Option.some.injEq, Prod.mk.injEq] at h
                    obtain ⟨rfl, rfl⟩ := h
                    exact ⟨_, rfl⟩
                  · cases h
                obtain ⟨p1, hp⟩ := mi k2
                obtain ⟨i1, hi⟩ := mi k3
                rw [← hr.S] at hp hi
                refine ins_wp hmx hr.sr (by rw [rel_size hr, hT]) (rel_at hr h3) (rel_at hr h4) (rel_at hr h9) hp hi hG1 hH1 hno.1 (by omega) fun a' w' k1 k2 k3 k4 => ?_
                obtain ⟨q1, q2⟩ := rel_put hr hG k3 k4 k1 k2
                exact hQ a' _ q1 q2
            · cases hlp
          · cases hlp
        · cases hlp
      · cases hlp
    · cases hlp
end Go.Proofs.YtmkoiandfojgmaaGreat
namespace Go.Proofs.YtmkoiandfojgmaaGreat
open Go
theorem lp_okx (hmx : Tryz.prog.follows .mixedOrders = true) (E : Ext Tryz.prog) (h : E.lp = lpU) : @LpOk _ Tryz.prog E := by
  intro c st st' hrg hlp
  refine lp_ok hmx 0 c st st' hrg ?_
  show lpU c st = some st'
  rw [← h]; exact hlp
theorem lpF_copy {E : Ext Tryz.prog} (hE : E.lp = lpU) {T : List AV} {S : List Ent} {tk : List Nat} {n i e j e' : Nat} {s s' : Sn} (hs : mapAt S i e = some s) (hs' : mapAt S j e' = some s') (hij : i ≠ j) (hT : T.length = 16) (h0 : getT T 0 = .mref i e) (h1 : getT T 1 = .mref j e') :
    @lpF Tryz.prog E Tryz.f87 ⟨T, S, tk, n⟩ = some ⟨bots 16, put S i ⟨e, [.mset (uniK s s')]⟩, tk, n⟩ := by
  have hc : Tryz.f87.body.bind rngIn = some copyL := by kernel_rfl
  unfold lpF
  rw [hc]
  show E.lp copyL _ = _
  rw [hE]
  unfold lpU
  rw [if_pos rfl]
  unfold lpCopy
  simp only [hT, if_true, h0, h1, hs, hs']
  rw [if_neg hij]
namespace UB
@[reducible] noncomputable def EB : Ext Tryz.prog where
  on := fun _ => false
  call := fun _ _ _ _ _ => none
  mv := fun f => f == 55 || f == 26 || withF f
  lp := lpU
theorem eb_ok (hmx : Tryz.prog.follows .mixedOrders = true) : @ExtOk _ Tryz.prog EB := by
  refine @ExtOk.mk _ _ EB (lp_okx hmx EB rfl) ?_ ?_
  · intro f args S tk n r S' tk' n' h
    simp [extC] at h
  · intro M f args S tk n r S' tk' n' h
    unfold callP at h
    split at h
    · simp [extC] at h
    · cases h
attribute [local instance] EB
theorem ext_mv (f : FuncId) (h : CkF (f == 55 || f == 26 || withF f)) : Ext.mv Tryz.prog f = false := h.h
theorem ext_mvT (f : FuncId) (h : CkT (f == 55 || f == 26 || withF f)) : Ext.mv Tryz.prog f = true := h.h
set_option linter.defProp false in
def evg1 := And.intro ext_mv <| And.intro ext_mvT <| And.intro @GdS_BR <| And.intro @GdM_BR <| And.intro @GdS_some <| And.intro @GdM_some <| And.intro @mapAt_old <| And.intro @entAt_new <| And.intro @entAt_old <| And.intro @entAt_old2 <| And.intro @List.take_left.{0} <| And.intro @List.take_length.{0} <| And.intro evt tys
section
variable (S : List Ent) (tk : List Nat) (k : Nat)
theorem copy_is {i e j e' : Nat} {s s' : Sn} (hs : mapAt S i e = some s) (hs' : mapAt S j e' = some s') (hij : i ≠ j) : cL Tryz.prog 87 [.mref i e, .mref j e'] S tk k = some (.tup [], put S i ⟨e, [.mset (uniK s s')]⟩, tk, k) := by
  have key : ∃ r, cL Tryz.prog 87 [.mref i e, .mref j e'] S tk k = some r ∧ r = (.tup [], put S i ⟨e, [.mset (uniK s s')]⟩, tk, k) := by
    have hlp := fun (T : List AV) (tk : List Nat) (n : Nat) => lpF_copy (E := EB) rfl (T := T) (tk := tk) (n := n) hs hs' hij
    have htk : (put S i (⟨e, [.mset (uniK s s')]⟩ : Ent)).take S.length = put S i ⟨e, [.mset (uniK s s')]⟩ := List.take_of_length_le (by rw [put_len]; exact Nat.le_refl _)
    refine opG Tryz.func87 Tryz.ntmps87 ?_
    simp (maxSteps := 10^6) +contextual (disch := try exact dqd) only [evg1, simprocAttr, AV.int, AV.bool, AV.str, Tryz.results87, hlp, htk]
  obtain ⟨r, h1, h2⟩ := key
  rw [h1, h2]
theorem sclone_nn (l : List ByteArray) (hl : l.length ≤ 1048576) : ∃ r, cL Tryz.prog 55 [.frz (l.map strC) .nn] S tk k = some r ∧ r = (.frz (l.map strC) (.tok tk.length 0 1), S, tk ++ [0], k) := by
  have hr := rowsOk_strs l
  refine opM Tryz.func55 Tryz.ntmps55 ?_
  cases l with
  | nil =>
    simp (maxSteps := 10^6) +contextual (disch := try exact dqd) only [evg1, simprocAttr, AV.int, AV.bool, AV.str, Tryz.results55, List.map_nil]
    rfl
  | cons x l =>
    simp only [List.map_cons] at hr
    simp only [List.map_cons]
    have hlen : ([] : List (List AV)).length + (strC x :: l.map strC).length ≤ 1048576 := by simpa using hl
    have hok : okCap tk .tight 1 = true := rfl
    simp (maxSteps := 10^6) +contextual (disch := try exact dqd) only [evg1, simprocAttr, AV.int, AV.bool, AV.str, Tryz.results55, hr, hlen, hok]
    rfl
theorem sclone_nl : ∃ r, cL Tryz.prog 55 [.frz [] .nl] S tk k = some r ∧ r = (.frz [] .nilc, S, tk, k) := by
  refine opM Tryz.func55 Tryz.ntmps55 ?_
  simp (maxSteps := 10^6) +contextual (disch := try exact dqd) only [evg1, simprocAttr, AV.int, AV.bool, AV.str, Tryz.results55, List.map_nil]
theorem dclone_nn (es : List (List AV)) (hr : rowsOk 25 es = true) (hl : es.length ≤ 1048576) : ∃ r, cL Tryz.prog 26 [.frz es .nn] S tk k = some r ∧ r = (.frz es (.tok tk.length 0 25), S, tk ++ [0], k) := by
  have hap := apB_all (es := []) (ys := es) (c := .tight) (tk := tk) (sz := 25) rfl rfl hr (by simpa using hl)
  refine opM Tryz.func26 Tryz.ntmps26 ?_
  cases es with
  | nil =>
    simp (maxSteps := 10^6) +contextual (disch := try exact dqd) only [evg1, simprocAttr, AV.int, AV.bool, AV.str, Tryz.results26, hap]
    rfl
  | cons x l =>
    simp (maxSteps := 10^6) +contextual (disch := try exact dqd) only [evg1, simprocAttr, AV.int, AV.bool, AV.str, Tryz.results26, hap]
    rfl
theorem delB_take {l : List ByteArray} {i : Nat} {x s : ByteArray} (h : nth l i = some x) : delB (l.take (i + 1)) s = delB (l.take i) s ++ (if sEq x s = true then [] else [x]) := by
  rw [nth_get] at h
  rw [List.take_add_one, h]
  unfold delB
  rw [List.filter_append]
  cases hq : sEq x s <;> simp [hq]
theorem put_last : ∀ (l : List Nat) (a b : Nat), put (l ++ [a]) l.length b = l ++ [b]
  | [], _, _ => rfl
  | x :: l, a, b => by simp only [List.cons_append, List.length_cons, put, put_last l]
def witI (tk : List Nat) (L : List ByteArray) (c : Cap) (tkx : List Nat) : Prop := (L = [] ∧ c = .nilc ∧ tkx = tk) ∨ (L ≠ [] ∧ c = .tok tk.length (L.length - 1) 1 ∧ tkx = tk ++ [L.length - 1])
theorem witI_ok {tk : List Nat} {L : List ByteArray} {c : Cap} {tkx : List Nat} (h : witI tk L c tkx) : okCap tkx c 1 = true := by
  rcases h with ⟨-, rfl, rfl⟩ | ⟨-, rfl, rfl⟩
  · rfl
  · simp only [okCap, beq_self_eq_true, Bool.true_and, beq_iff_eq]
    rw [nth_get, List.getElem?_append_right (Nat.le_refl _)]; simp
theorem witI_step {tk : List Nat} {L : List ByteArray} {c : Cap} {tkx : List Nat} (h : witI tk L c tkx) (x : ByteArray) : witI tk (L ++ [x]) (capNew tkx c 1) (capPut tkx c) := by
  refine .inr ⟨by simp, ?_⟩
  rcases h with ⟨rfl, rfl, rfl⟩ | ⟨h0, rfl, rfl⟩
  · exact ⟨rfl, rfl⟩
  · have hp := List.length_pos_iff.2 h0
    have e : L.length - 1 + 1 = (L ++ [x]).length - 1 := by simp; omega
    exact ⟨by simp only [capNew, e], by simp only [capPut, put_last, e]⟩
theorem wit_run (l : List ByteArray) (s : ByteArray) (c0 : Cap) (hl : l.length ≤ 1048576) : ∃ r, cL Tryz.prog 68 [.frz (l.map strC) c0, .str s] S tk k = some r ∧ ∃ c tkx, r = (.frz ((delB l s).map strC) c, S, tkx, k) ∧ witI tk (delB l s) c tkx := by
  have hlm : (l.map strC).length = l.length := List.length_map ..
  obtain ⟨Φ, hΦ⟩ : ∃ Φ : Rs → Prop, Φ = fun r => ∃ c tkx, r = (.frz ((delB l s).map strC) c, S, tkx, k) ∧ witI tk (delB l s) c tkx := ⟨_, rfl⟩
  show ∃ r, _ = some r ∧ (fun r : Rs => ∃ c tkx, r = (.frz ((delB l s).map strC) c, S, tkx, k) ∧ witI tk (delB l s) c tkx) r
  rw [← hΦ]
  refine opM Tryz.func68 Tryz.ntmps68 ?_
  simp (maxSteps := 10^6) +contextual (disch := try exact dqd) only [evg1, simprocAttr, AV.int, AV.bool, AV.str, Tryz.results68, hlm]
  refine loopG (P := Tryz.prog) (fun x st => st.T.length = 23 ∧ (x.1 ≤ l.length) ∧ (witI tk (delB (l.take x.1) s) x.2.1 x.2.2.2) ∧ (x.2.2.1 = (delB (l.take x.1) s).map strC) ∧ getT st.T 1 = .str s ∧ getT st.T 5 = .frz x.2.2.1 x.2.1 ∧ getT st.T 8 = .frz (l.map strC) c0 ∧ getT st.T 9 = .int (l.length : Nat) ∧ getT st.T 10 = .int (x.1 : Nat) ∧ st.S = S ∧ st.tk = x.2.2.2 ∧ st.n = k) (fun x => l.length - x.1) (0, Cap.nilc, ([] : List (List AV)), tk) ?_ ?_
  case refine_2 => exact ⟨rfl, Nat.zero_le _, .inl ⟨by simp [delB], rfl, rfl⟩, by simp [delB], rfl, rfl, rfl, rfl, rfl, rfl, rfl, rfl⟩
  rintro ⟨i, c, L, tkx⟩ ⟨T, S', tk', n'⟩ ⟨hl, hi, hw, hL, e1, e5, e8, e9, e10, eS, eT, eN⟩ IH
  simp only at hi hw hL e1 e5 e8 e9 e10 eS eT eN
  subst eS eT eN
  obtain ⟨g, hg, hT⟩ := tab_of hl
  rw [hg] at e1 e5 e8 e9 e10
  subst hT
  clear hg hl
  by_cases la : i < l.length
  · have d1 : decide ((i : Int) < (l.length : Int)) = true := by simpa using la
    obtain ⟨x, hx⟩ := nth_some la
    have hx' := nth_strs hx
    have hw1 := wrap_add (i := i) (by omega)
    have htk := delB_take (s := s) hx
    simp only [strC] at hx'
    cases hq : sEq x s
    · rw [hq] at htk
      simp only [Bool.false_eq_true, if_false] at htk
      have hr : rowsOk 1 L = true := by rw [hL]; exact rowsOk_strs _
      have hok := witI_ok hw
      have hap := apB_one (y := strC x) hok hr rfl (by rw [hL]; have := List.length_filter_le (fun x => !sEq x s) (l.take i); simp [delB] at this ⊢; omega)
      have hL2 : L ++ [strC x] = (delB (l.take (i + 1)) s).map strC := by rw [htk, hL]; simp
      have hst := witI_step hw x
      rw [← htk] at hst
      simp only [strC] at hap hL2
      simp (maxSteps := 10^6) +contextual (disch := try exact dqd) only [evg1, simprocAttr, AV.int, AV.bool, AV.str, Tryz.results68, e1, e5, e8, e9, e10, d1, hx', hw1, hq, hap]
      exact IH ((i + 1, _, _, _)) _ (by first | omega | (simp only; omega)) ⟨rfl, la, hst, hL2, rfl, rfl, rfl, rfl, rfl, rfl, rfl, rfl⟩
    · rw [hq, if_pos rfl, List.append_nil] at htk
      simp (maxSteps := 10^6) +contextual (disch := try exact dqd) only [evg1, simprocAttr, AV.int, AV.bool, AV.str, Tryz.results68, e1, e5, e8, e9, e10, d1, hx', hw1, hq]
      exact IH ((i + 1, _, _, _)) _ (by first | omega | (simp only; omega)) ⟨rfl, la, by rw [htk]; exact hw, by rw [htk]; exact hL, rfl, rfl, rfl, rfl, rfl, rfl, rfl, rfl⟩
  · have d1 : decide ((i : Int) < (l.length : Int)) = false := by simpa using la
    rw [List.take_of_length_le (by omega)] at hL hw
    simp (maxSteps := 10^6) +contextual (disch := try exact dqd) only [evg1, simprocAttr, AV.int, AV.bool, AV.str, Tryz.results68, e1, e5, e8, e9, e10, d1]
    rw [hΦ, hL]
    exact ⟨c, _, rfl, hw⟩
theorem dclone_nl : ∃ r, cL Tryz.prog 26 [.frz [] .nl] S tk k = some r ∧ r = (.frz [] .nilc, S, tk, k) := by
  refine opM Tryz.func26 Tryz.ntmps26 ?_
  simp (maxSteps := 10^6) +contextual (disch := try exact dqd) only [evg1, simprocAttr, AV.int, AV.bool, AV.str, Tryz.results26, List.map_nil]
end
end UB
def Cx.tokE (C : Cx) : Cx := { C with tk := C.tk ++ [0], ψ := fun i => if i = C.tk.length then (0, 0, 0) else C.ψ i }
theorem tokE_mut {C : Cx} {b o : Nat} : C.tokE.Mut b o ↔ C.Mut b o := by
  constructor
  · rintro (h | ⟨i, hi, h1, h2, h3⟩)
    · exact .inl h
    · simp only [Cx.tokE, List.length_append, List.length_cons, List.length_nil] at hi h1 h2 h3
      by_cases e : i = C.tk.length
      · rw [if_pos e] at h3; simp at h3
      · rw [if_neg e] at h1 h2 h3
        exact .inr ⟨i, by omega, h1, h2, h3⟩
  · rintro (h | ⟨i, hi, h1, h2, h3⟩)
    · exact .inl h
    · refine .inr ⟨i, by simp [Cx.tokE]; omega, ?_, ?_, ?_⟩ <;> (simp only [Cx.tokE]; rw [if_neg (by omega)]; assumption)
theorem nth_oldN {l : List Nat} {x i k : Nat} (h : nth l i = some k) : nth (l ++ [x]) i = some k := by
  have hl := nth_lt h
  rw [nth_get] at h ⊢
  rw [List.getElem?_append_left hl, h]
theorem Le.tokE {C : Cx} : Le C C.tokE := by
  refine ⟨rfl, rfl, rfl, Nat.le_refl _, rfl, Nat.le_refl _, fun b o _ h => tokE_mut.1 h, fun _ _ _ h _ => h, fun _ _ _ => rfl, fun _ cs _ _ h => ⟨cs, h, rfl⟩, fun _ e' h _ => ⟨e', h, rfl, rfl⟩, fun id k h => ⟨k, nth_oldN h, Nat.le_refl _, fun _ => ?_⟩⟩
  have := nth_lt h
  simp only [Cx.tokE]
  rw [if_neg (by omega)]
theorem SR.tokE [Globs] {C : Cx} (hs : SR C) : SR C.tokE := by
  have hψ : ∀ i o, i < C.tokE.tk.length → (C.tokE.ψ i).2.1 ≤ o → o < (C.tokE.ψ i).2.2 → i < C.tk.length ∧ C.tokE.ψ i = C.ψ i := by
    intro i o hi h1 h2
    simp only [Cx.tokE, List.length_append, List.length_cons, List.length_nil] at hi h1 h2 ⊢
    by_cases e : i = C.tk.length
    · rw [if_pos e] at h2; simp at h2
    · exact ⟨by omega, if_neg e⟩
  refine ⟨fun i e he => ⟨(hs.ent i e he).1, (hs.ent i e he).2.move rfl (VRs.mono Le.tokE _)⟩, hs.ne, fun i j o hi hj h h1 h2 h3 h4 => ?_, fun i j o hi hj h h1 h2 => ?_, fun b o h => hs.own b o (tokE_mut.1 h), hs.avlt, fun i o hi h1 h2 => ?_, hs.glob⟩
  · obtain ⟨a1, a2⟩ := hψ i o hi h1 h2
    obtain ⟨b1, b2⟩ := hψ j o hj h3 h4
    rw [a2] at h h1 h2
    rw [b2] at h h3 h4
    exact hs.tok i j o a1 b1 h h1 h2 h3 h4
  · obtain ⟨b1, b2⟩ := hψ j o hj h1 h2
    rw [b2] at h h1 h2
    exact hs.apart i j o hi b1 h h1 h2
  · obtain ⟨b1, b2⟩ := hψ i o hi h1 h2
    rw [b2] at h1 h2 ⊢
    exact hs.tlt i o b1 h1 h2
def ToldR (C : Cx) (S' : List Ent) (tk' : List Nat) (n' : Nat) (r : AV) (e : Ending) (w' : World) : Prop := ∃ v C', e = .returned v ∧ C'.w = w' ∧ Le C C' ∧ SR C' ∧ C'.S = S' ∧ C'.tk = tk' ∧ C'.n = n' ∧ VR C' r v
theorem copy_calls (hmx : Tryz.prog.follows .mixedOrders = true) {C : Cx} {vs : Array Value} (hsr : SR C) {i e j e' : Nat} {s s' : Sn} (hs : mapAt C.S i e = some s) (hs' : mapAt C.S j e' = some s') (hij : i ≠ j) (hv : VRs C [.mref i e, .mref j e'] vs.toList) :
    Calls Tryz.prog 87 vs C.w (ToldR C (put C.S i ⟨e, [.mset (uniK s s')]⟩) C.tk C.n (.tup [])) :=
  @calls_of Tryz.prog UB.EB _ (UB.eb_ok hmx) _ _ _ _ _ _ _ _ _ hmx (UB.copy_is C.S C.tk C.n hs hs' hij) C vs rfl rfl rfl hsr hv
theorem sclone_calls (hmx : Tryz.prog.follows .mixedOrders = true) {C : Cx} {vs : Array Value} (hsr : SR C) {l : List ByteArray} {c : Cap} (hl : l.length ≤ 1048576) (hv : VRs C [.frz (l.map strC) c] vs.toList) :
    Calls Tryz.prog 55 vs C.w (ToldR C C.S (C.tk ++ [0]) C.n (.frz (l.map strC) (.tok C.tk.length 0 1))) := by
  obtain ⟨vl⟩ := vs
  match vl, hv with
  | [x], hv =>
  simp only [VRs, VR, and_true] at hv
  obtain ⟨a, len, cap, rfl, h1, h2, h3, h4⟩ := hv
  cases a with
  | some a =>
    obtain ⟨r, hr, rfl⟩ := UB.sclone_nn C.S C.tk C.n l hl
    exact @calls_of Tryz.prog UB.EB _ (UB.eb_ok hmx) _ _ _ _ _ _ _ _ _ hmx hr C _ rfl rfl rfl hsr (by simp only [VRs, VR, and_true]; exact ⟨some a, len, cap, rfl, h1, h2, rfl, h4⟩)
  | none =>
    have hl0 : l = [] := by
      rcases h4 with h4 | ⟨b, o, sz, h, -⟩
      · simpa using h4
      · cases h
    subst hl0
    obtain ⟨r, hr, rfl⟩ := UB.sclone_nl C.S C.tk C.n
    refine Calls.mono (@calls_of Tryz.prog UB.EB _ (UB.eb_ok hmx) _ _ _ _ _ _ _ _ _ hmx hr C _ rfl rfl rfl hsr (by simp only [VRs, VR, and_true]; exact ⟨none, len, cap, rfl, h1, h2, rfl, .inl trivial⟩)) ?_
    rintro e w' ⟨v, C', rfl, rfl, k1, k2, k3, k4, k5, k6⟩
    refine ⟨v, C'.tokE, rfl, rfl, k1.trans Le.tokE, k2.tokE, k3, by show C'.tk ++ [0] = _; rw [k4], k5, ?_⟩
    simp only [VR] at k6 ⊢
    obtain ⟨a2, len2, cap2, rfl, g1, g2, g3, g4⟩ := k6
    refine ⟨a2, len2, cap2, rfl, g1, g2, ⟨0, ?_, Nat.le_refl _, fun _ => .inl ?_⟩, .inl rfl⟩
    · show nth (C'.tk ++ [0]) C.tk.length = some 0
      rw [← k4, nth_get, List.getElem?_append_right (Nat.le_refl _)]; simp
    · exact g3.2
theorem dclone_calls (hmx : Tryz.prog.follows .mixedOrders = true) {C : Cx} {vs : Array Value} (hsr : SR C) {es : List (List AV)} {c : Cap} (hr0 : rowsOk 25 es = true) (hl : es.length ≤ 1048576) (hv : VRs C [.frz (es) c] vs.toList) :
    Calls Tryz.prog 26 vs C.w (ToldR C C.S (C.tk ++ [0]) C.n (.frz (es) (.tok C.tk.length 0 25))) := by
  obtain ⟨vl⟩ := vs
  match vl, hv with
  | [x], hv =>
  simp only [VRs, VR, and_true] at hv
  obtain ⟨a, len, cap, rfl, h1, h2, h3, h4⟩ := hv
  cases a with
  | some a =>
    obtain ⟨r, hr, rfl⟩ := UB.dclone_nn C.S C.tk C.n es hr0 hl
    exact @calls_of Tryz.prog UB.EB _ (UB.eb_ok hmx) _ _ _ _ _ _ _ _ _ hmx hr C _ rfl rfl rfl hsr (by simp only [VRs, VR, and_true]; exact ⟨some a, len, cap, rfl, h1, h2, rfl, h4⟩)
  | none =>
    have hl0 : es = [] := by
      rcases h4 with h4 | ⟨b, o, sz, h, -⟩
      · simpa using h4
      · cases h
    subst hl0
    obtain ⟨r, hr, rfl⟩ := UB.dclone_nl C.S C.tk C.n
    refine Calls.mono (@calls_of Tryz.prog UB.EB _ (UB.eb_ok hmx) _ _ _ _ _ _ _ _ _ hmx hr C _ rfl rfl rfl hsr (by simp only [VRs, VR, and_true]; exact ⟨none, len, cap, rfl, h1, h2, rfl, .inl trivial⟩)) ?_
    rintro e w' ⟨v, C', rfl, rfl, k1, k2, k3, k4, k5, k6⟩
    refine ⟨v, C'.tokE, rfl, rfl, k1.trans Le.tokE, k2.tokE, k3, by show C'.tk ++ [0] = _; rw [k4], k5, ?_⟩
    simp only [VR] at k6 ⊢
    obtain ⟨a2, len2, cap2, rfl, g1, g2, g3, g4⟩ := k6
    refine ⟨a2, len2, cap2, rfl, g1, g2, ⟨0, ?_, Nat.le_refl _, fun _ => .inl ?_⟩, .inl trivial⟩
    · show nth (C'.tk ++ [0]) C.tk.length = some 0
      rw [← k4, nth_get, List.getElem?_append_right (Nat.le_refl _)]; simp
    · exact g3.2
theorem wit_calls (hmx : Tryz.prog.follows .mixedOrders = true) {C : Cx} {vs : Array Value} (hsr : SR C) {l : List ByteArray} {s : ByteArray} {c : Cap} (hl : l.length ≤ 1048576) (hv : VRs C [.frz (l.map strC) c, .prim (.string s)] vs.toList) :
    Calls Tryz.prog 68 vs C.w (ToldR C C.S (C.tk ++ [(delB l s).length - 1]) C.n (.frz ((delB l s).map strC) (.tok C.tk.length ((delB l s).length - 1) 1))) := by
  obtain ⟨r, hr, c', tkx, rfl, hw⟩ := UB.wit_run C.S C.tk C.n l s c hl
  have hc := @calls_of Tryz.prog UB.EB _ (UB.eb_ok hmx) _ _ _ _ _ _ _ _ _ hmx hr C vs rfl rfl rfl hsr hv
  rcases hw with ⟨h0, rfl, rfl⟩ | ⟨h0, rfl, rfl⟩
  · rw [h0] at hc ⊢
    refine Calls.mono hc ?_
    rintro e w' ⟨v, C', rfl, rfl, k1, k2, k3, k4, k5, k6⟩
    refine ⟨v, C'.tokE, rfl, rfl, k1.trans Le.tokE, k2.tokE, k3, by show C'.tk ++ [0] = _; rw [k4]; rfl, k5, ?_⟩
    simp only [List.map_nil, VR] at k6 ⊢
    obtain ⟨a2, len2, cap2, rfl, g1, g2, g3, g4⟩ := k6
    refine ⟨a2, len2, cap2, rfl, g1, g2, ⟨0, ?_, Nat.le_refl _, fun _ => .inl ?_⟩, .inl trivial⟩
    · show nth (C'.tk ++ [0]) C.tk.length = some 0
      rw [← k4, nth_get, List.getElem?_append_right (Nat.le_refl _)]; simp
    · exact g3.2
  · exact hc
end Go.Proofs.YtmkoiandfojgmaaGreat
