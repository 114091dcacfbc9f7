/-
  Texts laid together: UR9, UR10.
-/
import Derived.Test.YtmkoiandfojgmaaGreatZM20
namespace Go.Proofs.YtmkoiandfojgmaaGreat
open Go
theorem binds_take {ns : List ByteArray} {i : Nat} {x : ByteArray} (h : nth ns i = some x) (r : RT) : bindsR r (ns.take (i + 1)) = bindR (bindsR r (ns.take i)) x false := by
  unfold bindsR
  rw [take_mapS h, List.foldl_append]; rfl
theorem backs_take {ns : List ByteArray} {i : Nat} {x : ByteArray} (h : nth ns i = some x) (G g : List ByteArray) : (ns.take (i + 1)).foldl (backB G) g = backB G ((ns.take i).foldl (backB G) g) x := by
  rw [take_mapS h, List.foldl_append]; rfl
section
variable [Depth]
def WalkC (U : List ByteArray) (e : XT) : Prop := goodX e → (∀ x ∈ allV e, x ∈ U) → szX e ≤ 1000000 → nodesX e ≤ 80000 → ∀ (s : RT) (c1 c2 : Cap), Ok U s → s.cells.length + nodesX e ≤ 90000 → ∀ S tk k, cL Tryz.prog 47 [.agg (exprC e), .agg (stC c1 c2 s)] S tk k = some (.agg (stC .unk .unk (walkR e s)), S, tk, k)
set_option maxRecDepth 100000 in
set_option maxHeartbeats 4000000 in
theorem R28_let {U : List ByteArray} (hU : U.length ≤ 30000) (o : Int) (s : ByteArray) (n : Int) (ks : List XT) (ps : List (ByteArray × TT)) (al : List LT) (ts : List TT) (a b : XT) (hl : ks.length = 2) (h0 : nth ks 0 = some a) (h1 : nth ks 1 = some b)
    (hwa : WalkC U a) (hwb : WalkC U b) (hga : goodX a) (hgb : goodX b) (hva : ∀ x ∈ allV a, x ∈ U) (hvb : ∀ x ∈ allV b, x ∈ U) (hsa : szX a ≤ 1000000) (hsb : szX b ≤ 1000000) (hna : nodesX a ≤ 80000) (hnb : nodesX b ≤ 80000)
    (r : RT) (c1 c2 : Cap) (hok : Ok U r) (hn : r.cells.length + nodesX a + nodesX b + 1 ≤ 90000) (S : List Ent) (tk : List Nat) (k : Nat) :
    cL Tryz.prog 71 [.agg (exprC (.node o s n ks ps al ts)), .agg (stC c1 c2 r)] S tk k = some (.agg (stC .unk .unk (afterR (walkR a r) (walkR b (bindR (walkR a r) s (typedF ts))) s)), S, tk, k) := by
  have w1 := walk_ok a hva r hok
  have f1 := fun S tk k => hwa hga hva hsa hna r .unk .unk hok (by omega) S tk k
  obtain ⟨R1, hR1⟩ : ∃ R1, R1 = walkR a r := ⟨_, rfl⟩
  rw [← hR1] at f1 w1 ⊢
  have wb := ok_bind (n := s) (c := typedF ts) w1.1
  have lb := bind_cells R1 s (typedF ts)
  have lb2 : (bindR R1 s (typedF ts)).cells.length ≤ R1.cells.length + 1 := by split at lb <;> omega
  have l1 := ok_len w1.1
  have c1e := congrArg List.length w1.2
  have f2 := fun c1 c2 S tk k => R28_bind S tk k R1 s (typedF ts) c1 c2 (by omega) (by omega)
  obtain ⟨B1, hB1⟩ : ∃ x, x = bindR R1 s (typedF ts) := ⟨_, rfl⟩
  rw [← hB1] at f2 wb lb2 ⊢
  have w2 := walk_ok b hvb B1 wb
  have f3 := fun c1 c2 S tk k => hwb hgb hvb hsb hnb B1 c1 c2 wb (by omega) S tk k
  obtain ⟨R2, hR2⟩ : ∃ x, x = walkR b B1 := ⟨_, rfl⟩
  rw [← hR2] at f3 w2 ⊢
  have l2 := ok_len w2.1
  have f4 := fun c1 c2 c3 c4 S tk k => R28_after S tk k R1 R2 s c1 c2 c3 c4 (by omega) (by omega)
  obtain ⟨R3, hR3⟩ : ∃ x, x = afterR R1 R2 s := ⟨_, rfl⟩
  rw [← hR3] at f4 ⊢
  clear hR1 hR2 hR3 hB1 w1 w2 wb lb lb2 l1 l2 c1e hwa hwb hok hn hva hvb
  have hq0 := nth_exprs h0
  have hq1 := nth_exprs h1
  obtain ⟨Rn, n0, n1, n2⟩ : ∃ Rn : Nat → RT, Rn 0 = r ∧ Rn 1 = R1 ∧ Rn 2 = R3 := ⟨fun i => match i with | 0 => r | 1 => R1 | _ => R3, rfl, rfl, rfl⟩
  subst n0 n1 n2
  simp only [stC] at f1 f2 f3 f4
  obtain ⟨TS, hTS⟩ : ∃ TS, TS = typesC ts := ⟨_, rfl⟩
  obtain ⟨DC, hDC⟩ : ∃ DC : List AV, DC = [.prim (.int .i64 o), .prim (.string s), .prim (.int .i64 n), .frz (exprsC ks) .unk, .frz (ps.map paramC) .unk, .frz (altsC al) .unk, .frz TS .unk] := ⟨_, rfl⟩
  refine opP Tryz.func71 Tryz.ntmps71 ?_
  simp (maxSteps := 10^6) +contextual (disch := try exact dqd) only [ev0, simprocAttr, AV.int, AV.bool, AV.str, Tryz.results71, exprC, stC, exprsC_len, hl]
  rw [← hTS, ← hDC]
  refine loop1 (P := Tryz.prog) (fun x st => st.T.length = 46 ∧ (x ≤ 2) ∧ getT st.T 2 = .ref 0 0 0 ∧ getT st.T 3 = .ref 1 1 0 ∧ getT st.T 4 = .ref 2 2 0 ∧ getT st.T 9 = .frz (exprsC ks) .unk ∧ getT st.T 10 = .int (2 : Nat) ∧ getT st.T 11 = .int (x : Nat) ∧ st.S = [⟨0, DC⟩, ⟨1, stC .unk .unk (Rn x)⟩, ⟨2, [.frz [] .nilc, .frz [] .nilc, .prim (.bool false)]⟩]) (fun x => 2 - x) (fun x => .agg (stC .unk .unk (Rn 2))) (0) ?_ ?_
  case refine_2 => exact ⟨rfl, Nat.zero_le _, rfl, rfl, rfl, rfl, rfl, rfl, rfl⟩
  rintro i ⟨T, S', tk', n'⟩ ⟨hl, hi, e2, e3, e4, e9, e10, e11, eS⟩ IH
  subst eS
  obtain ⟨g, hg, hT⟩ := tab_of hl
  rw [hg] at e2 e3 e4 e9 e10 e11
  subst hT
  clear hg hl
  by_cases i0 : i = 0
  · subst i0
    obtain ⟨qo, qs, qn, qk, qp, qa, qt⟩ := a
    simp only [exprC] at hq0 f1
    simp (maxSteps := 10^6) +contextual (disch := try exact dqd) only [ev0, simprocAttr, AV.int, AV.bool, AV.str, Tryz.results71, e2, e3, e4, e9, e10, e11, stC, exprsC_len, hl, hq0, f1]
    exact IH ((1)) _ (by first | omega | (simp only; omega)) ⟨rfl, by first | omega | (dsimp only; omega), rfl, rfl, rfl, rfl, rfl, rfl, rfl⟩
  by_cases i1 : i = 1
  · subst i1
    obtain ⟨qo, qs, qn, qk, qp, qa, qt⟩ := b
    simp only [exprC] at hq1 f3
    have j1 : intN (.prim (.int .i64 1)) = some 1 := rfl
    cases ts with
    | nil =>
      simp only [typedF] at f2
      have dl : decide ((0 : Int) < (TS.length : Int)) = false := by rw [hTS]; rfl
      subst hDC
      simp (maxSteps := 10^6) +contextual (disch := try exact dqd) only [ev0, simprocAttr, AV.int, AV.bool, AV.str, Tryz.results71, e2, e3, e4, e9, e10, e11, stC, exprsC_len, hl, hq1, j1, f2, f3, f4, dl]
      exact IH ((2)) _ (by first | omega | (simp only; omega)) ⟨rfl, by first | omega | (dsimp only; omega), rfl, rfl, rfl, rfl, rfl, rfl, rfl⟩
    | cons t ts =>
      have hq2 : nth TS 0 = some (typeC t) := by rw [hTS]; rfl
      obtain ⟨po, pn, pa, pns, ⟨qqo, qqn, qqv, qqk⟩, pp⟩ := t
      simp only [typedF, isCell, TT.op] at f2
      simp only [typeC, predC, strsA, List.cons_append, List.nil_append] at hq2
      have dl : decide ((0 : Int) < (TS.length : Int)) = true := by rw [hTS]; exact decide_eq_true (by rw [typesC_len]; simp only [List.length_cons]; omega)
      have i0 : intN (.prim (.int .i64 0)) = some 0 := rfl
      subst hDC
      simp (maxSteps := 10^6) +contextual (disch := try exact dqd) only [ev0, simprocAttr, AV.int, AV.bool, AV.str, Tryz.results71, e2, e3, e4, e9, e10, e11, stC, exprsC_len, hl, hq1, j1, hq2, i0, f2, f3, f4, dl]
      exact IH ((2)) _ (by first | omega | (simp only; omega)) ⟨rfl, by first | omega | (dsimp only; omega), rfl, rfl, rfl, rfl, rfl, rfl, rfl⟩
  have i2 : i = 2 := by omega
  subst i2
  simp (maxSteps := 10^6) +contextual (disch := try exact dqd) only [ev0, simprocAttr, AV.int, AV.bool, AV.str, Tryz.results71, e2, e3, e4, e9, e10, e11, stC, exprsC_len, hl]
  done
set_option maxRecDepth 100000 in
set_option maxHeartbeats 4000000 in
theorem R28_branch {U : List ByteArray} (hU : U.length ≤ 30000) (c : ByteArray) (ns : List ByteArray) (b : XT) (hns : ns.length ≤ 1000000)
    (hwb : WalkC U b) (hgb : goodX b) (hvb : ∀ x ∈ allV b, x ∈ U) (hsb : szX b ≤ 1000000) (hnb : nodesX b ≤ 80000)
    (r : RT) (c1 c2 : Cap) (hok : Ok U r) (hn : r.cells.length + nodesX b ≤ 90000) (S : List Ent) (tk : List Nat) (k : Nat) :
    cL Tryz.prog 73 [.agg (altC (.mk c ns b)), .agg (stC c1 c2 r)] S tk k = some (.agg (stC .unk .unk (branchR r (walkR b (bindsR r ns)) ns)), S, tk, k) := by
  have hbs : ∀ i, Ok U (bindsR r (ns.take i)) ∧ (bindsR r (ns.take i)).cells.length ≤ r.cells.length := fun i => ok_binds _ hok
  have hb0 := ok_binds ns hok
  have f3 := fun c1 c2 S tk k => hwb hgb hvb hsb hnb (bindsR r ns) c1 c2 hb0.1 (by omega) S tk k
  have w3 := walk_ok b hvb (bindsR r ns) hb0.1
  obtain ⟨T1, hT1⟩ : ∃ T1, T1 = walkR b (bindsR r ns) := ⟨_, rfl⟩
  rw [← hT1] at f3 w3 ⊢
  have hgs : ∀ i, ((ns.take i).foldl (backB r.gone) T1.gone).length ≤ 30000 := fun i => by
    have h := ok_backs (U := U) hok.2 (ns.take i) T1.gone w3.1
    have := sub_len (inc_nodup h.1) h.2
    omega
  have hbr : branchR r T1 ns = ⟨r.cells, ns.foldl (backB r.gone) T1.gone, T1.bad⟩ := rfl
  rw [hbr]
  have lr := ok_len hok
  have hnl : (ns.map strC).length = ns.length := List.length_map ..
  obtain ⟨bo, bs, bn, bk, bp, ba, bt⟩ := b
  simp only [exprC, stC] at f3
  obtain ⟨AC, hAC⟩ : ∃ AC : List AV, AC = [.prim (.string c), .frz (ns.map strC) .unk, .prim (.int .i64 bo), .prim (.string bs), .prim (.int .i64 bn), .frz (exprsC bk) .unk, .frz (bp.map paramC) .unk, .frz (altsC ba) .unk, .frz (typesC bt) .unk] := ⟨_, rfl⟩
  clear hwb hgb hvb hsb hT1 hok hb0 w3 hbr
  refine opP Tryz.func73 Tryz.ntmps73 ?_
  simp (maxSteps := 10^6) +contextual (disch := try exact dqd) only [ev0, simprocAttr, AV.int, AV.bool, AV.str, Tryz.results73, altC, strsA, exprC, stC, hnl]
  rw [← hAC]
  refine loop1 (P := Tryz.prog) (fun x st => st.T.length = 56 ∧ (x ≤ ns.length) ∧ getT st.T 2 = .ref 0 0 0 ∧ getT st.T 3 = .ref 1 1 0 ∧ getT st.T 4 = .ref 2 2 0 ∧ getT st.T 5 = .ref 3 3 0 ∧ getT st.T 14 = .frz (ns.map strC) .unk ∧ getT st.T 15 = .int (ns.length : Nat) ∧ getT st.T 16 = .int (x : Nat) ∧ st.S = [⟨0, AC⟩, ⟨1, stC .unk .unk r⟩, ⟨2, [.frz [] .nilc, .frz [] .nilc, .prim (.bool false)]⟩, ⟨3, stC .unk .unk (bindsR r (ns.take x))⟩]) (fun x => ns.length - x) (fun x => .agg (stC .unk .unk ⟨r.cells, ns.foldl (backB r.gone) T1.gone, T1.bad⟩)) (0) ?_ ?_
  case refine_2 => exact ⟨rfl, Nat.zero_le _, rfl, rfl, rfl, rfl, rfl, rfl, rfl, rfl⟩
  rintro i ⟨T, S', tk', n'⟩ ⟨hl, hi, e2, e3, e4, e5, e14, e15, e16, eS⟩ IH
  subst eS
  obtain ⟨g, hg, hT⟩ := tab_of hl
  rw [hg] at e2 e3 e4 e5 e14 e15 e16
  subst hT
  clear hg hl
  by_cases la : i < ns.length
  · have d1 : decide ((i : Int) < (ns.length : Int)) = true := by simpa using la
    obtain ⟨x, hx⟩ := nth_some la
    have hx' := nth_strs hx
    simp only [strC] at hx'
    have hw := wrap_add (i := i) (by omega)
    have h5 := (hbs i).2
    have h6 := ok_len (hbs i).1
    have f1 := fun c1 c2 S tk k => R28_bind S tk k (bindsR r (ns.take i)) x false c1 c2 (by omega) (by omega)
    rw [← binds_take hx r] at f1
    simp only [stC] at f1
    subst hAC
    simp (maxSteps := 10^6) +contextual (disch := try exact dqd) only [ev0, simprocAttr, AV.int, AV.bool, AV.str, Tryz.results73, e2, e3, e4, e5, e14, e15, e16, d1, hnl, hx', hw, stC, f1]
    exact IH ((i + 1)) _ (by first | omega | (simp only; omega)) ⟨rfl, la, rfl, rfl, rfl, rfl, rfl, rfl, rfl, rfl⟩
  have d1 : decide ((i : Int) < (ns.length : Int)) = false := by simpa using la
  clear IH
  rw [List.take_of_length_le (by omega : ns.length ≤ i)]
  subst hAC
  simp (maxSteps := 10^6) +contextual (disch := try exact dqd) only [ev0, simprocAttr, AV.int, AV.bool, AV.str, Tryz.results73, e2, e3, e4, e5, e14, e15, e16, d1, hnl, stC, f3]
  generalize hAC : [AV.prim (.string c), .frz (ns.map strC) .unk, .prim (.int .i64 bo), .prim (.string bs), .prim (.int .i64 bn), .frz (exprsC bk) .unk, .frz (bp.map paramC) .unk, .frz (altsC ba) .unk, .frz (typesC bt) .unk] = AC
  generalize n' = nn
  clear e2 e3 e4 e5 e14 e15 e16 d1 la hi f3
  refine loop1 (P := Tryz.prog) (fun x st => st.T.length = 56 ∧ (x.1 ≤ ns.length) ∧ (x.2.1 = ((ns.take x.1).foldl (backB r.gone) T1.gone).map strC) ∧ getT st.T 2 = .ref 0 0 0 ∧ getT st.T 3 = .ref 1 1 0 ∧ getT st.T 4 = .ref 2 2 0 ∧ getT st.T 8 = .ref 4 nn 0 ∧ getT st.T 9 = .frz x.2.1 x.2.2 ∧ getT st.T 31 = .frz (ns.map strC) .unk ∧ getT st.T 32 = .int (ns.length : Nat) ∧ getT st.T 33 = .int (x.1 : Nat) ∧ st.S = [⟨0, AC⟩, ⟨1, stC .unk .unk r⟩, ⟨2, [.frz [] .nilc, .frz [] .nilc, .prim (.bool false)]⟩, ⟨3, stC .unk .unk (bindsR r ns)⟩, ⟨nn, stC .unk .unk T1⟩]) (fun x => ns.length - x.1) (fun x => .agg (stC .unk .unk ⟨r.cells, ns.foldl (backB r.gone) T1.gone, T1.bad⟩)) (0, T1.gone.map strC, Cap.unk) ?_ ?_
  case refine_2 => exact ⟨rfl, Nat.zero_le _, rfl, rfl, rfl, rfl, rfl, rfl, rfl, rfl, rfl, rfl⟩
  rintro ⟨i, G, cg⟩ ⟨T, S', tk', n'⟩ ⟨hl, hi, hG, e2, e3, e4, e8, e9, e31, e32, e33, eS⟩ IH
  simp only at hi hG e2 e3 e4 e8 e9 e31 e32 e33 eS
  subst eS
  obtain ⟨g, hg, hT⟩ := tab_of hl
  rw [hg] at e2 e3 e4 e8 e9 e31 e32 e33
  subst hT
  clear hg hl
  by_cases la : i < ns.length
  · have d1 : decide ((i : Int) < (ns.length : Int)) = true := by simpa using la
    obtain ⟨x, hx⟩ := nth_some la
    have hx' := nth_strs hx
    simp only [strC] at hx'
    have hw := wrap_add (i := i) (by omega)
    have h5 := hgs i
    obtain ⟨gi, hgi⟩ : ∃ gi, gi = (ns.take i).foldl (backB r.gone) T1.gone := ⟨_, rfl⟩
    have hst := backs_take hx r.gone T1.gone
    rw [← hgi] at hst hG h5
    subst hG
    have f1 := fun c S tk k => R28_without S tk k gi x c (by omega)
    have f2 := R04_FindC r.gone .unk x (by omega)
    have hnn := findF_nn r.gone 0 x
    have hdl := delB_len gi x
    have f4 := fun c c2 S tk k => R04_Union S tk k (delB gi x) [x] c c2 (by simp; omega)
    simp only [List.map_cons, List.map_nil, strC, strsA] at f4
    subst hAC
    cases q : memB r.gone x
    · rw [q] at hnn
      have hb : backB r.gone gi x = delB gi x := if_neg (by rw [q]; decide)
      rw [hb] at hst
      simp (maxSteps := 10^6) +contextual (disch := try exact dqd) only [ev0, simprocAttr, AV.int, AV.bool, AV.str, Tryz.results73, e2, e3, e4, e8, e9, e31, e32, e33, d1, hnl, hx', hw, stC, f1, f2, hnn]
      exact IH ((i + 1, _, _)) _ (by first | omega | (simp only; omega)) ⟨rfl, la, congrArg (List.map strC) hst.symm, rfl, rfl, rfl, rfl, rfl, rfl, rfl, rfl, rfl⟩
    · rw [q] at hnn
      have hb : backB r.gone gi x = uniS (delB gi x ++ [x]) := if_pos q
      rw [hb] at hst
      simp (maxSteps := 10^6) +contextual (disch := try exact dqd) only [ev0, simprocAttr, AV.int, AV.bool, AV.str, Tryz.results73, e2, e3, e4, e8, e9, e31, e32, e33, d1, hnl, hx', hw, stC, f1, f2, hnn, f4]
      exact IH ((i + 1, _, _)) _ (by first | omega | (simp only; omega)) ⟨rfl, la, congrArg (List.map strC) hst.symm, rfl, rfl, rfl, rfl, rfl, rfl, rfl, rfl, rfl⟩
  have d1 : decide ((i : Int) < (ns.length : Int)) = false := by simpa using la
  rw [List.take_of_length_le (by omega)] at hG
  subst hG hAC
  simp (maxSteps := 10^6) +contextual (disch := try exact dqd) only [ev0, simprocAttr, AV.int, AV.bool, AV.str, Tryz.results73, e2, e3, e4, e8, e9, e31, e32, e33, d1, hnl, stC]
  done
end
end Go.Proofs.YtmkoiandfojgmaaGreat
namespace Go.Proofs.YtmkoiandfojgmaaGreat
open Go
theorem own_take {ps : List (ByteArray × TT)} {i : Nat} {p : ByteArray × TT} (h : nth ps i = some p) : ownR (ps.take (i + 1)) = bindR (ownR (ps.take i)) p.1 (isCell p.2) := by
  unfold ownR
  rw [take_mapS h, List.foldl_append]; rfl
theorem own_ok {U : List ByteArray} (ps : List (ByteArray × TT)) : Ok U (ownR ps) ∧ (ownR ps).cells.length ≤ ps.length := by
  have key : ∀ (l : List (ByteArray × TT)) (r : RT), Ok U r → Ok U (l.foldl (fun r p => bindR r p.1 (isCell p.2)) r) ∧ (l.foldl (fun r p => bindR r p.1 (isCell p.2)) r).cells.length ≤ r.cells.length + l.length := by
    intro l
    induction l with
    | nil => intro r h; exact ⟨h, by simp⟩
    | cons p l ih =>
      intro r h
      have h1 := ih _ (ok_bind (n := p.1) (c := isCell p.2) h)
      have h2 := bind_cells r p.1 (isCell p.2)
      have h3 : (bindR r p.1 (isCell p.2)).cells.length ≤ r.cells.length + 1 := by split at h2 <;> omega
      exact ⟨h1.1, by have := h1.2; simp only [List.foldl_cons, List.length_cons]; omega⟩
  have := key ps ⟨[], [], false⟩ ⟨by simp [Inc], by simp⟩
  exact ⟨this.1, Nat.le_trans this.2 (by simp)⟩
section
variable [Depth]
set_option maxRecDepth 100000 in
set_option maxHeartbeats 4000000 in
theorem R28_lam {U : List ByteArray} (hU : U.length ≤ 30000) (o : Int) (s : ByteArray) (n : Int) (ks : List XT) (ps : List (ByteArray × TT)) (al : List LT) (ts : List TT)
    (hg : goodX (.node o s n ks ps al ts)) (hv : ∀ x ∈ allVs ks, x ∈ U) (hsz : szX (.node o s n ks ps al ts) ≤ 1000000) (hnd : nodesX (.node o s n ks ps al ts) ≤ 80000) (hwk : ∀ q ∈ ks, WalkC U q)
    (r : RT) (c1 c2 : Cap) (hok : Ok U r) (hn : r.cells.length ≤ 90000) (S : List Ent) (tk : List Nat) (k : Nat) :
    cL Tryz.prog 70 [.agg (exprC (.node o s n ks ps al ts)), .agg (stC c1 c2 r)] S tk k = some (.agg (stC .unk .unk ⟨r.cells, r.gone, (r.bad || (varX (.node o s n ks ps al ts) []).any (memB r.cells)) || (walksR ks (ownR ps)).bad⟩), S, tk, k) := by
  have fv := VarC_all _ hg [] .nilc (by simp only [List.length_nil]; omega) (by omega)
  have lv := varX_len (.node o s n ks ps al ts) []
  obtain ⟨L, hL⟩ : ∃ L, L = varX (.node o s n ks ps al ts) [] := ⟨_, rfl⟩
  rw [← hL] at fv lv ⊢
  have hg0 := hg
  simp only [goodX] at hg
  obtain ⟨hG, hGk, -⟩ := hg
  have hpr := hG.prs
  simp only [szX] at hsz
  simp only [nodesX] at hnd lv
  have hkd := hG.kds
  have lr := ok_len hok
  have hnl : (L.map strC).length = L.length := List.length_map ..
  have hpl : (ps.map paramC).length = ps.length := List.length_map ..
  simp only [exprC, List.map_nil] at fv
  obtain ⟨DC, hDC⟩ : ∃ DC : List AV, DC = [.prim (.int .i64 o), .prim (.string s), .prim (.int .i64 n), .frz (exprsC ks) .unk, .frz (ps.map paramC) .unk, .frz (altsC al) .unk, .frz (typesC ts) .unk] := ⟨_, rfl⟩
  refine opP Tryz.func70 Tryz.ntmps70 ?_
  simp (maxSteps := 10^6) +contextual (disch := try exact dqd) only [ev0, simprocAttr, AV.int, AV.bool, AV.str, Tryz.results70, exprC, stC, fv, hnl]
  rw [← hDC]
  refine loop1 (P := Tryz.prog) (fun x st => st.T.length = 62 ∧ (x.1 ≤ L.length) ∧ (x.2 = (r.bad || (L.take x.1).any (memB r.cells))) ∧ getT st.T 2 = .ref 0 0 0 ∧ getT st.T 3 = .ref 1 1 0 ∧ getT st.T 4 = .ref 2 2 0 ∧ getT st.T 13 = .frz (L.map strC) .unk ∧ getT st.T 14 = .int (L.length : Nat) ∧ getT st.T 15 = .int (x.1 : Nat) ∧ st.S = [⟨0, DC⟩, ⟨1, [.frz (r.cells.map strC) .unk, .frz (r.gone.map strC) .unk, .prim (.bool x.2)]⟩, ⟨2, [.frz [] .nilc, .frz [] .nilc, .prim (.bool false)]⟩]) (fun x => L.length - x.1) (fun x => .agg (stC .unk .unk ⟨r.cells, r.gone, (r.bad || L.any (memB r.cells)) || (walksR ks (ownR ps)).bad⟩)) (0, r.bad) ?_ ?_
  case refine_2 => exact ⟨rfl, Nat.zero_le _, by simp, rfl, rfl, rfl, rfl, rfl, rfl, rfl⟩
  rintro ⟨i, b⟩ ⟨T, S', tk', n'⟩ ⟨hl, hi, hb, e2, e3, e4, e13, e14, e15, eS⟩ IH
  simp only at hi hb e2 e3 e4 e13 e14 e15 eS
  subst eS
  obtain ⟨g, hg, hT⟩ := tab_of hl
  rw [hg] at e2 e3 e4 e13 e14 e15
  subst hT
  clear hg hl
  by_cases la : i < L.length
  · have d1 : decide ((i : Int) < (L.length : Int)) = true := by simpa using la
    obtain ⟨x, hx⟩ := nth_some la
    have hx' := nth_strs hx
    simp only [strC] at hx'
    have hw := wrap_add (i := i) (by omega)
    have f2 := R04_FindC r.cells .unk x (by omega)
    have hnn := findF_nn r.cells 0 x
    have hst : (L.take (i + 1)).any (memB r.cells) = ((L.take i).any (memB r.cells) || memB r.cells x) := by rw [take_mapS hx, List.any_append]; simp
    cases q : memB r.cells x
    · rw [q] at hnn hst
      rw [Bool.or_false] at hst
      rw [← hst] at hb
      simp (maxSteps := 10^6) +contextual (disch := try exact dqd) only [ev0, simprocAttr, AV.int, AV.bool, AV.str, Tryz.results70, e2, e3, e4, e13, e14, e15, d1, hnl, hx', hw, f2, hnn]
      exact IH ((i + 1, _)) _ (by first | omega | (simp only; omega)) ⟨rfl, la, hb, rfl, rfl, rfl, rfl, rfl, rfl, rfl⟩
    · rw [q] at hnn hst
      rw [Bool.or_true] at hst
      have hbt : (r.bad || (L.take (i + 1)).any (memB r.cells)) = true := by rw [hst, Bool.or_true]
      simp (maxSteps := 10^6) +contextual (disch := try exact dqd) only [ev0, simprocAttr, AV.int, AV.bool, AV.str, Tryz.results70, e2, e3, e4, e13, e14, e15, d1, hnl, hx', hw, f2, hnn]
      exact IH ((i + 1, _)) _ (by first | omega | (simp only; omega)) ⟨rfl, la, hbt.symm, rfl, rfl, rfl, rfl, rfl, rfl, rfl⟩
  have d1 : decide ((i : Int) < (L.length : Int)) = false := by simpa using la
  clear IH
  rw [List.take_of_length_le (by omega : L.length ≤ i)] at hb
  generalize (r.bad || L.any (memB r.cells)) = b0 at hb ⊢
  replace hb := hb.symm
  subst hb
  subst hDC
  simp (maxSteps := 10^6) +contextual (disch := try exact dqd) only [ev0, simprocAttr, AV.int, AV.bool, AV.str, Tryz.results70, e2, e3, e4, e13, e14, e15, d1, hnl, hpl]
  generalize hDC : [AV.prim (.int .i64 o), .prim (.string s), .prim (.int .i64 n), .frz (exprsC ks) .unk, .frz (ps.map paramC) .unk, .frz (altsC al) .unk, .frz (typesC ts) .unk] = DC
  generalize n' = nn
  clear e2 e3 e4 e13 e14 e15 d1 la hi fv
  refine loop1 (P := Tryz.prog) (fun x st => st.T.length = 62 ∧ (x.1 ≤ ps.length) ∧ getT st.T 2 = .ref 0 0 0 ∧ getT st.T 3 = .ref 1 1 0 ∧ getT st.T 4 = .ref 2 2 0 ∧ getT st.T 7 = .ref 3 nn 0 ∧ getT st.T 28 = .frz (ps.map paramC) .unk ∧ getT st.T 29 = .int (ps.length : Nat) ∧ getT st.T 30 = .int (x.1 : Nat) ∧ st.S = [⟨0, DC⟩, ⟨1, [.frz (r.cells.map strC) .unk, .frz (r.gone.map strC) .unk, .prim (.bool b0)]⟩, ⟨2, [.frz [] .nilc, .frz [] .nilc, .prim (.bool false)]⟩, ⟨nn, stC x.2.1 x.2.2 (ownR (ps.take x.1))⟩]) (fun x => ps.length - x.1) (fun x => .agg (stC .unk .unk ⟨r.cells, r.gone, b0 || (walksR ks (ownR ps)).bad⟩)) (0, Cap.nilc, Cap.nilc) ?_ ?_
  case refine_2 => exact ⟨rfl, Nat.zero_le _, rfl, rfl, rfl, rfl, rfl, rfl, rfl, rfl⟩
  rintro ⟨i, ca, cb⟩ ⟨T, S', tk', n'⟩ ⟨hl, hi, e2, e3, e4, e7, e28, e29, e30, eS⟩ IH
  simp only at hi e2 e3 e4 e7 e28 e29 e30 eS
  subst eS
  obtain ⟨g, hg, hT⟩ := tab_of hl
  rw [hg] at e2 e3 e4 e7 e28 e29 e30
  subst hT
  clear hg hl
  by_cases la : i < ps.length
  · have d1 : decide ((i : Int) < (ps.length : Int)) = true := by simpa using la
    obtain ⟨p, hp⟩ := nth_some la
    have hp' := nth_params hp
    have hw := wrap_add (i := i) (by omega)
    have ho := own_ok (U := U) (ps.take i)
    have h1 := ok_len ho.1
    have h2 := ho.2
    have h3 : (ps.take i).length ≤ ps.length := by rw [List.length_take]; omega
    have f1 := fun c1 c2 S tk k => R28_bind S tk k (ownR (ps.take i)) p.1 (isCell p.2) c1 c2 (by omega) (by omega)
    rw [← own_take hp] at f1
    obtain ⟨nm, o', s', a', ns', ⟨po, pn, pv, pk⟩, pp⟩ := p
    simp only [paramC, typeC, predC, strsA, List.cons_append, List.nil_append] at hp'
    simp only [stC, isCell, TT.op] at f1
    subst hDC
    simp (maxSteps := 10^6) +contextual (disch := try exact dqd) only [ev0, simprocAttr, AV.int, AV.bool, AV.str, Tryz.results70, e2, e3, e4, e7, e28, e29, e30, d1, hpl, hp', hw, stC, f1]
    exact IH ((i + 1, _, _)) _ (by first | omega | (simp only; omega)) ⟨rfl, la, rfl, rfl, rfl, rfl, rfl, rfl, rfl, rfl⟩
  have d1 : decide ((i : Int) < (ps.length : Int)) = false := by simpa using la
  clear IH
  rw [List.take_of_length_le (by omega : ps.length ≤ i)]
  subst hDC
  simp (maxSteps := 10^6) +contextual (disch := try exact dqd) only [ev0, simprocAttr, AV.int, AV.bool, AV.str, Tryz.results70, e2, e3, e4, e7, e28, e29, e30, d1, hpl, stC, exprsC_len]
  generalize hDC : [AV.prim (.int .i64 o), .prim (.string s), .prim (.int .i64 n), .frz (exprsC ks) .unk, .frz (ps.map paramC) .unk, .frz (altsC al) .unk, .frz (typesC ts) .unk] = DC
  clear e2 e3 e4 e7 e28 e29 e30 d1 la hi
  refine loop1 (P := Tryz.prog) (fun x st => st.T.length = 62 ∧ (x.1 ≤ ks.length) ∧ getT st.T 2 = .ref 0 0 0 ∧ getT st.T 3 = .ref 1 1 0 ∧ getT st.T 4 = .ref 2 2 0 ∧ getT st.T 7 = .ref 3 nn 0 ∧ getT st.T 44 = .frz (exprsC ks) .unk ∧ getT st.T 45 = .int (ks.length : Nat) ∧ getT st.T 46 = .int (x.1 : Nat) ∧ st.S = [⟨0, DC⟩, ⟨1, [.frz (r.cells.map strC) .unk, .frz (r.gone.map strC) .unk, .prim (.bool b0)]⟩, ⟨2, [.frz [] .nilc, .frz [] .nilc, .prim (.bool false)]⟩, ⟨nn, stC x.2.1 x.2.2 (walksR (ks.take x.1) (ownR ps))⟩]) (fun x => ks.length - x.1) (fun x => .agg (stC .unk .unk ⟨r.cells, r.gone, b0 || (walksR ks (ownR ps)).bad⟩)) (0, ca, cb) ?_ ?_
  case refine_2 => exact ⟨rfl, Nat.zero_le _, rfl, rfl, rfl, rfl, rfl, rfl, rfl, rfl⟩
  rintro ⟨i, cc, cd⟩ ⟨T, S', tk', n'⟩ ⟨hl, hi, e2, e3, e4, e7, e44, e45, e46, eS⟩ IH
  simp only at hi e2 e3 e4 e7 e44 e45 e46 eS
  subst eS
  obtain ⟨g, hg, hT⟩ := tab_of hl
  rw [hg] at e2 e3 e4 e7 e44 e45 e46
  subst hT
  clear hg hl
  by_cases la : i < ks.length
  · have d1 : decide ((i : Int) < (ks.length : Int)) = true := by simpa using la
    obtain ⟨q, hq⟩ := nth_some la
    have hq' := nth_exprs hq
    have hqm := nth_memU hq
    have hszq := szXs_mem hqm
    have hndq := nodesXs_mem hqm
    have hgq := goodXs_mem hGk hqm
    have hw := wrap_add (i := i) (by omega)
    have ho := own_ok (U := U) ps
    have hws := walks_ok (U := U) (ks.take i) (fun x hx => hv x (allVs_take hx)) (ownR ps) ho.1
    have hcl := congrArg List.length hws.2
    have f1 := fun c1 c2 => hwk q hqm hgq (fun x hx => hv x (allVs_mem hqm hx)) (by omega) (by omega) (walksR (ks.take i) (ownR ps)) c1 c2 hws.1 (by have := ho.2; omega)
    rw [← walksR_take hq] at f1
    obtain ⟨qo, qs, qn, qk, qp, qa, qt⟩ := q
    simp only [exprC] at hq'
    simp only [exprC, stC] at f1
    subst hDC
    simp (maxSteps := 10^6) +contextual (disch := try exact dqd) only [ev0, simprocAttr, AV.int, AV.bool, AV.str, Tryz.results70, e2, e3, e4, e7, e44, e45, e46, d1, exprsC_len, hq', hw, stC, f1]
    exact IH ((i + 1, _, _)) _ (by first | omega | (simp only; omega)) ⟨rfl, la, rfl, rfl, rfl, rfl, rfl, rfl, rfl, rfl⟩
  have d1 : decide ((i : Int) < (ks.length : Int)) = false := by simpa using la
  clear IH
  rw [List.take_of_length_le (by omega : ks.length ≤ i)]
  subst hDC
  generalize (walksR ks (ownR ps)) = W
  obtain ⟨w1, w2, wb⟩ := W
  cases b0
  · simp (maxSteps := 10^6) +contextual (disch := try exact dqd) only [ev0, simprocAttr, AV.int, AV.bool, AV.str, Tryz.results70, e2, e3, e4, e7, e44, e45, e46, d1, exprsC_len, stC]
    try simp
  · simp (maxSteps := 10^6) +contextual (disch := try exact dqd) only [ev0, simprocAttr, AV.int, AV.bool, AV.str, Tryz.results70, e2, e3, e4, e7, e44, e45, e46, d1, exprsC_len, stC]
    try simp
end
end Go.Proofs.YtmkoiandfojgmaaGreat
