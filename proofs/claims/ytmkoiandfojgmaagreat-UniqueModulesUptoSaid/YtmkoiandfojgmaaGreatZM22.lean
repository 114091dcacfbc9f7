/-
  Texts laid together: UR11, UR12, UR15, UA3, UN.
-/
import Derived.Test.YtmkoiandfojgmaaGreatZM21
import Derived.Test.YtmkoiandfojgmaaGreatZM20
import Derived.Test.YtmkoiandfojgmaaGreatZM12
import Derived.Test.YtmkoiandfojgmaaGreatZM13
import Derived.Test.YtmkoiandfojgmaaGreatZM14
import Derived.Test.YtmkoiandfojgmaaGreatZM18
import Derived.Test.YtmkoiandfojgmaaGreatZM19
import Derived.Test.YtmkoiandfojgmaaGreatZM11
namespace Go.Proofs.YtmkoiandfojgmaaGreat
open Go
def IsA (R : List AV) (r : Rs) : Prop := r.1 = .agg R
theorem IsA_of {R L : List AV} {x : List Ent × List Nat × Nat} : IsA R (.agg L, x) ↔ L = R := by simp [IsA]
theorem goodLs_memU : ∀ {al : List LT} {c : ByteArray} {ns : List ByteArray} {b : XT}, goodLs al → LT.mk c ns b ∈ al → goodX b
  | .mk _ _ _ :: al, c, ns, b, hg, h => by
    simp only [goodLs] at hg
    rcases List.mem_cons.1 h with e | h
    · injection e with e1 e2 e3; rw [e3]; exact hg.1
    · exact goodLs_memU hg.2 h
theorem allVa_take {x : ByteArray} : ∀ {al : List LT} {i : Nat}, x ∈ allVa (al.take i) → x ∈ allVa al
  | [], i, h => by simp [allVa] at h
  | k :: ks, 0, h => by simp [allVa] at h
  | .mk _ _ _ :: ks, i + 1, h => by
    simp only [List.take_succ_cons, allVa] at h ⊢
    rcases List.mem_append.1 h with h | h
    · exact List.mem_append.2 (.inl h)
    · exact List.mem_append.2 (.inr (allVa_take h))
theorem nodes_two {ks : List XT} {a b : XT} (hl : ks.length = 2) (ha : nth ks 0 = some a) (hb : nth ks 1 = some b) : nodesXs ks = nodesX a + nodesX b := by
  match ks, hl with
  | [x, y], _ =>
    simp only [nth, Option.some.injEq] at ha hb
    rw [ha, hb]; simp [nodesXs]
section
variable [Depth]
set_option maxRecDepth 100000 in
set_option maxHeartbeats 4000000 in
theorem WalkC_step {U : List ByteArray} (hU : U.length ≤ 30000) (o : Int) (s : ByteArray) (n : Int) (ks : List XT) (ps : List (ByteArray × TT)) (al : List LT) (ts : List TT) (ihk : ∀ q ∈ ks, WalkC U q) (iha : ∀ c ns b, LT.mk c ns b ∈ al → WalkC U b) : WalkC U (.node o s n ks ps al ts) := by
  intro hg hv hsz hnd r c1 c2 hok hn S tk k
  have hg0 := hg
  have hsz0 := hsz
  have hnd0 := hnd
  simp only [goodX] at hg
  obtain ⟨hG, hGk, hGa⟩ := hg
  simp only [szX] at hsz
  simp only [nodesX] at hnd hn
  have hks := hG.kds
  have hals := hG.als
  simp only [allV] at hv
  have hvk : ∀ x ∈ allVs ks, x ∈ U := fun x hx => hv x (by simp [hx])
  have hva : ∀ x ∈ allVa al, x ∈ U := fun x hx => hv x (by simp [hx])
  have hvs : o = 3 → s ∈ U := fun h => hv s (by simp [h])
  have lr := ok_len hok
  obtain ⟨R, hR⟩ : ∃ R, R = walkR (.node o s n ks ps al ts) r := ⟨_, rfl⟩
  rw [← hR]
  have hR0 := hR
  simp only [walkR] at hR
  have hpl : (ps.map paramC).length = ps.length := List.length_map ..
  have hkid : ∀ (q : XT), q ∈ ks → ∀ (r' : RT) (c1 c2 : Cap), Ok U r' → r'.cells = r.cells → ∀ S tk k, cL Tryz.prog 47 [.agg (exprC q), .agg (stC c1 c2 r')] S tk k = some (.agg (stC .unk .unk (walkR q r')), S, tk, k) := by
    intro q hqm r' c1 c2 hok' hce
    have hszq := szXs_mem hqm
    have hndq := nodesXs_mem hqm
    exact ihk q hqm (goodXs_mem hGk hqm) (fun x hx => hvk x (allVs_mem hqm hx)) (by omega) (by omega) r' c1 c2 hok' (by rw [hce]; omega)
  have hwks : ∀ i, Ok U (walksR (ks.take i) r) ∧ (walksR (ks.take i) r).cells = r.cells := fun i => walks_ok (ks.take i) (fun x hx => hvk x (allVs_take hx)) r hok
  obtain ⟨DC, hDC⟩ : ∃ DC : List AV, DC = [.prim (.int .i64 o), .prim (.string s), .prim (.int .i64 n), .frz (exprsC ks) .unk, .frz (ps.map paramC) .unk, .frz (altsC al) .unk, .frz (typesC ts) .unk] := ⟨_, rfl⟩
  obtain ⟨Z, hZ⟩ : ∃ Z : List AV, Z = [.frz [] .nilc, .frz [] .nilc, .prim (.bool false)] := ⟨_, rfl⟩
  have loop3 : ∀ (T : List AV) (tk2 : List Nat) (k2 : Nat), T.length = 116 → getT T 2 = .ref 0 0 0 → getT T 3 = .ref 1 1 0 → getT T 4 = .ref 2 2 0 → getT T 105 = .frz (exprsC ks) .unk → getT T 106 = .int (ks.length : Nat) → getT T 107 = .int (0 : Nat) → R = walksR ks r →
      Gd finE (IsA (stC .unk .unk R)) (KA Tryz.prog Tryz.f47 29 [] ⟨T, [⟨0, DC⟩, ⟨1, stC .unk .unk r⟩, ⟨2, Z⟩], tk2, k2⟩) := by
    intro T tk2 k2 hT h2 h3 h4 h105 h106 h107 hA
    refine KA_of rfl (t := .mk) ?_
    refine loopG (P := Tryz.prog) (fun x st => st.T.length = 116 ∧ (x.1 ≤ ks.length) ∧ (x.2 = walksR (ks.take x.1) r) ∧ getT st.T 2 = .ref 0 0 0 ∧ getT st.T 3 = .ref 1 1 0 ∧ getT st.T 4 = .ref 2 2 0 ∧ getT st.T 105 = .frz (exprsC ks) .unk ∧ getT st.T 106 = .int (ks.length : Nat) ∧ getT st.T 107 = .int (x.1 : Nat) ∧ st.S = [⟨0, DC⟩, ⟨1, stC .unk .unk x.2⟩, ⟨2, Z⟩]) (fun x => ks.length - x.1) ((0 : Nat), r) ?_ ?_
    case refine_2 => exact ⟨(by first | rfl | assumption), Nat.zero_le _, by simp [walksR], (by first | rfl | assumption), (by first | rfl | assumption), (by first | rfl | assumption), (by first | rfl | assumption), (by first | rfl | assumption), (by first | rfl | assumption), (by first | rfl | assumption)⟩
    rintro ⟨i, w⟩ ⟨T, S', tk', n'⟩ ⟨hl, hi, hw0, e2, e3, e4, e105, e106, e107, eS⟩ IH
    simp only at hi hw0 e2 e3 e4 e105 e106 e107 eS
    subst eS
    obtain ⟨g, hg, hT⟩ := tab_of hl
    rw [hg] at e2 e3 e4 e105 e106 e107
    subst hT
    clear hg hl
    by_cases la : i < ks.length
    · have d1 : decide ((i : Int) < (ks.length : Int)) = true := by simpa using la
      obtain ⟨q, hq⟩ := nth_some la
      have hq' := nth_exprs hq
      have hw := wrap_add (i := i) (by omega)
      have hwi := hwks i
      rw [← hw0] at hwi
      have f1 := fun c1 c2 => hkid q (nth_memU hq) w c1 c2 hwi.1 hwi.2
      have hst := walksR_take hq r
      rw [← hw0] at hst
      rw [← hst] at f1
      obtain ⟨qo, qs, qn, qk, qp, qa, qt⟩ := q
      simp only [exprC] at hq'
      simp only [exprC, stC] at f1
      subst hDC hZ
      simp (maxSteps := 10^6) +contextual (disch := try exact dqd) only [ev0, simprocAttr, AV.int, AV.bool, AV.str, Tryz.results47, gE, e2, e3, e4, e105, e106, e107, d1, exprsC_len, hq', hw, stC, f1]
      exact IH ((i + 1, _)) _ (by first | omega | (simp only; omega)) ⟨rfl, la, rfl, rfl, rfl, rfl, rfl, rfl, rfl, rfl⟩
    · have d1 : decide ((i : Int) < (ks.length : Int)) = false := by simpa using la
      rw [List.take_of_length_le (by omega), ← hA] at hw0
      subst hw0
      subst hDC hZ
      simp (maxSteps := 10^6) +contextual (disch := try exact dqd) only [ev0, simprocAttr, AV.int, AV.bool, AV.str, Tryz.results47, gE, e2, e3, e4, e105, e106, e107, d1, exprsC_len, stC]
      simp only [IsA]
      try rfl
  have key : ∃ v, (∀ S tk kk, cL Tryz.prog 47 [.agg (exprC (.node o s n ks ps al ts)), .agg (stC c1 c2 r)] S tk kk = some (v, S, tk, kk)) ∧ IsA (stC .unk .unk R) (v, [], [], 0) := by
    refine opE Tryz.func47 Tryz.ntmps47 (fun v h => by rw [h]; rfl) ?_
    by_cases h3 : o = 3
    · have f1 := fun c1 c2 S tk k => R28_use S tk k r s true c1 c2 (by omega) (by omega)
      rw [if_pos h3] at hR
      rw [← hR] at f1
      simp only [stC] at f1
      subst h3
      simp (maxSteps := 10^6) +contextual (disch := try exact dqd) only [ev0, simprocAttr, AV.int, AV.bool, AV.str, Tryz.results47, gE, exprC, stC, f1]
      simp only [IsA]
      try rfl
    rw [if_neg h3] at hR
    have d3 : (o == 3) = false := by simpa using h3
    by_cases h23 : o = 23
    · have hl1 := hG.get h23
      obtain ⟨q, hq⟩ := nth_some (show 0 < ks.length by omega)
      have hq' := nth_exprs hq
      have hks1 : ks = [q] := by
        match ks, hl1 with
        | [x], _ => simp only [nth, Option.some.injEq] at hq; rw [hq]
      have hlk : ((ks.length : Int) == 1) = true := by rw [hl1]; rfl
      have dlt : decide ((0 : Int) < (ks.length : Int)) = true := by rw [hl1]; rfl
      have i0 : intN (.prim (.int .i64 0)) = some 0 := rfl
      by_cases hqo : q.op = 3
      · have hgn : getN o ks = some q.name := by rw [hks1, h23]; simp only [getN]; rw [if_pos ⟨trivial, hqo⟩]
        rw [hgn] at hR
        simp only at hR
        have f1 := fun c1 c2 S tk k => R28_use S tk k r q.name false c1 c2 (by omega) (by omega)
        rw [← hR] at f1
        simp only [stC] at f1
        clear hgn hks1 hR0
        subst h23
        obtain ⟨qo, qs, qn, qk, qp, qa, qt⟩ := q
        simp only [XT.op] at hqo
        subst hqo
        simp only [exprC] at hq'
        simp only [XT.name] at f1
        simp (maxSteps := 10^6) +contextual (disch := try exact dqd) only [ev0, simprocAttr, AV.int, AV.bool, AV.str, Tryz.results47, gE, exprC, stC, exprsC_len, hlk, hq', i0, dlt, f1]
        simp only [IsA]
        try rfl
      · have hgn : getN o ks = none := by rw [hks1]; simp only [getN]; rw [if_neg (fun h => hqo h.2)]
        rw [hgn] at hR
        simp only at hR
        rw [if_neg (by omega), if_neg (by omega), if_neg (by omega), if_neg (by omega)] at hR
        clear hgn hks1 hR0
        subst h23
        obtain ⟨qo, qs, qn, qk, qp, qa, qt⟩ := q
        simp only [XT.op] at hqo
        have dq : (qo == 3) = false := by simpa using hqo
        simp only [exprC] at hq'
        simp (maxSteps := 10^6) +contextual (disch := try exact dqd) only [ev0, simprocAttr, AV.int, AV.bool, AV.str, Tryz.results47, gE, exprC, stC, exprsC_len, hlk, hq', i0, dlt, dq]
        rw [← hDC, ← hZ]
        exact of_KA rfl (loop3 _ _ _ rfl rfl rfl rfl rfl rfl rfl hR)
    have d23 : (o == 23) = false := by simpa using h23
    have hgn : getN o ks = none := by
      unfold getN
      split
      · rw [if_neg (fun h => h23 h.1)]
      · rfl
    rw [hgn] at hR
    simp only at hR
    clear hgn
    by_cases h6 : o = 6
    · rw [if_pos h6] at hR
      have f1 := fun c1 c2 => R28_lam hU o s n ks ps al ts hg0 hvk hsz0 hnd0 ihk r c1 c2 hok (by omega)
      rw [← hR] at f1
      simp only [exprC, stC] at f1
      clear hR hR0
      subst h6
      simp (maxSteps := 10^6) +contextual (disch := try exact dqd) only [ev0, simprocAttr, AV.int, AV.bool, AV.str, Tryz.results47, gE, exprC, stC, f1]
      simp only [IsA]
      try rfl
    rw [if_neg h6] at hR
    have d6 : (o == 6) = false := by simpa using h6
    by_cases h7 : o = 7
    · rw [if_pos h7] at hR
      have hl := hG.lets h7
      obtain ⟨a, ha⟩ := nth_some (show 0 < ks.length by omega)
      obtain ⟨b, hb⟩ := nth_some (show 1 < ks.length by omega)
      rw [walkAt_nth ha, walkAt_nth hb] at hR
      have ham := nth_memU ha
      have hbm := nth_memU hb
      have ab := nodes_two hl ha hb
      have f1 := fun c1 c2 => R28_let hU o s n ks ps al ts a b hl ha hb (ihk a ham) (ihk b hbm) (goodXs_mem hGk ham) (goodXs_mem hGk hbm) (fun x hx => hvk x (allVs_mem ham hx)) (fun x hx => hvk x (allVs_mem hbm hx)) (by have := szXs_mem ham; omega) (by have := szXs_mem hbm; omega) (by omega) (by omega) r c1 c2 hok (by omega)
      rw [← hR] at f1
      simp only [exprC, stC] at f1
      clear hR hR0
      subst h7
      simp (maxSteps := 10^6) +contextual (disch := try exact dqd) only [ev0, simprocAttr, AV.int, AV.bool, AV.str, Tryz.results47, gE, exprC, stC, f1]
      simp only [IsA]
      try rfl
    rw [if_neg h7] at hR
    have d7 : (o == 7) = false := by simpa using h7
    by_cases h8 : o = 8
    · rw [if_pos h8] at hR
      have hl := hG.ite h8
      obtain ⟨a, ha⟩ := nth_some (show 0 < ks.length by omega)
      obtain ⟨b, hb⟩ := nth_some (show 1 < ks.length by omega)
      obtain ⟨c, hc⟩ := nth_some (show 2 < ks.length by omega)
      rw [walkAt_nth ha, walkAt_nth hb, walkAt_nth hc] at hR
      have w0 := walk_ok a (fun x hx => hvk x (allVs_mem (nth_memU ha) hx)) r hok
      have f1 := fun c1 c2 => hkid a (nth_memU ha) r c1 c2 hok rfl
      obtain ⟨A, hA⟩ : ∃ A, A = walkR a r := ⟨_, rfl⟩
      rw [← hA] at hR w0 f1
      have w1 := walk_ok b (fun x hx => hvk x (allVs_mem (nth_memU hb) hx)) A w0.1
      have w2 := walk_ok c (fun x hx => hvk x (allVs_mem (nth_memU hc) hx)) A w0.1
      have f2 := fun c1 c2 => hkid b (nth_memU hb) A c1 c2 w0.1 w0.2
      have f3 := fun c1 c2 => hkid c (nth_memU hc) A c1 c2 w0.1 w0.2
      have l1 := ok_len w1.1
      have l2 := ok_len w2.1
      have f4 := fun c1 c2 c3 c4 S tk k => R28_join S tk k (walkR b A) (walkR c A) c1 c2 c3 c4 (by omega) (by omega)
      rw [← hR] at f4
      have ha' := nth_exprs ha
      have hb' := nth_exprs hb
      have hc' := nth_exprs hc
      have hlk : ((ks.length : Int) == 3) = true := by rw [hl]; rfl
      have i0 : intN (.prim (.int .i64 0)) = some 0 := rfl
      have i1 : intN (.prim (.int .i64 1)) = some 1 := rfl
      have i2 : intN (.prim (.int .i64 2)) = some 2 := rfl
      generalize walkR b A = B at *
      generalize walkR c A = C at *
      obtain ⟨ao, as', an, ak, ap, aa, at'⟩ := a
      obtain ⟨bo, bs, bn, bk, bp, ba, bt⟩ := b
      obtain ⟨co, cs, cn, ck, cp, ca, ct⟩ := c
      simp only [exprC] at ha' hb' hc'
      simp only [exprC, stC] at f1 f2 f3 f4
      clear hR hR0 hA
      subst h8
      simp (maxSteps := 10^6) +contextual (disch := try exact dqd) only [ev0, simprocAttr, AV.int, AV.bool, AV.str, Tryz.results47, gE, exprC, stC, exprsC_len, hlk, ha', hb', hc', i0, i1, i2, f1, f2, f3, f4]
      simp only [IsA]
      try rfl
    rw [if_neg h8] at hR
    have d8 : (o == 8) = false := by simpa using h8
    by_cases h9 : o = 9
    case neg =>
      rw [if_neg h9] at hR
      have d9 : (o == 9) = false := by simpa using h9
      simp (maxSteps := 10^6) +contextual (disch := try exact dqd) only [ev0, simprocAttr, AV.int, AV.bool, AV.str, Tryz.results47, gE, exprC, stC, exprsC_len, d3, d23, d6, d7, d8, d9]
      rw [← hDC, ← hZ]
      exact of_KA rfl (loop3 _ _ _ rfl rfl rfl rfl rfl rfl rfl hR)
    rw [if_pos h9] at hR
    clear hR0 loop3
    subst h9
    simp (maxSteps := 10^6) +contextual (disch := try exact dqd) only [ev0, simprocAttr, AV.int, AV.bool, AV.str, Tryz.results47, gE, exprC, stC, exprsC_len]
    rw [← hDC, ← hZ]
    refine loopG (P := Tryz.prog) (fun x st => st.T.length = 116 ∧ (x.1 ≤ ks.length) ∧ (x.2 = walksR (ks.take x.1) r) ∧ getT st.T 2 = .ref 0 0 0 ∧ getT st.T 3 = .ref 1 1 0 ∧ getT st.T 4 = .ref 2 2 0 ∧ getT st.T 79 = .frz (exprsC ks) .unk ∧ getT st.T 80 = .int (ks.length : Nat) ∧ getT st.T 81 = .int (x.1 : Nat) ∧ st.S = [⟨0, DC⟩, ⟨1, stC .unk .unk x.2⟩, ⟨2, Z⟩]) (fun x => ks.length - x.1) ((0 : Nat), r) ?_ ?_
    case refine_2 => exact ⟨rfl, Nat.zero_le _, by simp [walksR], rfl, rfl, rfl, rfl, rfl, rfl, rfl⟩
    rintro ⟨i, w⟩ ⟨T, S', tk', n'⟩ ⟨hl, hi, hw0, e2, e3, e4, e79, e80, e81, eS⟩ IH
    simp only at hi hw0 e2 e3 e4 e79 e80 e81 eS
    subst eS
    obtain ⟨g, hg, hT⟩ := tab_of hl
    rw [hg] at e2 e3 e4 e79 e80 e81
    subst hT
    clear hg hl
    by_cases la : i < ks.length
    · have d1 : decide ((i : Int) < (ks.length : Int)) = true := by simpa using la
      obtain ⟨q, hq⟩ := nth_some la
      have hq' := nth_exprs hq
      have hw := wrap_add (i := i) (by omega)
      have hwi := hwks i
      rw [← hw0] at hwi
      have f1 := fun c1 c2 => hkid q (nth_memU hq) w c1 c2 hwi.1 hwi.2
      have hst := walksR_take hq r
      rw [← hw0] at hst
      rw [← hst] at f1
      obtain ⟨qo, qs, qn, qk, qp, qa, qt⟩ := q
      simp only [exprC] at hq'
      simp only [exprC, stC] at f1
      subst hDC hZ
      simp (maxSteps := 10^6) +contextual (disch := try exact dqd) only [ev0, simprocAttr, AV.int, AV.bool, AV.str, Tryz.results47, gE, e2, e3, e4, e79, e80, e81, d1, exprsC_len, hq', hw, stC, f1]
      exact IH ((i + 1, _)) _ (by first | omega | (simp only; omega)) ⟨rfl, la, rfl, rfl, rfl, rfl, rfl, rfl, rfl, rfl⟩
    have d1 : decide ((i : Int) < (ks.length : Int)) = false := by simpa using la
    clear IH
    have hwi := hwks i
    rw [List.take_of_length_le (by omega)] at hw0 hwi
    rw [← hw0] at hR hwi
    subst hDC hZ
    simp (maxSteps := 10^6) +contextual (disch := try exact dqd) only [ev0, simprocAttr, AV.int, AV.bool, AV.str, Tryz.results47, gE, e2, e3, e4, e79, e80, e81, d1, exprsC_len, altsC_len, stC]
    generalize hDC : [AV.prim (.int .i64 9), .prim (.string s), .prim (.int .i64 n), .frz (exprsC ks) .unk, .frz (ps.map paramC) .unk, .frz (altsC al) .unk, .frz (typesC ts) .unk] = DC
    generalize hZ : [AV.frz [] .nilc, .frz [] .nilc, .prim (.bool false)] = Z
    generalize n' = nn
    clear e2 e3 e4 e79 e80 e81 d1 la hi
    refine loopG (P := Tryz.prog) (fun x st => st.T.length = 116 ∧ (x.1 ≤ al.length) ∧ (x.2 = altsR (al.take x.1) w w) ∧ getT st.T 2 = .ref 0 0 0 ∧ getT st.T 3 = .ref 1 1 0 ∧ getT st.T 4 = .ref 2 2 0 ∧ getT st.T 7 = .ref 3 nn 0 ∧ getT st.T 91 = .frz (altsC al) .unk ∧ getT st.T 92 = .int (al.length : Nat) ∧ getT st.T 93 = .int (x.1 : Nat) ∧ st.S = [⟨0, DC⟩, ⟨1, stC .unk .unk w⟩, ⟨2, Z⟩, ⟨nn, stC .unk .unk x.2⟩]) (fun x => al.length - x.1) ((0 : Nat), w) ?_ ?_
    case refine_2 => exact ⟨rfl, Nat.zero_le _, by simp [altsR], rfl, rfl, rfl, rfl, rfl, rfl, rfl, rfl⟩
    rintro ⟨i, u⟩ ⟨T, S', tk', n'⟩ ⟨hl, hi, hu, e2, e3, e4, e7, e91, e92, e93, eS⟩ IH
    simp only at hi hu e2 e3 e4 e7 e91 e92 e93 eS
    subst eS
    obtain ⟨g, hg, hT⟩ := tab_of hl
    rw [hg] at e2 e3 e4 e7 e91 e92 e93
    subst hT
    clear hg hl
    by_cases la : i < al.length
    · have d1 : decide ((i : Int) < (al.length : Int)) = true := by simpa using la
      obtain ⟨q, hq⟩ := nth_some la
      have hq' := nth_alts hq
      have hqm := nth_memU hq
      have hszq := szLs_mem hqm
      have hndq := nodesLs_mem hqm
      have hw := wrap_add (i := i) (by omega)
      have hnm := hG.nms _ hqm
      obtain ⟨qc, qns, qb⟩ := q
      simp only [szL] at hszq
      simp only [LT.body] at hndq
      simp only [LT.names] at hnm
      have hcl := congrArg List.length hwi.2
      have hvb : ∀ x ∈ allV qb, x ∈ U := fun x hx => hva x (allVa_mem hqm hx)
      have hau := alts_ok (U := U) (al.take i) (fun x hx => hva x (allVa_take hx)) w w hwi.1 hwi.1
      rw [← hu] at hau
      have f1 := fun c1 c2 => R28_branch hU qc qns qb (by omega) (iha qc qns qb hqm) (goodLs_memU hGa hqm) hvb (by omega) (by omega) w c1 c2 hwi.1 (by omega)
      have hbr := ok_branch (ns := qns) hwi.1 (walk_ok qb hvb _ (ok_binds qns hwi.1).1).1
      have l1 := ok_len hau.1
      have l2 := ok_len hbr
      have hst := altsR_take hq w w
      rw [← hu] at hst
      generalize branchR w (walkR qb (bindsR w qns)) qns = B at *
      have f2 := fun c1 c2 c3 c4 S tk k => R28_join S tk k u B c1 c2 c3 c4 (by omega) (by omega)
      rw [← hst] at f2
      obtain ⟨qo, qs, qn, qk, qp, qa, qt⟩ := qb
      simp only [altC, exprC, strsA] at hq'
      simp only [altC, exprC, strsA, stC] at f1
      simp only [stC] at f2
      subst hDC hZ
      simp (maxSteps := 10^6) +contextual (disch := try exact dqd) only [ev0, simprocAttr, AV.int, AV.bool, AV.str, Tryz.results47, gE, e2, e3, e4, e7, e91, e92, e93, d1, altsC_len, hq', hw, stC, f1, f2]
      exact IH ((i + 1, _)) _ (by first | omega | (simp only; omega)) ⟨rfl, la, rfl, rfl, rfl, rfl, rfl, rfl, rfl, rfl, rfl⟩
    have d1 : decide ((i : Int) < (al.length : Int)) = false := by simpa using la
    rw [List.take_of_length_le (by omega), ← hR] at hu
    subst hu hDC hZ
    simp (maxSteps := 10^6) +contextual (disch := try exact dqd) only [ev0, simprocAttr, AV.int, AV.bool, AV.str, Tryz.results47, gE, e2, e3, e4, e7, e91, e92, e93, d1, altsC_len, stC]
    simp only [IsA]
    try rfl
  obtain ⟨v, h1, h2⟩ := key
  rw [h1]
  simp only [IsA] at h2
  rw [h2]
mutual
theorem WalkC_all {U : List ByteArray} (hU : U.length ≤ 30000) : ∀ e : XT, WalkC U e
  | .node o s n ks ps al ts => WalkC_step hU o s n ks ps al ts (WalkC_allK hU ks) (WalkC_allA hU al)
theorem WalkC_allK {U : List ByteArray} (hU : U.length ≤ 30000) : ∀ ks : List XT, ∀ q ∈ ks, WalkC U q
  | [] => fun q h => by simp at h
  | x :: ks => fun q h => by
    rcases List.mem_cons.1 h with e | h
    · rw [e]; exact WalkC_all hU x
    · exact WalkC_allK hU ks q h
theorem WalkC_allA {U : List ByteArray} (hU : U.length ≤ 30000) : ∀ al : List LT, ∀ c ns b, LT.mk c ns b ∈ al → WalkC U b
  | [] => fun c ns b h => by simp at h
  | .mk c0 ns0 b0 :: al => fun c ns b h => by
    rcases List.mem_cons.1 h with e | h
    · injection e with e1 e2 e3; rw [e3]; exact WalkC_all hU b0
    · exact WalkC_allA hU al c ns b h
end
end
end Go.Proofs.YtmkoiandfojgmaaGreat
namespace Go.Proofs.YtmkoiandfojgmaaGreat
open Go
theorem memB_app (a b : List ByteArray) (x : ByteArray) : memB (a ++ b) x = (memB a x || memB b x) := by simp [memB]
theorem memB_one (s x : ByteArray) : memB [s] x = decide (x = s) := by
  simp only [memB, List.any_cons, List.any_nil, Bool.or_false]
  rw [sEq_nm]
  by_cases h : s = x
  · rw [decide_eq_true h, decide_eq_true h.symm]
  · rw [decide_eq_false h, decide_eq_false (fun e => h e.symm)]
theorem memB_ext {a b : List ByteArray} {x : ByteArray} (h : x ∈ a ↔ x ∈ b) : memB a x = memB b x := by
  cases q : memB b x
  · cases p : memB a x
    · rfl
    · exact absurd (memB_iff.2 (h.1 (memB_iff.1 p))) (by rw [q]; decide)
  · exact memB_iff.2 (h.2 (memB_iff.1 q))
theorem memB_uni (l : List ByteArray) (x : ByteArray) : memB (uniS l) x = memB l x := memB_ext ((uni_facts l).2.1 x)
theorem memB_del (l : List ByteArray) (s x : ByteArray) : memB (delB l s) x = delK (memB l) s x := by
  unfold delK
  by_cases h : x = s
  · rw [decide_eq_true h]
    cases p : memB (delB l s) x
    · rfl
    · exact absurd h (mem_delB.1 (memB_iff.1 p)).2
  · rw [decide_eq_false h, Bool.not_false, Bool.true_and]
    exact memB_ext ⟨fun q => (mem_delB.1 q).1, fun q => mem_delB.2 ⟨q, h⟩⟩
theorem cells_bind (s : RT) (n : ByteArray) (c : Bool) : memB (bindR s n c).cells = bindC (memB s.cells) n c := by
  funext x
  unfold bindR bindC
  cases c
  · simp only [Bool.false_eq_true, if_false]; exact memB_del ..
  · simp only [if_true]
    rw [memB_app, memB_del, memB_one]
    unfold addK delK
    by_cases h : x = n
    · rw [decide_eq_true h]; simp
    · rw [decide_eq_false h]; simp
theorem gone_bind (s : RT) (n : ByteArray) (c : Bool) : memB (bindR s n c).gone = delK (memB s.gone) n := by
  funext x; exact memB_del ..
theorem delL_at : ∀ (l : List ByteArray) (G : Sn) (x : ByteArray), delL G l x = (G x && !memB l x)
  | [], G, x => by simp [delL, memB]
  | s :: l, G, x => by
    rw [delL, delL_at l]
    have : memB (s :: l) x = (decide (x = s) || memB l x) := by rw [show s :: l = [s] ++ l from rfl, memB_app, memB_one]
    rw [this]
    unfold delK
    cases G x <;> cases decide (x = s) <;> cases memB l x <;> rfl
theorem binds_facts : ∀ (ns : List ByteArray) (s : RT), memB (bindsR s ns).cells = delL (memB s.cells) ns ∧ memB (bindsR s ns).gone = delL (memB s.gone) ns ∧ (bindsR s ns).bad = s.bad
  | [], s => ⟨rfl, rfl, rfl⟩
  | n :: ns, s => by
    have h := binds_facts ns (bindR s n false)
    have h1 := cells_bind s n false
    have h2 := gone_bind s n false
    rw [h1, h2] at h
    exact h
theorem own_facts : ∀ (ps : List (ByteArray × TT)) (s : RT), memB (ps.foldl (fun r p => bindR r p.1 (isCell p.2)) s).cells = ownL (memB s.cells) ps ∧ (s.gone = [] → (ps.foldl (fun r p => bindR r p.1 (isCell p.2)) s).gone = []) ∧ (ps.foldl (fun r p => bindR r p.1 (isCell p.2)) s).bad = s.bad
  | [], s => ⟨rfl, id, rfl⟩
  | p :: ps, s => by
    have h := own_facts ps (bindR s p.1 (isCell p.2))
    rw [cells_bind] at h
    exact ⟨h.1, fun e => h.2.1 (by simp [bindR, e, delB]), h.2.2⟩
theorem back_at (G g : List ByteArray) (s x : ByteArray) : memB (backB G g s) x = if x = s then memB G x else memB g x := by
  unfold backB
  by_cases h : x = s
  · rw [if_pos h]
    cases q : memB G s
    · rw [if_neg (by decide), memB_del, h, q]; simp [delK]
    · rw [if_pos rfl, memB_uni, memB_app, memB_one, h, q]; simp
  · rw [if_neg h]
    split
    · rw [memB_uni, memB_app, memB_one, memB_del, decide_eq_false h]; simp [delK, h]
    · rw [memB_del]; simp [delK, h]
theorem backs_at (G : List ByteArray) : ∀ (ns g : List ByteArray) (x : ByteArray), memB (ns.foldl (backB G) g) x = if memB ns x = true then memB G x else memB g x
  | [], g, x => by simp [memB]
  | n :: ns, g, x => by
    rw [List.foldl_cons, backs_at G ns, back_at]
    have : memB (n :: ns) x = (decide (x = n) || memB ns x) := by rw [show n :: ns = [n] ++ ns from rfl, memB_app, memB_one]
    rw [this]
    by_cases h : x = n
    · cases memB ns x <;> simp [h]
    · cases memB ns x <;> simp [h]
mutual
theorem thr_mono : ∀ (e : XT) (C G G' : Sn), thr e C G = some G' → ∀ x, G x = true → G' x = true
  | .node o s n ks ps al ts, C, G, G', h, x, hx => by
    simp only [thr] at h
    split at h
    · split at h
      · split at h
        · cases h
        · simp only [Option.some.injEq] at h
          rw [← h]; simp [addK, hx]
      · simp only [Option.some.injEq] at h
        rw [← h]; exact hx
    · split at h
      · split at h
        · cases h
        · simp only [Option.some.injEq] at h
          rw [← h]; exact hx
      · split at h
        · split at h
          · simp only [Option.some.injEq] at h
            rw [← h]; exact hx
          · cases h
        · split at h
          · obtain ⟨G1, h1, h2⟩ := Option.bind_eq_some_iff.1 h
            obtain ⟨G2, h3, h4⟩ := Option.map_eq_some_iff.1 h2
            rw [← h4]
            simp only [uniK, thrAt_mono ks 0 C G G1 h1 x hx, Bool.true_or]
          · split at h
            · obtain ⟨G1, h1, h2⟩ := Option.bind_eq_some_iff.1 h
              obtain ⟨Ga, h3, h4⟩ := Option.bind_eq_some_iff.1 h2
              obtain ⟨Gb, h5, h6⟩ := Option.map_eq_some_iff.1 h4
              rw [← h6]
              simp only [uniK, thrAt_mono ks 0 C G G1 h1 x hx, Bool.true_or]
            · split at h
              · obtain ⟨G1, h1, h2⟩ := Option.bind_eq_some_iff.1 h
                exact thrA_mono al C G1 G1 G' h2 x (thrL_mono ks C G G1 h1 x hx)
              · exact thrL_mono ks C G G' h x hx
theorem thrL_mono : ∀ (ks : List XT) (C G G' : Sn), thrL ks C G = some G' → ∀ x, G x = true → G' x = true
  | [], C, G, G', h, x, hx => by simp only [thrL, Option.some.injEq] at h; rw [← h]; exact hx
  | k :: ks, C, G, G', h, x, hx => by
    simp only [thrL] at h
    obtain ⟨G1, h1, h2⟩ := Option.bind_eq_some_iff.1 h
    exact thrL_mono ks C G1 G' h2 x (thr_mono k C G G1 h1 x hx)
theorem thrAt_mono : ∀ (ks : List XT) (i : Nat) (C G G' : Sn), thrAt ks i C G = some G' → ∀ x, G x = true → G' x = true
  | [], _, C, G, G', h, x, hx => by simp [thrAt] at h
  | k :: ks, 0, C, G, G', h, x, hx => by
    simp only [thrAt] at h
    exact thr_mono k C G G' h x hx
  | k :: ks, i + 1, C, G, G', h, x, hx => by
    simp only [thrAt] at h
    exact thrAt_mono ks i C G G' h x hx
theorem thrA_mono : ∀ (al : List LT) (C G0 acc G' : Sn), thrA al C G0 acc = some G' → ∀ x, acc x = true → G' x = true
  | [], C, G0, acc, G', h, x, hx => by simp only [thrA, Option.some.injEq] at h; rw [← h]; exact hx
  | .mk _ ns b :: al, C, G0, acc, G', h, x, hx => by
    simp only [thrA] at h
    obtain ⟨G1, h1, h2⟩ := Option.bind_eq_some_iff.1 h
    exact thrA_mono al C G0 _ G' h2 x (by simp [uniK, hx])
end
mutual
theorem occ_var (C : Sn) : ∀ (e : XT), goodX e → ∀ bs, occ C e bs = (varX e bs).any C
  | .node o s n ks ps al ts, hg, bs => by
    simp only [goodX] at hg
    simp only [occ, varX]
    by_cases h3 : o = 3
    · have hk := hg.1.leaf h3
      have ha := hg.1.alt (by omega)
      subst hk ha
      simp only [occK, occA, varK, varA, Bool.or_false]
      subst h3
      cases memB bs s
      · simp
      · simp
    · rw [if_neg (fun h => h3 h.1), List.any_append, occ_varK C o s ps ks hg.2.1 0 bs, occ_varA C al hg.2.2 bs]
      simp [h3]
theorem occ_varK (C : Sn) (o : Int) (s : ByteArray) (ps : List (ByteArray × TT)) : ∀ (ks : List XT), goodXs ks → ∀ (i : Nat) bs, occK C o s ps i ks bs = (varK o s ps i ks bs).any C
  | [], _, i, bs => by simp [occK, varK]
  | k :: ks, hg, i, bs => by
    simp only [goodXs] at hg
    simp only [occK, varK, List.any_append]
    rw [occ_var C k hg.1, occ_varK C o s ps ks hg.2]
theorem occ_varA (C : Sn) : ∀ (al : List LT), goodLs al → ∀ bs, occA C al bs = (varA al bs).any C
  | [], _, bs => by simp [occA, varA]
  | .mk _ ns b :: al, hg, bs => by
    simp only [goodLs] at hg
    simp only [occA, varA, List.any_append]
    rw [occ_var C b hg.1, occ_varA C al hg.2]
end
mutual
theorem walk_cells : ∀ (e : XT) (r : RT), (walkR e r).cells = r.cells
  | .node o s n ks ps al ts, r => by
    simp only [walkR]
    split
    · unfold useR; split <;> rfl
    · split
      · unfold useR; split <;> rfl
      · split
        · rfl
        · split
          · exact walkAt_cells ks 0 r
          · split
            · exact (walkAt_cells ks 1 _).trans (walkAt_cells ks 0 r)
            · split
              · exact (alts_cells al _ _).trans (walks_cells ks r)
              · exact walks_cells ks r
theorem walks_cells : ∀ (ks : List XT) (r : RT), (walksR ks r).cells = r.cells
  | [], r => by simp only [walksR]
  | k :: ks, r => by simp only [walksR]; exact (walks_cells ks _).trans (walk_cells k r)
theorem walkAt_cells : ∀ (ks : List XT) (i : Nat) (r : RT), (walkAt ks i r).cells = r.cells
  | [], _, r => by simp only [walkAt]
  | k :: ks, 0, r => by simp only [walkAt]; exact walk_cells k r
  | k :: ks, i + 1, r => by simp only [walkAt]; exact walkAt_cells ks i r
theorem alts_cells : ∀ (al : List LT) (s out : RT), (altsR al s out).cells = out.cells
  | [], s, out => by simp only [altsR]
  | .mk c ns b :: al, s, out => by simp only [altsR]; exact alts_cells al s _
end
def Ans (r : RT) (t : Option Sn) (r' : RT) : Prop := (r.bad = true → r'.bad = true) ∧ (r.bad = false → (t = none → r'.bad = true) ∧ ∀ G, t = some G → r'.bad = false ∧ G = memB r'.gone)
theorem Ans.trans {r r1 r2 : RT} {t : Option Sn} {f : Sn → Option Sn} (h1 : Ans r t r1) (h2 : Ans r1 (f (memB r1.gone)) r2) : Ans r (t.bind f) r2 := by
  refine ⟨fun h => h2.1 (h1.1 h), fun h => ?_⟩
  obtain ⟨a, b⟩ := h1.2 h
  cases t with
  | none => exact ⟨fun _ => h2.1 (a rfl), fun G hG => (by cases hG)⟩
  | some G1 =>
    obtain ⟨c, d⟩ := b G1 rfl
    subst d
    exact h2.2 c
theorem ans_id (r : RT) : Ans r (some (memB r.gone)) r := ⟨id, fun h => ⟨fun h => (by cases h), fun G hG => ⟨h, by simpa using hG.symm⟩⟩⟩
theorem use_no {r : RT} {s : ByteArray} {c : Bool} (hc : memB r.cells s = false) : useR r s c = r := if_pos hc
theorem use_yes {r : RT} {s : ByteArray} {c : Bool} (hc : memB r.cells s = true) : useR r s c = ⟨r.cells, if c = true then uniS (r.gone ++ [s]) else r.gone, r.bad || memB r.gone s⟩ := if_neg (by rw [hc]; decide)
theorem ans_use (r : RT) (s : ByteArray) : Ans r (if memB r.cells s = true then (if memB r.gone s = true then none else some (addK (memB r.gone) s)) else some (memB r.gone)) (useR r s true) := by
  cases q : memB r.cells s
  · rw [use_no q]
    simp only [Bool.false_eq_true, if_false]
    exact ans_id r
  · rw [use_yes q]
    simp only [if_true]
    refine ⟨fun h => by simp [h], fun h => ?_⟩
    cases p : memB r.gone s
    · refine ⟨fun h => by simp at h, fun G hG => ⟨by simp [h], ?_⟩⟩
      simp only [Bool.false_eq_true, if_false, Option.some.injEq] at hG
      rw [← hG]
      funext x
      rw [memB_uni, memB_app, memB_one]
      simp [addK, Bool.or_comm]
    · exact ⟨fun _ => by simp, fun G hG => by simp at hG⟩
theorem ans_peek (r : RT) (s : ByteArray) (hc : memB r.cells s = true) : Ans r (if memB r.gone s = true then none else some (memB r.gone)) (useR r s false) := by
  rw [use_yes hc]
  simp only [Bool.false_eq_true, if_false]
  refine ⟨fun h => by simp [h], fun h => ?_⟩
  cases p : memB r.gone s
  · refine ⟨fun h => by simp at h, fun G hG => ⟨by simp [h], ?_⟩⟩
    simp only [Bool.false_eq_true, if_false, Option.some.injEq] at hG
    exact hG.symm
  · exact ⟨fun _ => by simp, fun G hG => by simp at hG⟩
theorem oneL_of {ks : List XT} (h : ks.length = 1) : ∃ a, ks = [a] := by
  match ks, h with
  | [a], _ => exact ⟨a, rfl⟩
theorem twoL_of {ks : List XT} (h : ks.length = 2) : ∃ a b, ks = [a, b] := by
  match ks, h with
  | [a, b], _ => exact ⟨a, b, rfl⟩
theorem threeL_of {ks : List XT} (h : ks.length = 3) : ∃ a b c, ks = [a, b, c] := by
  match ks, h with
  | [a, b, c], _ => exact ⟨a, b, c, rfl⟩
mutual
theorem walk_thr : ∀ (e : XT), goodX e → ∀ r : RT, Ans r (thr e (memB r.cells) (memB r.gone)) (walkR e r)
  | .node o s n ks ps al ts, hg, r => by
    have hg0 := hg
    simp only [goodX] at hg
    obtain ⟨hG, hGk, hGa⟩ := hg
    simp only [thr, walkR]
    by_cases h3 : o = 3
    · rw [if_pos h3, if_pos h3]; exact ans_use r s
    rw [if_neg h3, if_neg h3]
    have hL := walks_thr ks hGk r
    cases q : getN o ks with
    | some m =>
      simp only
      unfold getN at q
      split at q
      · rename_i k
        split at q
        · rename_i hk
          simp only [Option.some.injEq] at q
          subst q
          unfold getV
          simp only
          cases p : memB r.cells k.name
          · rw [if_neg (by simp)]
            simp only
            rw [if_neg (by omega), if_neg (by omega), if_neg (by omega), if_neg (by omega)]
            have hu : useR r k.name false = r := by unfold useR; rw [if_pos p]
            rw [hu]
            obtain ⟨ko, kn, k1, k2, k3, k4, k5⟩ := k
            simp only [XT.op, XT.name] at hk p
            simp only [thrL, thr]
            rw [if_pos hk.2, if_neg (by rw [p]; decide)]
            exact ans_id r
          · rw [if_pos ⟨hk.1, hk.2, rfl⟩]
            exact ans_peek r k.name p
        · cases q
      · cases q
    | none =>
      have hv : getV o ks (memB r.cells) = none := by
        unfold getN at q
        unfold getV
        split at q
        · split at q
          · cases q
          · rename_i hk
            exact if_neg (fun h => hk ⟨h.1, h.2.1⟩)
        · rename_i hk
          split
          · rename_i k; exact absurd rfl (hk k)
          · rfl
      rw [hv]
      simp only
      by_cases h6 : o = 6
      · rw [if_pos h6, if_pos h6]
        obtain ⟨k, rfl⟩ := oneL_of (hG.lam h6)
        simp only [goodXs] at hGk
        have ho := own_facts ps ⟨[], [], false⟩
        have hk := walk_thr k hGk.1 (ownR ps)
        have h1 : memB (ownR ps).cells = ownL noK ps := ho.1
        have h2 : memB (ownR ps).gone = noK := by rw [show (ownR ps).gone = [] from ho.2.1 rfl]; rfl
        rw [h1, h2] at hk
        have h3 : (ownR ps).bad = false := ho.2.2
        have hvx : varX (.node o s n [k] ps al ts) [] = varX k (ps.map (·.1)) := by
          simp only [varX]
          rw [if_neg (fun h => by omega), hG.alt (by omega)]
          simp only [varK, varA, List.append_nil]
          congr 1
          simp [underF, h6]
        rw [hvx]
        simp only [lamK, walksR, Bool.and_true]
        rw [occ_var _ k hGk.1]
        refine ⟨fun h => by simp [h], fun h => ?_⟩
        rw [h]
        cases (varX k (ps.map (·.1))).any (memB r.cells)
        · obtain ⟨h4, h5⟩ := hk.2 h3
          cases hq : thr k (ownL noK ps) noK with
          | none => simp [h4 hq]
          | some G =>
            have := (h5 G hq).1
            simp [this]
        · simp
      rw [if_neg h6, if_neg h6]
      by_cases h7 : o = 7
      · rw [if_pos ⟨h7, hG.lets h7⟩, if_pos h7]
        obtain ⟨a, b, rfl⟩ := twoL_of (hG.lets h7)
        simp only [goodXs] at hGk
        simp only [thrAt, walkAt]
        have h1 := walk_thr a hGk.1 r
        refine h1.trans ?_
        have hc := walk_cells a r
        generalize walkR a r = R1 at *
        have h2 := walk_thr b hGk.2.1 (bindR R1 s (typedF ts))
        rw [cells_bind, gone_bind, hc] at h2
        have hm := thr_mono b (bindC (memB r.cells) s (typedF ts)) (delK (memB R1.gone) s)
        show Ans R1 ((thr b (bindC (memB r.cells) s (typedF ts)) (delK (memB R1.gone) s)).map _) _
        generalize walkR b (bindR R1 s (typedF ts)) = R2 at *
        refine ⟨fun h => h2.1 h, fun h => ?_⟩
        obtain ⟨h4, h5⟩ := h2.2 h
        generalize thr b (bindC (memB r.cells) s (typedF ts)) (delK (memB R1.gone) s) = T at *
        cases T with
        | none => exact ⟨fun _ => h4 rfl, fun G hG => (by cases hG)⟩
        | some G2 =>
          obtain ⟨h6, h8⟩ := h5 G2 rfl
          refine ⟨fun h => (by cases h), fun G hG => ⟨h6, ?_⟩⟩
          simp only [Option.map_some, Option.some.injEq] at hG
          rw [← hG]
          funext x
          have hb : memB (afterR R1 R2 s).gone x = if x = s then memB R1.gone x else memB R2.gone x := back_at R1.gone R2.gone s x
          rw [hb]
          have hm2 := hm G2 rfl x
          rw [← h8]
          simp only [uniK, outK, memB_one]
          by_cases hx : x = s
          · simp [hx]
          · rw [if_neg hx, decide_eq_false hx]
            simp only [delK, decide_eq_false hx, Bool.not_false, Bool.true_and, Bool.and_true] at hm2 ⊢
            cases q : memB R1.gone x
            · rfl
            · rw [hm2 q]; rfl
      rw [if_neg (fun h => h7 h.1), if_neg h7]
      by_cases h8 : o = 8
      · rw [if_pos ⟨h8, hG.ite h8⟩, if_pos h8]
        obtain ⟨a, b, c, rfl⟩ := threeL_of (hG.ite h8)
        simp only [goodXs] at hGk
        simp only [thrAt, walkAt]
        refine (walk_thr a hGk.1 r).trans ?_
        have hc := walk_cells a r
        generalize walkR a r = R1 at *
        have h1 := walk_thr b hGk.2.1 R1
        have h2 := walk_thr c hGk.2.2.1 R1
        rw [hc] at h1 h2
        have hm := thr_mono b (memB r.cells) (memB R1.gone)
        refine ⟨fun h => by simp [joinR, h1.1 h], fun h => ?_⟩
        obtain ⟨a1, a2⟩ := h1.2 h
        obtain ⟨b1, b2⟩ := h2.2 h
        generalize thr b (memB r.cells) (memB R1.gone) = T at *
        generalize thr c (memB r.cells) (memB R1.gone) = T2 at *
        cases T with
        | none => exact ⟨fun _ => by simp [joinR, a1 rfl], fun G hG => (by cases hG)⟩
        | some Ga =>
          cases T2 with
          | none => exact ⟨fun _ => by simp [joinR, b1 rfl], fun G hG => (by cases hG)⟩
          | some Gb =>
            obtain ⟨a3, a4⟩ := a2 Ga rfl
            obtain ⟨b3, b4⟩ := b2 Gb rfl
            refine ⟨fun h => (by cases h), fun G hG => ⟨by simp [joinR, a3, b3], ?_⟩⟩
            simp only [Option.bind_some, Option.map_some, Option.some.injEq] at hG
            rw [← hG]
            funext x
            have hm2 := hm Ga rfl x
            simp only [joinR, memB_uni, memB_app, uniK]
            rw [← a4, ← b4]
            cases q : memB R1.gone x
            · rfl
            · rw [hm2 q]; rfl
      rw [if_neg (fun h => h8 h.1), if_neg h8]
      by_cases h9 : o = 9
      · rw [if_pos h9, if_pos h9]
        refine hL.trans ?_
        have hc := walks_cells ks r
        have := alts_thr al hGa (walksR ks r) (walksR ks r)
        rw [hc] at this
        exact ⟨this.1, fun h => this.2 h h⟩
      rw [if_neg h9, if_neg h9]
      exact hL
theorem walks_thr : ∀ (ks : List XT), goodXs ks → ∀ r : RT, Ans r (thrL ks (memB r.cells) (memB r.gone)) (walksR ks r)
  | [], _, r => by simp only [thrL, walksR]; exact ans_id r
  | k :: ks, hg, r => by
    simp only [goodXs] at hg
    simp only [thrL, walksR]
    refine (walk_thr k hg.1 r).trans ?_
    have := walks_thr ks hg.2 (walkR k r)
    rw [walk_cells] at this
    exact this
theorem alts_thr : ∀ (al : List LT), goodLs al → ∀ s out : RT, (out.bad = true → (altsR al s out).bad = true) ∧ (s.bad = false → out.bad = false → (thrA al (memB s.cells) (memB s.gone) (memB out.gone) = none → (altsR al s out).bad = true) ∧ ∀ G, thrA al (memB s.cells) (memB s.gone) (memB out.gone) = some G → (altsR al s out).bad = false ∧ G = memB (altsR al s out).gone)
  | [], _, s, out => by
    simp only [thrA, altsR]
    exact ⟨id, fun _ h => ⟨fun h => (by cases h), fun G hG => ⟨h, by simpa using hG.symm⟩⟩⟩
  | .mk c ns b :: al, hg, s, out => by
    simp only [goodLs] at hg
    simp only [thrA, altsR]
    have hb := walk_thr b hg.1 (bindsR s ns)
    obtain ⟨f1, f2, f3⟩ := binds_facts ns s
    rw [f1, f2] at hb
    have hm := thr_mono b (delL (memB s.cells) ns) (delL (memB s.gone) ns)
    generalize walkR b (bindsR s ns) = B at *
    have ih := alts_thr al hg.2 s (joinR out (branchR s B ns))
    refine ⟨fun h => ih.1 (by simp [joinR, h]), fun hs ho => ?_⟩
    obtain ⟨h4, h5⟩ := hb.2 (by rw [f3]; exact hs)
    generalize thr b (delL (memB s.cells) ns) (delL (memB s.gone) ns) = T at *
    cases T with
    | none =>
      refine ⟨fun _ => ih.1 ?_, fun G hG => (by cases hG)⟩
      simp [joinR, branchR, h4 rfl]
    | some r =>
      obtain ⟨h6, h8⟩ := h5 r rfl
      have hacc : uniK (memB out.gone) (uniK (memB s.gone) (outK r ns)) = memB (joinR out (branchR s B ns)).gone := by
        funext x
        have hm2 := hm r rfl x
        rw [delL_at] at hm2
        simp only [joinR, branchR, memB_uni, memB_app, backs_at, uniK, outK]
        rw [← h8]
        cases q : memB ns x
        · simp only [Bool.not_false, Bool.and_true, Bool.false_eq_true, if_false]
          rw [q] at hm2
          cases q2 : memB s.gone x
          · simp
          · rw [q2] at hm2
            rw [hm2 rfl]; simp
        · simp
      simp only [Option.bind_some]
      rw [hacc]
      exact ih.2 hs (by simp [joinR, branchR, ho, h6])
end
end Go.Proofs.YtmkoiandfojgmaaGreat
namespace Go.Proofs.YtmkoiandfojgmaaGreat
open Go
def scopeR (t : TT) : Nat → List ByteArray → RT → RT
  | _, [], r => r
  | i, s :: l, r => scopeR t (i + 1) l (bindR r s (cellAt t i))
theorem scopeR_drop (t : TT) (r : RT) (l : List ByteArray) (j : Nat) (s : ByteArray) (h : nth l j = some s) (i : Nat) : scopeR t i (l.drop j) r = scopeR t (i + 1) (l.drop (j + 1)) (bindR r s (cellAt t i)) := by
  rw [nth_drop h]; rfl
theorem scope_facts (t : TT) : ∀ (l : List ByteArray) (i : Nat) (r : RT), memB (scopeR t i l r).cells = scopeF t i l (memB r.cells) ∧ (r.gone = [] → (scopeR t i l r).gone = []) ∧ (scopeR t i l r).bad = r.bad
  | [], i, r => ⟨rfl, id, rfl⟩
  | s :: l, i, r => by
    have h := scope_facts t l (i + 1) (bindR r s (cellAt t i))
    rw [cells_bind] at h
    exact ⟨h.1, fun e => h.2.1 (by simp [bindR, e, delB]), h.2.2⟩
def violR (d : DT) : Bool := (walkR d.body (scopeR d.ty 0 d.params ⟨[], [], false⟩)).bad
theorem viol_same (d : DT) (hg : goodX d.body) : violR d = violF d := by
  obtain ⟨h1, h2, h3⟩ := scope_facts d.ty d.params 0 ⟨[], [], false⟩
  have h := walk_thr d.body hg (scopeR d.ty 0 d.params ⟨[], [], false⟩)
  have h4 := h2 rfl
  have h1' : memB (scopeR d.ty 0 d.params ⟨[], [], false⟩).cells = scopeF d.ty 0 d.params noK := h1
  rw [h1', h4] at h
  obtain ⟨a, b⟩ := h.2 h3
  have hn : memB [] = noK := rfl
  rw [hn] at a b
  unfold violR violF
  generalize thr d.body (scopeF d.ty 0 d.params noK) noK = T at *
  cases T with
  | none => rw [a rfl]; rfl
  | some G => rw [(b G rfl).1]; rfl
section
variable [Depth]
set_option maxRecDepth 100000 in
set_option maxHeartbeats 4000000 in
theorem R28_violated (d : DT) (hg : goodX d.body) (hs : szX d.body ≤ 80000) (hn : nodesX d.body ≤ 20000) (hp : d.params.length ≤ 20) (ha : d.ty.args.length ≤ 1048576) (S : List Ent) (tk : List Nat) (k : Nat) :
    cL Tryz.prog 25 [.agg (defC d)] S tk k = some (.bool (violF d), S, tk, k) := by
  rw [← viol_same d hg]
  have hU : (allV d.body).length ≤ 30000 := Nat.le_trans (allV_len d.body) (by omega)
  have hth := fun r c1 c2 => WalkC_all hU d.body hg (fun x h => h) (by omega) (by omega) r c1 c2
  obtain ⟨U, hU0⟩ : ∃ U, U = allV d.body := ⟨_, rfl⟩
  rw [← hU0] at hU hth
  obtain ⟨R, hR⟩ : ∃ R, R = violR d := ⟨_, rfl⟩
  rw [← hR]
  unfold violR at hR
  clear hg hU0
  obtain ⟨name, params, ⟨o, s, n, ks, ps, al, ts⟩, mode, typed, vars, needs, abs, bounds, ⟨to, tn, ta, tns, ⟨po, pn, pv, pk⟩, pp⟩, metric⟩ := d
  simp only [exprC] at hth
  simp only at hp hR hn hs
  simp only [TT.args] at ha
  refine opP Tryz.func25 Tryz.ntmps25 ?_
  simp (maxSteps := 10^6) +contextual (disch := try exact dqd) only [ev0, simprocAttr, AV.int, AV.bool, AV.str, Tryz.results25, defC, exprC, typeC, predC, strsA, List.cons_append, List.nil_append, List.length_map]
  obtain ⟨DC, hDC⟩ : ∃ DC : List AV, DC = defC ⟨name, params, ⟨o, s, n, ks, ps, al, ts⟩, mode, typed, vars, needs, abs, bounds, ⟨to, tn, ta, tns, ⟨po, pn, pv, pk⟩, pp⟩, metric⟩ := ⟨_, rfl⟩
  simp only [defC, exprC, typeC, predC, strsA, List.cons_append, List.nil_append] at hDC
  rw [← hDC]
  refine loop1 (P := Tryz.prog) (fun x st => st.T.length = 48 ∧ (x.1 ≤ params.length) ∧ (x.2.1.gone = []) ∧ (x.2.1.cells.length ≤ x.1) ∧ (R = (walkR (.node o s n ks ps al ts) (scopeR (.node to tn ta tns (.node po pn pv pk) pp) x.1 (params.drop x.1) x.2.1)).bad) ∧ getT st.T 1 = .ref 0 0 0 ∧ getT st.T 3 = .ref 1 1 0 ∧ getT st.T 4 = .ref 2 2 0 ∧ getT st.T 12 = .frz (params.map strC) .unk ∧ getT st.T 13 = .int (params.length : Nat) ∧ getT st.T 14 = .int (x.1 : Nat) ∧ st.S = [⟨0, DC⟩, ⟨1, stC x.2.2.1 x.2.2.2 x.2.1⟩, ⟨2, [.prim (.int .i64 to), .prim (.string tn), .frz (typesC ta) .unk, .frz (tns.map strC) .unk, .prim (.int .i64 po), .prim (.string pn), .prim (.int .i64 pv), .frz (predsC pk) .unk, .frz (predsC pp) .unk]⟩]) (fun x => params.length - x.1) (fun x => .bool R) ((0 : Nat), (⟨[], [], false⟩ : RT), Cap.nilc, Cap.nilc) ?_ ?_
  case refine_2 => exact ⟨rfl, Nat.zero_le _, rfl, Nat.le_refl _, hR, rfl, rfl, rfl, rfl, rfl, rfl, rfl⟩
  rintro ⟨j, r, ca, cb⟩ ⟨T, S', tk', n'⟩ ⟨hl, hj, hgn, hcl, hA, e1, e3, e4, e12, e13, e14, eS⟩ IH
  simp only at hj hgn hcl hA e1 e3 e4 e12 e13 e14 eS
  subst eS
  obtain ⟨g, hg, hT⟩ := tab_of hl
  rw [hg] at e1 e3 e4 e12 e13 e14
  subst hT
  clear hg hl
  by_cases hlt : j < params.length
  · have d1 : decide ((j : Int) < (params.length : Int)) = true := by simpa using hlt
    obtain ⟨x, hx⟩ := nth_some hlt
    have hx' := nth_strs hx
    simp only [strC] at hx'
    have hw := wrap_add (i := j) (by omega)
    have hw2 : IntKind.i64.wrap ((ta.length : Int) - 1) = (ta.length : Int) - 1 := wrap_of (by unfold i64; omega)
    rw [scopeR_drop _ _ _ _ _ hx] at hA
    have hgl : r.gone.length ≤ 0 := by rw [hgn]; exact Nat.le_refl _
    have hbd := fun b c1 c2 S tk k => R28_bind S tk k r x b c1 c2 (by omega) (by omega)
    have hg2 : ∀ b, (bindR r x b).gone = [] := fun b => by simp [bindR, hgn, delB]
    have hc2 : ∀ b, (bindR r x b).cells.length ≤ j + 1 := fun b => by
      have := bind_cells r x b
      split at this <;> omega
    simp only [stC] at hbd
    by_cases h6 : to = 6
    · subst h6
      by_cases hl : j + 1 < ta.length
      · have d2 : decide ((j : Int) < (ta.length : Int) - 1) = true := by simp; omega
        obtain ⟨a, ha'⟩ := nth_some (show j < ta.length by omega)
        have hat := nth_types ha'
        have hb : cellAt (.node 6 tn ta tns (.node po pn pv pk) pp) j = isCell a := by simp [cellAt, TT.op, TT.args, hl, ha']
        rw [hb] at hA
        obtain ⟨ao, as', aa, ans, ⟨apo, apn, apv, apk⟩, app⟩ := a
        simp only [typeC, predC, strsA, List.cons_append, List.nil_append] at hat
        simp only [isCell, TT.op] at hA
        subst hDC
        simp (maxSteps := 10^6) +contextual (disch := try exact dqd) only [ev0, simprocAttr, AV.int, AV.bool, AV.str, Tryz.results25, e1, e3, e4, e12, e13, e14, d1, hx', hw, hw2, d2, hat, hbd, typesC_len, stC, List.length_map]
        exact IH ((j + 1, bindR r x (ao == 3), .unk, .unk)) _ (by first | omega | (simp only; omega)) ⟨rfl, hlt, hg2 _, hc2 _, hA, rfl, rfl, rfl, rfl, rfl, rfl, rfl⟩
      · have d2 : decide ((j : Int) < (ta.length : Int) - 1) = false := by simp; omega
        have hb : cellAt (.node 6 tn ta tns (.node po pn pv pk) pp) j = false := by simp [cellAt, TT.op, TT.args, hl]
        rw [hb] at hA
        subst hDC
        simp (maxSteps := 10^6) +contextual (disch := try exact dqd) only [ev0, simprocAttr, AV.int, AV.bool, AV.str, Tryz.results25, e1, e3, e4, e12, e13, e14, d1, hx', hw, hw2, d2, hbd, typesC_len, stC, List.length_map]
        exact IH ((j + 1, bindR r x false, .unk, .unk)) _ (by first | omega | (simp only; omega)) ⟨rfl, hlt, hg2 _, hc2 _, hA, rfl, rfl, rfl, rfl, rfl, rfl, rfl⟩
    · have d6 : (to == 6) = false := by simpa using h6
      have hb : cellAt (.node to tn ta tns (.node po pn pv pk) pp) j = false := by simp [cellAt, TT.op, h6]
      rw [hb] at hA
      subst hDC
      simp (maxSteps := 10^6) +contextual (disch := try exact dqd) only [ev0, simprocAttr, AV.int, AV.bool, AV.str, Tryz.results25, e1, e3, e4, e12, e13, e14, d1, hx', hw, d6, hbd, typesC_len, stC, List.length_map]
      exact IH ((j + 1, bindR r x false, .unk, .unk)) _ (by first | omega | (simp only; omega)) ⟨rfl, hlt, hg2 _, hc2 _, hA, rfl, rfl, rfl, rfl, rfl, rfl, rfl⟩
  · have d1 : decide ((j : Int) < (params.length : Int)) = false := by simpa using hlt
    have hel : j = params.length := by omega
    rw [hel, List.drop_length] at hA
    simp only [scopeR] at hA
    have hc := fun c1 c2 => hth r c1 c2 ⟨by rw [hgn]; simp [Inc], by rw [hgn]; simp⟩ (by omega)
    simp only [stC] at hc
    subst hDC
    simp (maxSteps := 10^6) +contextual (disch := try exact dqd) only [ev0, simprocAttr, AV.int, AV.bool, AV.str, Tryz.results25, e1, e3, e4, e12, e13, e14, d1, hc, stC, List.length_map]
    rw [hA]
set_option maxRecDepth 100000 in
set_option maxHeartbeats 4000000 in
theorem R28_Module (m : MT) (hl : m.defs.length ≤ 1048576) (h : ∀ d ∈ m.defs, goodX d.body ∧ szX d.body ≤ 80000 ∧ nodesX d.body ≤ 20000 ∧ d.params.length ≤ 20 ∧ d.ty.args.length ≤ 1048576) (S : List Ent) (tk : List Nat) (k : Nat) :
    cL Tryz.prog 8 [.agg (modC m)] S tk k = some (.tup [.str (modF m.defs).1, .int (modF m.defs).2], S, tk, k) := by
  obtain ⟨datas, classes, insts, measures, quals, defs⟩ := m
  simp only at hl h
  obtain ⟨R, hR⟩ : ∃ R, R = modF defs := ⟨_, rfl⟩
  rw [← hR]
  refine opP Tryz.func8 Tryz.ntmps8 ?_
  obtain ⟨MC, hMC⟩ : ∃ MC : List AV, MC = modC ⟨datas, classes, insts, measures, quals, defs⟩ := ⟨_, rfl⟩
  simp only [modC] at hMC
  simp (maxSteps := 10^6) +contextual (disch := try exact dqd) only [ev0, simprocAttr, AV.int, AV.bool, AV.str, Tryz.results8, modC, List.length_map]
  rw [← hMC]
  clear hMC
  have hR2 : R = modF (defs.drop 0) := hR
  clear hR
  refine loop1 (P := Tryz.prog) (fun x st => st.T.length = 23 ∧ (x ≤ defs.length) ∧ (R = modF (defs.drop x)) ∧ getT st.T 7 = .frz (defs.map defC) .unk ∧ getT st.T 8 = .int (defs.length : Nat) ∧ getT st.T 9 = .int (x : Nat) ∧ st.S = [⟨0, MC⟩]) (fun x => defs.length - x) (fun x => .tup [.prim (.string R.1), .prim (.int .i64 R.2)]) (0) ?_ ?_
  case refine_2 => exact ⟨rfl, Nat.zero_le _, hR2, rfl, rfl, rfl, rfl⟩
  rintro i ⟨T, S', tk', n'⟩ ⟨hl, hi, hA, e7, e8, e9, eS⟩ IH
  subst eS
  obtain ⟨g, hg, hT⟩ := tab_of hl
  rw [hg] at e7 e8 e9
  subst hT
  clear hg hl
  by_cases hlt : i < defs.length
  · have d1 : decide ((i : Int) < (defs.length : Int)) = true := by simpa using hlt
    obtain ⟨d, hd⟩ := nth_some hlt
    have hd' := nth_mapC (f := defC) hd
    have hw := wrap_add (i := i) (by omega)
    obtain ⟨b1, b2, b3, b4, b5⟩ := h d (nth_memU hd)
    have hv := R28_violated d b1 b2 b3 b4 b5
    rw [nth_drop hd] at hA
    simp only [modF] at hA
    generalize hvb : violF d = vb at hv hA
    obtain ⟨name, params, ⟨o, s, n, ks, ps, al, ts⟩, mode, typed, vars, needs, abs, bounds, ⟨to, tn, ta, tns, ⟨po, pn, pv, pk⟩, pp⟩, metric⟩ := d
    simp only [defC, exprC, typeC, predC, strsA, List.cons_append, List.nil_append] at hv hd'
    simp only at hA
    by_cases hm : mode = 1
    · subst hm
      simp only [ne_eq, not_true, false_and, if_false] at hA
      simp (maxSteps := 10^6) +contextual (disch := try exact dqd) only [ev0, simprocAttr, AV.int, AV.bool, AV.str, Tryz.results8, e7, e8, e9, d1, hd', hw, List.length_map]
      exact IH ((i + 1)) _ (by first | omega | (simp only; omega)) ⟨rfl, by first | omega | (dsimp only; omega), hA, rfl, rfl, rfl, rfl⟩
    · have d2 : (mode != 1) = true := by simpa using hm
      simp only [ne_eq, hm, not_false_eq_true, true_and] at hA
      cases vb <;> simp only [if_true, Bool.false_eq_true, if_false] at hA
      · simp (maxSteps := 10^6) +contextual (disch := try exact dqd) only [ev0, simprocAttr, AV.int, AV.bool, AV.str, Tryz.results8, e7, e8, e9, d1, hd', hw, d2, hv, List.length_map]
        exact IH ((i + 1)) _ (by first | omega | (simp only; omega)) ⟨rfl, by first | omega | (dsimp only; omega), hA, rfl, rfl, rfl, rfl⟩
      · simp (maxSteps := 10^6) +contextual (disch := try exact dqd) only [ev0, simprocAttr, AV.int, AV.bool, AV.str, Tryz.results8, e7, e8, e9, d1, hd', hw, d2, hv, List.length_map]
        simp [hA]
  · have d1 : decide ((i : Int) < (defs.length : Int)) = false := by simpa using hlt
    have hel : i = defs.length := by omega
    rw [hel, List.drop_length] at hA
    simp only [modF] at hA
    simp (maxSteps := 10^6) +contextual (disch := try exact dqd) only [ev0, simprocAttr, AV.int, AV.bool, AV.str, Tryz.results8, e7, e8, e9, d1, List.length_map]
    simp [hA]; rfl
end
end Go.Proofs.YtmkoiandfojgmaaGreat
namespace Go.Proofs.YtmkoiandfojgmaaGreat
open Go
section
variable [Depth]
set_option maxRecDepth 100000 in
set_option maxHeartbeats 4000000 in
theorem L28_UniqueModules (hD : 200 ≤ Depth.d + 1) (m : MT) (h : SmallM m) (S : List Ent) (tk : List Nat) (k : Nat) : cL Tryz.prog 3 [.agg (modC m)] S tk k = some (.bool true, S, tk, k) := by
  obtain ⟨b, hb, hf⟩ := L28_few m h.all h.insts fun d hd => (h.defs d hd).1
  have ha := L28_alive hD
  cases b
  case false =>
    obtain ⟨datas, classes, insts, measures, quals, defs⟩ := m
    simp only [modC] at hb
    refine opP Tryz.func3 Tryz.ntmps3 ?_
    simp (maxSteps := 10^6) +contextual (disch := try exact dqd) only [ev0, simprocAttr, AV.int, AV.bool, AV.str, Tryz.results3, modC, hb, ha]
  have hlen : m.defs.length ≤ 1048576 := by have := h.all; simp only [allDefs, List.length_append] at this; omega
  have key : ∀ d ∈ m.defs, (dpX d.body ≤ Depth.d + 1 ∧ szX d.body ≤ 262144 ∧ d.params.length ≤ 1048576 ∧ d.ty.args.length ≤ 1048576) ∧ (goodX d.body ∧ szX d.body ≤ 80000 ∧ nodesX d.body ≤ 20000 ∧ d.params.length ≤ 20 ∧ d.ty.args.length ≤ 1048576) := by
    intro d hd
    have hd2 : d ∈ allDefs m := List.mem_append.2 (.inl hd)
    obtain ⟨h1, h2, h3⟩ := hf rfl d hd2
    obtain ⟨-, h5, -⟩ := h.defs d hd2
    have h6 := dp_le_nodes d.body
    have h7 := sz_good d.body h3
    have h8 : d.ty.args.length ≤ 1048576 := by
      generalize d.ty = ty at h5 ⊢
      obtain ⟨o, s, al, ns, p, pp⟩ := ty
      simp only [bkT] at h5
      have := bkTs_len al
      simp only [TT.args]; omega
    exact ⟨⟨by omega, by omega, by omega, h8⟩, h3, by omega, by omega, h2, h8⟩
  have hm := unique_Module m hlen fun d hd => (key d hd).1
  have hr := R28_Module m hlen fun d hd => (key d hd).2
  have hfr := fun S tk k => unique_Free m h S tk k
  have hrf := fun S tk k => R28_Free m h S tk k
  have hs : sEq (modF m.defs).1 (modF m.defs).1 = true := (sEq_iff _ _).2 rfl
  generalize freeF m = fr at *
  obtain ⟨datas, classes, insts, measures, quals, defs⟩ := m
  simp only at hs hm hr
  generalize (modF defs).1 = r1 at *
  generalize (modF defs).2 = r2 at *
  simp only [modC] at hb hm hr hfr hrf
  refine opP Tryz.func3 Tryz.ntmps3 ?_
  simp (maxSteps := 10^6) +contextual (disch := try exact dqd) only [ev0, simprocAttr, AV.int, AV.bool, AV.str, Tryz.results3, modC, hb, ha, hm, hr, hfr, hrf, hs]
  done
end
end Go.Proofs.YtmkoiandfojgmaaGreat
namespace Go.Proofs.YtmkoiandfojgmaaGreat
open Go
namespace UN
@[reducible] noncomputable def EN : Ext Tryz.prog where
  on := fun _ => false
  call := fun _ _ _ _ _ => none
  mv := fun _ => false
  lp := fun _ _ => none
theorem en_ok : @ExtOk _ Tryz.prog EN := by
  refine @ExtOk.mk _ _ EN ?_ ?_ ?_
  · intro c st st' _ h
    cases h
  · intro f args S tk n r S' tk' n' h
    simp [extC] at h
  · intro M f args S tk n r S' tk' n' h
    unfold callP at h
    split at h
    · simp [extC] at h
    · cases h
attribute [local instance] EN
attribute [local instance] en_ok
theorem ext_mv (f : FuncId) : Ext.mv Tryz.prog f = false := rfl
set_option linter.defProp false in
def ev0 := And.intro ext_mv <| And.intro @entAt.eq_def <| And.intro evt tys
section
variable (S : List Ent) (tk : List Nat) (k : Nat)
theorem slices_Index (l : List ByteArray) (s : ByteArray) (hlen : l.length ≤ 1048576) : cL Tryz.prog 83 [strsA l, .str s] S tk k = some (.int (findF 0 l s), S, tk, k) := by
  refine opP Tryz.func83 Tryz.ntmps83 ?_
  simp (maxSteps := 10^6) +contextual (disch := try exact dqd) only [ev0, simprocAttr, AV.int, AV.bool, AV.str, Tryz.results83, strsA]
  refine loop1 (P := Tryz.prog) (fun x st => st.T.length = 19 ∧ (x ≤ l.length) ∧ (findF 0 l s = findF x (l.drop x) s) ∧ getT st.T 0 = strsA l ∧ getT st.T 1 = .str s ∧ getT st.T 7 = .int (l.length : Nat) ∧ getT st.T 8 = .int (x : Nat) ∧ st.S = []) (fun x => l.length - x) (fun x => .int (findF 0 l s)) (0) ?_ ?_
  case refine_2 => exact ⟨rfl, Nat.zero_le _, rfl, rfl, rfl, rfl, rfl, rfl⟩
  rintro i ⟨T, S', tk', n'⟩ ⟨hl, hi, hA, e0, e1, e7, e8, eS⟩ IH
  subst eS
  obtain ⟨g, hg, hT⟩ := tab_of hl
  rw [hg] at e0 e1 e7 e8
  subst hT
  clear hg hl
  by_cases la : i < l.length
  · have d1 : decide ((i : Int) < (l.length : Int)) = true := by simpa using la
    obtain ⟨x, hx⟩ := nth_some la
    have hx' := nth_strs hx
    have hw := wrap_add (i := i) (by omega)
    rw [nth_drop hx] at hA
    simp only [findF] at hA
    have hsy := sEq_comm s x
    cases hq : sEq x s <;> rw [hq] at hA hsy
    · simp (maxSteps := 10^6) +contextual (disch := try exact dqd) only [ev0, simprocAttr, AV.int, AV.bool, AV.str, Tryz.results83, e0, e1, e7, e8, d1, hx', hw, strC, strsA, hsy]
      exact IH (i + 1) _ (by omega) ⟨rfl, by omega, by simpa using hA, rfl, rfl, rfl, rfl, rfl⟩
    · simp (maxSteps := 10^6) +contextual (disch := try exact dqd) only [ev0, simprocAttr, AV.int, AV.bool, AV.str, Tryz.results83, e0, e1, e7, e8, d1, hx', hw, strC, strsA, hsy]
      simpa using hA.symm
  · have d1 : decide ((i : Int) < (l.length : Int)) = false := by simpa using la
    have he : i = l.length := by omega
    simp (maxSteps := 10^6) +contextual (disch := try exact dqd) only [ev0, simprocAttr, AV.int, AV.bool, AV.str, Tryz.results83, e0, e1, e7, e8, d1]
    rw [hA, he, List.drop_length]; rfl
theorem slices_Contains (l : List ByteArray) (s : ByteArray) (hlen : l.length ≤ 1048576) : cL Tryz.prog 53 [strsA l, .str s] S tk k = some (.bool (memB l s), S, tk, k) := by
  refine opP Tryz.func53 Tryz.ntmps53 ?_
  have c := fun S tk k => slices_Index S tk k l s hlen
  simp only [strsA] at c
  have hn := findF_nn l 0 s
  simp (maxSteps := 10^6) +contextual (disch := try exact dqd) only [ev0, simprocAttr, AV.int, AV.bool, AV.str, Tryz.results53, c, strsA, hn]
end
theorem Contains_calls (hm : Tryz.prog.follows .mixedOrders = true) {C : Cx} (hs : SR C) {l : List ByteArray} {c : Cap} {s : ByteArray} {x : Value} (hl : l.length ≤ 1048576) (hx : VR C (.frz (l.map strC) c) x) :
    Calls Tryz.prog 53 #[x, .string s] C.w fun e w' => ∃ C', e = .returned (.bool (memB l s)) ∧ C'.w = w' ∧ Le C C' ∧ SR C' ∧ C'.S = C.S ∧ C'.tk = C.tk ∧ C'.n = C.n := by
  have hx' : VR C (strsA l) x := by
    simp only [VR, strsA] at hx ⊢
    obtain ⟨a, len, cap, h1, h2, h3, -, h5⟩ := hx
    exact ⟨a, len, cap, h1, h2, h3, trivial, h5⟩
  refine Calls.mono (calls_of hm (slices_Contains C.S C.tk C.n l s hl) rfl rfl rfl hs (vs := #[x, .string s]) (by simp only [VRs, and_true]; exact ⟨hx', by simp only [AV.str, VR]⟩)) ?_
  rintro e w' ⟨v, C', rfl, h1, h2, h3, h4, h5, h6, h7⟩
  simp only [VR] at h7
  subst h7
  exact ⟨C', rfl, h1, h2, h3, h4, h5, h6⟩
end UN
end Go.Proofs.YtmkoiandfojgmaaGreat
