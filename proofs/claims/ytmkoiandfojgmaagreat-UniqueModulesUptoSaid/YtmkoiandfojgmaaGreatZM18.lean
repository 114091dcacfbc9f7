/-
  Texts laid together: UX8, UX9, UX10, UR13.
-/
import Derived.Test.YtmkoiandfojgmaaGreatZM17
import Derived.Test.YtmkoiandfojgmaaGreatZM13
namespace Go.Proofs.YtmkoiandfojgmaaGreat
open Go
section
variable [Depth]
set_option maxRecDepth 100000 in
set_option maxHeartbeats 2000000 in
theorem R20_each_step (e : XT) (hb : bkX e ≤ 1048576) (ih : ∀ q ∈ bodiesX e, ∃ m : Int, (∀ S tk k, cL Tryz.prog 34 [.agg (exprC q)] S tk k = some (.int m, S, tk, k)) ∧ (m = 0 → goodX q)) : ∃ m : Int, (∀ S tk k, cL Tryz.prog 34 [.agg (exprC e)] S tk k = some (.int m, S, tk, k)) ∧ (m = 0 → goodX e) := by
  have hbl := bodies_len e
  have hbd := bodies_run e hb
  obtain ⟨x0, hn, hg⟩ := R20_node e hb
  suffices H : ∀ Q : Prop, ((goodN e → (∀ q ∈ bodiesX e, goodX q) → Q) → ∃ m : Int, (∀ S tk k, cL Tryz.prog 34 [.agg (exprC e)] S tk k = some (.int m, S, tk, k)) ∧ (m = 0 → Q)) from H _ fun h1 h2 => goodX_of h1 h2
  intro Q hQ
  generalize bodiesX e = l at *
  obtain ⟨o, s, n, ks, ps, al, ts⟩ := e
  simp only [exprC] at hn hbd
  refine opI' Tryz.func34 Tryz.ntmps34 ?_
  simp (maxSteps := 10^6) +contextual (disch := try exact dqd) only [ev0, simprocAttr, AV.int, AV.bool, AV.str, Tryz.results34, gE, exprC, hbd, hn]
  clear hbd
  refine loopG (P := Tryz.prog) (fun x st => st.T.length = 26 ∧ (x.1 ≤ l.length) ∧ (x.2 = 0 → goodN (.node o s n ks ps al ts) ∧ ∀ q ∈ l.take x.1, goodX q) ∧ getT st.T 3 = .int x.2 ∧ getT st.T 4 = .frz (exprsC l) .unk ∧ getT st.T 5 = .int (x.1 : Nat) ∧ st.S = [⟨0, [.prim (.int .i64 o), .prim (.string s), .prim (.int .i64 n), .frz (exprsC ks) .unk, .frz (ps.map paramC) .unk, .frz (altsC al) .unk, .frz (typesC ts) .unk]⟩]) (fun x => l.length - x.1) (0, x0) ?_ ?_
  case refine_2 => exact ⟨rfl, Nat.zero_le _, fun h => ⟨hg h, by simp⟩, rfl, rfl, rfl, rfl⟩
  rintro ⟨i, x⟩ ⟨T, S', tk', n'⟩ ⟨hl, hi, hx, e3, e4, e5, eS⟩ IH
  simp only at hi hx e3 e4 e5 eS
  subst eS
  obtain ⟨g, hg, hT⟩ := tab_of hl
  rw [hg] at e3 e4 e5
  subst hT
  clear hg hl
  by_cases la : i < l.length
  · have d1 : decide ((i : Int) < (l.length : Int)) = true := by simpa using la
    obtain ⟨q, hq⟩ := nth_some la
    have hq' := nth_exprs hq
    have hw := wrap_add (i := i) (by omega)
    obtain ⟨m, hc, hm⟩ := ih q (nth_memU hq)
    have hst : x = 0 → m = 0 → goodN (.node o s n ks ps al ts) ∧ ∀ y ∈ l.take (i + 1), goodX y := fun h1 h2 => ⟨(hx h1).1, by
      rw [take_mapS hq]
      intro y hy
      rcases List.mem_append.1 hy with hy | hy
      · exact (hx h1).2 y hy
      · rw [List.mem_singleton.1 hy]; exact hm h2⟩
    obtain ⟨qo, qs, qn, qk, qp, qa, qt⟩ := q
    simp only [exprC] at hq' hc
    by_cases h0 : x = 0
    · subst h0
      simp (maxSteps := 10^6) +contextual (disch := try exact dqd) only [ev0, simprocAttr, AV.int, AV.bool, AV.str, Tryz.results34, gE, e3, e4, e5, d1, hq', hw, hc, exprsC_len]
      exact IH ((i + 1, m)) _ (by first | omega | (simp only; omega)) ⟨rfl, la, hst rfl, rfl, rfl, rfl, rfl⟩
    · have d2 : (x == 0) = false := by simpa using h0
      simp (maxSteps := 10^6) +contextual (disch := try exact dqd) only [ev0, simprocAttr, AV.int, AV.bool, AV.str, Tryz.results34, gE, e3, e4, e5, d1, d2, exprsC_len]
      intro h; exact absurd h h0
  · have d1 : decide ((i : Int) < (l.length : Int)) = false := by simpa using la
    rw [List.take_of_length_le (by omega)] at hx
    simp (maxSteps := 10^6) +contextual (disch := try exact dqd) only [ev0, simprocAttr, AV.int, AV.bool, AV.str, Tryz.results34, gE, e3, e4, e5, d1, exprsC_len]
    intro h; exact hQ (hx h).1 (hx h).2
theorem R20_each : ∀ (b : Nat) (e : XT), bkX e ≤ b → bkX e ≤ 1048576 → ∃ m : Int, (∀ S tk k, cL Tryz.prog 34 [.agg (exprC e)] S tk k = some (.int m, S, tk, k)) ∧ (m = 0 → goodX e)
  | 0, e, h, _ => by have := bkX_pos e; omega
  | b + 1, e, h, hb => R20_each_step e hb fun q hq => R20_each b q (by have := bodies_mem hq; omega) (by have := bodies_mem hq; omega)
theorem R20_Check (e : XT) (hb : bkX e ≤ 1048576) : ∃ m : Int, (∀ S tk k, cL Tryz.prog 12 [.agg (exprC e)] S tk k = some (.int m, S, tk, k)) ∧ (m = 0 → goodX e) := by
  have h1 := R20_Nodes _ e (Nat.le_refl _) hb
  have h2 := R20_Depth _ e (Nat.le_refl _) hb
  obtain ⟨m, h3, hm⟩ := R20_each _ e (Nat.le_refl _) hb
  suffices H : ∀ Q : Prop, ((m = 0 → Q) → ∃ m : Int, (∀ S tk k, cL Tryz.prog 12 [.agg (exprC e)] S tk k = some (.int m, S, tk, k)) ∧ (m = 0 → Q)) from H _ hm
  clear hm
  intro Q hQ
  generalize nodesX e = a at *
  generalize dpX e = b at *
  obtain ⟨o, s, n, ks, ps, al, ts⟩ := e
  simp only [exprC] at h1 h2 h3
  refine opI' Tryz.func12 Tryz.ntmps12 ?_
  simp (maxSteps := 10^6) +contextual (disch := try exact dqd) only [ev0, simprocAttr, AV.int, AV.bool, AV.str, Tryz.results12, gE, exprC, h1, h2, h3]
  exact fun _ _ h => hQ h
end
end Go.Proofs.YtmkoiandfojgmaaGreat
namespace Go.Proofs.YtmkoiandfojgmaaGreat
open Go
mutual
theorem sz_good : ∀ e : XT, goodX e → szX e + 7 ≤ 14 * nodesX e
  | .node o s n ks ps al ts, h => by
    simp only [goodX] at h
    have h1 := sz_goodK ks h.2.1
    have h2 := sz_goodL al h.2.2 h.1.nms
    have h3 := h.1.prs
    simp only [szX, nodesX]
    omega
theorem sz_goodK : ∀ ks : List XT, goodXs ks → szXs ks ≤ 14 * nodesXs ks
  | [], _ => by simp [szXs, nodesXs]
  | k :: ks, h => by
    simp only [goodXs] at h
    have := sz_good k h.1
    have := sz_goodK ks h.2
    simp only [szXs, nodesXs]; omega
theorem sz_goodL : ∀ al : List LT, goodLs al → (∀ a ∈ al, a.names.length ≤ 6) → szLs al ≤ 14 * nodesLs al
  | [], _, _ => by simp [szLs, nodesLs]
  | .mk c ns b :: al, h, hn => by
    simp only [goodLs] at h
    have h1 := sz_good b h.1
    have h2 := sz_goodL al h.2 fun a ha => hn a (by simp [ha])
    have h3 := hn (.mk c ns b) (by simp)
    simp only [LT.names] at h3
    simp only [szLs, szL, nodesLs]; omega
end
theorem GoodN.zero : GoodN 0 [] [] [] := ⟨fun _ => rfl, fun _ => rfl, fun h => by omega, fun h => by omega, fun h => by omega, fun h => by omega, by simp, by simp, by simp, by simp⟩
section
variable [Depth]
theorem R20_sameParams0 (c c2 : Cap) (l : List (ByteArray × TT)) : ∃ b : Bool, (∀ S tk k, cL Tryz.prog 40 [.frz (l.map paramC) c2, .frz [] c] S tk k = some (.bool b, S, tk, k)) ∧ (b = true → l = []) := by
  refine opB Tryz.func40 Tryz.ntmps40 ?_
  cases l with
  | nil =>
    simp (maxSteps := 10^6) +contextual (disch := try exact dqd) only [ev0, simprocAttr, AV.int, AV.bool, AV.str, Tryz.results40, gE, List.map_nil]
    refine loopG (P := Tryz.prog) (fun x st => st.T.length = 42 ∧ (x = 0) ∧ getT st.T 0 = .frz [] .unk ∧ getT st.T 5 = .int (0 : Nat) ∧ st.S = []) (fun x => 0) (0) ?_ ?_
    case refine_2 => exact ⟨rfl, rfl, rfl, rfl, rfl⟩
    rintro i ⟨T, S', tk', n'⟩ ⟨hl, hi, e0, e5, eS⟩ IH
    subst eS
    obtain ⟨g, hg, hT⟩ := tab_of hl
    rw [hg] at e0 e5
    subst hT
    clear hg hl
    simp (maxSteps := 10^6) +contextual (disch := try exact dqd) only [ev0, simprocAttr, AV.int, AV.bool, AV.str, Tryz.results40, gE, e0, e5]
  | cons x l =>
    have d1 : (((l.length + 1 : Nat) : Int) != 0) = true := by simp; omega
    simp (maxSteps := 10^6) +contextual (disch := try exact dqd) only [ev0, simprocAttr, AV.int, AV.bool, AV.str, Tryz.results40, gE, List.map_cons, List.length_cons, List.length_map, d1]
set_option maxRecDepth 100000 in
set_option maxHeartbeats 2000000 in
theorem R20_Same0 (e : XT) : ∃ b : Bool, (∀ S tk k, cL Tryz.prog 18 [.agg (exprC e), .agg [.int 0, .str ⟨#[]⟩, .int 0, .frz [] .nilc, .frz [] .nilc, .frz [] .nilc, .frz [] .nilc]] S tk k = some (.bool b, S, tk, k)) ∧ (b = true → goodX e) := by
  obtain ⟨o, s, n, ks, ps, al, ts⟩ := e
  obtain ⟨b1, h1, h1'⟩ := R20_sameParams0 .unk .unk ps
  obtain ⟨b2, h2, h2'⟩ := R20_SameTypes0 .unk .unk ts
  have hkl := exprsC_len ks
  have hal := altsC_len al
  suffices H : ∀ Q : Prop, ((o = 0 → ps = [] → ks = [] → al = [] → Q) → ∃ b : Bool, (∀ S tk k, cL Tryz.prog 18 [.agg (exprC (.node o s n ks ps al ts)), .agg [.int 0, .str ⟨#[]⟩, .int 0, .frz [] .nilc, .frz [] .nilc, .frz [] .nilc, .frz [] .nilc]] S tk k = some (.bool b, S, tk, k)) ∧ (b = true → Q)) from H _ fun a b c d => by
    subst a b c d
    simp only [goodX, goodXs, goodLs, and_true]
    exact GoodN.zero
  intro Q hQ
  refine opB Tryz.func18 Tryz.ntmps18 ?_
  by_cases ho : o = 0
  case neg =>
    have d0 : (o != 0) = true := by simpa using ho
    simp (maxSteps := 10^6) +contextual (disch := try exact dqd) only [ev0, simprocAttr, AV.int, AV.bool, AV.str, Tryz.results18, gE, exprC, d0]
  cases q0 : sEq s ⟨#[]⟩
  case false => subst ho; simp (maxSteps := 10^6) +contextual (disch := try exact dqd) only [ev0, simprocAttr, AV.int, AV.bool, AV.str, Tryz.results18, gE, exprC, q0]
  by_cases hn : n = 0
  case neg =>
    have d0 : (n != 0) = true := by simpa using hn
    subst ho
    simp (maxSteps := 10^6) +contextual (disch := try exact dqd) only [ev0, simprocAttr, AV.int, AV.bool, AV.str, Tryz.results18, gE, exprC, q0, d0]
  cases b1
  case false => subst ho hn; simp (maxSteps := 10^6) +contextual (disch := try exact dqd) only [ev0, simprocAttr, AV.int, AV.bool, AV.str, Tryz.results18, gE, exprC, q0, h1]
  cases b2
  case false => subst ho hn; simp (maxSteps := 10^6) +contextual (disch := try exact dqd) only [ev0, simprocAttr, AV.int, AV.bool, AV.str, Tryz.results18, gE, exprC, q0, h1, h2]
  by_cases hk : ks = []
  case neg =>
    have d0 : ((ks.length : Int) != 0) = true := by cases ks with
      | nil => exact absurd rfl hk
      | cons a l => simp; omega
    subst ho hn
    simp (maxSteps := 10^6) +contextual (disch := try exact dqd) only [ev0, simprocAttr, AV.int, AV.bool, AV.str, Tryz.results18, gE, exprC, q0, h1, h2, hkl, d0]
  by_cases ha : al = []
  case neg =>
    have d0 : ((al.length : Int) != 0) = true := by cases al with
      | nil => exact absurd rfl ha
      | cons a l => simp; omega
    subst ho hn hk
    simp (maxSteps := 10^6) +contextual (disch := try exact dqd) only [ev0, simprocAttr, AV.int, AV.bool, AV.str, Tryz.results18, gE, exprC, exprsC, q0, h1, h2, hal, d0]
  have hq := hQ ho (h1' rfl) hk ha
  have hps := h1' rfl
  have hts := h2' rfl
  subst ho hn hk ha hps hts
  simp only [List.map_nil, typesC] at h1 h2
  simp (maxSteps := 10^6) +contextual (disch := try exact dqd) only [ev0, simprocAttr, AV.int, AV.bool, AV.str, Tryz.results18, gE, exprC, exprsC, altsC, typesC, List.map_nil, q0, h1, h2]
  refine loopG (P := Tryz.prog) (fun x st => st.T.length = 117 ∧ (x = 0) ∧ getT st.T 2 = .ref 0 0 0 ∧ getT st.T 3 = .ref 1 1 0 ∧ getT st.T 5 = .int (0 : Nat) ∧ st.S = [⟨0, [.prim (.int .i64 0), .prim (.string s), .prim (.int .i64 0), .frz [] .unk, .frz [] .unk, .frz [] .unk, .frz [] .unk]⟩, ⟨1, [.prim (.int .i64 0), .prim (.string ⟨#[]⟩), .prim (.int .i64 0), .frz [] .unk, .frz [] .unk, .frz [] .unk, .frz [] .unk]⟩]) (fun x => 0) (0) ?_ ?_
  case refine_2 => exact ⟨rfl, rfl, rfl, rfl, rfl, rfl⟩
  rintro i ⟨T, S', tk', n'⟩ ⟨hl, hi, e2, e3, e5, eS⟩ IH
  subst eS
  obtain ⟨g, hg, hT⟩ := tab_of hl
  rw [hg] at e2 e3 e5
  subst hT
  clear hg hl
  simp (maxSteps := 10^6) +contextual (disch := try exact dqd) only [ev0, simprocAttr, AV.int, AV.bool, AV.str, Tryz.results18, gE, e2, e3, e5]
  clear IH e2 e3 e5
  refine loopG (P := Tryz.prog) (fun x st => st.T.length = 117 ∧ (x = 0) ∧ getT st.T 2 = .ref 0 0 0 ∧ getT st.T 3 = .ref 1 1 0 ∧ getT st.T 6 = .int (0 : Nat) ∧ st.S = [⟨0, [.prim (.int .i64 0), .prim (.string s), .prim (.int .i64 0), .frz [] .unk, .frz [] .unk, .frz [] .unk, .frz [] .unk]⟩, ⟨1, [.prim (.int .i64 0), .prim (.string ⟨#[]⟩), .prim (.int .i64 0), .frz [] .unk, .frz [] .unk, .frz [] .unk, .frz [] .unk]⟩]) (fun x => 0) (0) ?_ ?_
  case refine_2 => exact ⟨rfl, rfl, rfl, rfl, rfl, rfl⟩
  rintro i ⟨T, S', tk', n'⟩ ⟨hl, hi, e2, e3, e6, eS⟩ IH
  subst eS
  obtain ⟨g, hg, hT⟩ := tab_of hl
  rw [hg] at e2 e3 e6
  subst hT
  clear hg hl
  simp (maxSteps := 10^6) +contextual (disch := try exact dqd) only [ev0, simprocAttr, AV.int, AV.bool, AV.str, Tryz.results18, gE, e2, e3, e6, hq]
end
end Go.Proofs.YtmkoiandfojgmaaGreat
namespace Go.Proofs.YtmkoiandfojgmaaGreat
open Go
section
variable [Depth]
set_option maxRecDepth 100000 in
set_option maxHeartbeats 4000000 in
theorem L28_few (m : MT) (hl : (allDefs m).length ≤ 1048576) (hi : m.insts.length ≤ 1048576) (hb : ∀ d ∈ allDefs m, bkX d.body ≤ 1048576) :
    ∃ b : Bool, (∀ S tk k, cL Tryz.prog 5 [.agg (modC m)] S tk k = some (.bool b, S, tk, k)) ∧ (b = true → ∀ d ∈ allDefs m, nodesX d.body ≤ 200 ∧ d.params.length ≤ 20 ∧ goodX d.body) := by
  suffices H : ∀ Q : Prop, ((∀ d ∈ allDefs m, nodesX d.body ≤ 200 ∧ d.params.length ≤ 20 ∧ goodX d.body) → Q) → ∃ b : Bool, (∀ S tk k, cL Tryz.prog 5 [.agg (modC m)] S tk k = some (.bool b, S, tk, k)) ∧ (b = true → Q) from H _ fun h => h
  intro Q hQ
  obtain ⟨datas, classes, insts, measures, quals, defs⟩ := m
  simp only [allDefs, List.length_append] at hl hb hQ hi
  have hfl := flat_le insts
  have hap0 : ∀ tk, apB (some 25) [] .tight (defs.map defC) tk = some (.frz (defs.map defC) (capNew tk .tight 25), capPut tk .tight) := fun tk => apB_all (es := []) rfl rfl (rowsOk_defs defs) (by simp; omega)
  refine opB Tryz.func5 Tryz.ntmps5 ?_
  simp (maxSteps := 10^6) +contextual (disch := try exact dqd) only [ev0, simprocAttr, AV.int, AV.bool, AV.str, Tryz.results5, gE, modC, hap0]
  generalize hMC : [AV.frz (datas.map dataC) .unk, .frz (classes.map classC) .unk, .frz (insts.map instC) .unk, .frz measures .unk, .frz quals .unk, .frz (defs.map defC) .unk] = MC
  clear hap0
  refine loopG (P := Tryz.prog) (fun x st => st.T.length = 69 ∧ (x.1 ≤ insts.length) ∧ (okCap st.tk x.2.1 25 = true) ∧ (x.2.2 = (defs ++ (insts.take x.1).flatMap NT.defs).map defC) ∧ getT st.T 1 = .ref 0 0 0 ∧ getT st.T 3 = .frz x.2.2 x.2.1 ∧ getT st.T 13 = .frz (insts.map instC) .unk ∧ getT st.T 14 = .int (insts.length : Nat) ∧ getT st.T 15 = .int (x.1 : Nat) ∧ st.S = [⟨0, MC⟩]) (fun x => insts.length - x.1) (0, capNew [] .tight 25, defs.map defC) ?_ ?_
  case refine_2 => exact ⟨rfl, Nat.zero_le _, okCap_new (c := .tight) (tk := []) rfl, by simp, rfl, rfl, rfl, rfl, rfl, rfl⟩
  rintro ⟨i, c, L⟩ ⟨T, S', tk', n'⟩ ⟨hl, hj, hok, hL, e1, e3, e13, e14, e15, eS⟩ IH
  simp only at hj hok hL e1 e3 e13 e14 e15 eS
  subst eS
  obtain ⟨g, hg, hT⟩ := tab_of hl
  rw [hg] at e1 e3 e13 e14 e15
  subst hT
  clear hg hl
  by_cases la : i < insts.length
  · have d1 : decide ((i : Int) < (insts.length : Int)) = true := by simpa using la
    obtain ⟨x, hx⟩ := nth_some la
    have hx' := nth_mapC (f := instC) hx
    have hw := wrap_add (i := i) (by omega)
    have hr : rowsOk 25 L = true := by rw [hL]; exact rowsOk_defs _
    have hft := flat_take hx
    have hf1 := hfl (i + 1)
    have hap := apB_all (ys := x.defs.map defC) hok hr (rowsOk_defs _) (by rw [hL]; rw [hft] at hf1; simp only [List.length_map, List.length_append] at hf1 ⊢; omega)
    have hL2 : L ++ x.defs.map defC = (defs ++ (insts.take (i + 1)).flatMap NT.defs).map defC := by rw [hft, hL]; simp
    obtain ⟨nm, ⟨to, tn, ta, tns, ⟨po, pn, pv, pk⟩, pp⟩, nds, dfs⟩ := x
    simp only [instC, typeC, predC, strsA, List.cons_append, List.nil_append] at hx' hap hL2
    simp (maxSteps := 10^6) +contextual (disch := try exact dqd) only [ev0, simprocAttr, AV.int, AV.bool, AV.str, Tryz.results5, gE, e1, e3, e13, e14, e15, d1, hx', hw, hap]
    exact IH ((i + 1, _, _)) _ (by first | omega | (simp only; omega)) ⟨rfl, la, okCap_new hok, hL2, rfl, rfl, rfl, rfl, rfl, rfl⟩
  · have d1 : decide ((i : Int) < (insts.length : Int)) = false := by simpa using la
    rw [List.take_of_length_le (by omega)] at hL
    subst hL
    simp (maxSteps := 10^6) +contextual (disch := try exact dqd) only [ev0, simprocAttr, AV.int, AV.bool, AV.str, Tryz.results5, gE, e1, e3, e13, e14, e15, d1, List.length_map]
    clear e1 e3 e13 e14 e15 IH d1 la hok
    have hall : (defs ++ insts.flatMap NT.defs).length ≤ 1048576 := by simpa using hl
    have hbd : ∀ d ∈ defs ++ insts.flatMap NT.defs, bkX d.body ≤ 1048576 := hb
    generalize defs ++ insts.flatMap NT.defs = D at *
    refine loopG (P := Tryz.prog) (fun x st => st.T.length = 69 ∧ (x ≤ D.length) ∧ (∀ d ∈ D.take x, nodesX d.body ≤ 200 ∧ d.params.length ≤ 20 ∧ goodX d.body) ∧ getT st.T 1 = .ref 0 0 0 ∧ getT st.T 3 = .frz (D.map defC) c ∧ getT st.T 24 = .frz (D.map defC) c ∧ getT st.T 25 = .int (D.length : Nat) ∧ getT st.T 26 = .int (x : Nat) ∧ st.S = [⟨0, MC⟩]) (fun x => D.length - x) (0) ?_ ?_
    case refine_2 => exact ⟨rfl, Nat.zero_le _, by simp, rfl, rfl, rfl, rfl, rfl, rfl⟩
    rintro i ⟨T, S', tk', n'⟩ ⟨hl, hi2, hA, e1, e3, e24, e25, e26, eS⟩ IH
    subst eS
    obtain ⟨g, hg, hT⟩ := tab_of hl
    rw [hg] at e1 e3 e24 e25 e26
    subst hT
    clear hg hl
    by_cases la : i < D.length
    · have d1 : decide ((i : Int) < (D.length : Int)) = true := by simpa using la
      obtain ⟨d, hd⟩ := nth_some la
      have hd' := nth_mapC (f := defC) hd
      have hw := wrap_add (i := i) (by omega)
      have hbd := hbd d (nth_memU hd)
      have hn := R20_Nodes _ d.body (Nat.le_refl _) hbd
      obtain ⟨mc, hc, hcg⟩ := R20_Check d.body hbd
      obtain ⟨bs, hs, hsg⟩ := R20_Same0 d.body
      have hst : nodesX d.body ≤ 200 → d.params.length ≤ 20 → goodX d.body → ∀ y ∈ D.take (i + 1), nodesX y.body ≤ 200 ∧ y.params.length ≤ 20 ∧ goodX y.body := fun h1 h2 h3 y hy => by
        rw [take_mapS hd] at hy
        rcases List.mem_append.1 hy with hy | hy
        · exact hA y hy
        · rw [List.mem_singleton.1 hy]; exact ⟨h1, h2, h3⟩
      have hpl : (d.params.map strC).length = d.params.length := List.length_map ..
      generalize nodesX d.body = nb at *
      generalize goodX d.body = gb at *
      obtain ⟨name, params, ⟨o, s, n, ks, ps, al, ts⟩, mode, typed, vars, needs, abs, bounds, ⟨to, tn, ta, tns, ⟨po, pn, pv, pk⟩, pp⟩, metric⟩ := d
      simp only [defC, exprC, typeC, predC, strsA, List.cons_append, List.nil_append] at hd' hn hc hs hpl hst
      cases q1 : decide ((nb : Int) > 200)
      case true => simp (maxSteps := 10^6) +contextual (disch := try exact dqd) only [ev0, simprocAttr, AV.int, AV.bool, AV.str, Tryz.results5, gE, e1, e3, e24, e25, e26, d1, hd', hn, q1]
      cases q2 : decide ((params.length : Int) > 20)
      case true => simp (maxSteps := 10^6) +contextual (disch := try exact dqd) only [ev0, simprocAttr, AV.int, AV.bool, AV.str, Tryz.results5, gE, e1, e3, e24, e25, e26, d1, hd', hn, hpl, q1, q2]
      have h1 : nb ≤ 200 := by simp at q1; omega
      have h2 : params.length ≤ 20 := by simp at q2; omega
      by_cases hm : mc = 0
      · subst hm
        simp (maxSteps := 10^6) +contextual (disch := try exact dqd) only [ev0, simprocAttr, AV.int, AV.bool, AV.str, Tryz.results5, gE, e1, e3, e24, e25, e26, d1, hd', hn, hpl, q1, q2, hc, hw]
        exact IH ((i + 1)) _ (by first | omega | (simp only; omega)) ⟨rfl, la, hst h1 h2 (hcg rfl), rfl, rfl, rfl, rfl, rfl, rfl⟩
      · have q3 : (mc != 0) = true := by simpa using hm
        cases bs
        · simp (maxSteps := 10^6) +contextual (disch := try exact dqd) only [ev0, simprocAttr, AV.int, AV.bool, AV.str, Tryz.results5, gE, e1, e3, e24, e25, e26, d1, hd', hn, hpl, q1, q2, q3, hc, hs]
        · simp (maxSteps := 10^6) +contextual (disch := try exact dqd) only [ev0, simprocAttr, AV.int, AV.bool, AV.str, Tryz.results5, gE, e1, e3, e24, e25, e26, d1, hd', hn, hpl, q1, q2, q3, hc, hs, hw]
          exact IH ((i + 1)) _ (by first | omega | (simp only; omega)) ⟨rfl, la, hst h1 h2 (hsg rfl), rfl, rfl, rfl, rfl, rfl, rfl⟩
    · have d1 : decide ((i : Int) < (D.length : Int)) = false := by simpa using la
      rw [List.take_of_length_le (by omega)] at hA
      have hq := hQ hA
      subst hMC
      simp (maxSteps := 10^6) +contextual (disch := try exact dqd) only [ev0, simprocAttr, AV.int, AV.bool, AV.str, Tryz.results5, gE, e1, e3, e24, e25, e26, d1, hq, List.length_map]
end
end Go.Proofs.YtmkoiandfojgmaaGreat
namespace Go.Proofs.YtmkoiandfojgmaaGreat
open Go
section
variable [Depth]
set_option maxRecDepth 100000 in
set_option maxHeartbeats 2000000 in
theorem cellR_step (t : TT) (hb : bkT t ≤ 1048576) (ih : ∀ q ∈ t.args, ∀ S tk k, cL Tryz.prog 30 [.agg (typeC q)] S tk k = some (.bool (deepT q), S, tk, k)) (S : List Ent) (tk : List Nat) (k : Nat) : cL Tryz.prog 30 [.agg (typeC t)] S tk k = some (.bool (deepT t), S, tk, k) := by
  obtain ⟨o, s, al, ns, ⟨po, pn, pv, pk⟩, pp⟩ := t
  simp only [TT.args] at ih
  simp only [bkT] at hb
  have hl := bkTs_len al
  obtain ⟨R, hR⟩ : ∃ R, R = deepT (.node o s al ns (.node po pn pv pk) pp) := ⟨_, rfl⟩
  rw [← hR]
  simp only [deepT] at hR
  have hR0 : R = (deepTs (al.drop 0) || (o == 3)) := by rw [hR, Bool.or_comm]; rfl
  clear hR
  refine opP Tryz.func30 Tryz.ntmps30 ?_
  simp (maxSteps := 10^6) +contextual (disch := try exact dqd) only [ev0, simprocAttr, AV.int, AV.bool, AV.str, Tryz.results30, typeC, predC, strsA, List.cons_append, List.nil_append, typesC_len]
  refine loop1 (P := Tryz.prog) (fun x st => st.T.length = 18 ∧ (x ≤ al.length) ∧ (R = (deepTs (al.drop x) || (o == 3))) ∧ getT st.T 1 = .ref 0 0 0 ∧ getT st.T 6 = .frz (typesC al) .unk ∧ getT st.T 7 = .int (al.length : Nat) ∧ getT st.T 8 = .int (x : Nat) ∧ st.S = [⟨0, [.prim (.int .i64 o), .prim (.string s), .frz (typesC al) .unk, .frz (ns.map strC) .unk, .prim (.int .i64 po), .prim (.string pn), .prim (.int .i64 pv), .frz (predsC pk) .unk, .frz (predsC pp) .unk]⟩]) (fun x => al.length - x) (fun x => .bool R) (0) ?_ ?_
  case refine_2 => exact ⟨rfl, Nat.zero_le _, hR0, rfl, rfl, rfl, rfl, rfl⟩
  rintro i ⟨T, S', tk', n'⟩ ⟨hl, hi, hA, e1, e6, e7, e8, eS⟩ IH
  subst eS
  obtain ⟨g, hg, hT⟩ := tab_of hl
  rw [hg] at e1 e6 e7 e8
  subst hT
  clear hg hl
  by_cases la : i < al.length
  · have d1 : decide ((i : Int) < (al.length : Int)) = true := by simpa using la
    obtain ⟨x, hx⟩ := nth_some la
    have hx' := nth_types hx
    have hw := wrap_add (i := i) (by omega)
    have hc := ih x (nth_memU hx)
    rw [nth_drop hx] at hA
    simp only [deepTs] at hA
    obtain ⟨o', s', a', ns', ⟨po', pn', pv', pk'⟩, pp'⟩ := x
    simp only [typeC, predC, strsA, List.cons_append, List.nil_append] at hx' hc
    generalize deepT (.node o' s' a' ns' (.node po' pn' pv' pk') pp') = b at *
    cases b
    · simp (maxSteps := 10^6) +contextual (disch := try exact dqd) only [ev0, simprocAttr, AV.int, AV.bool, AV.str, Tryz.results30, e1, e6, e7, e8, d1, hx', hw, hc, typesC_len]
      exact IH ((i + 1)) _ (by first | omega | (simp only; omega)) ⟨rfl, la, by simpa using hA, rfl, rfl, rfl, rfl, rfl⟩
    · simp (maxSteps := 10^6) +contextual (disch := try exact dqd) only [ev0, simprocAttr, AV.int, AV.bool, AV.str, Tryz.results30, e1, e6, e7, e8, d1, hx', hw, hc, typesC_len]
      simpa using hA.symm
  · have d1 : decide ((i : Int) < (al.length : Int)) = false := by simpa using la
    rw [List.drop_eq_nil_of_le (by omega)] at hA
    simp (maxSteps := 10^6) +contextual (disch := try exact dqd) only [ev0, simprocAttr, AV.int, AV.bool, AV.str, Tryz.results30, e1, e6, e7, e8, d1, typesC_len]
    rw [hA]; simp [deepTs]
theorem R28_cellN : ∀ (b : Nat) (t : TT), bkT t ≤ b → bkT t ≤ 1048576 → ∀ S tk k, cL Tryz.prog 30 [.agg (typeC t)] S tk k = some (.bool (deepT t), S, tk, k)
  | 0, e, h, _ => by have := bkT_pos e; omega
  | b + 1, e, h, hb => cellR_step e hb fun q hq => by
      obtain ⟨o, s, al, ns, p, pp⟩ := e
      simp only [TT.args] at hq
      have := bkTs_mem hq
      simp only [bkT] at h hb
      exact R28_cellN b q (by omega) (by omega)
theorem R28_cell (t : TT) (hb : bkT t ≤ 1048576) : ∀ S tk k, cL Tryz.prog 30 [.agg (typeC t)] S tk k = some (.bool (deepT t), S, tk, k) := R28_cellN _ t (Nat.le_refl _) hb
set_option maxRecDepth 100000 in
set_option maxHeartbeats 4000000 in
theorem cellsR_step (e : XT) (hb : bkX e ≤ 1048576) (ih : ∀ q ∈ bodiesX e, ∀ S tk k, cL Tryz.prog 31 [.agg (exprC q)] S tk k = some (.bool (madeX q), S, tk, k)) (S : List Ent) (tk : List Nat) (k : Nat) : cL Tryz.prog 31 [.agg (exprC e)] S tk k = some (.bool (madeX e), S, tk, k) := by
  obtain ⟨o, s, n, ks, ps, al, ts⟩ := e
  simp only [bodiesX, XT.kids, XT.alts, List.mem_append] at ih
  simp only [bkX] at hb
  have l1 := bkTs_len ts
  have l2 := bkQs_len ps
  have l3 := bkXs_len ks
  have l4 := bkLs_len al
  have hpn : (ps.map paramC).length = ps.length := List.length_map ..
  obtain ⟨R, hR⟩ : ∃ R, R = madeX (.node o s n ks ps al ts) := ⟨_, rfl⟩
  rw [← hR]
  simp only [madeX] at hR
  by_cases h22 : o = 22
  · rw [decide_eq_true (.inl h22)] at hR
    subst h22
    refine opP Tryz.func31 Tryz.ntmps31 ?_
    simp (maxSteps := 10^6) +contextual (disch := try exact dqd) only [ev0, simprocAttr, AV.int, AV.bool, AV.str, Tryz.results31, exprC]
    rw [hR]; simp
  by_cases h23 : o = 23
  · rw [decide_eq_true (.inr (.inl h23))] at hR
    subst h23
    refine opP Tryz.func31 Tryz.ntmps31 ?_
    simp (maxSteps := 10^6) +contextual (disch := try exact dqd) only [ev0, simprocAttr, AV.int, AV.bool, AV.str, Tryz.results31, exprC]
    rw [hR]; simp
  by_cases h24 : o = 24
  · rw [decide_eq_true (.inr (.inr h24))] at hR
    subst h24
    refine opP Tryz.func31 Tryz.ntmps31 ?_
    simp (maxSteps := 10^6) +contextual (disch := try exact dqd) only [ev0, simprocAttr, AV.int, AV.bool, AV.str, Tryz.results31, exprC]
    rw [hR]; simp
  have d22 : (o == 22) = false := by simpa using h22
  have d23 : (o == 23) = false := by simpa using h23
  have d24 : (o == 24) = false := by simpa using h24
  rw [decide_eq_false (by omega), Bool.false_or] at hR
  obtain ⟨A, hA0⟩ : ∃ A, A = madeLs al := ⟨_, rfl⟩
  obtain ⟨K, hK0⟩ : ∃ K, K = madeXs ks := ⟨_, rfl⟩
  obtain ⟨Q, hQ0⟩ : ∃ Q, Q = ps.any (fun p => deepT p.2) := ⟨_, rfl⟩
  rw [← hA0, ← hK0, ← hQ0] at hR
  have hR0 : R = (deepTs (ts.drop 0) || (Q || (A || K))) := hR
  clear hR
  obtain ⟨DC, hDC⟩ : ∃ DC : List AV, DC = [.prim (.int .i64 o), .prim (.string s), .prim (.int .i64 n), .frz (exprsC ks) .unk, .frz (ps.map paramC) .unk, .frz (altsC al) .unk, .frz (typesC ts) .unk] := ⟨_, rfl⟩
  refine opP Tryz.func31 Tryz.ntmps31 ?_
  simp (maxSteps := 10^6) +contextual (disch := try exact dqd) only [ev0, simprocAttr, AV.int, AV.bool, AV.str, Tryz.results31, exprC, d22, d23, d24, typesC_len]
  rw [← hDC]
  refine loop1 (P := Tryz.prog) (fun x st => st.T.length = 66 ∧ (x ≤ ts.length) ∧ (R = (deepTs (ts.drop x) || (Q || (A || K)))) ∧ getT st.T 1 = .ref 0 0 0 ∧ getT st.T 25 = .frz (typesC ts) .unk ∧ getT st.T 26 = .int (ts.length : Nat) ∧ getT st.T 27 = .int (x : Nat) ∧ st.S = [⟨0, DC⟩]) (fun x => ts.length - x) (fun x => .bool R) (0) ?_ ?_
  case refine_2 => exact ⟨rfl, Nat.zero_le _, hR0, rfl, rfl, rfl, rfl, rfl⟩
  rintro i ⟨T, S', tk', n'⟩ ⟨hl, hi, hA, e1, e25, e26, e27, eS⟩ IH
  subst eS
  obtain ⟨g, hg, hT⟩ := tab_of hl
  rw [hg] at e1 e25 e26 e27
  subst hT
  clear hg hl
  by_cases la : i < ts.length
  · have d1 : decide ((i : Int) < (ts.length : Int)) = true := by simpa using la
    obtain ⟨x, hx⟩ := nth_some la
    have hx' := nth_types hx
    have hw := wrap_add (i := i) (by omega)
    have hc := R28_cell x (by have := bkTs_mem (nth_memU hx); omega)
    rw [nth_drop hx] at hA
    simp only [deepTs] at hA
    obtain ⟨o', s', a', ns', ⟨po', pn', pv', pk'⟩, pp'⟩ := x
    simp only [typeC, predC, strsA, List.cons_append, List.nil_append] at hx' hc
    generalize deepT (.node o' s' a' ns' (.node po' pn' pv' pk') pp') = b at *
    cases b
    · simp (maxSteps := 10^6) +contextual (disch := try exact dqd) only [ev0, simprocAttr, AV.int, AV.bool, AV.str, Tryz.results31, e1, e25, e26, e27, d1, hx', hw, hc, typesC_len]
      exact IH ((i + 1)) _ (by first | omega | (simp only; omega)) ⟨rfl, la, by simpa using hA, rfl, rfl, rfl, rfl, rfl⟩
    · simp (maxSteps := 10^6) +contextual (disch := try exact dqd) only [ev0, simprocAttr, AV.int, AV.bool, AV.str, Tryz.results31, e1, e25, e26, e27, d1, hx', hw, hc, typesC_len]
      simpa using hA.symm
  have d1 : decide ((i : Int) < (ts.length : Int)) = false := by simpa using la
  rw [List.drop_eq_nil_of_le (by omega)] at hA
  have hR0 : R = ((ps.drop 0).any (fun p => deepT p.2) || (A || K)) := by rw [hA, hQ0]; simp [deepTs]
  clear hA IH
  subst hDC
  simp (maxSteps := 10^6) +contextual (disch := try exact dqd) only [ev0, simprocAttr, AV.int, AV.bool, AV.str, Tryz.results31, e1, e25, e26, e27, d1, typesC_len, hpn]
  generalize hDC : [AV.prim (.int .i64 o), .prim (.string s), .prim (.int .i64 n), .frz (exprsC ks) .unk, .frz (ps.map paramC) .unk, .frz (altsC al) .unk, .frz (typesC ts) .unk] = DC
  clear e1 e25 e26 e27 d1 la hi
  refine loop1 (P := Tryz.prog) (fun x st => st.T.length = 66 ∧ (x ≤ ps.length) ∧ (R = ((ps.drop x).any (fun p => deepT p.2) || (A || K))) ∧ getT st.T 1 = .ref 0 0 0 ∧ getT st.T 35 = .frz (ps.map paramC) .unk ∧ getT st.T 36 = .int (ps.length : Nat) ∧ getT st.T 37 = .int (x : Nat) ∧ st.S = [⟨0, DC⟩]) (fun x => ps.length - x) (fun x => .bool R) (0) ?_ ?_
  case refine_2 => exact ⟨rfl, Nat.zero_le _, hR0, rfl, rfl, rfl, rfl, rfl⟩
  rintro i ⟨T, S', tk', n'⟩ ⟨hl, hi, hA, e1, e35, e36, e37, eS⟩ IH
  subst eS
  obtain ⟨g, hg, hT⟩ := tab_of hl
  rw [hg] at e1 e35 e36 e37
  subst hT
  clear hg hl
  by_cases la : i < ps.length
  · have d1 : decide ((i : Int) < (ps.length : Int)) = true := by simpa using la
    obtain ⟨p, hp⟩ := nth_some la
    have hp' := nth_params hp
    have hw := wrap_add (i := i) (by omega)
    have hc := R28_cell p.2 (by have := bkQs_mem (nth_memU hp); omega)
    rw [nth_drop hp, List.any_cons] at hA
    obtain ⟨nm, o', s', a', ns', ⟨po, pn, pv, pk⟩, pp⟩ := p
    simp only [paramC, typeC, predC, strsA, List.cons_append, List.nil_append] at hp' hc
    simp only at hA
    generalize deepT (.node o' s' a' ns' (.node po pn pv pk) pp) = b at *
    cases b
    · simp (maxSteps := 10^6) +contextual (disch := try exact dqd) only [ev0, simprocAttr, AV.int, AV.bool, AV.str, Tryz.results31, e1, e35, e36, e37, d1, hp', hw, hc, hpn]
      exact IH ((i + 1)) _ (by first | omega | (simp only; omega)) ⟨rfl, la, by simpa using hA, rfl, rfl, rfl, rfl, rfl⟩
    · simp (maxSteps := 10^6) +contextual (disch := try exact dqd) only [ev0, simprocAttr, AV.int, AV.bool, AV.str, Tryz.results31, e1, e35, e36, e37, d1, hp', hw, hc, hpn]
      simpa using hA.symm
  have d1 : decide ((i : Int) < (ps.length : Int)) = false := by simpa using la
  rw [List.drop_eq_nil_of_le (by omega)] at hA
  have hR0 : R = (madeXs (ks.drop 0) || A) := by rw [hA, hK0]; simp [Bool.or_comm]
  clear hA IH
  subst hDC
  simp (maxSteps := 10^6) +contextual (disch := try exact dqd) only [ev0, simprocAttr, AV.int, AV.bool, AV.str, Tryz.results31, e1, e35, e36, e37, d1, exprsC_len, hpn]
  generalize hDC : [AV.prim (.int .i64 o), .prim (.string s), .prim (.int .i64 n), .frz (exprsC ks) .unk, .frz (ps.map paramC) .unk, .frz (altsC al) .unk, .frz (typesC ts) .unk] = DC
  clear e1 e35 e36 e37 d1 la hi
  refine loop1 (P := Tryz.prog) (fun x st => st.T.length = 66 ∧ (x ≤ ks.length) ∧ (R = (madeXs (ks.drop x) || A)) ∧ getT st.T 1 = .ref 0 0 0 ∧ getT st.T 46 = .frz (exprsC ks) .unk ∧ getT st.T 47 = .int (ks.length : Nat) ∧ getT st.T 48 = .int (x : Nat) ∧ st.S = [⟨0, DC⟩]) (fun x => ks.length - x) (fun x => .bool R) (0) ?_ ?_
  case refine_2 => exact ⟨rfl, Nat.zero_le _, hR0, rfl, rfl, rfl, rfl, rfl⟩
  rintro i ⟨T, S', tk', n'⟩ ⟨hl, hi, hA, e1, e46, e47, e48, eS⟩ IH
  subst eS
  obtain ⟨g, hg, hT⟩ := tab_of hl
  rw [hg] at e1 e46 e47 e48
  subst hT
  clear hg hl
  by_cases la : i < ks.length
  · have d1 : decide ((i : Int) < (ks.length : Int)) = true := by simpa using la
    obtain ⟨x, hx⟩ := nth_some la
    have hx' := nth_exprs hx
    have hw := wrap_add (i := i) (by omega)
    have hc := ih x (.inl (nth_memU hx))
    rw [nth_drop hx] at hA
    simp only [madeXs] at hA
    obtain ⟨qo, qs, qn, qk, qp, qa, qt⟩ := x
    simp only [exprC] at hx' hc
    generalize madeX (.node qo qs qn qk qp qa qt) = b at *
    cases b
    · simp (maxSteps := 10^6) +contextual (disch := try exact dqd) only [ev0, simprocAttr, AV.int, AV.bool, AV.str, Tryz.results31, e1, e46, e47, e48, d1, hx', hw, hc, exprsC_len]
      exact IH ((i + 1)) _ (by first | omega | (simp only; omega)) ⟨rfl, la, by simpa using hA, rfl, rfl, rfl, rfl, rfl⟩
    · simp (maxSteps := 10^6) +contextual (disch := try exact dqd) only [ev0, simprocAttr, AV.int, AV.bool, AV.str, Tryz.results31, e1, e46, e47, e48, d1, hx', hw, hc, exprsC_len]
      simpa using hA.symm
  have d1 : decide ((i : Int) < (ks.length : Int)) = false := by simpa using la
  rw [List.drop_eq_nil_of_le (by omega)] at hA
  have hR0 : R = madeLs (al.drop 0) := by rw [hA, hA0]; simp [madeXs]
  clear hA IH
  subst hDC
  simp (maxSteps := 10^6) +contextual (disch := try exact dqd) only [ev0, simprocAttr, AV.int, AV.bool, AV.str, Tryz.results31, e1, e46, e47, e48, d1, exprsC_len, altsC_len]
  generalize hDC : [AV.prim (.int .i64 o), .prim (.string s), .prim (.int .i64 n), .frz (exprsC ks) .unk, .frz (ps.map paramC) .unk, .frz (altsC al) .unk, .frz (typesC ts) .unk] = DC
  clear e1 e46 e47 e48 d1 la hi
  refine loop1 (P := Tryz.prog) (fun x st => st.T.length = 66 ∧ (x ≤ al.length) ∧ (R = madeLs (al.drop x)) ∧ getT st.T 1 = .ref 0 0 0 ∧ getT st.T 56 = .frz (altsC al) .unk ∧ getT st.T 57 = .int (al.length : Nat) ∧ getT st.T 58 = .int (x : Nat) ∧ st.S = [⟨0, DC⟩]) (fun x => al.length - x) (fun x => .bool R) (0) ?_ ?_
  case refine_2 => exact ⟨rfl, Nat.zero_le _, hR0, rfl, rfl, rfl, rfl, rfl⟩
  rintro i ⟨T, S', tk', n'⟩ ⟨hl, hi, hA, e1, e56, e57, e58, eS⟩ IH
  subst eS
  obtain ⟨g, hg, hT⟩ := tab_of hl
  rw [hg] at e1 e56 e57 e58
  subst hT
  clear hg hl
  by_cases la : i < al.length
  · have d1 : decide ((i : Int) < (al.length : Int)) = true := by simpa using la
    obtain ⟨a, ha⟩ := nth_some la
    have ha' := nth_alts ha
    have hw := wrap_add (i := i) (by omega)
    have hc := ih a.body (.inr (List.mem_map.2 ⟨a, nth_memU ha, rfl⟩))
    rw [nth_drop ha] at hA
    obtain ⟨con, ns, ⟨qo, qs, qn, qk, qp, qa, qt⟩⟩ := a
    simp only [altC, exprC, strsA, LT.body] at ha' hc
    simp only [madeLs] at hA
    generalize madeX (.node qo qs qn qk qp qa qt) = b at *
    cases b
    · simp (maxSteps := 10^6) +contextual (disch := try exact dqd) only [ev0, simprocAttr, AV.int, AV.bool, AV.str, Tryz.results31, e1, e56, e57, e58, d1, ha', hw, hc, altsC_len]
      exact IH ((i + 1)) _ (by first | omega | (simp only; omega)) ⟨rfl, la, by simpa using hA, rfl, rfl, rfl, rfl, rfl⟩
    · simp (maxSteps := 10^6) +contextual (disch := try exact dqd) only [ev0, simprocAttr, AV.int, AV.bool, AV.str, Tryz.results31, e1, e56, e57, e58, d1, ha', hw, hc, altsC_len]
      simpa using hA.symm
  have d1 : decide ((i : Int) < (al.length : Int)) = false := by simpa using la
  rw [List.drop_eq_nil_of_le (by omega)] at hA
  simp (maxSteps := 10^6) +contextual (disch := try exact dqd) only [ev0, simprocAttr, AV.int, AV.bool, AV.str, Tryz.results31, e1, e56, e57, e58, d1, altsC_len]
  rw [hA]; rfl
theorem R28_cellsN : ∀ (b : Nat) (e : XT), bkX e ≤ b → bkX e ≤ 1048576 → ∀ S tk k, cL Tryz.prog 31 [.agg (exprC e)] S tk k = some (.bool (madeX e), S, tk, k)
  | 0, e, h, _ => by have := bkX_pos e; omega
  | b + 1, e, h, hb => cellsR_step e hb fun q hq => R28_cellsN b q (by have := bodies_mem hq; omega) (by have := bodies_mem hq; omega)
theorem R28_cells (e : XT) (hb : bkX e ≤ 1048576) : ∀ S tk k, cL Tryz.prog 31 [.agg (exprC e)] S tk k = some (.bool (madeX e), S, tk, k) := R28_cellsN _ e (Nat.le_refl _) hb
end
end Go.Proofs.YtmkoiandfojgmaaGreat
