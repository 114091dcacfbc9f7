/-
  Texts laid together: UX8, UX9, UX10, UL1, UA1, UN.
-/
import Derived.Test.YtmkoiandfojgmaaZP17
import Derived.Test.YtmkoiandfojgmaaZP13
import Derived.Test.YtmkoiandfojgmaaZP14
import Derived.Test.YtmkoiandfojgmaaZP11
/-
  The check of an expression, by the reference: each node, and the whole.
-/

namespace Go.Proofs.Ytmkoiandfojgmaa
open Go
mutual
def goodX : XT → Prop
  | .node o _ _ ks ps al _ => GoodN o ks ps al ∧ goodXs ks ∧ goodLs al
def goodXs : List XT → Prop
  | [] => True
  | k :: ks => goodX k ∧ goodXs ks
def goodLs : List LT → Prop
  | [] => True
  | .mk _ _ b :: al => goodX b ∧ goodLs al
end
theorem goodXs_of : ∀ {l : List XT}, (∀ q ∈ l, goodX q) → goodXs l
  | [], _ => by simp [goodXs]
  | k :: l, h => by simp only [goodXs]; exact ⟨h k (by simp), goodXs_of fun q hq => h q (by simp [hq])⟩
theorem goodLs_of : ∀ {l : List LT}, (∀ q ∈ l.map LT.body, goodX q) → goodLs l
  | [], _ => by simp [goodLs]
  | .mk c ns b :: l, h => by simp only [goodLs]; exact ⟨h b (by simp [LT.body]), goodLs_of fun q hq => h q (by simp [hq])⟩
theorem goodX_of {e : XT} (h1 : goodN e) (h : ∀ q ∈ bodiesX e, goodX q) : goodX e := by
  obtain ⟨o, s, n, ks, ps, al, ts⟩ := e
  simp only [bodiesX, XT.kids, XT.alts, List.mem_append] at h
  simp only [goodX]
  exact ⟨h1, goodXs_of fun q hq => h q (.inl hq), goodLs_of fun q hq => h q (.inr hq)⟩
section
variable [Depth]
set_option maxRecDepth 100000 in
set_option maxHeartbeats 2000000 in
theorem R20_each_step (e : XT) (hb : bkX e ≤ 1048576) (ih : ∀ q ∈ bodiesX e, ∃ m : Int, (∀ S tk k, cL Try.prog 26 [.agg (exprC q)] S tk k = some (.int m, S, tk, k)) ∧ (m = 0 → goodX q)) : ∃ m : Int, (∀ S tk k, cL Try.prog 26 [.agg (exprC e)] S tk k = some (.int m, S, tk, k)) ∧ (m = 0 → goodX e) := by
  have hbl := bodies_len e
  have hbd := bodies_run e hb
  obtain ⟨x0, hn, hg⟩ := R20_node e hb
  suffices H : ∀ Q : Prop, ((goodN e → (∀ q ∈ bodiesX e, goodX q) → Q) → ∃ m : Int, (∀ S tk k, cL Try.prog 26 [.agg (exprC e)] S tk k = some (.int m, S, tk, k)) ∧ (m = 0 → Q)) from H _ fun h1 h2 => goodX_of h1 h2
  intro Q hQ
  generalize bodiesX e = l at *
  obtain ⟨o, s, n, ks, ps, al, ts⟩ := e
  simp only [exprC] at hn hbd
  refine opI' Try.func26 Try.ntmps26 ?_
  simp (maxSteps := 10^6) +contextual (disch := try exact dqd) only [ev0, simprocAttr, AV.int, AV.bool, AV.str, Try.results26, gE, exprC, hbd, hn]
  clear hbd
  refine loopG (P := Try.prog) (fun x st => st.T.length = 26 ∧ (x.1 ≤ l.length) ∧ (x.2 = 0 → goodN (.node o s n ks ps al ts) ∧ ∀ q ∈ l.take x.1, goodX q) ∧ getT st.T 3 = .int x.2 ∧ getT st.T 4 = .frz (exprsC l) .unk ∧ getT st.T 5 = .int (x.1 : Nat) ∧ st.S = [⟨0, [.prim (.int .i64 o), .prim (.string s), .prim (.int .i64 n), .frz (exprsC ks) .unk, .frz (ps.map paramC) .unk, .frz (altsC al) .unk, .frz (typesC ts) .unk]⟩]) (fun x => l.length - x.1) (0, x0) ?_ ?_
  case refine_2 => exact ⟨rfl, Nat.zero_le _, fun h => ⟨hg h, by simp⟩, rfl, rfl, rfl, rfl⟩
  rintro ⟨i, x⟩ ⟨T, S', tk', n'⟩ ⟨hl, hi, hx, e3, e4, e5, eS⟩ IH
  simp only at hi hx e3 e4 e5 eS
  subst eS
  obtain ⟨g, hg, hT⟩ := tab_of hl
  rw [hg] at e3 e4 e5
  subst hT
  clear hg hl
  by_cases la : i < l.length
  · have d1 : decide ((i : Int) < (l.length : Int)) = true := by simpa using la
    obtain ⟨q, hq⟩ := nth_some la
    have hq' := nth_exprs hq
    have hw := wrap_add (i := i) (by omega)
    obtain ⟨m, hc, hm⟩ := ih q (nth_memU hq)
    have hst : x = 0 → m = 0 → goodN (.node o s n ks ps al ts) ∧ ∀ y ∈ l.take (i + 1), goodX y := fun h1 h2 => ⟨(hx h1).1, by
      rw [take_mapS hq]
      intro y hy
      rcases List.mem_append.1 hy with hy | hy
      · exact (hx h1).2 y hy
      · rw [List.mem_singleton.1 hy]; exact hm h2⟩
    obtain ⟨qo, qs, qn, qk, qp, qa, qt⟩ := q
    simp only [exprC] at hq' hc
    by_cases h0 : x = 0
    · subst h0
      simp (maxSteps := 10^6) +contextual (disch := try exact dqd) only [ev0, simprocAttr, AV.int, AV.bool, AV.str, Try.results26, gE, e3, e4, e5, d1, hq', hw, hc, exprsC_len]
      exact IH ((i + 1, m)) _ (by first | omega | (simp only; omega)) ⟨rfl, la, hst rfl, rfl, rfl, rfl, rfl⟩
    · have d2 : (x == 0) = false := by simpa using h0
      simp (maxSteps := 10^6) +contextual (disch := try exact dqd) only [ev0, simprocAttr, AV.int, AV.bool, AV.str, Try.results26, gE, e3, e4, e5, d1, d2, exprsC_len]
      intro h; exact absurd h h0
  · have d1 : decide ((i : Int) < (l.length : Int)) = false := by simpa using la
    rw [List.take_of_length_le (by omega)] at hx
    simp (maxSteps := 10^6) +contextual (disch := try exact dqd) only [ev0, simprocAttr, AV.int, AV.bool, AV.str, Try.results26, gE, e3, e4, e5, d1, exprsC_len]
    intro h; exact hQ (hx h).1 (hx h).2
theorem R20_each : ∀ (b : Nat) (e : XT), bkX e ≤ b → bkX e ≤ 1048576 → ∃ m : Int, (∀ S tk k, cL Try.prog 26 [.agg (exprC e)] S tk k = some (.int m, S, tk, k)) ∧ (m = 0 → goodX e)
  | 0, e, h, _ => by have := bkX_pos e; omega
  | b + 1, e, h, hb => R20_each_step e hb fun q hq => R20_each b q (by have := bodies_mem hq; omega) (by have := bodies_mem hq; omega)
theorem R20_Check (e : XT) (hb : bkX e ≤ 1048576) : ∃ m : Int, (∀ S tk k, cL Try.prog 10 [.agg (exprC e)] S tk k = some (.int m, S, tk, k)) ∧ (m = 0 → goodX e) := by
  have h1 := R20_Nodes _ e (Nat.le_refl _) hb
  have h2 := R20_Depth _ e (Nat.le_refl _) hb
  obtain ⟨m, h3, hm⟩ := R20_each _ e (Nat.le_refl _) hb
  suffices H : ∀ Q : Prop, ((m = 0 → Q) → ∃ m : Int, (∀ S tk k, cL Try.prog 10 [.agg (exprC e)] S tk k = some (.int m, S, tk, k)) ∧ (m = 0 → Q)) from H _ hm
  clear hm
  intro Q hQ
  generalize nodesX e = a at *
  generalize dpX e = b at *
  obtain ⟨o, s, n, ks, ps, al, ts⟩ := e
  simp only [exprC] at h1 h2 h3
  refine opI' Try.func10 Try.ntmps10 ?_
  simp (maxSteps := 10^6) +contextual (disch := try exact dqd) only [ev0, simprocAttr, AV.int, AV.bool, AV.str, Try.results10, gE, exprC, h1, h2, h3]
  exact fun _ _ h => hQ h
end
end Go.Proofs.Ytmkoiandfojgmaa
/-
  An empty expression; few definitions, with right bodies.
-/

namespace Go.Proofs.Ytmkoiandfojgmaa
open Go
mutual
theorem sz_good : ∀ e : XT, goodX e → szX e + 7 ≤ 14 * nodesX e
  | .node o s n ks ps al ts, h => by
    simp only [goodX] at h
    have h1 := sz_goodK ks h.2.1
    have h2 := sz_goodL al h.2.2 h.1.nms
    have h3 := h.1.prs
    simp only [szX, nodesX]
    omega
theorem sz_goodK : ∀ ks : List XT, goodXs ks → szXs ks ≤ 14 * nodesXs ks
  | [], _ => by simp [szXs, nodesXs]
  | k :: ks, h => by
    simp only [goodXs] at h
    have := sz_good k h.1
    have := sz_goodK ks h.2
    simp only [szXs, nodesXs]; omega
theorem sz_goodL : ∀ al : List LT, goodLs al → (∀ a ∈ al, a.names.length ≤ 6) → szLs al ≤ 14 * nodesLs al
  | [], _, _ => by simp [szLs, nodesLs]
  | .mk c ns b :: al, h, hn => by
    simp only [goodLs] at h
    have h1 := sz_good b h.1
    have h2 := sz_goodL al h.2 fun a ha => hn a (by simp [ha])
    have h3 := hn (.mk c ns b) (by simp)
    simp only [LT.names] at h3
    simp only [szLs, szL, nodesLs]; omega
end
theorem GoodN.zero : GoodN 0 [] [] [] := ⟨fun _ => rfl, fun _ => rfl, fun h => by omega, fun h => by omega, fun h => by omega, fun h => by omega, by simp, by simp, by simp, by simp⟩
section
variable [Depth]
theorem R20_sameParams0 (c c2 : Cap) (l : List (ByteArray × TT)) : ∃ b : Bool, (∀ S tk k, cL Try.prog 27 [.frz (l.map paramC) c2, .frz [] c] S tk k = some (.bool b, S, tk, k)) ∧ (b = true → l = []) := by
  refine opB Try.func27 Try.ntmps27 ?_
  cases l with
  | nil =>
    simp (maxSteps := 10^6) +contextual (disch := try exact dqd) only [ev0, simprocAttr, AV.int, AV.bool, AV.str, Try.results27, gE, List.map_nil]
    refine loopG (P := Try.prog) (fun x st => st.T.length = 42 ∧ (x = 0) ∧ getT st.T 0 = .frz [] .unk ∧ getT st.T 5 = .int (0 : Nat) ∧ st.S = []) (fun x => 0) (0) ?_ ?_
    case refine_2 => exact ⟨rfl, rfl, rfl, rfl, rfl⟩
    rintro i ⟨T, S', tk', n'⟩ ⟨hl, hi, e0, e5, eS⟩ IH
    subst eS
    obtain ⟨g, hg, hT⟩ := tab_of hl
    rw [hg] at e0 e5
    subst hT
    clear hg hl
    simp (maxSteps := 10^6) +contextual (disch := try exact dqd) only [ev0, simprocAttr, AV.int, AV.bool, AV.str, Try.results27, gE, e0, e5]
  | cons x l =>
    have d1 : (((l.length + 1 : Nat) : Int) != 0) = true := by simp; omega
    simp (maxSteps := 10^6) +contextual (disch := try exact dqd) only [ev0, simprocAttr, AV.int, AV.bool, AV.str, Try.results27, gE, List.map_cons, List.length_cons, List.length_map, d1]
set_option maxRecDepth 100000 in
set_option maxHeartbeats 2000000 in
theorem R20_Same0 (e : XT) : ∃ b : Bool, (∀ S tk k, cL Try.prog 11 [.agg (exprC e), .agg [.int 0, .str ⟨#[]⟩, .int 0, .frz [] .nilc, .frz [] .nilc, .frz [] .nilc, .frz [] .nilc]] S tk k = some (.bool b, S, tk, k)) ∧ (b = true → goodX e) := by
  obtain ⟨o, s, n, ks, ps, al, ts⟩ := e
  obtain ⟨b1, h1, h1'⟩ := R20_sameParams0 .unk .unk ps
  obtain ⟨b2, h2, h2'⟩ := R20_SameTypes0 .unk .unk ts
  have hkl := exprsC_len ks
  have hal := altsC_len al
  suffices H : ∀ Q : Prop, ((o = 0 → ps = [] → ks = [] → al = [] → Q) → ∃ b : Bool, (∀ S tk k, cL Try.prog 11 [.agg (exprC (.node o s n ks ps al ts)), .agg [.int 0, .str ⟨#[]⟩, .int 0, .frz [] .nilc, .frz [] .nilc, .frz [] .nilc, .frz [] .nilc]] S tk k = some (.bool b, S, tk, k)) ∧ (b = true → Q)) from H _ fun a b c d => by
    subst a b c d
    simp only [goodX, goodXs, goodLs, and_true]
    exact GoodN.zero
  intro Q hQ
  refine opB Try.func11 Try.ntmps11 ?_
  by_cases ho : o = 0
  case neg =>
    have d0 : (o != 0) = true := by simpa using ho
    simp (maxSteps := 10^6) +contextual (disch := try exact dqd) only [ev0, simprocAttr, AV.int, AV.bool, AV.str, Try.results11, gE, exprC, d0]
  cases q0 : sEq s ⟨#[]⟩
  case false => subst ho; simp (maxSteps := 10^6) +contextual (disch := try exact dqd) only [ev0, simprocAttr, AV.int, AV.bool, AV.str, Try.results11, gE, exprC, q0]
  by_cases hn : n = 0
  case neg =>
    have d0 : (n != 0) = true := by simpa using hn
    subst ho
    simp (maxSteps := 10^6) +contextual (disch := try exact dqd) only [ev0, simprocAttr, AV.int, AV.bool, AV.str, Try.results11, gE, exprC, q0, d0]
  cases b1
  case false => subst ho hn; simp (maxSteps := 10^6) +contextual (disch := try exact dqd) only [ev0, simprocAttr, AV.int, AV.bool, AV.str, Try.results11, gE, exprC, q0, h1]
  cases b2
  case false => subst ho hn; simp (maxSteps := 10^6) +contextual (disch := try exact dqd) only [ev0, simprocAttr, AV.int, AV.bool, AV.str, Try.results11, gE, exprC, q0, h1, h2]
  by_cases hk : ks = []
  case neg =>
    have d0 : ((ks.length : Int) != 0) = true := by cases ks with
      | nil => exact absurd rfl hk
      | cons a l => simp; omega
    subst ho hn
    simp (maxSteps := 10^6) +contextual (disch := try exact dqd) only [ev0, simprocAttr, AV.int, AV.bool, AV.str, Try.results11, gE, exprC, q0, h1, h2, hkl, d0]
  by_cases ha : al = []
  case neg =>
    have d0 : ((al.length : Int) != 0) = true := by cases al with
      | nil => exact absurd rfl ha
      | cons a l => simp; omega
    subst ho hn hk
    simp (maxSteps := 10^6) +contextual (disch := try exact dqd) only [ev0, simprocAttr, AV.int, AV.bool, AV.str, Try.results11, gE, exprC, exprsC, q0, h1, h2, hal, d0]
  have hq := hQ ho (h1' rfl) hk ha
  have hps := h1' rfl
  have hts := h2' rfl
  subst ho hn hk ha hps hts
  simp only [List.map_nil, typesC] at h1 h2
  simp (maxSteps := 10^6) +contextual (disch := try exact dqd) only [ev0, simprocAttr, AV.int, AV.bool, AV.str, Try.results11, gE, exprC, exprsC, altsC, typesC, List.map_nil, q0, h1, h2]
  refine loopG (P := Try.prog) (fun x st => st.T.length = 117 ∧ (x = 0) ∧ getT st.T 2 = .ref 0 0 0 ∧ getT st.T 3 = .ref 1 1 0 ∧ getT st.T 5 = .int (0 : Nat) ∧ st.S = [⟨0, [.prim (.int .i64 0), .prim (.string s), .prim (.int .i64 0), .frz [] .unk, .frz [] .unk, .frz [] .unk, .frz [] .unk]⟩, ⟨1, [.prim (.int .i64 0), .prim (.string ⟨#[]⟩), .prim (.int .i64 0), .frz [] .unk, .frz [] .unk, .frz [] .unk, .frz [] .unk]⟩]) (fun x => 0) (0) ?_ ?_
  case refine_2 => exact ⟨rfl, rfl, rfl, rfl, rfl, rfl⟩
  rintro i ⟨T, S', tk', n'⟩ ⟨hl, hi, e2, e3, e5, eS⟩ IH
  subst eS
  obtain ⟨g, hg, hT⟩ := tab_of hl
  rw [hg] at e2 e3 e5
  subst hT
  clear hg hl
  simp (maxSteps := 10^6) +contextual (disch := try exact dqd) only [ev0, simprocAttr, AV.int, AV.bool, AV.str, Try.results11, gE, e2, e3, e5]
  clear IH e2 e3 e5
  refine loopG (P := Try.prog) (fun x st => st.T.length = 117 ∧ (x = 0) ∧ getT st.T 2 = .ref 0 0 0 ∧ getT st.T 3 = .ref 1 1 0 ∧ getT st.T 6 = .int (0 : Nat) ∧ st.S = [⟨0, [.prim (.int .i64 0), .prim (.string s), .prim (.int .i64 0), .frz [] .unk, .frz [] .unk, .frz [] .unk, .frz [] .unk]⟩, ⟨1, [.prim (.int .i64 0), .prim (.string ⟨#[]⟩), .prim (.int .i64 0), .frz [] .unk, .frz [] .unk, .frz [] .unk, .frz [] .unk]⟩]) (fun x => 0) (0) ?_ ?_
  case refine_2 => exact ⟨rfl, rfl, rfl, rfl, rfl, rfl⟩
  rintro i ⟨T, S', tk', n'⟩ ⟨hl, hi, e2, e3, e6, eS⟩ IH
  subst eS
  obtain ⟨g, hg, hT⟩ := tab_of hl
  rw [hg] at e2 e3 e6
  subst hT
  clear hg hl
  simp (maxSteps := 10^6) +contextual (disch := try exact dqd) only [ev0, simprocAttr, AV.int, AV.bool, AV.str, Try.results11, gE, e2, e3, e6, hq]
end
end Go.Proofs.Ytmkoiandfojgmaa
/-
  Few definitions, with right bodies: the law's own test.
-/


namespace Go.Proofs.Ytmkoiandfojgmaa
open Go
section
variable [Depth]
set_option maxRecDepth 100000 in
set_option maxHeartbeats 4000000 in
theorem L28_few (m : MT) (hl : (allDefs m).length ≤ 1048576) (hi : m.insts.length ≤ 1048576) (hb : ∀ d ∈ allDefs m, bkX d.body ≤ 1048576) :
    ∃ b : Bool, (∀ S tk k, cL Try.prog 5 [.agg (modC m)] S tk k = some (.bool b, S, tk, k)) ∧ (b = true → ∀ d ∈ allDefs m, nodesX d.body ≤ 200 ∧ d.params.length ≤ 20 ∧ goodX d.body) := by
  suffices H : ∀ Q : Prop, ((∀ d ∈ allDefs m, nodesX d.body ≤ 200 ∧ d.params.length ≤ 20 ∧ goodX d.body) → Q) → ∃ b : Bool, (∀ S tk k, cL Try.prog 5 [.agg (modC m)] S tk k = some (.bool b, S, tk, k)) ∧ (b = true → Q) from H _ fun h => h
  intro Q hQ
  obtain ⟨datas, classes, insts, measures, quals, defs⟩ := m
  simp only [allDefs, List.length_append] at hl hb hQ hi
  have hfl := flat_le insts
  have hap0 : ∀ tk, apB (some 25) [] .tight (defs.map defC) tk = some (.frz (defs.map defC) (capNew tk .tight 25), capPut tk .tight) := fun tk => apB_all (es := []) rfl rfl (rowsOk_defs defs) (by simp; omega)
  refine opB Try.func5 Try.ntmps5 ?_
  simp (maxSteps := 10^6) +contextual (disch := try exact dqd) only [ev0, simprocAttr, AV.int, AV.bool, AV.str, Try.results5, gE, modC, hap0]
  generalize hMC : [AV.frz (datas.map dataC) .unk, .frz (classes.map classC) .unk, .frz (insts.map instC) .unk, .frz measures .unk, .frz quals .unk, .frz (defs.map defC) .unk] = MC
  clear hap0
  refine loopG (P := Try.prog) (fun x st => st.T.length = 69 ∧ (x.1 ≤ insts.length) ∧ (okCap st.tk x.2.1 25 = true) ∧ (x.2.2 = (defs ++ (insts.take x.1).flatMap NT.defs).map defC) ∧ getT st.T 1 = .ref 0 0 0 ∧ getT st.T 3 = .frz x.2.2 x.2.1 ∧ getT st.T 13 = .frz (insts.map instC) .unk ∧ getT st.T 14 = .int (insts.length : Nat) ∧ getT st.T 15 = .int (x.1 : Nat) ∧ st.S = [⟨0, MC⟩]) (fun x => insts.length - x.1) (0, capNew [] .tight 25, defs.map defC) ?_ ?_
  case refine_2 => exact ⟨rfl, Nat.zero_le _, okCap_new (c := .tight) (tk := []) rfl, by simp, rfl, rfl, rfl, rfl, rfl, rfl⟩
  rintro ⟨i, c, L⟩ ⟨T, S', tk', n'⟩ ⟨hl, hj, hok, hL, e1, e3, e13, e14, e15, eS⟩ IH
  simp only at hj hok hL e1 e3 e13 e14 e15 eS
  subst eS
  obtain ⟨g, hg, hT⟩ := tab_of hl
  rw [hg] at e1 e3 e13 e14 e15
  subst hT
  clear hg hl
  by_cases la : i < insts.length
  · have d1 : decide ((i : Int) < (insts.length : Int)) = true := by simpa using la
    obtain ⟨x, hx⟩ := nth_some la
    have hx' := nth_mapC (f := instC) hx
    have hw := wrap_add (i := i) (by omega)
    have hr : rowsOk 25 L = true := by rw [hL]; exact rowsOk_defs _
    have hft := flat_take hx
    have hf1 := hfl (i + 1)
    have hap := apB_all (ys := x.defs.map defC) hok hr (rowsOk_defs _) (by rw [hL]; rw [hft] at hf1; simp only [List.length_map, List.length_append] at hf1 ⊢; omega)
    have hL2 : L ++ x.defs.map defC = (defs ++ (insts.take (i + 1)).flatMap NT.defs).map defC := by rw [hft, hL]; simp
    obtain ⟨nm, ⟨to, tn, ta, tns, ⟨po, pn, pv, pk⟩, pp⟩, nds, dfs⟩ := x
    simp only [instC, typeC, predC, strsA, List.cons_append, List.nil_append] at hx' hap hL2
    simp (maxSteps := 10^6) +contextual (disch := try exact dqd) only [ev0, simprocAttr, AV.int, AV.bool, AV.str, Try.results5, gE, e1, e3, e13, e14, e15, d1, hx', hw, hap]
    exact IH ((i + 1, _, _)) _ (by first | omega | (simp only; omega)) ⟨rfl, la, okCap_new hok, hL2, rfl, rfl, rfl, rfl, rfl, rfl⟩
  · have d1 : decide ((i : Int) < (insts.length : Int)) = false := by simpa using la
    rw [List.take_of_length_le (by omega)] at hL
    subst hL
    simp (maxSteps := 10^6) +contextual (disch := try exact dqd) only [ev0, simprocAttr, AV.int, AV.bool, AV.str, Try.results5, gE, e1, e3, e13, e14, e15, d1, List.length_map]
    clear e1 e3 e13 e14 e15 IH d1 la hok
    have hall : (defs ++ insts.flatMap NT.defs).length ≤ 1048576 := by simpa using hl
    have hbd : ∀ d ∈ defs ++ insts.flatMap NT.defs, bkX d.body ≤ 1048576 := hb
    generalize defs ++ insts.flatMap NT.defs = D at *
    refine loopG (P := Try.prog) (fun x st => st.T.length = 69 ∧ (x ≤ D.length) ∧ (∀ d ∈ D.take x, nodesX d.body ≤ 200 ∧ d.params.length ≤ 20 ∧ goodX d.body) ∧ getT st.T 1 = .ref 0 0 0 ∧ getT st.T 3 = .frz (D.map defC) c ∧ getT st.T 24 = .frz (D.map defC) c ∧ getT st.T 25 = .int (D.length : Nat) ∧ getT st.T 26 = .int (x : Nat) ∧ st.S = [⟨0, MC⟩]) (fun x => D.length - x) (0) ?_ ?_
    case refine_2 => exact ⟨rfl, Nat.zero_le _, by simp, rfl, rfl, rfl, rfl, rfl, rfl⟩
    rintro i ⟨T, S', tk', n'⟩ ⟨hl, hi2, hA, e1, e3, e24, e25, e26, eS⟩ IH
    subst eS
    obtain ⟨g, hg, hT⟩ := tab_of hl
    rw [hg] at e1 e3 e24 e25 e26
    subst hT
    clear hg hl
    by_cases la : i < D.length
    · have d1 : decide ((i : Int) < (D.length : Int)) = true := by simpa using la
      obtain ⟨d, hd⟩ := nth_some la
      have hd' := nth_mapC (f := defC) hd
      have hw := wrap_add (i := i) (by omega)
      have hbd := hbd d (nth_memU hd)
      have hn := R20_Nodes _ d.body (Nat.le_refl _) hbd
      obtain ⟨mc, hc, hcg⟩ := R20_Check d.body hbd
      obtain ⟨bs, hs, hsg⟩ := R20_Same0 d.body
      have hst : nodesX d.body ≤ 200 → d.params.length ≤ 20 → goodX d.body → ∀ y ∈ D.take (i + 1), nodesX y.body ≤ 200 ∧ y.params.length ≤ 20 ∧ goodX y.body := fun h1 h2 h3 y hy => by
        rw [take_mapS hd] at hy
        rcases List.mem_append.1 hy with hy | hy
        · exact hA y hy
        · rw [List.mem_singleton.1 hy]; exact ⟨h1, h2, h3⟩
      have hpl : (d.params.map strC).length = d.params.length := List.length_map ..
      generalize nodesX d.body = nb at *
      generalize goodX d.body = gb at *
      obtain ⟨name, params, ⟨o, s, n, ks, ps, al, ts⟩, mode, typed, vars, needs, abs, bounds, ⟨to, tn, ta, tns, ⟨po, pn, pv, pk⟩, pp⟩, metric⟩ := d
      simp only [defC, exprC, typeC, predC, strsA, List.cons_append, List.nil_append] at hd' hn hc hs hpl hst
      cases q1 : decide ((nb : Int) > 200)
      case true => simp (maxSteps := 10^6) +contextual (disch := try exact dqd) only [ev0, simprocAttr, AV.int, AV.bool, AV.str, Try.results5, gE, e1, e3, e24, e25, e26, d1, hd', hn, q1]
      cases q2 : decide ((params.length : Int) > 20)
      case true => simp (maxSteps := 10^6) +contextual (disch := try exact dqd) only [ev0, simprocAttr, AV.int, AV.bool, AV.str, Try.results5, gE, e1, e3, e24, e25, e26, d1, hd', hn, hpl, q1, q2]
      have h1 : nb ≤ 200 := by simp at q1; omega
      have h2 : params.length ≤ 20 := by simp at q2; omega
      by_cases hm : mc = 0
      · subst hm
        simp (maxSteps := 10^6) +contextual (disch := try exact dqd) only [ev0, simprocAttr, AV.int, AV.bool, AV.str, Try.results5, gE, e1, e3, e24, e25, e26, d1, hd', hn, hpl, q1, q2, hc, hw]
        exact IH ((i + 1)) _ (by first | omega | (simp only; omega)) ⟨rfl, la, hst h1 h2 (hcg rfl), rfl, rfl, rfl, rfl, rfl, rfl⟩
      · have q3 : (mc != 0) = true := by simpa using hm
        cases bs
        · simp (maxSteps := 10^6) +contextual (disch := try exact dqd) only [ev0, simprocAttr, AV.int, AV.bool, AV.str, Try.results5, gE, e1, e3, e24, e25, e26, d1, hd', hn, hpl, q1, q2, q3, hc, hs]
        · simp (maxSteps := 10^6) +contextual (disch := try exact dqd) only [ev0, simprocAttr, AV.int, AV.bool, AV.str, Try.results5, gE, e1, e3, e24, e25, e26, d1, hd', hn, hpl, q1, q2, q3, hc, hs, hw]
          exact IH ((i + 1)) _ (by first | omega | (simp only; omega)) ⟨rfl, la, hst h1 h2 (hsg rfl), rfl, rfl, rfl, rfl, rfl, rfl⟩
    · have d1 : decide ((i : Int) < (D.length : Int)) = false := by simpa using la
      rw [List.take_of_length_le (by omega)] at hA
      have hq := hQ hA
      subst hMC
      simp (maxSteps := 10^6) +contextual (disch := try exact dqd) only [ev0, simprocAttr, AV.int, AV.bool, AV.str, Try.results5, gE, e1, e3, e24, e25, e26, d1, hq, List.length_map]
end
end Go.Proofs.Ytmkoiandfojgmaa
/-
  The plain law: without cells there is no violation; the first definition with one.
-/

namespace Go.Proofs.Ytmkoiandfojgmaa
open Go
def emp (C : Sn) : Prop := ∀ x, C x = false
theorem emp_no : emp noK := fun _ => rfl
theorem emp_del {C : Sn} (h : emp C) (s : ByteArray) : emp (delK C s) := fun x => by
  unfold delK; rw [h x, Bool.and_false]
theorem emp_bind {C : Sn} (h : emp C) (s : ByteArray) : emp (bindC C s false) := by
  unfold bindC
  rw [if_neg (by simp)]
  exact emp_del h s
theorem emp_delL : ∀ {C : Sn}, emp C → ∀ l : List ByteArray, emp (delL C l)
  | _, h, [] => h
  | _, h, s :: l => emp_delL (emp_del h s) l
theorem deep_cell {t : TT} (h : deepT t = false) : isCell t = false := by
  obtain ⟨o, s, al, ns, p, pp⟩ := t
  simp only [deepT, Bool.or_eq_false_iff] at h
  simpa [isCell, TT.op] using h.1
theorem emp_own : ∀ {C : Sn}, emp C → ∀ ps : List (ByteArray × TT), (ps.any fun p => deepT p.2) = false → emp (ownL C ps)
  | _, h, [], _ => h
  | _, h, p :: ps, hp => by
    simp only [List.any_cons, Bool.or_eq_false_iff] at hp
    simp only [ownL]
    rw [deep_cell hp.1]
    exact emp_own (emp_bind h _) ps hp.2
theorem typed_no {ts : List TT} (h : deepTs ts = false) : typedF ts = false := by
  cases ts with
  | nil => rfl
  | cons t l =>
    simp only [deepTs, Bool.or_eq_false_iff] at h
    simp only [typedF]
    exact deep_cell h.1
theorem getV_emp {o : Int} {ks : List XT} {C : Sn} (h : emp C) : getV o ks C = none := by
  unfold getV
  split
  · rw [if_neg]; intro hh; rw [h] at hh; simp at hh
  · rfl
mutual
theorem occ_emp {C : Sn} (h : emp C) : ∀ (e : XT) (bs : List ByteArray), occ C e bs = false
  | .node o s n ks ps al ts, bs => by
    simp only [occ, h s, occK_emp h o s ps 0 ks bs, occA_emp h al bs, Bool.and_false, Bool.false_and, Bool.or_false]
theorem occK_emp {C : Sn} (h : emp C) (o : Int) (s : ByteArray) (ps : List (ByteArray × TT)) : ∀ (i : Nat) (ks : List XT) (bs : List ByteArray), occK C o s ps i ks bs = false
  | _, [], _ => by simp only [occK]
  | i, k :: ks, bs => by simp only [occK, occ_emp h k, occK_emp h o s ps (i + 1) ks bs, Bool.or_false]
theorem occA_emp {C : Sn} (h : emp C) : ∀ (al : List LT) (bs : List ByteArray), occA C al bs = false
  | [], _ => by simp only [occA]
  | .mk _ ns b :: al, bs => by simp only [occA, occ_emp h b, occA_emp h al bs, Bool.or_false]
end
theorem bind_some {α β : Type} {x : Option α} {f : α → Option β} (h : x.isSome = true) (hf : ∀ y, (f y).isSome = true) : (x.bind f).isSome = true := by
  obtain ⟨y, rfl⟩ := Option.isSome_iff_exists.1 h
  exact hf y
theorem map_some {α β : Type} {x : Option α} {f : α → β} (h : x.isSome = true) : (x.map f).isSome = true := by simpa using h
mutual
theorem thr_free : ∀ (e : XT) (C G : Sn), emp C → madeX e = false → (thr e C G).isSome = true
  | .node o s n ks ps al ts, C, G, hC, hm => by
    simp only [madeX, Bool.or_eq_false_iff] at hm
    obtain ⟨⟨h1, h2⟩, h3, h4, h5⟩ := hm
    rw [thr.eq_def]
    simp only
    rw [getV_emp hC, hC s]
    split
    · rfl
    · simp only
      split
      · rw [lamK_free ks C _ _ hC (emp_own emp_no ps h3) h5]; rfl
      · split
        · rename_i hl
          refine bind_some (thrAt_free ks 0 C G hC h5 (by omega)) fun G1 => map_some (thrAt_free ks 1 _ _ ?_ h5 (by omega))
          rw [typed_no h2]
          exact emp_bind hC s
        · split
          · rename_i hl
            refine bind_some (thrAt_free ks 0 C G hC h5 (by omega)) fun G1 => bind_some (thrAt_free ks 1 _ _ hC h5 (by omega)) fun Ga => map_some (thrAt_free ks 2 _ _ hC h5 (by omega))
          · split
            · exact bind_some (thrL_free ks C G hC h5) fun G1 => thrA_free al C _ _ hC h4
            · exact thrL_free ks C G hC h5
theorem thrL_free : ∀ (ks : List XT) (C G : Sn), emp C → madeXs ks = false → (thrL ks C G).isSome = true
  | [], _, _, _, _ => by simp only [thrL, Option.isSome_some]
  | k :: ks, C, G, hC, h => by
    simp only [madeXs, Bool.or_eq_false_iff] at h
    simp only [thrL]
    exact bind_some (thr_free k C G hC h.1) fun G1 => thrL_free ks C G1 hC h.2
theorem lamK_free : ∀ (ks : List XT) (C own : Sn) (bs : List ByteArray), emp C → emp own → madeXs ks = false → lamK ks C own bs = true
  | [], _, _, _, _, _, _ => by simp only [lamK]
  | k :: ks, C, own, bs, hC, ho, h => by
    simp only [madeXs, Bool.or_eq_false_iff] at h
    simp only [lamK, occ_emp hC k bs, thr_free k own noK ho h.1, lamK_free ks C own bs hC ho h.2, Bool.not_false, Bool.and_true]
theorem thrAt_free : ∀ (ks : List XT) (i : Nat) (C G : Sn), emp C → madeXs ks = false → i < ks.length → (thrAt ks i C G).isSome = true
  | [], i, _, _, _, _, hi => by simp at hi
  | k :: ks, 0, C, G, hC, h, _ => by
    simp only [madeXs, Bool.or_eq_false_iff] at h
    simp only [thrAt]
    exact thr_free k C G hC h.1
  | k :: ks, i + 1, C, G, hC, h, hi => by
    simp only [madeXs, Bool.or_eq_false_iff] at h
    simp only [thrAt]
    exact thrAt_free ks i C G hC h.2 (by simpa using hi)
theorem thrA_free : ∀ (al : List LT) (C G0 acc : Sn), emp C → madeLs al = false → (thrA al C G0 acc).isSome = true
  | [], _, _, _, _, _ => by simp only [thrA, Option.isSome_some]
  | .mk _ ns b :: al, C, G0, acc, hC, h => by
    simp only [madeLs, Bool.or_eq_false_iff] at h
    simp only [thrA]
    exact bind_some (thr_free b _ _ (emp_delL hC ns) h.1) fun r => thrA_free al C G0 _ hC h.2
end
theorem deepTs_nth {l : List TT} {i : Nat} {t : TT} (h : deepTs l = false) (ht : nth l i = some t) : deepT t = false := by
  rw [deepTs_any] at h
  have := List.any_eq_false.1 h t (nth_memU ht)
  simpa using this
theorem cellAt_no {t : TT} (h : deepT t = false) (i : Nat) : cellAt t i = false := by
  obtain ⟨o, s, al, ns, p, pp⟩ := t
  simp only [deepT, Bool.or_eq_false_iff] at h
  unfold cellAt
  simp only [TT.args]
  cases hn : nth al i with
  | none => simp
  | some a => simp only; rw [deep_cell (deepTs_nth h.2 hn), Bool.and_false]
theorem emp_scope {t : TT} (h : deepT t = false) : ∀ (l : List ByteArray) (i : Nat) {C : Sn}, emp C → emp (scopeF t i l C)
  | [], _, _, hC => hC
  | s :: l, i, _, hC => by
    simp only [scopeF]
    rw [cellAt_no h]
    exact emp_scope h l (i + 1) (emp_bind hC s)
/-- no cells: no violation -/
theorem viol_free {d : DT} (h1 : deepT d.ty = false) (h2 : madeX d.body = false) : violF d = false := by
  unfold violF
  rw [thr_free d.body _ _ (emp_scope h1 d.params 0 emp_no) h2]
  rfl
theorem modF_free : ∀ {l : List DT}, (∀ d ∈ l, deepT d.ty = false ∧ madeX d.body = false) → modF l = (ByteArray.empty, 0)
  | [], _ => rfl
  | d :: l, h => by
    simp only [modF]
    have := h d (by simp)
    rw [viol_free this.1 this.2, if_neg (by simp)]
    exact modF_free fun x hx => h x (by simp [hx])
/-- one definition by itself -/
theorem modF_one (d : DT) : modF [d] = if d.mode ≠ 1 ∧ violF d = true then (d.name, 15) else (ByteArray.empty, 0) := rfl
end Go.Proofs.Ytmkoiandfojgmaa
/-
  The laws Apart and None, walked.
-/



namespace Go.Proofs.Ytmkoiandfojgmaa
open Go
/-- what is wanted of definitions that are few -/
structure FewM (m : MT) : Prop where
  all : ∀ d ∈ allDefs m, nodesX d.body ≤ 200 ∧ d.params.length ≤ 20 ∧ goodX d.body
theorem few_mod [Depth] (hD : 200 ≤ Depth.d + 1) {m : MT} (h : SmallM m) (hf : ∀ d ∈ allDefs m, nodesX d.body ≤ 200 ∧ d.params.length ≤ 20 ∧ goodX d.body) : ∀ d ∈ allDefs m, dpX d.body ≤ Depth.d + 1 ∧ szX d.body ≤ 262144 ∧ d.params.length ≤ 1048576 ∧ d.ty.args.length ≤ 1048576 := by
  intro d hd
  obtain ⟨h1, h2, h3⟩ := hf d hd
  obtain ⟨-, h5, -⟩ := h.defs d hd
  have h6 := dp_le_nodes d.body
  have h7 := sz_good d.body h3
  refine ⟨by omega, by omega, by omega, ?_⟩
  generalize d.ty = ty at h5 ⊢
  obtain ⟨o, s, al, ns, p, pp⟩ := ty
  simp only [bkT] at h5
  have := bkTs_len al
  simp only [TT.args]; omega
theorem all_defs {m : MT} {d : DT} (h : d ∈ m.defs) : d ∈ allDefs m := List.mem_append.2 (.inl h)
theorem modF_drop {l : List DT} {i : Nat} (hi : i ≤ l.length) (h : ∀ d ∈ l.take i, modF [d] = (ByteArray.empty, 0)) : modF l = modF (l.drop i) := by
  induction i generalizing l with
  | zero => rfl
  | succ i ih =>
    cases l with
    | nil => rfl
    | cons d l =>
      have h0 := h d (by simp)
      rw [List.drop_succ_cons, ← ih (by simpa using hi) fun x hx => h x (by simp [hx])]
      simp only [modF] at h0 ⊢
      by_cases hc : d.mode ≠ 1 ∧ violF d = true
      · rw [if_pos hc] at h0
        have := congrArg Prod.snd h0
        simp at this
      · rw [if_neg hc]
section
variable [Depth]
set_option maxRecDepth 100000 in
set_option maxHeartbeats 4000000 in
theorem L28_UniqueNone (hD : 200 ≤ Depth.d + 1) (m : MT) (h : SmallM m) (S : List Ent) (tk : List Nat) (k : Nat) : cL Try.prog 4 [.agg (modC m)] S tk k = some (.bool true, S, tk, k) := by
  obtain ⟨b, hb, hf⟩ := L28_few m h.all h.insts fun d hd => (h.defs d hd).1
  have ha := L28_alive hD
  have hfr := fun S tk k => unique_Free m h S tk k
  cases b
  case false =>
    obtain ⟨datas, classes, insts, measures, quals, defs⟩ := m
    simp only [modC] at hb
    refine opP Try.func4 Try.ntmps4 ?_
    simp (maxSteps := 10^6) +contextual (disch := try exact dqd) only [ev0, simprocAttr, AV.int, AV.bool, AV.str, Try.results4, modC, hb, ha]
  have hm := unique_Module m (by have := h.all; simp only [allDefs, List.length_append] at this; omega) fun d hd => few_mod hD h (hf rfl) d (all_defs hd)
  cases hq : freeF m
  case false =>
    rw [hq] at hfr
    obtain ⟨datas, classes, insts, measures, quals, defs⟩ := m
    simp only [modC] at hb hfr
    refine opP Try.func4 Try.ntmps4 ?_
    simp (maxSteps := 10^6) +contextual (disch := try exact dqd) only [ev0, simprocAttr, AV.int, AV.bool, AV.str, Try.results4, modC, hb, ha, hfr]
  have hno : modF m.defs = (ByteArray.empty, 0) := modF_free fun d hd => by
    simp only [freeF, Bool.not_eq_true', Bool.or_eq_false_iff] at hq
    have := List.any_eq_false.1 hq.2 d (all_defs hd)
    simpa using this
  rw [hno] at hm
  rw [hq] at hfr
  obtain ⟨datas, classes, insts, measures, quals, defs⟩ := m
  simp only [modC] at hb hfr hm
  have he : sEq ByteArray.empty ⟨#[]⟩ = true := by decide +kernel
  refine opP Try.func4 Try.ntmps4 ?_
  simp (maxSteps := 10^6) +contextual (disch := try exact dqd) only [ev0, simprocAttr, AV.int, AV.bool, AV.str, Try.results4, modC, hb, ha, hfr, hm, he]
set_option maxRecDepth 100000 in
set_option maxHeartbeats 4000000 in
theorem L28_UniqueApart (hD : 200 ≤ Depth.d + 1) (m : MT) (h : SmallM m) (S : List Ent) (tk : List Nat) (k : Nat) : cL Try.prog 3 [.agg (modC m)] S tk k = some (.bool true, S, tk, k) := by
  obtain ⟨b, hb, hf⟩ := L28_few m h.all h.insts fun d hd => (h.defs d hd).1
  have ha := L28_alive hD
  cases b
  case false =>
    obtain ⟨datas, classes, insts, measures, quals, defs⟩ := m
    simp only [modC] at hb
    refine opP Try.func3 Try.ntmps3 ?_
    simp (maxSteps := 10^6) +contextual (disch := try exact dqd) only [ev0, simprocAttr, AV.int, AV.bool, AV.str, Try.results3, modC, hb, ha]
  have hfm := few_mod hD h (hf rfl)
  have hlen : m.defs.length ≤ 1048576 := by have := h.all; simp only [allDefs, List.length_append] at this; omega
  have hm := unique_Module m hlen fun d hd => hfm d (all_defs hd)
  have hone : ∀ d ∈ m.defs, ∀ S tk k, cL Try.prog 7 [.agg [.frz (m.datas.map dataC) .unk, .frz (m.classes.map classC) .unk, .frz (m.insts.map instC) .unk, .frz m.measures .unk, .frz m.quals .unk, .frz [defC d] .tight]] S tk k = some (.tup [.str (modF [d]).1, .int (modF [d]).2], S, tk, k) := by
    intro d hd S tk k
    rw [← unique_Module { m with defs := [d] } (by simp) (by
      intro x hx
      simp only [List.mem_singleton] at hx
      subst hx
      exact hfm x (all_defs hd)) S tk k]
    exact cL_w2 rfl rfl rfl
  obtain ⟨datas, classes, insts, measures, quals, defs⟩ := m
  simp only at hone hlen
  simp only [modC] at hb hm
  obtain ⟨r1, hr1⟩ : ∃ r, r = (modF defs).1 := ⟨_, rfl⟩
  obtain ⟨r2, hr2⟩ : ∃ r, r = (modF defs).2 := ⟨_, rfl⟩
  rw [← hr1, ← hr2] at hm
  refine opP Try.func3 Try.ntmps3 ?_
  simp (maxSteps := 10^6) +contextual (disch := try exact dqd) only [ev0, simprocAttr, AV.int, AV.bool, AV.str, Try.results3, modC, hb, ha, hm, List.length_map]
  refine loop1 (P := Try.prog) (fun x st => st.T.length = 68 ∧ (x ≤ defs.length) ∧ (∀ d ∈ defs.take x, modF [d] = (ByteArray.empty, 0)) ∧ getT st.T 1 = .ref 0 0 0 ∧ getT st.T 3 = .str r1 ∧ getT st.T 4 = .int r2 ∧ getT st.T 20 = .frz (defs.map defC) .unk ∧ getT st.T 21 = .int (defs.length : Nat) ∧ getT st.T 22 = .int (x : Nat) ∧ st.S = [⟨0, [.frz (datas.map dataC) .unk, .frz (classes.map classC) .unk, .frz (insts.map instC) .unk, .frz measures .unk, .frz quals .unk, .frz (defs.map defC) .unk]⟩]) (fun x => defs.length - x) (fun x => .bool true) (0) ?_ ?_
  case refine_2 => exact ⟨rfl, Nat.zero_le _, by simp, rfl, rfl, rfl, rfl, rfl, rfl, rfl⟩
  rintro i ⟨T, S', tk', n'⟩ ⟨hl, hi, hA, e1, e3, e4, e20, e21, e22, eS⟩ IH
  subst eS
  obtain ⟨g, hg, hT⟩ := tab_of hl
  rw [hg] at e1 e3 e4 e20 e21 e22
  subst hT
  clear hg hl
  have hdr := modF_drop hi hA
  by_cases la : i < defs.length
  · have d1 : decide ((i : Int) < (defs.length : Int)) = true := by simpa using la
    obtain ⟨d, hd⟩ := nth_some la
    have hd' := nth_mapC (f := defC) hd
    have hw := wrap_add (i := i) (by omega)
    have ho := hone d (nth_memU hd)
    rw [nth_drop hd] at hdr
    by_cases hc : d.mode ≠ 1 ∧ violF d = true
    · have h1 : modF [d] = (d.name, 15) := by rw [modF_one, if_pos hc]
      have h2 : modF defs = (d.name, 15) := by rw [hdr]; simp only [modF]; rw [if_pos hc]
      rw [h2] at hr1 hr2
      simp only at hr1 hr2
      rw [h1] at ho
      have hs : sEq d.name d.name = true := (sEq_iff _ _).2 rfl
      subst hr1 hr2
      obtain ⟨name, params, ⟨o, s, n, ks, ps, al, ts⟩, mode, typed, vars, needs, abs, bounds, ⟨to, tn, ta, tns, ⟨po, pn, pv, pk⟩, pp⟩, metric⟩ := d
      simp only [defC, exprC, typeC, predC, strsA, List.cons_append, List.nil_append] at hd' ho hs e3
      simp (maxSteps := 10^6) +contextual (disch := try exact dqd) only [ev0, simprocAttr, AV.int, AV.bool, AV.str, Try.results3, e1, e3, e4, e20, e21, e22, d1, hd', ho, hs, ha]
    · have h1 : modF [d] = (ByteArray.empty, 0) := by rw [modF_one, if_neg hc]
      rw [h1] at ho
      have hst : ∀ x ∈ defs.take (i + 1), modF [x] = (ByteArray.empty, 0) := fun x hx => by
        rw [take_mapS hd] at hx
        rcases List.mem_append.1 hx with hx | hx
        · exact hA x hx
        · rw [List.mem_singleton.1 hx]; exact h1
      clear hc h1 hdr
      obtain ⟨name, params, ⟨o, s, n, ks, ps, al, ts⟩, mode, typed, vars, needs, abs, bounds, ⟨to, tn, ta, tns, ⟨po, pn, pv, pk⟩, pp⟩, metric⟩ := d
      simp only [defC, exprC, typeC, predC, strsA, List.cons_append, List.nil_append] at hd' ho
      simp (maxSteps := 10^6) +contextual (disch := try exact dqd) only [ev0, simprocAttr, AV.int, AV.bool, AV.str, Try.results3, e1, e3, e4, e20, e21, e22, d1, hd', ho, hw]
      exact IH ((i + 1)) _ (by first | omega | (simp only; omega)) ⟨rfl, la, hst, rfl, rfl, rfl, rfl, rfl, rfl, rfl⟩
  · have d1 : decide ((i : Int) < (defs.length : Int)) = false := by simpa using la
    have h2 : modF defs = (ByteArray.empty, 0) := by rw [hdr, List.drop_eq_nil_of_le (by omega)]; rfl
    rw [h2] at hr1 hr2
    simp only at hr1 hr2
    subst hr1 hr2
    have he : sEq ByteArray.empty ⟨#[]⟩ = true := by decide +kernel
    simp (maxSteps := 10^6) +contextual (disch := try exact dqd) only [ev0, simprocAttr, AV.int, AV.bool, AV.str, Try.results3, e1, e3, e4, e20, e21, e22, d1, he, ha]
end
end Go.Proofs.Ytmkoiandfojgmaa
/-
  With nothing told from outside: whether a list holds a name; copies of a list.
-/

namespace Go.Proofs.Ytmkoiandfojgmaa
open Go
namespace UN
@[reducible] noncomputable def EN : Ext Try.prog where
  on := fun _ => false
  call := fun _ _ _ _ _ => none
  mv := fun _ => false
  lp := fun _ _ => none
theorem en_ok : @ExtOk _ Try.prog EN := by
  refine @ExtOk.mk _ _ EN ?_ ?_ ?_
  · intro c st st' _ h
    cases h
  · intro f args S tk n r S' tk' n' h
    simp [extC] at h
  · intro M f args S tk n r S' tk' n' h
    unfold callP at h
    split at h
    · simp [extC] at h
    · cases h
attribute [local instance] EN
attribute [local instance] en_ok
theorem ext_mv (f : FuncId) : Ext.mv Try.prog f = false := rfl
set_option linter.defProp false in
def ev0 := And.intro ext_mv <| And.intro @entAt.eq_def <| And.intro evt tys
section
variable (S : List Ent) (tk : List Nat) (k : Nat)
theorem slices_Index (l : List ByteArray) (s : ByteArray) (hlen : l.length ≤ 1048576) : cL Try.prog 61 [strsA l, .str s] S tk k = some (.int (findF 0 l s), S, tk, k) := by
  refine opP Try.func61 Try.ntmps61 ?_
  simp (maxSteps := 10^6) +contextual (disch := try exact dqd) only [ev0, simprocAttr, AV.int, AV.bool, AV.str, Try.results61, strsA]
  refine loop1 (P := Try.prog) (fun x st => st.T.length = 19 ∧ (x ≤ l.length) ∧ (findF 0 l s = findF x (l.drop x) s) ∧ getT st.T 0 = strsA l ∧ getT st.T 1 = .str s ∧ getT st.T 7 = .int (l.length : Nat) ∧ getT st.T 8 = .int (x : Nat) ∧ st.S = []) (fun x => l.length - x) (fun x => .int (findF 0 l s)) (0) ?_ ?_
  case refine_2 => exact ⟨rfl, Nat.zero_le _, rfl, rfl, rfl, rfl, rfl, rfl⟩
  rintro i ⟨T, S', tk', n'⟩ ⟨hl, hi, hA, e0, e1, e7, e8, eS⟩ IH
  subst eS
  obtain ⟨g, hg, hT⟩ := tab_of hl
  rw [hg] at e0 e1 e7 e8
  subst hT
  clear hg hl
  by_cases la : i < l.length
  · have d1 : decide ((i : Int) < (l.length : Int)) = true := by simpa using la
    obtain ⟨x, hx⟩ := nth_some la
    have hx' := nth_strs hx
    have hw := wrap_add (i := i) (by omega)
    rw [nth_drop hx] at hA
    simp only [findF] at hA
    have hsy := sEq_comm s x
    cases hq : sEq x s <;> rw [hq] at hA hsy
    · simp (maxSteps := 10^6) +contextual (disch := try exact dqd) only [ev0, simprocAttr, AV.int, AV.bool, AV.str, Try.results61, e0, e1, e7, e8, d1, hx', hw, strC, strsA, hsy]
      exact IH (i + 1) _ (by omega) ⟨rfl, by omega, by simpa using hA, rfl, rfl, rfl, rfl, rfl⟩
    · simp (maxSteps := 10^6) +contextual (disch := try exact dqd) only [ev0, simprocAttr, AV.int, AV.bool, AV.str, Try.results61, e0, e1, e7, e8, d1, hx', hw, strC, strsA, hsy]
      simpa using hA.symm
  · have d1 : decide ((i : Int) < (l.length : Int)) = false := by simpa using la
    have he : i = l.length := by omega
    simp (maxSteps := 10^6) +contextual (disch := try exact dqd) only [ev0, simprocAttr, AV.int, AV.bool, AV.str, Try.results61, e0, e1, e7, e8, d1]
    rw [hA, he, List.drop_length]; rfl
theorem slices_Contains (l : List ByteArray) (s : ByteArray) (hlen : l.length ≤ 1048576) : cL Try.prog 41 [strsA l, .str s] S tk k = some (.bool (memB l s), S, tk, k) := by
  refine opP Try.func41 Try.ntmps41 ?_
  have c := fun S tk k => slices_Index S tk k l s hlen
  simp only [strsA] at c
  have hn := findF_nn l 0 s
  simp (maxSteps := 10^6) +contextual (disch := try exact dqd) only [ev0, simprocAttr, AV.int, AV.bool, AV.str, Try.results41, c, strsA, hn]
end
theorem Contains_calls (hm : Try.prog.follows .mixedOrders = true) {C : Cx} (hs : SR C) {l : List ByteArray} {c : Cap} {s : ByteArray} {x : Value} (hl : l.length ≤ 1048576) (hx : VR C (.frz (l.map strC) c) x) :
    Calls Try.prog 41 #[x, .string s] C.w fun e w' => ∃ C', e = .returned (.bool (memB l s)) ∧ C'.w = w' ∧ Le C C' ∧ SR C' ∧ C'.S = C.S ∧ C'.tk = C.tk ∧ C'.n = C.n := by
  have hx' : VR C (strsA l) x := by
    simp only [VR, strsA] at hx ⊢
    obtain ⟨a, len, cap, h1, h2, h3, -, h5⟩ := hx
    exact ⟨a, len, cap, h1, h2, h3, trivial, h5⟩
  refine Calls.mono (calls_of hm (slices_Contains C.S C.tk C.n l s hl) rfl rfl rfl hs (vs := #[x, .string s]) (by simp only [VRs, and_true]; exact ⟨hx', by simp only [AV.str, VR]⟩)) ?_
  rintro e w' ⟨v, C', rfl, h1, h2, h3, h4, h5, h6, h7⟩
  simp only [VR] at h7
  subst h7
  exact ⟨C', rfl, h1, h2, h3, h4, h5, h6⟩
end UN
end Go.Proofs.Ytmkoiandfojgmaa
