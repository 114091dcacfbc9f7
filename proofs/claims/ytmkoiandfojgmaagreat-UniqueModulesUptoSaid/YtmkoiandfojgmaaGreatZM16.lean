/-
  Texts laid together: UX3, UX4F, UX4, UX5, UX6, UGood.
-/
import Derived.Test.YtmkoiandfojgmaaGreatZM15
import Derived.Test.YtmkoiandfojgmaaGreatZM13
namespace Go.Proofs.YtmkoiandfojgmaaGreat
open Go
theorem core_ne {s : ByteArray} (h : s.size = 0) : coreF s = false := by
  have : s = ⟨#[]⟩ := by
    apply ByteArray.ext
    exact Array.eq_empty_of_size_eq_zero h
  subst this
  decide +kernel
section
variable [Depth]
theorem R19_core (s : ByteArray) (cap : Bool) : ∃ b : Bool, (∀ S tk k, cL Tryz.prog 124 [.str s, .bool cap] S tk k = some (.bool b, S, tk, k)) ∧ (b = true → True) := by
  have hc := fun S tk k => R04_Core S tk k s
  refine opB Tryz.func124 Tryz.ntmps124 ?_
  cases hq : coreF s <;> rw [hq] at hc
  · simp (maxSteps := 10^6) +contextual (disch := try exact dqd) only [ev0, simprocAttr, AV.int, AV.bool, AV.str, Tryz.results124, gE, hc]
  · have hz : 0 < s.size := by
      rcases Nat.eq_zero_or_pos s.size with h | h
      · rw [core_ne h] at hq; cases hq
      · exact h
    obtain ⟨b, hb⟩ := bs_at hz
    have hb' := sIx hb
    simp (maxSteps := 10^6) +contextual (disch := try exact dqd) only [ev0, simprocAttr, AV.int, AV.bool, AV.str, Tryz.results124, gE, hc, hb']
theorem R19_Depth_step (t : TT) (hb : bkT t ≤ 1048576) (ih : ∀ q ∈ t.args, ∃ n : Int, ∀ S tk k, cL Tryz.prog 109 [.agg (typeC q)] S tk k = some (.int n, S, tk, k)) : ∃ n : Int, (∀ S tk k, cL Tryz.prog 109 [.agg (typeC t)] S tk k = some (.int n, S, tk, k)) ∧ (n = 0 → True) := by
  obtain ⟨o, s, al, ns, ⟨po, ps, pn, pk⟩, pp⟩ := t
  simp only [TT.args] at ih
  simp only [bkT] at hb
  have hl := bkTs_len al
  refine opI' Tryz.func109 Tryz.ntmps109 ?_
  simp (maxSteps := 10^6) +contextual (disch := try exact dqd) only [ev0, simprocAttr, AV.int, AV.bool, AV.str, Tryz.results109, gE, typesC_len, typeC, predC, strsA, List.cons_append, List.nil_append]
  refine loopG (P := Tryz.prog) (fun x st => st.T.length = 20 ∧ (x.1 ≤ al.length) ∧ getT st.T 3 = .int x.2 ∧ getT st.T 7 = .frz (typesC al) .unk ∧ getT st.T 8 = .int (al.length : Nat) ∧ getT st.T 9 = .int (x.1 : Nat) ∧ st.S = [⟨0, [.prim (.int .i64 o), .prim (.string s), .frz (typesC al) .unk, .frz (ns.map strC) .unk, .prim (.int .i64 po), .prim (.string ps), .prim (.int .i64 pn), .frz (predsC pk) .unk, .frz (predsC pp) .unk]⟩]) (fun x => al.length - x.1) (0, (0 : Int)) ?_ ?_
  case refine_2 => exact ⟨rfl, Nat.zero_le _, rfl, rfl, rfl, rfl, rfl⟩
  rintro ⟨i, m⟩ ⟨T, S', tk', n'⟩ ⟨hl, hi, e3, e7, e8, e9, eS⟩ IH
  simp only at hi e3 e7 e8 e9 eS
  subst eS
  obtain ⟨g, hg, hT⟩ := tab_of hl
  rw [hg] at e3 e7 e8 e9
  subst hT
  clear hg hl
  by_cases la : i < al.length
  · have d1 : decide ((i : Int) < (al.length : Int)) = true := by simpa using la
    obtain ⟨q, hq⟩ := nth_some la
    have hq' := nth_types hq
    have hw := wrap_add (i := i) (by omega)
    obtain ⟨m2, hc⟩ := ih q (nth_memU hq)
    obtain ⟨qo, qs, qa, qn, ⟨qpo, qps, qpn, qpk⟩, qp⟩ := q
    simp only [typeC, predC, strsA, List.cons_append, List.nil_append] at hq' hc
    simp (maxSteps := 10^6) +contextual (disch := try exact dqd) only [ev0, simprocAttr, AV.int, AV.bool, AV.str, Tryz.results109, gE, e3, e7, e8, e9, d1, hq', hw, hc]
    exact IH ((i + 1, _)) _ (by first | omega | (simp only; omega)) ⟨rfl, la, rfl, rfl, rfl, rfl, rfl⟩
  · have d1 : decide ((i : Int) < (al.length : Int)) = false := by simpa using la
    simp (maxSteps := 10^6) +contextual (disch := try exact dqd) only [ev0, simprocAttr, AV.int, AV.bool, AV.str, Tryz.results109, gE, e3, e7, e8, e9, d1]
theorem R19_Depth : ∀ (b : Nat) (t : TT), bkT t ≤ b → bkT t ≤ 1048576 → ∃ n : Int, ∀ S tk k, cL Tryz.prog 109 [.agg (typeC t)] S tk k = some (.int n, S, tk, k)
  | 0, e, h, _ => by have := bkT_pos e; omega
  | b + 1, e, h, hb => by
    obtain ⟨n, h1, -⟩ := R19_Depth_step e hb fun q hq => by
      obtain ⟨o, s, al, ns, p, pp⟩ := e
      simp only [TT.args] at hq
      have := bkTs_mem hq
      simp only [bkT] at h hb
      exact R19_Depth b q (by omega) (by omega)
    exact ⟨n, h1⟩
set_option maxRecDepth 100000 in
set_option maxHeartbeats 4000000 in
theorem R19_node (t : TT) (hb : bkT t ≤ 1048576) : ∃ n : Int, (∀ S tk k, cL Tryz.prog 121 [.agg (typeC t)] S tk k = some (.int n, S, tk, k)) ∧ (n = 0 → True) := by
  obtain ⟨o, s, al, ns, ⟨po, ps, pn, pk⟩, pp⟩ := t
  obtain ⟨b1, h1, -⟩ := R19_core s true
  obtain ⟨b2, h2, -⟩ := R19_core s false
  have hlen := typesC_len al
  have hl2 : (ns.map strC).length = ns.length := List.length_map ..
  refine opI' Tryz.func121 Tryz.ntmps121 ?_
  by_cases l1 : o < 1
  · have d1 : decide (o < 1) = true := by simpa using l1
    simp (maxSteps := 10^6) +contextual (disch := try exact dqd) only [ev0, simprocAttr, AV.int, AV.bool, AV.str, Tryz.results121, gE, typeC, predC, strsA, List.cons_append, List.nil_append, d1]
  by_cases l2 : 6 < o
  · have d1 : decide (o < 1) = false := by simpa using l1
    have d2 : decide (o > 6) = true := by simpa using l2
    simp (maxSteps := 10^6) +contextual (disch := try exact dqd) only [ev0, simprocAttr, AV.int, AV.bool, AV.str, Tryz.results121, gE, typeC, predC, strsA, List.cons_append, List.nil_append, d1, d2]
  obtain ho | ho | ho | ho | ho | ho : o = 1 ∨ o = 2 ∨ o = 3 ∨ o = 4 ∨ o = 5 ∨ o = 6 := by omega
  all_goals
    subst ho
    simp (maxSteps := 10^6) +contextual (disch := try exact dqd) only [ev0, simprocAttr, AV.int, AV.bool, AV.str, Tryz.results121, gE, typeC, predC, strsA, List.cons_append, List.nil_append, hlen, hl2, h1, h2]
theorem R19_form_step (t : TT) (hb : bkT t ≤ 1048576) (ih : ∀ q ∈ t.args, ∃ n : Int, ∀ S tk k, cL Tryz.prog 110 [.agg (typeC q)] S tk k = some (.int n, S, tk, k)) : ∃ n : Int, (∀ S tk k, cL Tryz.prog 110 [.agg (typeC t)] S tk k = some (.int n, S, tk, k)) ∧ (n = 0 → True) := by
  obtain ⟨n0, h0, -⟩ := R19_node t hb
  obtain ⟨o, s, al, ns, ⟨po, ps, pn, pk⟩, pp⟩ := t
  simp only [TT.args] at ih
  simp only [bkT] at hb
  simp only [typeC, predC, strsA, List.cons_append, List.nil_append] at h0
  have hl := bkTs_len al
  refine opI' Tryz.func110 Tryz.ntmps110 ?_
  simp (maxSteps := 10^6) +contextual (disch := try exact dqd) only [ev0, simprocAttr, AV.int, AV.bool, AV.str, Tryz.results110, gE, typesC_len, typeC, predC, strsA, List.cons_append, List.nil_append, h0]
  intro hn0
  clear h0 hn0
  refine loopG (P := Tryz.prog) (fun x st => st.T.length = 25 ∧ (x ≤ al.length) ∧ getT st.T 13 = .frz (typesC al) .unk ∧ getT st.T 14 = .int (al.length : Nat) ∧ getT st.T 15 = .int (x : Nat) ∧ st.S = [⟨0, [.prim (.int .i64 o), .prim (.string s), .frz (typesC al) .unk, .frz (ns.map strC) .unk, .prim (.int .i64 po), .prim (.string ps), .prim (.int .i64 pn), .frz (predsC pk) .unk, .frz (predsC pp) .unk]⟩]) (fun x => al.length - x) (0) ?_ ?_
  case refine_2 => exact ⟨rfl, Nat.zero_le _, rfl, rfl, rfl, rfl⟩
  rintro i ⟨T, S', tk', n'⟩ ⟨hl, hi, e13, e14, e15, eS⟩ IH
  subst eS
  obtain ⟨g, hg, hT⟩ := tab_of hl
  rw [hg] at e13 e14 e15
  subst hT
  clear hg hl
  by_cases la : i < al.length
  · have d1 : decide ((i : Int) < (al.length : Int)) = true := by simpa using la
    obtain ⟨q, hq⟩ := nth_some la
    have hq' := nth_types hq
    have hw := wrap_add (i := i) (by omega)
    obtain ⟨m2, hc⟩ := ih q (nth_memU hq)
    obtain ⟨qo, qs, qa, qn, ⟨qpo, qps, qpn, qpk⟩, qp⟩ := q
    simp only [typeC, predC, strsA, List.cons_append, List.nil_append] at hq' hc
    simp (maxSteps := 10^6) +contextual (disch := try exact dqd) only [ev0, simprocAttr, AV.int, AV.bool, AV.str, Tryz.results110, gE, e13, e14, e15, d1, hq', hw, hc]
    intro _
    exact IH ((i + 1)) _ (by first | omega | (simp only; omega)) ⟨rfl, la, rfl, rfl, rfl, rfl⟩
  · have d1 : decide ((i : Int) < (al.length : Int)) = false := by simpa using la
    simp (maxSteps := 10^6) +contextual (disch := try exact dqd) only [ev0, simprocAttr, AV.int, AV.bool, AV.str, Tryz.results110, gE, e13, e14, e15, d1]
theorem R19_form : ∀ (b : Nat) (t : TT), bkT t ≤ b → bkT t ≤ 1048576 → ∃ n : Int, ∀ S tk k, cL Tryz.prog 110 [.agg (typeC t)] S tk k = some (.int n, S, tk, k)
  | 0, e, h, _ => by have := bkT_pos e; omega
  | b + 1, e, h, hb => by
    obtain ⟨n, h1, -⟩ := R19_form_step e hb fun q hq => by
      obtain ⟨o, s, al, ns, p, pp⟩ := e
      simp only [TT.args] at hq
      have := bkTs_mem hq
      simp only [bkT] at h hb
      exact R19_form b q (by omega) (by omega)
    exact ⟨n, h1⟩
theorem R19_Check (t : TT) (hb : bkT t ≤ 1048576) : ∃ n : Int, (∀ S tk k, cL Tryz.prog 92 [.agg (typeC t)] S tk k = some (.int n, S, tk, k)) ∧ (n = 0 → True) := by
  obtain ⟨n1, h1⟩ := R19_Depth _ t (Nat.le_refl _) hb
  obtain ⟨n2, h2⟩ := R19_form _ t (Nat.le_refl _) hb
  obtain ⟨o, s, al, ns, ⟨po, ps, pn, pk⟩, pp⟩ := t
  simp only [typeC, predC, strsA, List.cons_append, List.nil_append] at h1 h2
  refine opI' Tryz.func92 Tryz.ntmps92 ?_
  simp (maxSteps := 10^6) +contextual (disch := try exact dqd) only [ev0, simprocAttr, AV.int, AV.bool, AV.str, Tryz.results92, gE, typeC, predC, strsA, List.cons_append, List.nil_append, h1, h2]
end
end Go.Proofs.YtmkoiandfojgmaaGreat
namespace Go.Proofs.YtmkoiandfojgmaaGreat
open Go
section
variable [Depth]
theorem R04_FindC (l : List ByteArray) (c : Cap) (s : ByteArray) (hlen : l.length ≤ 1048576) : ∀ S tk k, cL Tryz.prog 15 [.frz (l.map strC) c, .str s] S tk k = some (.int (findF 0 l s), S, tk, k) := by
  intro S tk k
  refine opP Tryz.func15 Tryz.ntmps15 ?_
  simp (maxSteps := 10^6) +contextual (disch := try exact dqd) only [ev0, simprocAttr, AV.int, AV.bool, AV.str, Tryz.results15]
  refine loop1 (P := Tryz.prog) (fun x st => st.T.length = 19 ∧ (x ≤ l.length) ∧ (findF 0 l s = findF x (l.drop x) s) ∧ getT st.T 0 = .frz (l.map strC) .unk ∧ getT st.T 1 = .str s ∧ getT st.T 7 = .int (l.length : Nat) ∧ getT st.T 8 = .int (x : Nat) ∧ st.S = []) (fun x => l.length - x) (fun x => .int (findF 0 l s)) (0) ?_ ?_
  case refine_2 => exact ⟨rfl, Nat.zero_le _, rfl, rfl, rfl, rfl, rfl, rfl⟩
  rintro i ⟨T, S', tk', n'⟩ ⟨hl, hi, hA, e0, e1, e7, e8, eS⟩ IH
  subst eS
  obtain ⟨g, hg, hT⟩ := tab_of hl
  rw [hg] at e0 e1 e7 e8
  subst hT
  clear hg hl
  by_cases la : i < l.length
  · have d1 : decide ((i : Int) < (l.length : Int)) = true := by simpa using la
    obtain ⟨x, hx⟩ := nth_some la
    have hx' := nth_strs hx
    have hw := wrap_add (i := i) (by omega)
    rw [nth_drop hx] at hA
    simp only [findF] at hA
    cases hq : sEq x s <;> rw [hq] at hA
    · simp (maxSteps := 10^6) +contextual (disch := try exact dqd) only [ev0, simprocAttr, AV.int, AV.bool, AV.str, Tryz.results15, e0, e1, e7, e8, d1, hx', hw, strC, hq]
      exact IH ((i + 1)) _ (by first | omega | (simp only; omega)) ⟨rfl, la, by simpa using hA, rfl, rfl, rfl, rfl, rfl⟩
    · simp (maxSteps := 10^6) +contextual (disch := try exact dqd) only [ev0, simprocAttr, AV.int, AV.bool, AV.str, Tryz.results15, e0, e1, e7, e8, d1, hx', hw, strC, hq]
      simpa using hA.symm
  · have d1 : decide ((i : Int) < (l.length : Int)) = false := by simpa using la
    have he : i = l.length := by omega
    simp (maxSteps := 10^6) +contextual (disch := try exact dqd) only [ev0, simprocAttr, AV.int, AV.bool, AV.str, Tryz.results15, e0, e1, e7, e8, d1]
    rw [hA, he, List.drop_length]; rfl
end
end Go.Proofs.YtmkoiandfojgmaaGreat
namespace Go.Proofs.YtmkoiandfojgmaaGreat
open Go
section
variable [Depth]
theorem R04_Distinct (l : List ByteArray) (c : Cap) (hlen : l.length ≤ 1048576) : ∃ b : Bool, (∀ S tk k, cL Tryz.prog 91 [.frz (l.map strC) c] S tk k = some (.bool b, S, tk, k)) ∧ (b = true → True) := by
  refine opB Tryz.func91 Tryz.ntmps91 ?_
  simp (maxSteps := 10^6) +contextual (disch := try exact dqd) only [ev0, simprocAttr, AV.int, AV.bool, AV.str, Tryz.results91, gE]
  refine loopG (P := Tryz.prog) (fun x st => st.T.length = 18 ∧ (x ≤ l.length) ∧ getT st.T 0 = .frz (l.map strC) .unk ∧ getT st.T 5 = .int (l.length : Nat) ∧ getT st.T 6 = .int (x : Nat) ∧ st.S = []) (fun x => l.length - x) (0) ?_ ?_
  case refine_2 => exact ⟨rfl, Nat.zero_le _, rfl, rfl, rfl, rfl⟩
  rintro i ⟨T, S', tk', n'⟩ ⟨hl, hi, e0, e5, e6, eS⟩ IH
  subst eS
  obtain ⟨g, hg, hT⟩ := tab_of hl
  rw [hg] at e0 e5 e6
  subst hT
  clear hg hl
  by_cases la : i < l.length
  · have d1 : decide ((i : Int) < (l.length : Int)) = true := by simpa using la
    obtain ⟨x, hx⟩ := nth_some la
    have hx' := nth_strs hx
    simp only [strC] at hx'
    have hw := wrap_add (i := i) (by omega)
    have hf := R04_FindC l .unk x hlen
    simp (maxSteps := 10^6) +contextual (disch := try exact dqd) only [ev0, simprocAttr, AV.int, AV.bool, AV.str, Tryz.results91, gE, e0, e5, e6, d1, hx', hw, hf]
    intro _
    exact IH ((i + 1)) _ (by first | omega | (simp only; omega)) ⟨rfl, la, rfl, rfl, rfl, rfl⟩
  · have d1 : decide ((i : Int) < (l.length : Int)) = false := by simpa using la
    simp (maxSteps := 10^6) +contextual (disch := try exact dqd) only [ev0, simprocAttr, AV.int, AV.bool, AV.str, Tryz.results91, gE, e0, e5, e6, d1]
set_option maxRecDepth 100000 in
set_option maxHeartbeats 2000000 in
theorem R20_distinct (o : Int) (s : ByteArray) (n : Int) (ks : List XT) (ps : List (ByteArray × TT)) (al : List LT) (ts : List TT) (hb : bkX (.node o s n ks ps al ts) ≤ 1048576) : ∃ b : Bool, (∀ S tk k, cL Tryz.prog 79 [.agg (exprC (.node o s n ks ps al ts))] S tk k = some (.bool b, S, tk, k)) ∧ (b = true → True) := by
  simp only [bkX] at hb
  have hbq := bkQs_len ps
  have hbl := bkLs_len al
  obtain ⟨LC, hLC⟩ : ∃ LC : LT → ByteArray, LC = fun a => match a with | .mk c _ _ => c := ⟨_, rfl⟩
  refine opB Tryz.func79 Tryz.ntmps79 ?_
  simp (maxSteps := 10^6) +contextual (disch := try exact dqd) only [ev0, simprocAttr, AV.int, AV.bool, AV.str, Tryz.results79, gE, exprC]
  refine loopG (P := Tryz.prog) (fun x st => st.T.length = 53 ∧ (x.1 ≤ ps.length) ∧ (okCap st.tk x.2.1 1 = true) ∧ (x.2.2 = ((ps.take x.1).map (·.1)).map strC) ∧ getT st.T 1 = .ref 0 0 0 ∧ getT st.T 3 = .frz x.2.2 x.2.1 ∧ getT st.T 4 = .frz [] .nilc ∧ getT st.T 5 = .int (x.1 : Nat) ∧ st.S = [⟨0, [.prim (.int .i64 o), .prim (.string s), .prim (.int .i64 n), .frz (exprsC ks) .unk, .frz (ps.map paramC) .unk, .frz (altsC al) .unk, .frz (typesC ts) .unk]⟩]) (fun x => ps.length - x.1) (0, Cap.nilc, ([] : List (List AV))) ?_ ?_
  case refine_2 => exact ⟨rfl, Nat.zero_le _, rfl, by simp, rfl, rfl, rfl, rfl, rfl⟩
  rintro ⟨i, c, L⟩ ⟨T, S', tk', n'⟩ ⟨hl, hi, hok, hL, e1, e3, e4, e5, eS⟩ IH
  simp only at hi hok hL e1 e3 e4 e5 eS
  subst eS
  obtain ⟨g, hg, hT⟩ := tab_of hl
  rw [hg] at e1 e3 e4 e5
  subst hT
  clear hg hl
  by_cases la : i < ps.length
  · have d1 : decide ((i : Int) < (ps.length : Int)) = true := by simpa using la
    obtain ⟨p, hp⟩ := nth_some la
    have hp' := nth_params hp
    have hst := under_take ps i p hp
    have hw := wrap_add (i := i) (by omega)
    have hr : rowsOk 1 L = true := by rw [hL]; exact rowsOk_strs _
    have hap := apB_one (y := strC p.1) hok hr rfl (by rw [hL]; simp; omega)
    have hL2 : L ++ [strC p.1] = ((ps.take (i + 1)).map (·.1)).map strC := by rw [hst, hL]; simp
    obtain ⟨nm, o', s', a', ns', ⟨po, pn, pv, pk⟩, pp⟩ := p
    simp only [paramC, typeC, predC, strsA, List.cons_append, List.nil_append] at hp'
    simp only [strC] at hap hL2
    simp (maxSteps := 10^6) +contextual (disch := try exact dqd) only [ev0, simprocAttr, AV.int, AV.bool, AV.str, Tryz.results79, gE, e1, e3, e4, e5, d1, hp', hw, hap]
    exact IH ((i + 1, _, _)) _ (by first | omega | (simp only; omega)) ⟨rfl, la, okCap_new hok, hL2, rfl, rfl, rfl, rfl, rfl⟩
  · have d1 : decide ((i : Int) < (ps.length : Int)) = false := by simpa using la
    rw [List.take_of_length_le (by omega)] at hL
    subst hL
    simp (maxSteps := 10^6) +contextual (disch := try exact dqd) only [ev0, simprocAttr, AV.int, AV.bool, AV.str, Tryz.results79, gE, e1, e3, e4, e5, d1]
    clear e1 e3 e4 e5 IH d1 la hi hok
    refine loopG (P := Tryz.prog) (fun x st => st.T.length = 53 ∧ (x.1 ≤ al.length) ∧ (okCap st.tk x.2.1 1 = true) ∧ (x.2.2 = ((al.take x.1).map LC).map strC) ∧ getT st.T 1 = .ref 0 0 0 ∧ getT st.T 3 = .frz ((ps.map (·.1)).map strC) c ∧ getT st.T 4 = .frz x.2.2 x.2.1 ∧ getT st.T 6 = .int (x.1 : Nat) ∧ st.S = [⟨0, [.prim (.int .i64 o), .prim (.string s), .prim (.int .i64 n), .frz (exprsC ks) .unk, .frz (ps.map paramC) .unk, .frz (altsC al) .unk, .frz (typesC ts) .unk]⟩]) (fun x => al.length - x.1) (0, Cap.nilc, ([] : List (List AV))) ?_ ?_
    case refine_2 => exact ⟨rfl, Nat.zero_le _, rfl, by simp, rfl, rfl, rfl, rfl, rfl⟩
    rintro ⟨i, c2, L⟩ ⟨T, S', tk', n'⟩ ⟨hl, hi, hok, hL, e1, e3, e4, e6, eS⟩ IH
    simp only at hi hok hL e1 e3 e4 e6 eS
    subst eS
    obtain ⟨g, hg, hT⟩ := tab_of hl
    rw [hg] at e1 e3 e4 e6
    subst hT
    clear hg hl
    by_cases la : i < al.length
    · have d1 : decide ((i : Int) < (al.length : Int)) = true := by simpa using la
      obtain ⟨a, ha⟩ := nth_some la
      have ha' := nth_alts ha
      have hw := wrap_add (i := i) (by omega)
      have htk := take_mapS ha
      have hr : rowsOk 1 L = true := by rw [hL]; exact rowsOk_strs _
      have hap := apB_one (y := strC (LC a)) hok hr rfl (by rw [hL]; simp; omega)
      have hL2 : L ++ [strC (LC a)] = ((al.take (i + 1)).map LC).map strC := by rw [htk, hL]; simp
      have hba := bkLs_mem (nth_memU ha)
      obtain ⟨con, ns, ⟨qo, qs, qn, qk, qp, qa, qt⟩⟩ := a
      simp only [bkL] at hba
      have hns := bkSs_len ns
      obtain ⟨b3, h3, -⟩ := R04_Distinct ns .unk (by omega)
      have hcon : LC (.mk con ns (.node qo qs qn qk qp qa qt)) = con := by rw [hLC]
      rw [hcon] at hap hL2
      simp only [altC, exprC, strsA] at ha'
      simp only [strC] at hap hL2
      simp (maxSteps := 10^6) +contextual (disch := try exact dqd) only [ev0, simprocAttr, AV.int, AV.bool, AV.str, Tryz.results79, gE, e1, e3, e4, e6, d1, ha', hw, hap, h3, altsC_len]
      intro _
      exact IH ((i + 1, _, _)) _ (by first | omega | (simp only; omega)) ⟨rfl, la, okCap_new hok, hL2, rfl, rfl, rfl, rfl, rfl⟩
    · have d1 : decide ((i : Int) < (al.length : Int)) = false := by simpa using la
      rw [List.take_of_length_le (by omega)] at hL
      subst hL
      obtain ⟨b1, h1, -⟩ := R04_Distinct (ps.map (·.1)) c (by simp; omega)
      obtain ⟨b2, h2, -⟩ := R04_Distinct (al.map LC) c2 (by simp; omega)
      simp (maxSteps := 10^6) +contextual (disch := try exact dqd) only [ev0, simprocAttr, AV.int, AV.bool, AV.str, Tryz.results79, gE, e1, e3, e4, e6, d1, h1, h2, altsC_len]
structure UseT where
  n : Bool
  name : Bool
  least : Int
  most : Int
  params : Bool
  alts : Bool
  types : Bool
  exactly : Bool
  ok : Bool
def useC (u : UseT) : List AV := [.bool u.n, .bool u.name, .int u.least, .int u.most, .bool u.params, .bool u.alts, .bool u.types, .bool u.exactly, .bool u.ok]
def usesF (o : Int) : UseT :=
  if o = 1 ∨ o = 2 then ⟨true, false, 0, 0, false, false, false, false, true⟩
  else if o = 3 then ⟨false, true, 0, 0, false, false, false, false, true⟩
  else if o = 4 then ⟨false, true, 0, 6, false, false, true, false, true⟩
  else if o = 5 then ⟨false, true, 1, 6, false, false, true, false, true⟩
  else if o = 6 then ⟨false, false, 1, 1, true, false, false, false, true⟩
  else if o = 7 then ⟨false, true, 2, 2, false, false, true, false, true⟩
  else if o = 8 then ⟨false, false, 3, 3, false, false, false, false, true⟩
  else if o = 9 then ⟨false, false, 1, 1, false, true, false, false, true⟩
  else if o = 10 ∨ o = 11 ∨ o = 12 ∨ o = 13 ∨ o = 14 ∨ o = 16 ∨ o = 17 ∨ o = 18 ∨ o = 19 ∨ o = 20 ∨ o = 24 then ⟨false, false, 2, 2, false, false, false, false, true⟩
  else if o = 15 ∨ o = 21 ∨ o = 22 ∨ o = 23 then ⟨false, false, 1, 1, false, false, false, false, true⟩
  else if o = 25 then ⟨false, true, 2, 7, false, false, false, false, true⟩
  else if o = 26 then ⟨false, false, 1, 1, false, false, true, true, true⟩
  else ⟨false, false, 0, 0, false, false, false, false, false⟩
set_option maxRecDepth 100000 in
set_option maxHeartbeats 4000000 in
theorem R20_uses (o : Int) (S : List Ent) (tk : List Nat) (k : Nat) : cL Tryz.prog 75 [.int o] S tk k = some (.agg (useC (usesF o)), S, tk, k) := by
  by_cases hr : 1 ≤ o ∧ o ≤ 26
  · obtain ho | ho | ho | ho | ho | ho | ho | ho | ho | ho | ho | ho | ho | ho | ho | ho | ho | ho | ho | ho | ho | ho | ho | ho | ho | ho : o = 1 ∨ o = 2 ∨ o = 3 ∨ o = 4 ∨ o = 5 ∨ o = 6 ∨ o = 7 ∨ o = 8 ∨ o = 9 ∨ o = 10 ∨ o = 11 ∨ o = 12 ∨ o = 13 ∨ o = 14 ∨ o = 15 ∨ o = 16 ∨ o = 17 ∨ o = 18 ∨ o = 19 ∨ o = 20 ∨ o = 21 ∨ o = 22 ∨ o = 23 ∨ o = 24 ∨ o = 25 ∨ o = 26 := by omega
    all_goals
      subst ho
      refine opP Tryz.func75 Tryz.ntmps75 ?_
      simp (maxSteps := 10^6) +contextual (disch := try exact dqd) only [ev0, simprocAttr, AV.int, AV.bool, AV.str, Tryz.results75]
      try rfl
  · have h : ∀ j : Int, 1 ≤ j → j ≤ 26 → (o == j) = false := fun j a b => by simp; omega
    have hu : usesF o = ⟨false, false, 0, 0, false, false, false, false, false⟩ := by
      unfold usesF
      rw [if_neg (by omega), if_neg (by omega), if_neg (by omega), if_neg (by omega), if_neg (by omega), if_neg (by omega), if_neg (by omega), if_neg (by omega), if_neg (by omega), if_neg (by omega), if_neg (by omega), if_neg (by omega)]
    rw [hu]
    refine opP Tryz.func75 Tryz.ntmps75 ?_
    simp (maxSteps := 10^6) +contextual (disch := try exact dqd) only [ev0, simprocAttr, AV.int, AV.bool, AV.str, Tryz.results75, h 1, h 2, h 3, h 4, h 5, h 6, h 7, h 8, h 9, h 10, h 11, h 12, h 13, h 14, h 15, h 16, h 17, h 18, h 19, h 20, h 21, h 22, h 23, h 24, h 25, h 26]
    try rfl
end
end Go.Proofs.YtmkoiandfojgmaaGreat
namespace Go.Proofs.YtmkoiandfojgmaaGreat
open Go
theorem nth_names {al : List LT} {i : Nat} {a : LT} (h : nth al i = some a) {m : Nat} (hm : ∀ x ∈ al.take i, x.names.length ≤ m) (ha : a.names.length ≤ m) : ∀ x ∈ al.take (i + 1), x.names.length ≤ m := by
  rw [take_mapS h]
  intro x hx
  rcases List.mem_append.1 hx with hx | hx
  · exact hm x hx
  · rw [List.mem_singleton.1 hx]; exact ha
section
variable [Depth]
set_option maxRecDepth 100000 in
set_option maxHeartbeats 4000000 in
theorem R20_counts (o : Int) (s : ByteArray) (n : Int) (ks : List XT) (ps : List (ByteArray × TT)) (al : List LT) (ts : List TT) (hb : bkX (.node o s n ks ps al ts) ≤ 1048576) (u : UseT) :
    ∃ b : Bool, (∀ S tk k, cL Tryz.prog 76 [.agg (exprC (.node o s n ks ps al ts)), .agg (useC u)] S tk k = some (.bool b, S, tk, k)) ∧ (b = true → u.least ≤ ks.length ∧ (ks.length : Int) ≤ u.most ∧ (u.params = true → ps.length ≤ 6) ∧ (u.alts = true → al.length ≤ 8) ∧ ∀ a ∈ al, a.names.length ≤ 6) := by
  simp only [bkX] at hb
  have hbl := bkLs_len al
  have hkl := exprsC_len ks
  have hal := altsC_len al
  have htl := typesC_len ts
  have hpl : (ps.map paramC).length = ps.length := List.length_map ..
  obtain ⟨un, unm, lo, hi', up, ua, ut, ue, uo⟩ := u
  simp only
  suffices H : ∀ Q : Prop, (lo ≤ ks.length → (ks.length : Int) ≤ hi' → (up = true → ps.length ≤ 6) → (ua = true → al.length ≤ 8) → (∀ a ∈ al, a.names.length ≤ 6) → Q) → ∃ b : Bool, (∀ S tk k, cL Tryz.prog 76 [.agg (exprC (.node o s n ks ps al ts)), .agg (useC ⟨un, unm, lo, hi', up, ua, ut, ue, uo⟩)] S tk k = some (.bool b, S, tk, k)) ∧ (b = true → Q) from H _ (fun a b c d e => ⟨a, b, c, d, e⟩)
  intro Q hQ
  refine opB Tryz.func76 Tryz.ntmps76 ?_
  cases q1 : decide ((ks.length : Int) < lo)
  case true => simp (maxSteps := 10^6) +contextual (disch := try exact dqd) only [ev0, simprocAttr, AV.int, AV.bool, AV.str, Tryz.results76, gE, exprC, useC, hkl, hal, q1]
  cases q2 : decide ((ks.length : Int) > hi')
  case true => simp (maxSteps := 10^6) +contextual (disch := try exact dqd) only [ev0, simprocAttr, AV.int, AV.bool, AV.str, Tryz.results76, gE, exprC, useC, hkl, hal, q1, q2]
  have h1 : lo ≤ ks.length ∧ (ks.length : Int) ≤ hi' := by simp at q1 q2; omega
  obtain hpar : up = false ∨ (up = true ∧ (decide ((ps.length : Int) < 1) = true ∨ decide ((ps.length : Int) > 6) = true)) ∨ (up = true ∧ decide ((ps.length : Int) < 1) = false ∧ decide ((ps.length : Int) > 6) = false) := by
    cases up <;> simp <;> omega
  obtain halt : ua = false ∨ (ua = true ∧ (decide ((al.length : Int) < 1) = true ∨ decide ((al.length : Int) > 8) = true)) ∨ (ua = true ∧ decide ((al.length : Int) < 1) = false ∧ decide ((al.length : Int) > 8) = false) := by
    cases ua <;> simp <;> omega
  rcases hpar with rfl | ⟨rfl, hx | hx⟩ | ⟨rfl, p1, p2⟩
  · rcases halt with rfl | ⟨rfl, hy | hy⟩ | ⟨rfl, r1, r2⟩
    · simp (maxSteps := 10^6) +contextual (disch := try exact dqd) only [ev0, simprocAttr, AV.int, AV.bool, AV.str, Tryz.results76, gE, exprC, useC, hkl, hal, hpl, q1, q2]
      refine loopG (P := Tryz.prog) (fun x st => st.T.length = 83 ∧ (x ≤ al.length) ∧ (∀ a ∈ al.take x, a.names.length ≤ 6) ∧ getT st.T 2 = .ref 0 0 0 ∧ getT st.T 3 = .ref 1 1 0 ∧ getT st.T 5 = .int (x : Nat) ∧ st.S = [⟨0, [.prim (.int .i64 o), .prim (.string s), .prim (.int .i64 n), .frz (exprsC ks) .unk, .frz (ps.map paramC) .unk, .frz (altsC al) .unk, .frz (typesC ts) .unk]⟩, ⟨1, [.prim (.bool un), .prim (.bool unm), .prim (.int .i64 lo), .prim (.int .i64 hi'), .prim (.bool false), .prim (.bool false), .prim (.bool ut), .prim (.bool ue), .prim (.bool uo)]⟩]) (fun x => al.length - x) (0) ?_ ?_
      case refine_2 => exact ⟨rfl, Nat.zero_le _, by simp, rfl, rfl, rfl, rfl⟩
      rintro i ⟨T, S', tk', n'⟩ ⟨hl, hi, hA, e2, e3, e5, eS⟩ IH
      subst eS
      obtain ⟨g, hg, hT⟩ := tab_of hl
      rw [hg] at e2 e3 e5
      subst hT
      clear hg hl
      by_cases la : i < al.length
      · have d1 : decide ((i : Int) < (al.length : Int)) = true := by simpa using la
        obtain ⟨a, ha⟩ := nth_some la
        have ha' := nth_alts ha
        have hw := wrap_add (i := i) (by omega)
        obtain ⟨con, ns, ⟨qo, qs, qn, qk, qp, qa, qt⟩⟩ := a
        simp only [altC, exprC, strsA] at ha'
        cases q6 : decide ((ns.length : Int) > 6)
        case true => simp (maxSteps := 10^6) +contextual (disch := try exact dqd) only [ev0, simprocAttr, AV.int, AV.bool, AV.str, Tryz.results76, gE, e2, e3, e5, d1, ha', hw, hal, q6]
        simp (maxSteps := 10^6) +contextual (disch := try exact dqd) only [ev0, simprocAttr, AV.int, AV.bool, AV.str, Tryz.results76, gE, e2, e3, e5, d1, ha', hw, hal, q6]
        exact IH ((i + 1)) _ (by first | omega | (simp only; omega)) ⟨rfl, la, nth_names ha hA (by simp at q6; simp only [LT.names]; omega), rfl, rfl, rfl, rfl⟩
      · have d1 : decide ((i : Int) < (al.length : Int)) = false := by simpa using la
        rw [List.take_of_length_le (by omega)] at hA
        have hq := hQ h1.1 h1.2 (fun h => by cases h) (fun h => by cases h) hA
        simp (maxSteps := 10^6) +contextual (disch := try exact dqd) only [ev0, simprocAttr, AV.int, AV.bool, AV.str, Tryz.results76, gE, e2, e3, e5, d1, hal, htl, hq]
    · simp (maxSteps := 10^6) +contextual (disch := try exact dqd) only [ev0, simprocAttr, AV.int, AV.bool, AV.str, Tryz.results76, gE, exprC, useC, hkl, hal, hpl, q1, q2, hy]
    · simp (maxSteps := 10^6) +contextual (disch := try exact dqd) only [ev0, simprocAttr, AV.int, AV.bool, AV.str, Tryz.results76, gE, exprC, useC, hkl, hal, hpl, q1, q2, hy]
    · simp (maxSteps := 10^6) +contextual (disch := try exact dqd) only [ev0, simprocAttr, AV.int, AV.bool, AV.str, Tryz.results76, gE, exprC, useC, hkl, hal, hpl, q1, q2, r1, r2]
      refine loopG (P := Tryz.prog) (fun x st => st.T.length = 83 ∧ (x ≤ al.length) ∧ (∀ a ∈ al.take x, a.names.length ≤ 6) ∧ getT st.T 2 = .ref 0 0 0 ∧ getT st.T 3 = .ref 1 1 0 ∧ getT st.T 5 = .int (x : Nat) ∧ st.S = [⟨0, [.prim (.int .i64 o), .prim (.string s), .prim (.int .i64 n), .frz (exprsC ks) .unk, .frz (ps.map paramC) .unk, .frz (altsC al) .unk, .frz (typesC ts) .unk]⟩, ⟨1, [.prim (.bool un), .prim (.bool unm), .prim (.int .i64 lo), .prim (.int .i64 hi'), .prim (.bool false), .prim (.bool true), .prim (.bool ut), .prim (.bool ue), .prim (.bool uo)]⟩]) (fun x => al.length - x) (0) ?_ ?_
      case refine_2 => exact ⟨rfl, Nat.zero_le _, by simp, rfl, rfl, rfl, rfl⟩
      rintro i ⟨T, S', tk', n'⟩ ⟨hl, hi, hA, e2, e3, e5, eS⟩ IH
      subst eS
      obtain ⟨g, hg, hT⟩ := tab_of hl
      rw [hg] at e2 e3 e5
      subst hT
      clear hg hl
      by_cases la : i < al.length
      · have d1 : decide ((i : Int) < (al.length : Int)) = true := by simpa using la
        obtain ⟨a, ha⟩ := nth_some la
        have ha' := nth_alts ha
        have hw := wrap_add (i := i) (by omega)
        obtain ⟨con, ns, ⟨qo, qs, qn, qk, qp, qa, qt⟩⟩ := a
        simp only [altC, exprC, strsA] at ha'
        cases q6 : decide ((ns.length : Int) > 6)
        case true => simp (maxSteps := 10^6) +contextual (disch := try exact dqd) only [ev0, simprocAttr, AV.int, AV.bool, AV.str, Tryz.results76, gE, e2, e3, e5, d1, ha', hw, hal, q6]
        simp (maxSteps := 10^6) +contextual (disch := try exact dqd) only [ev0, simprocAttr, AV.int, AV.bool, AV.str, Tryz.results76, gE, e2, e3, e5, d1, ha', hw, hal, q6]
        exact IH ((i + 1)) _ (by first | omega | (simp only; omega)) ⟨rfl, la, nth_names ha hA (by simp at q6; simp only [LT.names]; omega), rfl, rfl, rfl, rfl⟩
      · have d1 : decide ((i : Int) < (al.length : Int)) = false := by simpa using la
        rw [List.take_of_length_le (by omega)] at hA
        have hq := hQ h1.1 h1.2 (fun h => by cases h) (fun _ => by simp at r2; omega) hA
        simp (maxSteps := 10^6) +contextual (disch := try exact dqd) only [ev0, simprocAttr, AV.int, AV.bool, AV.str, Tryz.results76, gE, e2, e3, e5, d1, hal, htl, hq]
  · simp (maxSteps := 10^6) +contextual (disch := try exact dqd) only [ev0, simprocAttr, AV.int, AV.bool, AV.str, Tryz.results76, gE, exprC, useC, hkl, hal, hpl, q1, q2, hx]
  · simp (maxSteps := 10^6) +contextual (disch := try exact dqd) only [ev0, simprocAttr, AV.int, AV.bool, AV.str, Tryz.results76, gE, exprC, useC, hkl, hal, hpl, q1, q2, hx]
  · rcases halt with rfl | ⟨rfl, hy | hy⟩ | ⟨rfl, r1, r2⟩
    · simp (maxSteps := 10^6) +contextual (disch := try exact dqd) only [ev0, simprocAttr, AV.int, AV.bool, AV.str, Tryz.results76, gE, exprC, useC, hkl, hal, hpl, q1, q2, p1, p2]
      refine loopG (P := Tryz.prog) (fun x st => st.T.length = 83 ∧ (x ≤ al.length) ∧ (∀ a ∈ al.take x, a.names.length ≤ 6) ∧ getT st.T 2 = .ref 0 0 0 ∧ getT st.T 3 = .ref 1 1 0 ∧ getT st.T 5 = .int (x : Nat) ∧ st.S = [⟨0, [.prim (.int .i64 o), .prim (.string s), .prim (.int .i64 n), .frz (exprsC ks) .unk, .frz (ps.map paramC) .unk, .frz (altsC al) .unk, .frz (typesC ts) .unk]⟩, ⟨1, [.prim (.bool un), .prim (.bool unm), .prim (.int .i64 lo), .prim (.int .i64 hi'), .prim (.bool true), .prim (.bool false), .prim (.bool ut), .prim (.bool ue), .prim (.bool uo)]⟩]) (fun x => al.length - x) (0) ?_ ?_
      case refine_2 => exact ⟨rfl, Nat.zero_le _, by simp, rfl, rfl, rfl, rfl⟩
      rintro i ⟨T, S', tk', n'⟩ ⟨hl, hi, hA, e2, e3, e5, eS⟩ IH
      subst eS
      obtain ⟨g, hg, hT⟩ := tab_of hl
      rw [hg] at e2 e3 e5
      subst hT
      clear hg hl
      by_cases la : i < al.length
      · have d1 : decide ((i : Int) < (al.length : Int)) = true := by simpa using la
        obtain ⟨a, ha⟩ := nth_some la
        have ha' := nth_alts ha
        have hw := wrap_add (i := i) (by omega)
        obtain ⟨con, ns, ⟨qo, qs, qn, qk, qp, qa, qt⟩⟩ := a
        simp only [altC, exprC, strsA] at ha'
        cases q6 : decide ((ns.length : Int) > 6)
        case true => simp (maxSteps := 10^6) +contextual (disch := try exact dqd) only [ev0, simprocAttr, AV.int, AV.bool, AV.str, Tryz.results76, gE, e2, e3, e5, d1, ha', hw, hal, q6]
        simp (maxSteps := 10^6) +contextual (disch := try exact dqd) only [ev0, simprocAttr, AV.int, AV.bool, AV.str, Tryz.results76, gE, e2, e3, e5, d1, ha', hw, hal, q6]
        exact IH ((i + 1)) _ (by first | omega | (simp only; omega)) ⟨rfl, la, nth_names ha hA (by simp at q6; simp only [LT.names]; omega), rfl, rfl, rfl, rfl⟩
      · have d1 : decide ((i : Int) < (al.length : Int)) = false := by simpa using la
        rw [List.take_of_length_le (by omega)] at hA
        have hq := hQ h1.1 h1.2 (fun _ => by simp at p2; omega) (fun h => by cases h) hA
        simp (maxSteps := 10^6) +contextual (disch := try exact dqd) only [ev0, simprocAttr, AV.int, AV.bool, AV.str, Tryz.results76, gE, e2, e3, e5, d1, hal, htl, hq]
    · simp (maxSteps := 10^6) +contextual (disch := try exact dqd) only [ev0, simprocAttr, AV.int, AV.bool, AV.str, Tryz.results76, gE, exprC, useC, hkl, hal, hpl, q1, q2, p1, p2, hy]
    · simp (maxSteps := 10^6) +contextual (disch := try exact dqd) only [ev0, simprocAttr, AV.int, AV.bool, AV.str, Tryz.results76, gE, exprC, useC, hkl, hal, hpl, q1, q2, p1, p2, hy]
    · simp (maxSteps := 10^6) +contextual (disch := try exact dqd) only [ev0, simprocAttr, AV.int, AV.bool, AV.str, Tryz.results76, gE, exprC, useC, hkl, hal, hpl, q1, q2, p1, p2, r1, r2]
      refine loopG (P := Tryz.prog) (fun x st => st.T.length = 83 ∧ (x ≤ al.length) ∧ (∀ a ∈ al.take x, a.names.length ≤ 6) ∧ getT st.T 2 = .ref 0 0 0 ∧ getT st.T 3 = .ref 1 1 0 ∧ getT st.T 5 = .int (x : Nat) ∧ st.S = [⟨0, [.prim (.int .i64 o), .prim (.string s), .prim (.int .i64 n), .frz (exprsC ks) .unk, .frz (ps.map paramC) .unk, .frz (altsC al) .unk, .frz (typesC ts) .unk]⟩, ⟨1, [.prim (.bool un), .prim (.bool unm), .prim (.int .i64 lo), .prim (.int .i64 hi'), .prim (.bool true), .prim (.bool true), .prim (.bool ut), .prim (.bool ue), .prim (.bool uo)]⟩]) (fun x => al.length - x) (0) ?_ ?_
      case refine_2 => exact ⟨rfl, Nat.zero_le _, by simp, rfl, rfl, rfl, rfl⟩
      rintro i ⟨T, S', tk', n'⟩ ⟨hl, hi, hA, e2, e3, e5, eS⟩ IH
      subst eS
      obtain ⟨g, hg, hT⟩ := tab_of hl
      rw [hg] at e2 e3 e5
      subst hT
      clear hg hl
      by_cases la : i < al.length
      · have d1 : decide ((i : Int) < (al.length : Int)) = true := by simpa using la
        obtain ⟨a, ha⟩ := nth_some la
        have ha' := nth_alts ha
        have hw := wrap_add (i := i) (by omega)
        obtain ⟨con, ns, ⟨qo, qs, qn, qk, qp, qa, qt⟩⟩ := a
        simp only [altC, exprC, strsA] at ha'
        cases q6 : decide ((ns.length : Int) > 6)
        case true => simp (maxSteps := 10^6) +contextual (disch := try exact dqd) only [ev0, simprocAttr, AV.int, AV.bool, AV.str, Tryz.results76, gE, e2, e3, e5, d1, ha', hw, hal, q6]
        simp (maxSteps := 10^6) +contextual (disch := try exact dqd) only [ev0, simprocAttr, AV.int, AV.bool, AV.str, Tryz.results76, gE, e2, e3, e5, d1, ha', hw, hal, q6]
        exact IH ((i + 1)) _ (by first | omega | (simp only; omega)) ⟨rfl, la, nth_names ha hA (by simp at q6; simp only [LT.names]; omega), rfl, rfl, rfl, rfl⟩
      · have d1 : decide ((i : Int) < (al.length : Int)) = false := by simpa using la
        rw [List.take_of_length_le (by omega)] at hA
        have hq := hQ h1.1 h1.2 (fun _ => by simp at p2; omega) (fun _ => by simp at r2; omega) hA
        simp (maxSteps := 10^6) +contextual (disch := try exact dqd) only [ev0, simprocAttr, AV.int, AV.bool, AV.str, Tryz.results76, gE, e2, e3, e5, d1, hal, htl, hq]
end
end Go.Proofs.YtmkoiandfojgmaaGreat
namespace Go.Proofs.YtmkoiandfojgmaaGreat
open Go
section
variable [Depth]
theorem core_ans (s : ByteArray) : (∀ S tk k, cL Tryz.prog 90 [.str s] S tk k = some (.int 0, S, tk, k)) ∨ (∀ S tk k, cL Tryz.prog 90 [.str s] S tk k = some (.int 3, S, tk, k)) := by
  have h := fun S tk k => R04_Core S tk k s
  cases hq : coreF s <;> rw [hq] at h
  · exact .inr h
  · exact .inl h
set_option maxRecDepth 100000 in
set_option maxHeartbeats 4000000 in
theorem R20_named (o : Int) (s : ByteArray) (n : Int) (ks : List XT) (ps : List (ByteArray × TT)) (al : List LT) (ts : List TT) (hb : bkX (.node o s n ks ps al ts) ≤ 1048576) (u : UseT) :
    ∃ b : Bool, (∀ S tk k, cL Tryz.prog 78 [.agg (exprC (.node o s n ks ps al ts)), .agg (useC u)] S tk k = some (.bool b, S, tk, k)) ∧ (b = true → True) := by
  simp only [bkX] at hb
  have hbl := bkLs_len al
  have hbq := bkQs_len ps
  have hal := altsC_len al
  have hpl : (ps.map paramC).length = ps.length := List.length_map ..
  obtain ⟨un, unm, lo, hi', up, ua, ut, ue, uo⟩ := u
  refine opB Tryz.func78 Tryz.ntmps78 ?_
  obtain hc | ⟨rfl, hc⟩ | rfl : (unm = true ∧ ∀ S tk k, cL Tryz.prog 90 [.str s] S tk k = some (.int 0, S, tk, k)) ∨ (unm = true ∧ ∀ S tk k, cL Tryz.prog 90 [.str s] S tk k = some (.int 3, S, tk, k)) ∨ unm = false := by
    have := core_ans s
    cases unm <;> simp <;> exact this
  case inr.inl => simp (maxSteps := 10^6) +contextual (disch := try exact dqd) only [ev0, simprocAttr, AV.int, AV.bool, AV.str, Tryz.results78, gE, exprC, useC, hc]
  case inl =>
    obtain ⟨rfl, hc⟩ := hc
    simp (maxSteps := 10^6) +contextual (disch := try exact dqd) only [ev0, simprocAttr, AV.int, AV.bool, AV.str, Tryz.results78, gE, exprC, useC, hc]
    refine loopG (P := Tryz.prog) (fun x st => st.T.length = 68 ∧ (x ≤ ps.length) ∧ getT st.T 2 = .ref 0 0 0 ∧ getT st.T 5 = .int (x : Nat) ∧ st.S = [⟨0, [.prim (.int .i64 o), .prim (.string s), .prim (.int .i64 n), .frz (exprsC ks) .unk, .frz (ps.map paramC) .unk, .frz (altsC al) .unk, .frz (typesC ts) .unk]⟩, ⟨1, [.prim (.bool un), .prim (.bool true), .prim (.int .i64 lo), .prim (.int .i64 hi'), .prim (.bool up), .prim (.bool ua), .prim (.bool ut), .prim (.bool ue), .prim (.bool uo)]⟩]) (fun x => ps.length - x) (0) ?_ ?_
    case refine_2 => exact ⟨rfl, Nat.zero_le _, rfl, rfl, rfl⟩
    rintro i ⟨T, S', tk', n'⟩ ⟨hl, hi, e2, e5, eS⟩ IH
    subst eS
    obtain ⟨g, hg, hT⟩ := tab_of hl
    rw [hg] at e2 e5
    subst hT
    clear hg hl
    by_cases la : i < ps.length
    · have d1 : decide ((i : Int) < (ps.length : Int)) = true := by simpa using la
      obtain ⟨p, hp⟩ := nth_some la
      have hp' := nth_params hp
      have hw := wrap_add (i := i) (by omega)
      have hco := core_ans p.1
      obtain ⟨nm, o', s', a', ns', ⟨po, pn, pv, pk⟩, pp⟩ := p
      simp only [paramC, typeC, predC, strsA, List.cons_append, List.nil_append] at hp' hco
      rcases hco with hco | hco
      · simp (maxSteps := 10^6) +contextual (disch := try exact dqd) only [ev0, simprocAttr, AV.int, AV.bool, AV.str, Tryz.results78, gE, e2, e5, d1, hp', hw, hco, hpl]
        exact IH ((i + 1)) _ (by first | omega | (simp only; omega)) ⟨rfl, la, rfl, rfl, rfl⟩
      · simp (maxSteps := 10^6) +contextual (disch := try exact dqd) only [ev0, simprocAttr, AV.int, AV.bool, AV.str, Tryz.results78, gE, e2, e5, d1, hp', hw, hco, hpl]
    · have d1 : decide ((i : Int) < (ps.length : Int)) = false := by simpa using la
      simp (maxSteps := 10^6) +contextual (disch := try exact dqd) only [ev0, simprocAttr, AV.int, AV.bool, AV.str, Tryz.results78, gE, e2, e5, d1, hpl]
      clear e2 e5 IH d1 la hi
      refine loopG (P := Tryz.prog) (fun x st => st.T.length = 68 ∧ (x ≤ al.length) ∧ getT st.T 2 = .ref 0 0 0 ∧ getT st.T 6 = .int (x : Nat) ∧ st.S = [⟨0, [.prim (.int .i64 o), .prim (.string s), .prim (.int .i64 n), .frz (exprsC ks) .unk, .frz (ps.map paramC) .unk, .frz (altsC al) .unk, .frz (typesC ts) .unk]⟩, ⟨1, [.prim (.bool un), .prim (.bool true), .prim (.int .i64 lo), .prim (.int .i64 hi'), .prim (.bool up), .prim (.bool ua), .prim (.bool ut), .prim (.bool ue), .prim (.bool uo)]⟩]) (fun x => al.length - x) (0) ?_ ?_
      case refine_2 => exact ⟨rfl, Nat.zero_le _, rfl, rfl, rfl⟩
      rintro i ⟨T, S', tk', n'⟩ ⟨hl, hi, e2, e6, eS⟩ IH
      subst eS
      obtain ⟨g, hg, hT⟩ := tab_of hl
      rw [hg] at e2 e6
      subst hT
      clear hg hl
      by_cases la : i < al.length
      · have d1 : decide ((i : Int) < (al.length : Int)) = true := by simpa using la
        obtain ⟨a, ha⟩ := nth_some la
        have ha' := nth_alts ha
        have hw := wrap_add (i := i) (by omega)
        have hba := bkLs_mem (nth_memU ha)
        obtain ⟨con, ns, ⟨qo, qs, qn, qk, qp, qa, qt⟩⟩ := a
        simp only [bkL] at hba
        have hns := bkSs_len ns
        simp only [altC, exprC, strsA] at ha'
        rcases core_ans con with hco | hco
        case inr => simp (maxSteps := 10^6) +contextual (disch := try exact dqd) only [ev0, simprocAttr, AV.int, AV.bool, AV.str, Tryz.results78, gE, e2, e6, d1, ha', hw, hco, hal]
        simp (maxSteps := 10^6) +contextual (disch := try exact dqd) only [ev0, simprocAttr, AV.int, AV.bool, AV.str, Tryz.results78, gE, e2, e6, d1, ha', hw, hco, hal]
        have IH0 := IH
        clear IH
        refine loopG (P := Tryz.prog) (fun x st => st.T.length = 68 ∧ (x ≤ ns.length) ∧ getT st.T 2 = .ref 0 0 0 ∧ getT st.T 6 = .int (i : Nat) ∧ getT st.T 7 = .int (x : Nat) ∧ st.S = [⟨0, [.prim (.int .i64 o), .prim (.string s), .prim (.int .i64 n), .frz (exprsC ks) .unk, .frz (ps.map paramC) .unk, .frz (altsC al) .unk, .frz (typesC ts) .unk]⟩, ⟨1, [.prim (.bool un), .prim (.bool true), .prim (.int .i64 lo), .prim (.int .i64 hi'), .prim (.bool up), .prim (.bool ua), .prim (.bool ut), .prim (.bool ue), .prim (.bool uo)]⟩]) (fun x => ns.length - x) (0) ?_ ?_
        case refine_2 => exact ⟨rfl, Nat.zero_le _, rfl, rfl, rfl, rfl⟩
        rintro j ⟨T, S', tk', n'⟩ ⟨hl, hj, e2, e6, e7, eS⟩ IH
        subst eS
        obtain ⟨g, hg, hT⟩ := tab_of hl
        rw [hg] at e2 e6 e7
        subst hT
        clear hg hl
        by_cases lb : j < ns.length
        · have d2 : decide ((j : Int) < (ns.length : Int)) = true := by simpa using lb
          obtain ⟨x, hx⟩ := nth_some lb
          have hx' := nth_strs hx
          simp only [strC] at hx'
          have hw2 := wrap_add (i := j) (by omega)
          rcases core_ans x with hcx | hcx
          · simp (maxSteps := 10^6) +contextual (disch := try exact dqd) only [ev0, simprocAttr, AV.int, AV.bool, AV.str, Tryz.results78, gE, e2, e6, e7, d1, d2, ha', hx', hw2, hcx, hal]
            exact IH ((j + 1)) _ (by first | omega | (simp only; omega)) ⟨rfl, lb, rfl, rfl, rfl, rfl⟩
          · simp (maxSteps := 10^6) +contextual (disch := try exact dqd) only [ev0, simprocAttr, AV.int, AV.bool, AV.str, Tryz.results78, gE, e2, e6, e7, d1, d2, ha', hx', hw2, hcx, hal]
        · have d2 : decide ((j : Int) < (ns.length : Int)) = false := by simpa using lb
          simp (maxSteps := 10^6) +contextual (disch := try exact dqd) only [ev0, simprocAttr, AV.int, AV.bool, AV.str, Tryz.results78, gE, e2, e6, e7, d1, d2, ha', hw, hal]
          exact IH0 (i + 1) _ (by omega) ⟨rfl, la, rfl, rfl, rfl⟩
      · have d1 : decide ((i : Int) < (al.length : Int)) = false := by simpa using la
        simp (maxSteps := 10^6) +contextual (disch := try exact dqd) only [ev0, simprocAttr, AV.int, AV.bool, AV.str, Tryz.results78, gE, e2, e6, d1, hal]
  case inr.inr =>
    simp (maxSteps := 10^6) +contextual (disch := try exact dqd) only [ev0, simprocAttr, AV.int, AV.bool, AV.str, Tryz.results78, gE, exprC, useC]
    refine loopG (P := Tryz.prog) (fun x st => st.T.length = 68 ∧ (x ≤ ps.length) ∧ getT st.T 2 = .ref 0 0 0 ∧ getT st.T 5 = .int (x : Nat) ∧ st.S = [⟨0, [.prim (.int .i64 o), .prim (.string s), .prim (.int .i64 n), .frz (exprsC ks) .unk, .frz (ps.map paramC) .unk, .frz (altsC al) .unk, .frz (typesC ts) .unk]⟩, ⟨1, [.prim (.bool un), .prim (.bool false), .prim (.int .i64 lo), .prim (.int .i64 hi'), .prim (.bool up), .prim (.bool ua), .prim (.bool ut), .prim (.bool ue), .prim (.bool uo)]⟩]) (fun x => ps.length - x) (0) ?_ ?_
    case refine_2 => exact ⟨rfl, Nat.zero_le _, rfl, rfl, rfl⟩
    rintro i ⟨T, S', tk', n'⟩ ⟨hl, hi, e2, e5, eS⟩ IH
    subst eS
    obtain ⟨g, hg, hT⟩ := tab_of hl
    rw [hg] at e2 e5
    subst hT
    clear hg hl
    by_cases la : i < ps.length
    · have d1 : decide ((i : Int) < (ps.length : Int)) = true := by simpa using la
      obtain ⟨p, hp⟩ := nth_some la
      have hp' := nth_params hp
      have hw := wrap_add (i := i) (by omega)
      have hco := core_ans p.1
      obtain ⟨nm, o', s', a', ns', ⟨po, pn, pv, pk⟩, pp⟩ := p
      simp only [paramC, typeC, predC, strsA, List.cons_append, List.nil_append] at hp' hco
      rcases hco with hco | hco
      · simp (maxSteps := 10^6) +contextual (disch := try exact dqd) only [ev0, simprocAttr, AV.int, AV.bool, AV.str, Tryz.results78, gE, e2, e5, d1, hp', hw, hco, hpl]
        exact IH ((i + 1)) _ (by first | omega | (simp only; omega)) ⟨rfl, la, rfl, rfl, rfl⟩
      · simp (maxSteps := 10^6) +contextual (disch := try exact dqd) only [ev0, simprocAttr, AV.int, AV.bool, AV.str, Tryz.results78, gE, e2, e5, d1, hp', hw, hco, hpl]
    · have d1 : decide ((i : Int) < (ps.length : Int)) = false := by simpa using la
      simp (maxSteps := 10^6) +contextual (disch := try exact dqd) only [ev0, simprocAttr, AV.int, AV.bool, AV.str, Tryz.results78, gE, e2, e5, d1, hpl]
      clear e2 e5 IH d1 la hi
      refine loopG (P := Tryz.prog) (fun x st => st.T.length = 68 ∧ (x ≤ al.length) ∧ getT st.T 2 = .ref 0 0 0 ∧ getT st.T 6 = .int (x : Nat) ∧ st.S = [⟨0, [.prim (.int .i64 o), .prim (.string s), .prim (.int .i64 n), .frz (exprsC ks) .unk, .frz (ps.map paramC) .unk, .frz (altsC al) .unk, .frz (typesC ts) .unk]⟩, ⟨1, [.prim (.bool un), .prim (.bool false), .prim (.int .i64 lo), .prim (.int .i64 hi'), .prim (.bool up), .prim (.bool ua), .prim (.bool ut), .prim (.bool ue), .prim (.bool uo)]⟩]) (fun x => al.length - x) (0) ?_ ?_
      case refine_2 => exact ⟨rfl, Nat.zero_le _, rfl, rfl, rfl⟩
      rintro i ⟨T, S', tk', n'⟩ ⟨hl, hi, e2, e6, eS⟩ IH
      subst eS
      obtain ⟨g, hg, hT⟩ := tab_of hl
      rw [hg] at e2 e6
      subst hT
      clear hg hl
      by_cases la : i < al.length
      · have d1 : decide ((i : Int) < (al.length : Int)) = true := by simpa using la
        obtain ⟨a, ha⟩ := nth_some la
        have ha' := nth_alts ha
        have hw := wrap_add (i := i) (by omega)
        have hba := bkLs_mem (nth_memU ha)
        obtain ⟨con, ns, ⟨qo, qs, qn, qk, qp, qa, qt⟩⟩ := a
        simp only [bkL] at hba
        have hns := bkSs_len ns
        simp only [altC, exprC, strsA] at ha'
        rcases core_ans con with hco | hco
        case inr => simp (maxSteps := 10^6) +contextual (disch := try exact dqd) only [ev0, simprocAttr, AV.int, AV.bool, AV.str, Tryz.results78, gE, e2, e6, d1, ha', hw, hco, hal]
        simp (maxSteps := 10^6) +contextual (disch := try exact dqd) only [ev0, simprocAttr, AV.int, AV.bool, AV.str, Tryz.results78, gE, e2, e6, d1, ha', hw, hco, hal]
        have IH0 := IH
        clear IH
        refine loopG (P := Tryz.prog) (fun x st => st.T.length = 68 ∧ (x ≤ ns.length) ∧ getT st.T 2 = .ref 0 0 0 ∧ getT st.T 6 = .int (i : Nat) ∧ getT st.T 7 = .int (x : Nat) ∧ st.S = [⟨0, [.prim (.int .i64 o), .prim (.string s), .prim (.int .i64 n), .frz (exprsC ks) .unk, .frz (ps.map paramC) .unk, .frz (altsC al) .unk, .frz (typesC ts) .unk]⟩, ⟨1, [.prim (.bool un), .prim (.bool false), .prim (.int .i64 lo), .prim (.int .i64 hi'), .prim (.bool up), .prim (.bool ua), .prim (.bool ut), .prim (.bool ue), .prim (.bool uo)]⟩]) (fun x => ns.length - x) (0) ?_ ?_
        case refine_2 => exact ⟨rfl, Nat.zero_le _, rfl, rfl, rfl, rfl⟩
        rintro j ⟨T, S', tk', n'⟩ ⟨hl, hj, e2, e6, e7, eS⟩ IH
        subst eS
        obtain ⟨g, hg, hT⟩ := tab_of hl
        rw [hg] at e2 e6 e7
        subst hT
        clear hg hl
        by_cases lb : j < ns.length
        · have d2 : decide ((j : Int) < (ns.length : Int)) = true := by simpa using lb
          obtain ⟨x, hx⟩ := nth_some lb
          have hx' := nth_strs hx
          simp only [strC] at hx'
          have hw2 := wrap_add (i := j) (by omega)
          rcases core_ans x with hcx | hcx
          · simp (maxSteps := 10^6) +contextual (disch := try exact dqd) only [ev0, simprocAttr, AV.int, AV.bool, AV.str, Tryz.results78, gE, e2, e6, e7, d1, d2, ha', hx', hw2, hcx, hal]
            exact IH ((j + 1)) _ (by first | omega | (simp only; omega)) ⟨rfl, lb, rfl, rfl, rfl, rfl⟩
          · simp (maxSteps := 10^6) +contextual (disch := try exact dqd) only [ev0, simprocAttr, AV.int, AV.bool, AV.str, Tryz.results78, gE, e2, e6, e7, d1, d2, ha', hx', hw2, hcx, hal]
        · have d2 : decide ((j : Int) < (ns.length : Int)) = false := by simpa using lb
          simp (maxSteps := 10^6) +contextual (disch := try exact dqd) only [ev0, simprocAttr, AV.int, AV.bool, AV.str, Tryz.results78, gE, e2, e6, e7, d1, d2, ha', hw, hal]
          exact IH0 (i + 1) _ (by omega) ⟨rfl, la, rfl, rfl, rfl⟩
      · have d1 : decide ((i : Int) < (al.length : Int)) = false := by simpa using la
        simp (maxSteps := 10^6) +contextual (disch := try exact dqd) only [ev0, simprocAttr, AV.int, AV.bool, AV.str, Tryz.results78, gE, e2, e6, d1, hal]
set_option maxRecDepth 100000 in
set_option maxHeartbeats 4000000 in
theorem R20_typed (o : Int) (s : ByteArray) (n : Int) (ks : List XT) (ps : List (ByteArray × TT)) (al : List LT) (ts : List TT) (hb : bkX (.node o s n ks ps al ts) ≤ 1048576) :
    ∃ m : Int, (∀ S tk k, cL Tryz.prog 80 [.agg (exprC (.node o s n ks ps al ts))] S tk k = some (.int m, S, tk, k)) ∧ (m = 0 → True) := by
  simp only [bkX] at hb
  have hbt := bkTs_len ts
  have hbq := bkQs_len ps
  have htl := typesC_len ts
  have hpl : (ps.map paramC).length = ps.length := List.length_map ..
  refine opI' Tryz.func80 Tryz.ntmps80 ?_
  simp (maxSteps := 10^6) +contextual (disch := try exact dqd) only [ev0, simprocAttr, AV.int, AV.bool, AV.str, Tryz.results80, gE, exprC]
  refine loopG (P := Tryz.prog) (fun x st => st.T.length = 47 ∧ (x ≤ ts.length) ∧ getT st.T 1 = .ref 0 0 0 ∧ getT st.T 3 = .int (x : Nat) ∧ st.S = [⟨0, [.prim (.int .i64 o), .prim (.string s), .prim (.int .i64 n), .frz (exprsC ks) .unk, .frz (ps.map paramC) .unk, .frz (altsC al) .unk, .frz (typesC ts) .unk]⟩]) (fun x => ts.length - x) (0) ?_ ?_
  case refine_2 => exact ⟨rfl, Nat.zero_le _, rfl, rfl, rfl⟩
  rintro i ⟨T, S', tk', n'⟩ ⟨hl, hi, e1, e3, eS⟩ IH
  subst eS
  obtain ⟨g, hg, hT⟩ := tab_of hl
  rw [hg] at e1 e3
  subst hT
  clear hg hl
  by_cases la : i < ts.length
  · have d1 : decide ((i : Int) < (ts.length : Int)) = true := by simpa using la
    obtain ⟨p, hp⟩ := nth_some la
    have hp' := nth_types hp
    have hw := wrap_add (i := i) (by omega)
    obtain ⟨m, hm, -⟩ := R19_Check p (by have := bkTs_mem (nth_memU hp); omega)
    obtain ⟨o', s', a', ns', ⟨po, pn, pv, pk⟩, pp⟩ := p
    simp only [typeC, predC, strsA, List.cons_append, List.nil_append] at hp' hm
    simp (maxSteps := 10^6) +contextual (disch := try exact dqd) only [ev0, simprocAttr, AV.int, AV.bool, AV.str, Tryz.results80, gE, e1, e3, d1, hp', hw, hm, htl]
    intro _
    exact IH ((i + 1)) _ (by first | omega | (simp only; omega)) ⟨rfl, la, rfl, rfl, rfl⟩
  · have d1 : decide ((i : Int) < (ts.length : Int)) = false := by simpa using la
    simp (maxSteps := 10^6) +contextual (disch := try exact dqd) only [ev0, simprocAttr, AV.int, AV.bool, AV.str, Tryz.results80, gE, e1, e3, d1, htl]
    clear e1 e3 IH d1 la hi
    refine loopG (P := Tryz.prog) (fun x st => st.T.length = 47 ∧ (x ≤ ps.length) ∧ getT st.T 1 = .ref 0 0 0 ∧ getT st.T 5 = .int (x : Nat) ∧ st.S = [⟨0, [.prim (.int .i64 o), .prim (.string s), .prim (.int .i64 n), .frz (exprsC ks) .unk, .frz (ps.map paramC) .unk, .frz (altsC al) .unk, .frz (typesC ts) .unk]⟩]) (fun x => ps.length - x) (0) ?_ ?_
    case refine_2 => exact ⟨rfl, Nat.zero_le _, rfl, rfl, rfl⟩
    rintro i ⟨T, S', tk', n'⟩ ⟨hl, hi, e1, e5, eS⟩ IH
    subst eS
    obtain ⟨g, hg, hT⟩ := tab_of hl
    rw [hg] at e1 e5
    subst hT
    clear hg hl
    by_cases la : i < ps.length
    · have d1 : decide ((i : Int) < (ps.length : Int)) = true := by simpa using la
      obtain ⟨p, hp⟩ := nth_some la
      have hp' := nth_params hp
      have hw := wrap_add (i := i) (by omega)
      obtain ⟨m, hm, -⟩ := R19_Check p.2 (by have := bkQs_mem (nth_memU hp); omega)
      obtain ⟨b, hz, -⟩ := R20_Zero p.2
      obtain ⟨nm, o', s', a', ns', ⟨po, pn, pv, pk⟩, pp⟩ := p
      simp only [paramC, typeC, predC, strsA, List.cons_append, List.nil_append] at hp' hm hz
      cases b
      · simp (maxSteps := 10^6) +contextual (disch := try exact dqd) only [ev0, simprocAttr, AV.int, AV.bool, AV.str, Tryz.results80, gE, e1, e5, d1, hp', hw, hm, hz, hpl]
        intro _
        exact IH ((i + 1)) _ (by first | omega | (simp only; omega)) ⟨rfl, la, rfl, rfl, rfl⟩
      · simp (maxSteps := 10^6) +contextual (disch := try exact dqd) only [ev0, simprocAttr, AV.int, AV.bool, AV.str, Tryz.results80, gE, e1, e5, d1, hp', hw, hm, hz, hpl]
        exact IH ((i + 1)) _ (by first | omega | (simp only; omega)) ⟨rfl, la, rfl, rfl, rfl⟩
    · have d1 : decide ((i : Int) < (ps.length : Int)) = false := by simpa using la
      simp (maxSteps := 10^6) +contextual (disch := try exact dqd) only [ev0, simprocAttr, AV.int, AV.bool, AV.str, Tryz.results80, gE, e1, e5, d1, hpl]
end
end Go.Proofs.YtmkoiandfojgmaaGreat
namespace Go.Proofs.YtmkoiandfojgmaaGreat
open Go
structure GoodN (o : Int) (ks : List XT) (ps : List (ByteArray × TT)) (al : List LT) : Prop where
  leaf : o = 3 → ks = []
  alt : o ≠ 9 → al = []
  lam : o = 6 → ks.length = 1
  lets : o = 7 → ks.length = 2
  ite : o = 8 → ks.length = 3
  get : o = 23 → ks.length = 1
  kds : ks.length ≤ 7
  prs : ps.length ≤ 6
  als : al.length ≤ 8
  nms : ∀ a ∈ al, a.names.length ≤ 6
def goodN : XT → Prop | .node o _ _ ks ps al _ => GoodN o ks ps al
mutual
def goodX : XT → Prop
  | .node o _ _ ks ps al _ => GoodN o ks ps al ∧ goodXs ks ∧ goodLs al
def goodXs : List XT → Prop
  | [] => True
  | k :: ks => goodX k ∧ goodXs ks
def goodLs : List LT → Prop
  | [] => True
  | .mk _ _ b :: al => goodX b ∧ goodLs al
end
theorem goodXs_of : ∀ {l : List XT}, (∀ q ∈ l, goodX q) → goodXs l
  | [], _ => by simp [goodXs]
  | k :: l, h => by simp only [goodXs]; exact ⟨h k (by simp), goodXs_of fun q hq => h q (by simp [hq])⟩
theorem goodLs_of : ∀ {l : List LT}, (∀ q ∈ l.map LT.body, goodX q) → goodLs l
  | [], _ => by simp [goodLs]
  | .mk c ns b :: l, h => by simp only [goodLs]; exact ⟨h b (by simp [LT.body]), goodLs_of fun q hq => h q (by simp [hq])⟩
theorem goodX_of {e : XT} (h1 : goodN e) (h : ∀ q ∈ bodiesX e, goodX q) : goodX e := by
  obtain ⟨o, s, n, ks, ps, al, ts⟩ := e
  simp only [bodiesX, XT.kids, XT.alts, List.mem_append] at h
  simp only [goodX]
  exact ⟨h1, goodXs_of fun q hq => h q (.inl hq), goodLs_of fun q hq => h q (.inr hq)⟩
end Go.Proofs.YtmkoiandfojgmaaGreat
