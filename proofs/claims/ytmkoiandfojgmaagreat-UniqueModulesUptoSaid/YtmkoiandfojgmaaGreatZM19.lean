/-
  Texts laid together: UR14, FName, UR3, UR4.
-/
import Derived.Test.YtmkoiandfojgmaaGreatZM18
import Derived.Test.YtmkoiandfojgmaaGreatZM13
import Derived.Test.YtmkoiandfojgmaaGreatZM11
import Derived.Test.YtmkoiandfojgmaaGreatZM14
import Derived.Test.YtmkoiandfojgmaaGreatZM16
namespace Go.Proofs.YtmkoiandfojgmaaGreat
open Go
section
variable [Depth]
set_option maxRecDepth 100000 in
set_option maxHeartbeats 8000000 in
theorem R28_Free (m : MT) (h : SmallM m) (S : List Ent) (tk : List Nat) (k : Nat) : cL Tryz.prog 10 [.agg (modC m)] S tk k = some (.bool (freeF m), S, tk, k) := by
  obtain ⟨datas, classes, insts, measures, quals, defs⟩ := m
  have hall := h.all
  have hdf := h.defs
  simp only [allDefs, List.length_append] at hall
  have hfl := flat_le insts
  have hap0 : ∀ tk, apB (some 25) [] .tight (defs.map defC) tk = some (.frz (defs.map defC) (capNew tk .tight 25), capPut tk .tight) := fun tk => apB_all (es := []) rfl rfl (rowsOk_defs defs) (by simp; omega)
  obtain ⟨B3, hB3⟩ : ∃ B3, B3 = defsF (defs ++ insts.flatMap NT.defs) := ⟨_, rfl⟩
  obtain ⟨B1, hB1⟩ : ∃ B1, B1 = classes.any fun c => c.methods.any fun p => deepT p.2 := ⟨_, rfl⟩
  obtain ⟨B0, hB0⟩ : ∃ B0, B0 = datas.any fun d => d.cons.any fun c => deepTs c.fields := ⟨_, rfl⟩
  have hR : freeF ⟨datas, classes, insts, measures, quals, defs⟩ = !(((insts.drop 0).any fun x => deepT x.ty) || (B3 || (B0 || B1))) := by
    simp only [freeF, declsF, allDefs]
    rw [← hB3, ← hB1, ← hB0]
    show _ = !((insts.any fun x => deepT x.ty) || _)
    generalize (insts.any fun x => deepT x.ty) = b
    cases b <;> cases B3 <;> cases B0 <;> cases B1 <;> rfl
  generalize freeF ⟨datas, classes, insts, measures, quals, defs⟩ = R at *
  have h1 := h.datas
  have h2 := h.conss
  have h3 := h.classes
  have h4 := h.meths
  have h5 := h.insts
  have h6 := h.ityps
  simp only at h1 h2 h3 h4 h5 h6
  simp only [allDefs] at hdf
  clear h
  simp only [capNew, capPut] at hap0
  refine opP Tryz.func10 Tryz.ntmps10 ?_
  simp (maxSteps := 10^6) +contextual (disch := try exact dqd) only [ev0, simprocAttr, AV.int, AV.bool, AV.str, Tryz.results10, modC, hap0, List.length_map]
  generalize hMC : [AV.frz (datas.map dataC) .unk, .frz (classes.map classC) .unk, .frz (insts.map instC) .unk, .frz measures .unk, .frz quals .unk, .frz (defs.map defC) .unk] = MC
  clear hap0
  refine loop1 (P := Tryz.prog) (fun x st => st.T.length = 98 ∧ (x.1 ≤ insts.length) ∧ (okCap st.tk x.2.1 25 = true) ∧ (x.2.2 = (defs ++ (insts.take x.1).flatMap NT.defs).map defC) ∧ (R = !(((insts.drop x.1).any fun x => deepT x.ty) || (B3 || (B0 || B1)))) ∧ getT st.T 1 = .ref 0 0 0 ∧ getT st.T 3 = .frz x.2.2 x.2.1 ∧ getT st.T 23 = .frz (insts.map instC) .unk ∧ getT st.T 24 = .int (insts.length : Nat) ∧ getT st.T 25 = .int (x.1 : Nat) ∧ st.S = [⟨0, MC⟩]) (fun x => insts.length - x.1) (fun x => .bool R) (0, Cap.tok 0 0 25, defs.map defC) ?_ ?_
  case refine_2 => exact ⟨rfl, Nat.zero_le _, rfl, by simp, hR, rfl, rfl, rfl, rfl, rfl, rfl⟩
  rintro ⟨i, c, L⟩ ⟨T, S', tk', n'⟩ ⟨hl, hj, hok, hL, hA, e1, e3, e23, e24, e25, eS⟩ IH
  simp only at hj hok hL hA e1 e3 e23 e24 e25 eS
  subst eS
  obtain ⟨g, hg, hT⟩ := tab_of hl
  rw [hg] at e1 e3 e23 e24 e25
  subst hT
  clear hg hl
  by_cases la : i < insts.length
  · have d1 : decide ((i : Int) < (insts.length : Int)) = true := by simpa using la
    obtain ⟨x, hx⟩ := nth_some la
    have hx' := nth_mapC (f := instC) hx
    have hw := wrap_add (i := i) (by omega)
    have hr : rowsOk 25 L = true := by rw [hL]; exact rowsOk_defs _
    have hft := flat_take hx
    have hf1 := hfl (i + 1)
    have hap := apB_all (ys := x.defs.map defC) hok hr (rowsOk_defs _) (by rw [hL]; rw [hft] at hf1; simp only [List.length_map, List.length_append] at hf1 ⊢; omega)
    have hL2 : L ++ x.defs.map defC = (defs ++ (insts.take (i + 1)).flatMap NT.defs).map defC := by rw [hft, hL]; simp
    have hc := R28_cell x.ty (h6 x (nth_memU hx))
    rw [nth_drop hx, List.any_cons] at hA
    obtain ⟨nm, ⟨to, tn, ta, tns, ⟨po, pn, pv, pk⟩, pp⟩, nds, dfs⟩ := x
    simp only [instC, typeC, predC, strsA, List.cons_append, List.nil_append] at hx' hap hL2 hc
    simp only at hA
    generalize deepT (.node to tn ta tns (.node po pn pv pk) pp) = b at *
    cases b
    · simp (maxSteps := 10^6) +contextual (disch := try exact dqd) only [ev0, simprocAttr, AV.int, AV.bool, AV.str, Tryz.results10, e1, e3, e23, e24, e25, d1, hx', hw, hap, hc, List.length_map]
      exact IH ((i + 1, _, _)) _ (by first | omega | (simp only; omega)) ⟨rfl, la, okCap_new hok, hL2, by simpa using hA, rfl, rfl, rfl, rfl, rfl, rfl⟩
    · simp (maxSteps := 10^6) +contextual (disch := try exact dqd) only [ev0, simprocAttr, AV.int, AV.bool, AV.str, Tryz.results10, e1, e3, e23, e24, e25, d1, hx', hw, hc, List.length_map]
      simpa using hA.symm
  have d1 : decide ((i : Int) < (insts.length : Int)) = false := by simpa using la
  rw [List.take_of_length_le (by omega)] at hL
  subst hL
  rw [List.drop_eq_nil_of_le (by omega)] at hA
  subst hMC
  simp (maxSteps := 10^6) +contextual (disch := try exact dqd) only [ev0, simprocAttr, AV.int, AV.bool, AV.str, Tryz.results10, e1, e3, e23, e24, e25, d1, List.length_map]
  generalize hMC : [AV.frz (datas.map dataC) .unk, .frz (classes.map classC) .unk, .frz (insts.map instC) .unk, .frz measures .unk, .frz quals .unk, .frz (defs.map defC) .unk] = MC
  clear e1 e3 e23 e24 e25 IH d1 la hok
  have hall2 : (defs ++ insts.flatMap NT.defs).length ≤ 1048576 := by simpa using hall
  generalize defs ++ insts.flatMap NT.defs = D at *
  have hR0 : R = !(defsF (D.drop 0) || (B0 || B1)) := by rw [hA, hB3]; rfl
  clear hA
  refine loop1 (P := Tryz.prog) (fun x st => st.T.length = 98 ∧ (x ≤ D.length) ∧ (R = !(defsF (D.drop x) || (B0 || B1))) ∧ getT st.T 1 = .ref 0 0 0 ∧ getT st.T 37 = .frz (D.map defC) c ∧ getT st.T 38 = .int (D.length : Nat) ∧ getT st.T 39 = .int (x : Nat) ∧ st.S = [⟨0, MC⟩]) (fun x => D.length - x) (fun x => .bool R) (0) ?_ ?_
  case refine_2 => exact ⟨rfl, Nat.zero_le _, hR0, rfl, rfl, rfl, rfl, rfl⟩
  rintro i ⟨T, S', tk', n'⟩ ⟨hl, hi, hA, e1, e37, e38, e39, eS⟩ IH
  subst eS
  obtain ⟨g, hg, hT⟩ := tab_of hl
  rw [hg] at e1 e37 e38 e39
  subst hT
  clear hg hl
  by_cases la : i < D.length
  · have d1 : decide ((i : Int) < (D.length : Int)) = true := by simpa using la
    obtain ⟨d, hd⟩ := nth_some la
    have hd' := nth_mapC (f := defC) hd
    have hw := wrap_add (i := i) (by omega)
    obtain ⟨b1, b2, -⟩ := hdf d (nth_memU hd)
    have hc := R28_cell d.ty b2
    have hm := R28_cells d.body b1
    rw [nth_drop hd] at hA
    simp only [defsF, List.any_cons] at hA
    obtain ⟨name, params, ⟨o, s, n, ks, ps, al, ts⟩, mode, typed, vars, needs, abs, bounds, ⟨to, tn, ta, tns, ⟨po, pn, pv, pk⟩, pp⟩, metric⟩ := d
    simp only [defC, exprC, typeC, predC, strsA, List.cons_append, List.nil_append] at hd' hc hm
    simp only at hA
    generalize deepT (.node to tn ta tns (.node po pn pv pk) pp) = b at *
    generalize madeX (.node o s n ks ps al ts) = b' at *
    cases b
    · cases b'
      · simp (maxSteps := 10^6) +contextual (disch := try exact dqd) only [ev0, simprocAttr, AV.int, AV.bool, AV.str, Tryz.results10, e1, e37, e38, e39, d1, hd', hw, hc, hm, List.length_map]
        exact IH ((i + 1)) _ (by first | omega | (simp only; omega)) ⟨rfl, la, by simpa [defsF] using hA, rfl, rfl, rfl, rfl, rfl⟩
      · simp (maxSteps := 10^6) +contextual (disch := try exact dqd) only [ev0, simprocAttr, AV.int, AV.bool, AV.str, Tryz.results10, e1, e37, e38, e39, d1, hd', hw, hc, hm, List.length_map]
        simpa using hA.symm
    · simp (maxSteps := 10^6) +contextual (disch := try exact dqd) only [ev0, simprocAttr, AV.int, AV.bool, AV.str, Tryz.results10, e1, e37, e38, e39, d1, hd', hw, hc, List.length_map]
      simpa using hA.symm
  have d1 : decide ((i : Int) < (D.length : Int)) = false := by simpa using la
  rw [List.drop_eq_nil_of_le (by omega)] at hA
  have hR0 : R = !(((datas.drop 0).any fun d => d.cons.any fun c => deepTs c.fields) || B1) := by rw [hA, hB0]; simp [defsF]
  clear hA IH
  subst hMC
  simp (maxSteps := 10^6) +contextual (disch := try exact dqd) only [ev0, simprocAttr, AV.int, AV.bool, AV.str, Tryz.results10, e1, e37, e38, e39, d1, List.length_map]
  generalize hMC : [AV.frz (datas.map dataC) .unk, .frz (classes.map classC) .unk, .frz (insts.map instC) .unk, .frz measures .unk, .frz quals .unk, .frz (defs.map defC) .unk] = MC
  clear e1 e37 e38 e39 d1 la hi
  refine loop1 (P := Tryz.prog) (fun x st => st.T.length = 98 ∧ (x ≤ datas.length) ∧ (R = !(((datas.drop x).any fun d => d.cons.any fun c => deepTs c.fields) || B1)) ∧ getT st.T 1 = .ref 0 0 0 ∧ getT st.T 54 = .frz (datas.map dataC) .unk ∧ getT st.T 55 = .int (datas.length : Nat) ∧ getT st.T 56 = .int (x : Nat) ∧ st.S = [⟨0, MC⟩]) (fun x => datas.length - x) (fun x => .bool R) (0) ?_ ?_
  case refine_2 => exact ⟨rfl, Nat.zero_le _, hR0, rfl, rfl, rfl, rfl, rfl⟩
  rintro i ⟨T, S', tk', n'⟩ ⟨hl, hi, hA, e1, e54, e55, e56, eS⟩ IH
  subst eS
  obtain ⟨g, hg, hT⟩ := tab_of hl
  rw [hg] at e1 e54 e55 e56
  subst hT
  clear hg hl
  by_cases la : i < datas.length
  · have d1 : decide ((i : Int) < (datas.length : Int)) = true := by simpa using la
    obtain ⟨d, hd⟩ := nth_some la
    have hd' := nth_mapC (f := dataC) hd
    have hw := wrap_add (i := i) (by omega)
    obtain ⟨hcn, hcf⟩ := h2 d (nth_memU hd)
    rw [nth_drop hd, List.any_cons] at hA
    obtain ⟨dn, dv, dp, dc⟩ := d
    simp only [dataC] at hd'
    simp only at hA hcn hcf
    simp (maxSteps := 10^6) +contextual (disch := try exact dqd) only [ev0, simprocAttr, AV.int, AV.bool, AV.str, Tryz.results10, e1, e54, e55, e56, d1, hd', List.length_map]
    obtain ⟨C0, hC0⟩ : ∃ C0, C0 = ((datas.drop (i + 1)).any fun d => d.cons.any fun c => deepTs c.fields) := ⟨_, rfl⟩
    rw [← hC0] at hA
    have hA0 : R = !(((dc.drop 0).any fun c => deepTs c.fields) || C0 || B1) := hA
    generalize n' = nn
    have IH0 := IH
    clear IH hA
    refine loop1 (P := Tryz.prog) (fun x st => st.T.length = 98 ∧ (x ≤ dc.length) ∧ (R = !(((dc.drop x).any fun c => deepTs c.fields) || C0 || B1)) ∧ getT st.T 1 = .ref 0 0 0 ∧ getT st.T 54 = .frz (datas.map dataC) .unk ∧ getT st.T 55 = .int (datas.length : Nat) ∧ getT st.T 56 = .int (i : Nat) ∧ getT st.T 61 = .frz (dc.map conC) .unk ∧ getT st.T 62 = .int (dc.length : Nat) ∧ getT st.T 63 = .int (x : Nat) ∧ st.S = [⟨0, MC⟩, ⟨nn, [.prim (.string dn), .frz dv .unk, .frz dp .unk, .frz (dc.map conC) .unk]⟩]) (fun x => dc.length - x) (fun x => .bool R) (0) ?_ ?_
    case refine_2 => exact ⟨rfl, Nat.zero_le _, hA0, rfl, rfl, rfl, rfl, rfl, rfl, rfl, rfl⟩
    rintro j ⟨T, S', tk', n'⟩ ⟨hl, hj, hA, e1, e54, e55, e56, e61, e62, e63, eS⟩ IH
    subst eS
    obtain ⟨g, hg, hT⟩ := tab_of hl
    rw [hg] at e1 e54 e55 e56 e61 e62 e63
    subst hT
    clear hg hl
    by_cases lb : j < dc.length
    · have d2 : decide ((j : Int) < (dc.length : Int)) = true := by simpa using lb
      obtain ⟨c, hc⟩ := nth_some lb
      have hc' := nth_mapC (f := conC) hc
      have hw2 := wrap_add (i := j) (by omega)
      have hcb := hcf c (nth_memU hc)
      rw [nth_drop hc, List.any_cons] at hA
      obtain ⟨cn, cns, cf⟩ := c
      simp only [conC, strsA] at hc'
      simp only at hA hcb
      have hcl := bkTs_len cf
      simp (maxSteps := 10^6) +contextual (disch := try exact dqd) only [ev0, simprocAttr, AV.int, AV.bool, AV.str, Tryz.results10, e1, e54, e55, e56, e61, e62, e63, d2, hc', List.length_map, typesC_len]
      obtain ⟨E0, hE0⟩ : ∃ E0, E0 = ((dc.drop (j + 1)).any fun c => deepTs c.fields) := ⟨_, rfl⟩
      rw [← hE0] at hA
      have hA0 : R = !((deepTs (cf.drop 0) || E0) || C0 || B1) := hA
      generalize n' = mm
      have IH1 := IH
      clear IH hA
      refine loop1 (P := Tryz.prog) (fun x st => st.T.length = 98 ∧ (x ≤ cf.length) ∧ (R = !((deepTs (cf.drop x) || E0) || C0 || B1)) ∧ getT st.T 1 = .ref 0 0 0 ∧ getT st.T 54 = .frz (datas.map dataC) .unk ∧ getT st.T 55 = .int (datas.length : Nat) ∧ getT st.T 56 = .int (i : Nat) ∧ getT st.T 61 = .frz (dc.map conC) .unk ∧ getT st.T 62 = .int (dc.length : Nat) ∧ getT st.T 63 = .int (j : Nat) ∧ getT st.T 68 = .frz (typesC cf) .unk ∧ getT st.T 69 = .int (cf.length : Nat) ∧ getT st.T 70 = .int (x : Nat) ∧ st.S = [⟨0, MC⟩, ⟨nn, [.prim (.string dn), .frz dv .unk, .frz dp .unk, .frz (dc.map conC) .unk]⟩, ⟨mm, [.prim (.string cn), .frz (cns.map strC) .unk, .frz (typesC cf) .unk]⟩]) (fun x => cf.length - x) (fun x => .bool R) (0) ?_ ?_
      case refine_2 => exact ⟨rfl, Nat.zero_le _, hA0, rfl, rfl, rfl, rfl, rfl, rfl, rfl, rfl, rfl, rfl, rfl⟩
      rintro l ⟨T, S', tk', n'⟩ ⟨hl, hl0, hA, e1, e54, e55, e56, e61, e62, e63, e68, e69, e70, eS⟩ IH
      subst eS
      obtain ⟨g, hg, hT⟩ := tab_of hl
      rw [hg] at e1 e54 e55 e56 e61 e62 e63 e68 e69 e70
      subst hT
      clear hg hl
      by_cases lc : l < cf.length
      · have d3 : decide ((l : Int) < (cf.length : Int)) = true := by simpa using lc
        obtain ⟨x, hx⟩ := nth_some lc
        have hx' := nth_types hx
        have hw3 := wrap_add (i := l) (by omega)
        have hq := R28_cell x (by have := bkTs_mem (nth_memU hx); omega)
        rw [nth_drop hx] at hA
        simp only [deepTs] at hA
        obtain ⟨o', s', a', ns', ⟨po', pn', pv', pk'⟩, pp'⟩ := x
        simp only [typeC, predC, strsA, List.cons_append, List.nil_append] at hx' hq
        generalize deepT (.node o' s' a' ns' (.node po' pn' pv' pk') pp') = b at *
        cases b
        · simp (maxSteps := 10^6) +contextual (disch := try exact dqd) only [ev0, simprocAttr, AV.int, AV.bool, AV.str, Tryz.results10, e1, e54, e55, e56, e61, e62, e63, e68, e69, e70, d3, hx', hw3, hq, List.length_map, typesC_len]
          exact IH ((l + 1)) _ (by first | omega | (simp only; omega)) ⟨rfl, lc, by simpa using hA, rfl, rfl, rfl, rfl, rfl, rfl, rfl, rfl, rfl, rfl, rfl⟩
        · simp (maxSteps := 10^6) +contextual (disch := try exact dqd) only [ev0, simprocAttr, AV.int, AV.bool, AV.str, Tryz.results10, e1, e54, e55, e56, e61, e62, e63, e68, e69, e70, d3, hx', hw3, hq, List.length_map, typesC_len]
          simpa using hA.symm
      · have d3 : decide ((l : Int) < (cf.length : Int)) = false := by simpa using lc
        rw [List.drop_eq_nil_of_le (by omega)] at hA
        simp (maxSteps := 10^6) +contextual (disch := try exact dqd) only [ev0, simprocAttr, AV.int, AV.bool, AV.str, Tryz.results10, e1, e54, e55, e56, e61, e62, e63, e68, e69, e70, d3, hw2, List.length_map, typesC_len]
        exact IH1 (j + 1) _ (by omega) ⟨rfl, lb, by rw [← hE0]; simpa [deepTs] using hA, rfl, rfl, rfl, rfl, rfl, rfl, rfl, rfl⟩
    · have d2 : decide ((j : Int) < (dc.length : Int)) = false := by simpa using lb
      rw [List.drop_eq_nil_of_le (by omega)] at hA
      simp (maxSteps := 10^6) +contextual (disch := try exact dqd) only [ev0, simprocAttr, AV.int, AV.bool, AV.str, Tryz.results10, e1, e54, e55, e56, e61, e62, e63, d2, hw, List.length_map]
      exact IH0 (i + 1) _ (by omega) ⟨rfl, la, by rw [← hC0]; simpa using hA, rfl, rfl, rfl, rfl, rfl⟩
  have d1 : decide ((i : Int) < (datas.length : Int)) = false := by simpa using la
  rw [List.drop_eq_nil_of_le (by omega)] at hA
  have hR0 : R = !((classes.drop 0).any fun c => c.methods.any fun p => deepT p.2) := by rw [hA, hB1]; rfl
  clear hA IH
  subst hMC
  simp (maxSteps := 10^6) +contextual (disch := try exact dqd) only [ev0, simprocAttr, AV.int, AV.bool, AV.str, Tryz.results10, e1, e54, e55, e56, d1, List.length_map]
  generalize hMC : [AV.frz (datas.map dataC) .unk, .frz (classes.map classC) .unk, .frz (insts.map instC) .unk, .frz measures .unk, .frz quals .unk, .frz (defs.map defC) .unk] = MC
  clear e1 e54 e55 e56 d1 la hi
  refine loop1 (P := Tryz.prog) (fun x st => st.T.length = 98 ∧ (x ≤ classes.length) ∧ (R = !((classes.drop x).any fun c => c.methods.any fun p => deepT p.2)) ∧ getT st.T 1 = .ref 0 0 0 ∧ getT st.T 80 = .frz (classes.map classC) .unk ∧ getT st.T 81 = .int (classes.length : Nat) ∧ getT st.T 82 = .int (x : Nat) ∧ st.S = [⟨0, MC⟩]) (fun x => classes.length - x) (fun x => .bool R) (0) ?_ ?_
  case refine_2 => exact ⟨rfl, Nat.zero_le _, hR0, rfl, rfl, rfl, rfl, rfl⟩
  rintro i ⟨T, S', tk', n'⟩ ⟨hl, hi, hA, e1, e80, e81, e82, eS⟩ IH
  subst eS
  obtain ⟨g, hg, hT⟩ := tab_of hl
  rw [hg] at e1 e80 e81 e82
  subst hT
  clear hg hl
  by_cases la : i < classes.length
  · have d1 : decide ((i : Int) < (classes.length : Int)) = true := by simpa using la
    obtain ⟨d, hd⟩ := nth_some la
    have hd' := nth_mapC (f := classC) hd
    have hw := wrap_add (i := i) (by omega)
    obtain ⟨hcn, hcf⟩ := h4 d (nth_memU hd)
    rw [nth_drop hd, List.any_cons] at hA
    obtain ⟨dn, dv, dc⟩ := d
    simp only [classC] at hd'
    simp only at hA hcn hcf
    simp (maxSteps := 10^6) +contextual (disch := try exact dqd) only [ev0, simprocAttr, AV.int, AV.bool, AV.str, Tryz.results10, e1, e80, e81, e82, d1, hd', List.length_map]
    obtain ⟨C0, hC0⟩ : ∃ C0, C0 = ((classes.drop (i + 1)).any fun c => c.methods.any fun p => deepT p.2) := ⟨_, rfl⟩
    rw [← hC0] at hA
    have hA0 : R = !(((dc.drop 0).any fun p => deepT p.2) || C0) := hA
    generalize n' = nn
    have IH0 := IH
    clear IH hA
    refine loop1 (P := Tryz.prog) (fun x st => st.T.length = 98 ∧ (x ≤ dc.length) ∧ (R = !(((dc.drop x).any fun p => deepT p.2) || C0)) ∧ getT st.T 1 = .ref 0 0 0 ∧ getT st.T 80 = .frz (classes.map classC) .unk ∧ getT st.T 81 = .int (classes.length : Nat) ∧ getT st.T 82 = .int (i : Nat) ∧ getT st.T 87 = .frz (dc.map paramC) .unk ∧ getT st.T 88 = .int (dc.length : Nat) ∧ getT st.T 89 = .int (x : Nat) ∧ st.S = [⟨0, MC⟩, ⟨nn, [.prim (.string dn), .prim (.string dv), .frz (dc.map paramC) .unk]⟩]) (fun x => dc.length - x) (fun x => .bool R) (0) ?_ ?_
    case refine_2 => exact ⟨rfl, Nat.zero_le _, hA0, rfl, rfl, rfl, rfl, rfl, rfl, rfl, rfl⟩
    rintro j ⟨T, S', tk', n'⟩ ⟨hl, hj, hA, e1, e80, e81, e82, e87, e88, e89, eS⟩ IH
    subst eS
    obtain ⟨g, hg, hT⟩ := tab_of hl
    rw [hg] at e1 e80 e81 e82 e87 e88 e89
    subst hT
    clear hg hl
    by_cases lb : j < dc.length
    · have d2 : decide ((j : Int) < (dc.length : Int)) = true := by simpa using lb
      obtain ⟨p, hp⟩ := nth_some lb
      have hp' := nth_params hp
      have hw2 := wrap_add (i := j) (by omega)
      have hq := R28_cell p.2 (hcf p (nth_memU hp))
      rw [nth_drop hp, List.any_cons] at hA
      obtain ⟨nm, o', s', a', ns', ⟨po, pn, pv, pk⟩, pp⟩ := p
      simp only [paramC, typeC, predC, strsA, List.cons_append, List.nil_append] at hp' hq
      simp only at hA
      generalize deepT (.node o' s' a' ns' (.node po pn pv pk) pp) = b at *
      cases b
      · simp (maxSteps := 10^6) +contextual (disch := try exact dqd) only [ev0, simprocAttr, AV.int, AV.bool, AV.str, Tryz.results10, e1, e80, e81, e82, e87, e88, e89, d2, hp', hw2, hq, List.length_map]
        exact IH ((j + 1)) _ (by first | omega | (simp only; omega)) ⟨rfl, lb, by simpa using hA, rfl, rfl, rfl, rfl, rfl, rfl, rfl, rfl⟩
      · simp (maxSteps := 10^6) +contextual (disch := try exact dqd) only [ev0, simprocAttr, AV.int, AV.bool, AV.str, Tryz.results10, e1, e80, e81, e82, e87, e88, e89, d2, hp', hw2, hq, List.length_map]
        simpa using hA.symm
    · have d2 : decide ((j : Int) < (dc.length : Int)) = false := by simpa using lb
      rw [List.drop_eq_nil_of_le (by omega)] at hA
      simp (maxSteps := 10^6) +contextual (disch := try exact dqd) only [ev0, simprocAttr, AV.int, AV.bool, AV.str, Tryz.results10, e1, e80, e81, e82, e87, e88, e89, d2, hw, List.length_map]
      exact IH0 (i + 1) _ (by omega) ⟨rfl, la, by rw [← hC0]; simpa using hA, rfl, rfl, rfl, rfl, rfl⟩
  have d1 : decide ((i : Int) < (classes.length : Int)) = false := by simpa using la
  rw [List.drop_eq_nil_of_le (by omega)] at hA
  simp (maxSteps := 10^6) +contextual (disch := try exact dqd) only [ev0, simprocAttr, AV.int, AV.bool, AV.str, Tryz.results10, e1, e80, e81, e82, d1, List.length_map]
  rw [hA]; rfl
end
end Go.Proofs.YtmkoiandfojgmaaGreat
namespace Go.Proofs.YtmkoiandfojgmaaGreat
open Go
theorem nloop_eq (s : ByteArray) : ∀ (n i : Nat) (r : List UInt8), s.size - i = n → ByteArray.toList.loop s i r = r.reverse ++ s.data.toList.drop i := by
  intro n
  induction n with
  | zero =>
    intro i r h
    rw [ByteArray.toList.loop, if_neg (by omega), List.drop_eq_nil_of_le (by simp; omega), List.append_nil]
  | succ n ih =>
    intro i r h
    have hi : i < s.data.size := by simp; omega
    rw [ByteArray.toList.loop, if_pos (by omega), ih (i + 1) _ (by omega), List.reverse_cons, List.append_assoc]
    congr 1
    have e : s.data.toList.drop i = s.data[i] :: s.data.toList.drop (i + 1) := by
      rw [← Array.getElem_toList hi, List.getElem_cons_drop]
    rw [e, List.singleton_append]
    congr 1
    show s.data[i]! = _
    rw [getElem!_pos s.data i hi]
def nm (s : ByteArray) : List UInt8 := s.data.toList
theorem nm_list (s : ByteArray) : s.toList = nm s := by rw [ByteArray.toList, nloop_eq s _ 0 [] rfl]; simp [nm]
theorem nm_inj {a b : ByteArray} (h : nm a = nm b) : a = b := by
  apply ByteArray.ext; exact Array.ext' h
theorem bytesLess_lt : ∀ (x y : List UInt8), Op.bytesLess x y = decide (x < y)
  | [], [] => by simp [Op.bytesLess]
  | a :: x, [] => by simp [Op.bytesLess]
  | [], b :: y => by simp [Op.bytesLess]
  | a :: x, b :: y => by
    rw [Op.bytesLess, bytesLess_lt x y]
    by_cases h1 : a < b
    · simp [h1, List.cons_lt_cons_iff]
    · by_cases h2 : a = b
      · subst h2; simp [List.cons_lt_cons_iff]
      · simp [h1, h2, List.cons_lt_cons_iff]
theorem sLt_nm (a b : ByteArray) : sLt a b = decide (nm a < nm b) := by
  unfold sLt; rw [nm_list, nm_list, bytesLess_lt]
theorem sEq_nm (a b : ByteArray) : sEq a b = decide (a = b) := by
  unfold sEq; rw [nm_list, nm_list]
  by_cases h : a = b
  · subst h; simp
  · have : nm a ≠ nm b := fun h' => h (nm_inj h')
    simp [h, this]
theorem nlt_trans {a b c : List UInt8} (h1 : a < b) (h2 : b < c) : a < c := List.lt_trans h1 h2
theorem nlt_irrefl (a : List UInt8) : ¬ a < a := List.lt_irrefl a
theorem nlt_tri (a b : ByteArray) : nm a < nm b ∨ a = b ∨ nm b < nm a := by
  by_cases h1 : nm a < nm b
  · exact .inl h1
  · by_cases h2 : nm b < nm a
    · exact .inr (.inr h2)
    · exact .inr (.inl (nm_inj (List.le_antisymm (List.not_lt.1 h2) (List.not_lt.1 h1))))
def Inc (l : List ByteArray) : Prop := l.Pairwise fun a b => nm a < nm b
theorem mem_put (s x : ByteArray) : ∀ l : List ByteArray, x ∈ putS l s ↔ x = s ∨ x ∈ l
  | [] => by simp [putS]
  | y :: r => by
    rw [putS]
    split
    · rw [List.mem_cons, mem_put s x r, List.mem_cons]
      constructor
      · rintro (h | h | h) <;> simp [h]
      · rintro (h | h | h) <;> simp [h]
    · split
      · rename_i h
        rw [sEq_nm] at h
        have : y = s := by simpa using h
        subst this
        simp
      · simp [or_comm, or_left_comm]
theorem inc_put (s : ByteArray) : ∀ {l : List ByteArray}, Inc l → Inc (putS l s)
  | [], _ => by simp [putS, Inc]
  | y :: r, h => by
    have h0 := List.pairwise_cons.1 h
    rw [putS]
    split
    · rename_i h1
      rw [sLt_nm] at h1
      refine List.pairwise_cons.2 ⟨fun x hx => ?_, inc_put s h0.2⟩
      rcases (mem_put s x r).1 hx with rfl | hx
      · simpa using h1
      · exact h0.1 x hx
    · rename_i h1
      rw [sLt_nm] at h1
      split
      · exact h
      · rename_i h2
        rw [sEq_nm] at h2
        have h3 : nm s < nm y := by
          rcases nlt_tri s y with h | h | h
          · exact h
          · exact absurd (by simpa using h.symm) h2
          · exact absurd (by simpa using h) h1
        refine List.pairwise_cons.2 ⟨fun x hx => ?_, h⟩
        rcases List.mem_cons.1 hx with rfl | hx
        · exact h3
        · exact nlt_trans h3 (h0.1 x hx)
theorem len_put (s : ByteArray) : ∀ l : List ByteArray, (putS l s).length ≤ l.length + 1
  | [] => by simp [putS]
  | y :: r => by
    rw [putS]
    have := len_put s r
    split
    · simp; exact this
    · split <;> simp
theorem uni_snoc (l : List ByteArray) (s : ByteArray) : uniS (l ++ [s]) = putS (uniS l) s := by simp [uniS, List.foldl_append]
theorem uni_facts (l : List ByteArray) : Inc (uniS l) ∧ (∀ x, x ∈ uniS l ↔ x ∈ l) ∧ (uniS l).length ≤ l.length := by
  have key : ∀ (l acc : List ByteArray), Inc acc → Inc (l.foldl putS acc) ∧ (∀ x, x ∈ l.foldl putS acc ↔ x ∈ acc ∨ x ∈ l) ∧ (l.foldl putS acc).length ≤ acc.length + l.length := by
    intro l
    induction l with
    | nil => intro acc h; exact ⟨h, fun x => by simp, by simp⟩
    | cons s l ih =>
      intro acc h
      obtain ⟨h1, h2, h3⟩ := ih (putS acc s) (inc_put s h)
      refine ⟨h1, fun x => ?_, ?_⟩
      · rw [List.foldl_cons, h2 x, mem_put, List.mem_cons]
        constructor
        · rintro ((h | h) | h) <;> simp [h]
        · rintro (h | h | h) <;> simp [h]
      · have := len_put s acc
        simp only [List.foldl_cons, List.length_cons]; omega
  have := key l [] (by simp [Inc])
  exact ⟨this.1, fun x => by simpa [uniS] using this.2.1 x, by simpa [uniS] using this.2.2⟩
theorem putS_end {s : ByteArray} : ∀ {l : List ByteArray}, (∀ x ∈ l, nm x < nm s) → putS l s = l ++ [s]
  | [], _ => rfl
  | y :: r, h => by
    rw [putS, if_pos (by rw [sLt_nm]; simpa using h y (by simp)), putS_end fun x hx => h x (by simp [hx])]; rfl
theorem fold_inc : ∀ (l acc : List ByteArray), Inc (acc ++ l) → l.foldl putS acc = acc ++ l
  | [], acc, _ => by simp
  | s :: l, acc, h => by
    have h1 : ∀ x ∈ acc, nm x < nm s := fun x hx => (List.pairwise_append.1 h).2.2 x hx s (by simp)
    rw [List.foldl_cons, putS_end h1, fold_inc l (acc ++ [s]) (by simpa using h)]; simp
theorem inc_eq : ∀ {l r : List ByteArray}, Inc l → Inc r → (∀ x, x ∈ l ↔ x ∈ r) → l = r
  | [], [], _, _, _ => rfl
  | [], y :: r, _, _, h => by have := (h y).2 (by simp); simp at this
  | x :: l, [], _, _, h => by have := (h x).1 (by simp); simp at this
  | x :: l, y :: r, h1, h2, h => by
    have a1 := List.pairwise_cons.1 h1
    have a2 := List.pairwise_cons.1 h2
    have hxy : x = y := by
      have m1 := (h x).1 (by simp)
      have m2 := (h y).2 (by simp)
      rcases List.mem_cons.1 m1 with e | m1
      · exact e
      · rcases List.mem_cons.1 m2 with e | m2
        · exact e.symm
        · exact absurd (nlt_trans (a1.1 y m2) (a2.1 x m1)) (nlt_irrefl _)
    subst hxy
    congr 1
    refine inc_eq a1.2 a2.2 fun z => ?_
    have hz := h z
    simp only [List.mem_cons] at hz
    constructor
    · intro hm
      rcases hz.1 (.inr hm) with e | hm'
      · subst e; exact absurd (a1.1 z hm) (nlt_irrefl _)
      · exact hm'
    · intro hm
      rcases hz.2 (.inr hm) with e | hm'
      · subst e; exact absurd (a2.1 z hm) (nlt_irrefl _)
      · exact hm'
end Go.Proofs.YtmkoiandfojgmaaGreat
namespace Go.Proofs.YtmkoiandfojgmaaGreat
open Go
theorem insert_at : ∀ (l : List ByteArray) (s : ByteArray), ∃ i, i ≤ l.length ∧ (∀ j x, j < i → nth l j = some x → sLt x s = true) ∧ (∀ x, nth l i = some x → sLt x s = false) ∧
    putS l s = l.take i ++ [s] ++ l.drop (match nth l i with | some x => if sEq x s = true then i + 1 else i | none => i)
  | [], s => ⟨0, Nat.le_refl _, fun j x h => by omega, fun x h => by simp [nth] at h, rfl⟩
  | y :: r, s => by
    cases h1 : sLt y s with
    | true =>
      obtain ⟨i, a, b, c, d⟩ := insert_at r s
      refine ⟨i + 1, by simp; exact a, fun j x hj hx => ?_, c, ?_⟩
      · cases j with
        | zero => simp only [nth, Option.some.injEq] at hx; subst hx; exact h1
        | succ j => exact b j x (by omega) hx
      · rw [putS, if_pos h1, d]
        simp only [nth]
        cases nth r i with
        | none => simp
        | some x => by_cases h : sEq x s = true <;> simp [h]
    | false =>
      refine ⟨0, Nat.zero_le _, fun j x hj => by omega, fun x hx => ?_, ?_⟩
      · simp only [nth, Option.some.injEq] at hx; subst hx; exact h1
      · rw [putS, if_neg (by simp [h1])]
        simp only [nth]
        by_cases h : sEq y s = true
        · have : y = s := by rw [sEq_nm] at h; simpa using h
          rw [if_pos h, if_pos h, this]; simp
        · rw [if_neg h, if_neg h]; simp
theorem slice_strs (l : List ByteArray) (q : Nat) (h : q ≤ l.length) : sliceA Tryz.prog 44 (.frz (l.map strC) .unk) (some (.prim (.int .i64 (q : Int)))) none none = some (.frz ((l.drop q).map strC) .unk) := by
  have hz : (elemOf Tryz.prog 44).bind (szOf Tryz.prog) = some 1 := by kernel_rfl
  have hr := rowsOk_strs l
  have htl : (l.map strC).take l.length = l.map strC := List.take_of_length_le (by simp)
  simp [sliceA, hz, hr, bound, intN, h, htl]
section
variable [Depth] (S : List Ent) (tk : List Nat) (k : Nat)
set_option maxRecDepth 100000 in
theorem R04_put (l : List ByteArray) (s : ByteArray) (c : Cap) (hl : l.length ≤ 100000) : cL Tryz.prog 56 [.frz (l.map strC) c, .str s] S tk k = some (strsA (putS l s), S, tk, k) := by
  obtain ⟨i, hj0, h2, h3, h4⟩ := insert_at l s
  rw [h4]
  refine opP Tryz.func56 Tryz.ntmps56 ?_
  simp (maxSteps := 10^6) +contextual (disch := try exact dqd) only [ev0, simprocAttr, AV.int, AV.bool, AV.str, Tryz.results56]
  refine loop1 (P := Tryz.prog) (fun x st => st.T.length = 52 ∧ (x.1 ≤ i) ∧ (okCap st.tk x.2.1 1 = true) ∧ (x.2.2 = (l.take x.1).map strC) ∧ getT st.T 0 = .frz (l.map strC) .unk ∧ getT st.T 1 = .str s ∧ getT st.T 5 = .frz x.2.2 x.2.1 ∧ getT st.T 6 = .int (x.1 : Nat) ∧ st.S = []) (fun x => i - x.1) (fun x => strsA (l.take i ++ [s] ++ l.drop (match nth l i with | some x => if sEq x s = true then i + 1 else i | none => i))) (0, Cap.nilc, ([] : List (List AV))) ?_ ?_
  case refine_2 => exact ⟨rfl, Nat.zero_le _, rfl, by simp, rfl, rfl, rfl, rfl, rfl⟩
  rintro ⟨j, c, L⟩ ⟨T, S', tk', n'⟩ ⟨hl, hj, hok, hL, e0, e1, e5, e6, eS⟩ IH
  simp only at hj hok hL e0 e1 e5 e6 eS
  subst eS
  obtain ⟨g, hg, hT⟩ := tab_of hl
  rw [hg] at e0 e1 e5 e6
  subst hT
  clear hg hl
  have hlm : (l.map strC).length = l.length := List.length_map ..
  have hr : rowsOk 1 L = true := by rw [hL]; exact rowsOk_strs _
  have hLl : L.length ≤ l.length := by rw [hL]; simp; omega
  have hjw := wrap_add (i := j) (by omega)
  by_cases hlt : j < i
  · have d1 : decide ((j : Int) < (l.length : Int)) = true := by simp; omega
    obtain ⟨x, hx⟩ := nth_some (show j < l.length by omega)
    have hx' := nth_strs hx
    have d2 := h2 j x hlt hx
    have hap := apB_one (y := strC x) hok hr rfl (by omega)
    have hL2 : L ++ [strC x] = (l.take (j + 1)).map strC := by rw [take_mapS hx, hL]; simp
    simp only [strC] at hx' hap hL2
    simp (maxSteps := 10^6) +contextual (disch := try exact dqd) only [ev0, simprocAttr, AV.int, AV.bool, AV.str, Tryz.results56, e0, e1, e5, e6, d1, d2, hx', hap, hjw, hlm]
    exact IH ((j + 1, _, _)) _ (by first | omega | (simp only; omega)) ⟨rfl, hlt, okCap_new hok, hL2, rfl, rfl, rfl, rfl, rfl⟩
  have hje : j = i := by omega
  subst hje
  have hap := apB_one (y := strC s) hok hr rfl (by omega)
  have hr2 : rowsOk 1 (L ++ [strC s]) = true := by rw [hL, show [strC s] = [s].map strC from rfl, ← List.map_append]; exact rowsOk_strs _
  have hr3 := rowsOk_strs l
  have hap2 : ∀ q, apB (some 1) (L ++ [strC s]) (capNew tk' c 1) ((l.drop q).map strC) (capPut tk' c) = some (.frz ((L ++ [strC s]) ++ (l.drop q).map strC) (capNew (capPut tk' c) (capNew tk' c 1) 1), capPut (capPut tk' c) (capNew tk' c 1)) := fun q =>
    apB_all (okCap_new hok) hr2 (rowsOk_strs _) (by simp; omega)
  simp only [strC] at hap hap2
  have fin : ∀ q, (L ++ [[AV.prim (.string s)]]) ++ (l.drop q).map strC = (l.take j ++ [s] ++ l.drop q).map strC := fun q => by rw [hL]; simp [strC]
  by_cases hjl : j < l.length
  case neg =>
    have d1 : decide ((j : Int) < (l.length : Int)) = false := by simp; omega
    have hjn : nth l j = none := by rw [nth_get]; exact List.getElem?_eq_none (by omega)
    have hsl := slice_strs l j hj0
    have h2' := hap2 j
    simp (maxSteps := 10^6) +contextual (disch := try exact dqd) only [ev0, simprocAttr, AV.int, AV.bool, AV.str, Tryz.results56, e0, e1, e5, e6, d1, hap, hlm, hsl, h2']
    rw [fin, hjn]; rfl
  have d1 : decide ((j : Int) < (l.length : Int)) = true := by simp; omega
  obtain ⟨x, hx⟩ := nth_some hjl
  have hx' := nth_strs hx
  have d2 := h3 x hx
  simp only [strC] at hx'
  cases d3 : sEq x s with
  | true =>
    have hsl := slice_strs l (j + 1) hjl
    have h2' := hap2 (j + 1)
    simp (maxSteps := 10^6) +contextual (disch := try exact dqd) only [ev0, simprocAttr, AV.int, AV.bool, AV.str, Tryz.results56, e0, e1, e5, e6, d1, d2, d3, hx', hjw, hap, hlm, hsl, h2']
    rw [fin, hx]; simp only [d3, if_true]; rfl
  | false =>
    have hsl := slice_strs l j hj0
    have h2' := hap2 j
    simp (maxSteps := 10^6) +contextual (disch := try exact dqd) only [ev0, simprocAttr, AV.int, AV.bool, AV.str, Tryz.results56, e0, e1, e5, e6, d1, d2, d3, hx', hjw, hap, hlm, hsl, h2']
    rw [fin, hx]; simp only [d3, Bool.false_eq_true, if_false]; rfl
set_option maxRecDepth 100000 in
theorem R04_Union (a b : List ByteArray) (c c2 : Cap) (hl : a.length + b.length ≤ 90000) : cL Tryz.prog 37 [.frz (a.map strC) c, .frz (b.map strC) c2] S tk k = some (strsA (uniS (a ++ b)), S, tk, k) := by
  generalize hR : uniS (a ++ b) = R
  have hR0 : R = b.foldl putS ((a.drop 0).foldl putS []) := by rw [← hR]; unfold uniS; rw [List.foldl_append]; rfl
  have hla : (a.map strC).length = a.length := List.length_map ..
  have hlb : (b.map strC).length = b.length := List.length_map ..
  refine opP Tryz.func37 Tryz.ntmps37 ?_
  simp (maxSteps := 10^6) +contextual (disch := try exact dqd) only [ev0, simprocAttr, AV.int, AV.bool, AV.str, Tryz.results37, hla, hlb]
  refine loop1 (P := Tryz.prog) (fun x st => st.T.length = 33 ∧ (x.1 ≤ a.length) ∧ (x.2.1.length ≤ x.1) ∧ (R = b.foldl putS ((a.drop x.1).foldl putS x.2.1)) ∧ getT st.T 0 = .frz (a.map strC) .unk ∧ getT st.T 1 = .frz (b.map strC) .unk ∧ getT st.T 5 = .frz (x.2.1.map strC) x.2.2 ∧ getT st.T 9 = .int (a.length : Nat) ∧ getT st.T 10 = .int (x.1 : Nat) ∧ st.S = []) (fun x => a.length - x.1) (fun x => strsA R) (0, ([] : List ByteArray), Cap.nilc) ?_ ?_
  case refine_2 => exact ⟨rfl, Nat.zero_le _, Nat.zero_le _, hR0, rfl, rfl, rfl, rfl, rfl, rfl⟩
  rintro ⟨i, acc, c3⟩ ⟨T, S', tk', n'⟩ ⟨hl, hi, hac, hA, e0, e1, e5, e9, e10, eS⟩ IH
  simp only at hi hac hA e0 e1 e5 e9 e10 eS
  subst eS
  obtain ⟨g, hg, hT⟩ := tab_of hl
  rw [hg] at e0 e1 e5 e9 e10
  subst hT
  clear hg hl
  by_cases la : i < a.length
  · have d1 : decide ((i : Int) < (a.length : Int)) = true := by simpa using la
    obtain ⟨x, hx⟩ := nth_some la
    have hx' := nth_strs hx
    have hw := wrap_add (i := i) (by omega)
    have hP := fun S tk k => R04_put S tk k acc x c3 (by omega)
    rw [nth_drop hx, List.foldl_cons] at hA
    have hlp := len_put x acc
    simp only [strsA] at hP
    simp only [strC] at hx'
    simp (maxSteps := 10^6) +contextual (disch := try exact dqd) only [ev0, simprocAttr, AV.int, AV.bool, AV.str, Tryz.results37, e0, e1, e5, e9, e10, d1, hx', hw, hP]
    exact IH ((i + 1, _, _)) _ (by first | omega | (simp only; omega)) ⟨rfl, la, by dsimp only; omega, hA, rfl, rfl, rfl, rfl, rfl, rfl⟩
  · have d1 : decide ((i : Int) < (a.length : Int)) = false := by simpa using la
    rw [List.drop_eq_nil_of_le (by omega)] at hA
    simp (maxSteps := 10^6) +contextual (disch := try exact dqd) only [ev0, simprocAttr, AV.int, AV.bool, AV.str, Tryz.results37, e0, e1, e5, e9, e10, d1, hlb]
    have hA0 : R = (b.drop 0).foldl putS acc := hA
    have hac0 : acc.length ≤ a.length := by omega
    clear hA e0 e1 e5 e9 e10 IH d1 la hi hac
    refine loop1 (P := Tryz.prog) (fun x st => st.T.length = 33 ∧ (x.1 ≤ b.length) ∧ (x.2.1.length ≤ a.length + x.1) ∧ (R = (b.drop x.1).foldl putS x.2.1) ∧ getT st.T 1 = .frz (b.map strC) .unk ∧ getT st.T 5 = .frz (x.2.1.map strC) x.2.2 ∧ getT st.T 21 = .int (b.length : Nat) ∧ getT st.T 22 = .int (x.1 : Nat) ∧ st.S = []) (fun x => b.length - x.1) (fun x => strsA R) (0, acc, c3) ?_ ?_
    case refine_2 => exact ⟨rfl, Nat.zero_le _, by omega, hA0, rfl, rfl, rfl, rfl, rfl⟩
    rintro ⟨i, acc2, c4⟩ ⟨T, S', tk', n'⟩ ⟨hl, hi, hac, hA, e1, e5, e21, e22, eS⟩ IH
    simp only at hi hac hA e1 e5 e21 e22 eS
    subst eS
    obtain ⟨g, hg, hT⟩ := tab_of hl
    rw [hg] at e1 e5 e21 e22
    subst hT
    clear hg hl
    by_cases la : i < b.length
    · have d1 : decide ((i : Int) < (b.length : Int)) = true := by simpa using la
      obtain ⟨x, hx⟩ := nth_some la
      have hx' := nth_strs hx
      have hw := wrap_add (i := i) (by omega)
      have hP := fun S tk k => R04_put S tk k acc2 x c4 (by omega)
      rw [nth_drop hx, List.foldl_cons] at hA
      have hlp := len_put x acc2
      simp only [strsA] at hP
      simp only [strC] at hx'
      simp (maxSteps := 10^6) +contextual (disch := try exact dqd) only [ev0, simprocAttr, AV.int, AV.bool, AV.str, Tryz.results37, e1, e5, e21, e22, d1, hx', hw, hP]
      exact IH ((i + 1, _, _)) _ (by first | omega | (simp only; omega)) ⟨rfl, la, by dsimp only; omega, hA, rfl, rfl, rfl, rfl, rfl⟩
    · have d1 : decide ((i : Int) < (b.length : Int)) = false := by simpa using la
      rw [List.drop_eq_nil_of_le (by omega)] at hA
      simp (maxSteps := 10^6) +contextual (disch := try exact dqd) only [ev0, simprocAttr, AV.int, AV.bool, AV.str, Tryz.results37, e1, e5, e21, e22, d1]
      rw [hA]; rfl
end
end Go.Proofs.YtmkoiandfojgmaaGreat
namespace Go.Proofs.YtmkoiandfojgmaaGreat
open Go
structure RT where
  cells : List ByteArray
  gone : List ByteArray
  bad : Bool
def stC (c1 c2 : Cap) (s : RT) : List AV := [.frz (s.cells.map strC) c1, .frz (s.gone.map strC) c2, .bool s.bad]
def bindR (s : RT) (n : ByteArray) (c : Bool) : RT := ⟨if c = true then delB s.cells n ++ [n] else delB s.cells n, delB s.gone n, s.bad⟩
def useR (s : RT) (n : ByteArray) (c : Bool) : RT := if memB s.cells n = false then s else ⟨s.cells, if c = true then uniS (s.gone ++ [n]) else s.gone, s.bad || memB s.gone n⟩
def afterR (s t : RT) (n : ByteArray) : RT := ⟨s.cells, if memB s.gone n = true then uniS (delB t.gone n ++ [n]) else delB t.gone n, t.bad⟩
def joinR (a b : RT) : RT := ⟨a.cells, uniS (a.gone ++ b.gone), a.bad || b.bad⟩
theorem delB_len (l : List ByteArray) (s : ByteArray) : (delB l s).length ≤ l.length := List.length_filter_le ..
theorem findF_lt (l : List ByteArray) (s : ByteArray) : decide (findF 0 l s < 0) = !memB l s := by
  rw [← findF_nn l 0 s]
  by_cases h : findF 0 l s < 0
  · rw [decide_eq_true h, decide_eq_false (by omega)]; rfl
  · rw [decide_eq_false h, decide_eq_true (by omega)]; rfl
theorem okCap_fr {tk : List Nat} {e : Nat} : okCap (tk ++ [e]) (.tok tk.length e 1) 1 = true := by
  simp only [okCap, beq_self_eq_true, Bool.true_and, beq_iff_eq]
  rw [nth_get, List.getElem?_append_right (Nat.le_refl _)]; simp
theorem okCap_fr2 {tk : List Nat} {e e' : Nat} : okCap (tk ++ [e] ++ [e']) (.tok tk.length e 1) 1 = true := by
  simp only [okCap, beq_self_eq_true, Bool.true_and, beq_iff_eq]
  rw [nth_get, List.getElem?_append_left (by simp), List.getElem?_append_right (Nat.le_refl _)]; simp
section
variable [Depth] (S : List Ent) (tk : List Nat) (k : Nat)
theorem R28_bind (s : RT) (n : ByteArray) (c : Bool) (c1 c2 : Cap) (h1 : s.cells.length ≤ 100000) (h2 : s.gone.length ≤ 100000) : cL Tryz.prog 46 [.agg (stC c1 c2 s), .str n, .bool c] S tk k = some (.agg (stC .unk .unk (bindR s n c)), S, tk, k) := by
  obtain ⟨cs, gs, bad⟩ := s
  simp only at h1 h2
  have hw1 := fun S tk k => R28_without S tk k cs n .unk (by omega)
  have hw2 := fun S tk k => R28_without S tk k gs n .unk (by omega)
  have hdl := delB_len cs n
  have hr := rowsOk_strs (delB cs n)
  have hap := apB_one (y := strC n) (c := .tok 0 ((delB cs n).length - 1) 1) (tk := [(delB cs n).length - 1, (delB gs n).length - 1]) (okCap_fr2 (tk := [])) hr rfl (by simp; omega)
  have hf : (delB cs n).map strC ++ [strC n] = (delB cs n ++ [n]).map strC := by simp
  simp only [strC] at hap
  cases c
  · refine opP Tryz.func46 Tryz.ntmps46 ?_
    simp (maxSteps := 10^6) +contextual (disch := try exact dqd) only [ev0, simprocAttr, AV.int, AV.bool, AV.str, Tryz.results46, stC, bindR, hw1, hw2]
  · refine opP Tryz.func46 Tryz.ntmps46 ?_
    simp (maxSteps := 10^6) +contextual (disch := try exact dqd) only [ev0, simprocAttr, AV.int, AV.bool, AV.str, Tryz.results46, stC, bindR, hw1, hw2, hap]
    try simp [strC]
theorem R28_use (s : RT) (n : ByteArray) (c : Bool) (c1 c2 : Cap) (h1 : s.cells.length ≤ 100000) (h2 : s.gone.length ≤ 80000) : cL Tryz.prog 69 [.agg (stC c1 c2 s), .str n, .bool c] S tk k = some (.agg (stC .unk .unk (useR s n c)), S, tk, k) := by
  obtain ⟨cs, gs, bad⟩ := s
  simp only at h1 h2
  have f1 := R04_FindC cs .unk n (by omega)
  have f2 := R04_FindC gs .unk n (by omega)
  have hlt := findF_lt cs n
  have hnn := findF_nn gs 0 n
  have hu := fun c2 S tk k => R04_Union S tk k gs [n] .unk c2 (by simp; omega)
  simp only [List.map_cons, List.map_nil, strC, strsA] at hu
  unfold useR
  simp only
  cases q1 : memB cs n
  · rw [q1] at hlt
    refine opP Tryz.func69 Tryz.ntmps69 ?_
    simp (maxSteps := 10^6) +contextual (disch := try exact dqd) only [ev0, simprocAttr, AV.int, AV.bool, AV.str, Tryz.results69, stC, f1, hlt]
  · rw [q1] at hlt
    cases q2 : memB gs n <;> cases c <;> rw [q2] at hnn
    all_goals
      refine opP Tryz.func69 Tryz.ntmps69 ?_
      simp (maxSteps := 10^6) +contextual (disch := try exact dqd) only [ev0, simprocAttr, AV.int, AV.bool, AV.str, Tryz.results69, stC, f1, f2, hlt, hnn, hu]
      try simp
theorem R28_after (s t : RT) (n : ByteArray) (c1 c2 c3 c4 : Cap) (h1 : s.gone.length ≤ 80000) (h2 : t.gone.length ≤ 80000) : cL Tryz.prog 89 [.agg (stC c1 c2 s), .agg (stC c3 c4 t), .str n] S tk k = some (.agg (stC .unk .unk (afterR s t n)), S, tk, k) := by
  obtain ⟨cs, gs, bad⟩ := s
  obtain ⟨ct, gt, bt⟩ := t
  simp only at h1 h2
  have f2 := R04_FindC gs .unk n (by omega)
  have hnn := findF_nn gs 0 n
  have hw := fun S tk k => R28_without S tk k gt n .unk (by omega)
  have hdl := delB_len gt n
  have hu := fun c c2 S tk k => R04_Union S tk k (delB gt n) [n] c c2 (by simp; omega)
  simp only [List.map_cons, List.map_nil, strC, strsA] at hu
  unfold afterR
  simp only
  cases q2 : memB gs n <;> rw [q2] at hnn
  all_goals
    refine opP Tryz.func89 Tryz.ntmps89 ?_
    simp (maxSteps := 10^6) +contextual (disch := try exact dqd) only [ev0, simprocAttr, AV.int, AV.bool, AV.str, Tryz.results89, stC, f2, hnn, hw, hu]
    try simp
theorem R28_join (a b : RT) (c1 c2 c3 c4 : Cap) (h1 : a.gone.length ≤ 40000) (h2 : b.gone.length ≤ 40000) : cL Tryz.prog 72 [.agg (stC c1 c2 a), .agg (stC c3 c4 b)] S tk k = some (.agg (stC .unk .unk (joinR a b)), S, tk, k) := by
  obtain ⟨cs, gs, bad⟩ := a
  obtain ⟨ct, gt, bt⟩ := b
  simp only at h1 h2
  have hu := fun S tk k => R04_Union S tk k gs gt .unk .unk (by omega)
  simp only [strsA] at hu
  unfold joinR
  simp only
  cases bad
  all_goals
    refine opP Tryz.func72 Tryz.ntmps72 ?_
    simp (maxSteps := 10^6) +contextual (disch := try exact dqd) only [ev0, simprocAttr, AV.int, AV.bool, AV.str, Tryz.results72, stC, hu]
    try simp
end
end Go.Proofs.YtmkoiandfojgmaaGreat
