/-
  Texts laid together: UR6.
-/
import Derived.Test.YtmkoiandfojgmaaGreatZU19
/-
  Names that are consumed, by the reference.
-/

namespace Go.Proofs.YtmkoiandfojgmaaGreat
open Go
theorem usedX_len (e : XT) (bs : List ByteArray) : (usedX e bs).length ≤ nodesX e := used_len e bs
theorem usedK_len (o : Int) (s : ByteArray) (ps : List (ByteArray × TT)) (ks : List XT) (i : Nat) (bs : List ByteArray) : (usedK o s ps i ks bs).length ≤ nodesXs ks := used_lenK o s ps ks i bs
theorem usedA_len (al : List LT) (bs : List ByteArray) : (usedA al bs).length ≤ nodesLs al := used_lenA al bs
section
variable [Depth]

def RUsC (e : XT) : Prop := goodX e → ∀ (bs : List ByteArray) (c : Cap), bs.length + szX e ≤ 1048576 → nodesX e ≤ 1048576 → ∀ S tk k, cL Tryz.prog 39 [.agg (exprC e), .frz (bs.map strC) c] S tk k = some (.frz ((usedX e bs).map strC) .unk, S, tk, k)
set_option maxRecDepth 100000 in
set_option maxHeartbeats 4000000 in
theorem RUsC_step (o : Int) (s : ByteArray) (n : Int) (ks : List XT) (ps : List (ByteArray × TT)) (al : List LT) (ts : List TT) (ihk : ∀ q ∈ ks, RUsC q) (iha : ∀ c ns b, LT.mk c ns b ∈ al → RUsC b) : RUsC (.node o s n ks ps al ts) := by
  intro hgood bs c hsz hnd S tk k
  have hgood0 := hgood
  simp only [goodX] at hgood
  obtain ⟨hG, hGk, hGa⟩ := hgood
  simp only [szX] at hsz
  simp only [nodesX] at hnd
  have hks := szXs_len ks
  have hal := szLs_len al
  have hpl : (ps.map paramC).length = ps.length := List.length_map ..
  have f1 := R04_FindC bs .unk s (by omega)
  have hlt := findF_lt bs s
  obtain ⟨R, hR⟩ : ∃ R, R = usedX (.node o s n ks ps al ts) bs := ⟨_, rfl⟩
  rw [← hR]
  simp only [usedX] at hR
  by_cases hear : o = 23 ∧ ∃ q, nth ks 0 = some q ∧ q.op = 3
  · obtain ⟨h23, q, hq, hqo⟩ := hear
    have hl1 := hG.get h23
    have hq' := nth_exprs hq
    have hks1 : ks = [q] := by
      match ks, hl1 with
      | [x], _ => simp only [nth, Option.some.injEq] at hq; rw [hq]
    have ha0 := hG.alt (by omega)
    have hR0 : R = [] := by rw [hR, hks1, ha0]; simp [usedK, usedA, h23, hqo]
    have hlk2 : ((ks.length : Int) == 1) = true := by rw [hl1]; rfl
    have dlt : decide ((0 : Int) < (ks.length : Int)) = true := by rw [hl1]; rfl
    have i0 : intN (.prim (.int .i64 0)) = some 0 := rfl
    rw [hR0]
    clear hR hR0 hks1
    subst h23
    obtain ⟨qo, qs, qn, qk, qp, qa, qt⟩ := q
    simp only [XT.op] at hqo
    subst hqo
    simp only [exprC] at hq'
    refine opP Tryz.func39 Tryz.ntmps39 ?_
    simp (maxSteps := 10^6) +contextual (disch := try exact dqd) only [ev0, simprocAttr, AV.int, AV.bool, AV.str, Tryz.results39, exprC, exprsC_len, hlk2, hq', i0, dlt, List.map_nil]
  have hno : ∀ q ∈ ks, ¬ (o = 23 ∧ q.op = 3) := fun q hq he => hear ⟨he.1, by
    have hl1 := hG.get he.1
    match ks, hl1 with
    | [x], _ => exact ⟨x, rfl, by rw [← List.mem_singleton.1 hq]; exact he.2⟩⟩
  obtain ⟨DC, hDC⟩ : ∃ DC : List AV, DC = [.prim (.int .i64 o), .prim (.string s), .prim (.int .i64 n), .frz (exprsC ks) .unk, .frz (ps.map paramC) .unk, .frz (altsC al) .unk, .frz (typesC ts) .unk] := ⟨_, rfl⟩
  have loop3 : ∀ (T : List AV) (tk2 : List Nat) (k2 : Nat) (c' : Cap), T.length = 101 → getT T 1 = .frz (bs.map strC) .unk → getT T 5 = .frz ((usedK o s ps 0 ks bs).map strC) c' → getT T 82 = .frz (altsC al) .unk → getT T 83 = .int (al.length : Nat) → getT T 84 = .int (0 : Nat) → okCap tk2 c' 1 = true → R = usedK o s ps 0 ks bs ++ usedA al bs →
      Gd finE (IsF R) (KA Tryz.prog Tryz.f39 21 [] ⟨T, [⟨0, DC⟩], tk2, k2⟩) := by
    intro T tk2 k2 c' hT h1 h5 h49 h50 h51 hok hA0
    refine KA_of rfl (t := .mk) ?_
    refine loopG (P := Tryz.prog) (fun x st => st.T.length = 101 ∧ (x.1 ≤ al.length) ∧ (okCap st.tk x.2.1 1 = true) ∧ (x.2.2 = (usedK o s ps 0 ks bs ++ usedA (al.take x.1) bs).map strC) ∧ getT st.T 1 = .frz (bs.map strC) .unk ∧ getT st.T 5 = .frz x.2.2 x.2.1 ∧ getT st.T 82 = .frz (altsC al) .unk ∧ getT st.T 83 = .int (al.length : Nat) ∧ getT st.T 84 = .int (x.1 : Nat) ∧ st.S = [⟨0, DC⟩]) (fun x => al.length - x.1) ((0 : Nat), c', (usedK o s ps 0 ks bs).map strC) ?_ ?_
    case refine_2 => exact ⟨(by first | rfl | assumption), Nat.zero_le _, hok, by simp [usedA], (by first | rfl | assumption), (by first | rfl | assumption), (by first | rfl | assumption), (by first | rfl | assumption), (by first | rfl | assumption), (by first | rfl | assumption)⟩
    rintro ⟨j, cc, L⟩ ⟨T, S', tk', n'⟩ ⟨hl, hj, hok2, hL, e1, e5, e82, e83, e84, eS⟩ IH
    simp only at hj hok2 hL e1 e5 e82 e83 e84 eS
    subst eS
    obtain ⟨g, hg, hT⟩ := tab_of hl
    rw [hg] at e1 e5 e82 e83 e84
    subst hT
    clear hg hl
    by_cases hlt : j < al.length
    · have d1 : decide ((j : Int) < (al.length : Int)) = true := by simpa using hlt
      obtain ⟨q, hq⟩ := nth_some hlt
      have hq' := nth_alts hq
      have hqm := nth_memU hq
      have hszq := szLs_mem hqm
      have hndq := nodesLs_mem hqm
      have hgq := goodLs_mem hGa hqm
      have hw := wrap_add (i := j) (by omega)
      obtain ⟨qc, qns, qb⟩ := q
      simp only [szL] at hszq
      simp only [LT.body] at hndq hgq
      have hrs := rowsOk_strs bs
      have hrn := rowsOk_strs qns
      have hap0 : ∀ tk, apB (some 1) [] .tight (bs.map strC) tk = some (.frz (bs.map strC) (capNew tk .tight 1), capPut tk .tight) := fun tk => apB_all (es := []) rfl rfl hrs (by simp; omega)
      have hap1 : ∀ tk, apB (some 1) (bs.map strC) (capNew tk .tight 1) (qns.map strC) (capPut tk .tight) = _ := fun tk => apB_all (okCap_new (c := .tight) (tk := tk) rfl) hrs hrn (by simp; omega)
      have hok3 := okCap_more hok2
      have hih := fun c => iha qc qns qb hqm hgq (bs ++ qns) c (by simp; omega) (by omega)
      have htk := usedA_take bs hq
      have hrL : rowsOk 1 L = true := by rw [hL]; exact rowsOk_strs _
      have hru := rowsOk_strs (usedX qb (bs ++ qns))
      have hul := usedX_len qb (bs ++ qns)
      have hL2 : L ++ (usedX qb (bs ++ qns)).map strC = (usedK o s ps 0 ks bs ++ usedA (al.take (j + 1)) bs).map strC := by rw [htk, hL]; simp
      have hlen2 : L.length + ((usedX qb (bs ++ qns)).map strC).length ≤ 1048576 := by
        have e := congrArg List.length hL2
        simp only [List.length_append, List.length_map] at e ⊢
        rw [e]
        have := usedK_len o s ps ks 0 bs
        have h7 := usedA_len (al.take (j + 1)) bs
        have h8 := nodes_takeL al (j + 1)
        omega
      have hap2 := apB_all hok3 hrL hru hlen2
      simp only [capPut, capNew] at hap0 hap1 hap2
      subst hDC
      obtain ⟨qo, qs, qn, qk, qp, qa, qt⟩ := qb
      simp only [altC, exprC, strsA] at hq'
      simp only [exprC, List.map_append] at hih
      generalize (usedX (.node qo qs qn qk qp qa qt) (bs ++ qns)).map strC = UL at *
      simp (maxSteps := 10^6) +contextual (disch := try exact dqd) only [ev0, simprocAttr, AV.int, AV.bool, AV.str, Tryz.results39, gE, e1, e5, e82, e83, e84, d1, hq', hw, hap0, hap1, hap2, gO_refl, reA_nil, hih, xfs]
      exact IH ((j + 1, _, _)) _ (by first | omega | (simp only; omega)) ⟨rfl, hlt, okCap_new hok3, hL2, rfl, rfl, rfl, rfl, rfl, rfl⟩
    · have d1 : decide ((j : Int) < (al.length : Int)) = false := by simpa using hlt
      rw [List.take_of_length_le (by omega)] at hL
      subst hL
      simp (maxSteps := 10^6) +contextual (disch := try exact dqd) only [ev0, simprocAttr, AV.int, AV.bool, AV.str, Tryz.results39, gE, e1, e5, e82, e83, e84, d1]
      rw [IsF_of, hA0]
  have loop2 : ∀ (T : List AV) (tk2 : List Nat) (k2 : Nat) (c6 : Cap), T.length = 101 → getT T 1 = .frz (bs.map strC) .unk → getT T 2 = .ref 0 0 0 → getT T 5 = .frz [] .nilc → getT T 6 = .frz ((bs ++ (if o = 6 then ps.map (·.1) else [])).map strC) c6 → getT T 56 = .frz (exprsC ks) .unk → getT T 57 = .int (ks.length : Nat) → getT T 58 = .int (0 : Nat) → okCap tk2 c6 1 = true → R = usedK o s ps 0 ks bs ++ usedA al bs →
      Gd finE (IsF R) (KA Tryz.prog Tryz.f39 14 [] ⟨T, [⟨0, DC⟩], tk2, k2⟩) := by
    intro T tk2 k2 c6 hT h1 h2 h5 h6 h24 h25 h26 hok6 hA0
    refine KA_of rfl (t := .mk) ?_
    refine loopG (P := Tryz.prog) (fun x st => st.T.length = 101 ∧ (x.1 ≤ ks.length) ∧ (okCap st.tk x.2.1 1 = true) ∧ (okCap st.tk x.2.2.2.1 1 = true) ∧ (Diff x.2.1 x.2.2.2.1) ∧ (x.2.2.1 = (usedK o s ps 0 (ks.take x.1) bs).map strC) ∧ (x.2.2.2.2 = (innF o s ps x.1 bs).map strC) ∧ getT st.T 1 = .frz (bs.map strC) .unk ∧ getT st.T 2 = .ref 0 0 0 ∧ getT st.T 5 = .frz x.2.2.1 x.2.1 ∧ getT st.T 6 = .frz x.2.2.2.2 x.2.2.2.1 ∧ getT st.T 56 = .frz (exprsC ks) .unk ∧ getT st.T 57 = .int (ks.length : Nat) ∧ getT st.T 58 = .int (x.1 : Nat) ∧ st.S = [⟨0, DC⟩]) (fun x => ks.length - x.1) ((0 : Nat), Cap.nilc, ([] : List (List AV)), c6, (bs ++ (if o = 6 then ps.map (·.1) else [])).map strC) ?_ ?_
    case refine_2 => exact ⟨(by first | rfl | assumption), Nat.zero_le _, rfl, hok6, (fun id h => by cases h.1), by simp [usedK], by simp [innF], (by first | rfl | assumption), (by first | rfl | assumption), (by first | rfl | assumption), (by first | rfl | assumption), (by first | rfl | assumption), (by first | rfl | assumption), (by first | rfl | assumption), (by first | rfl | assumption)⟩
    rintro ⟨j, cc, L, ci, I⟩ ⟨T, S', tk', n'⟩ ⟨hl, hj, hok2, hok4, hdf, hL, hI, e1, e2, e5, e6, e56, e57, e58, eS⟩ IH
    simp only at hj hok2 hok4 hdf hL hI e1 e2 e5 e6 e56 e57 e58 eS
    subst eS
    obtain ⟨g, hg, hT⟩ := tab_of hl
    rw [hg] at e1 e2 e5 e6 e56 e57 e58
    subst hT
    clear hg hl
    by_cases hlt : j < ks.length
    · have d1 : decide ((j : Int) < (ks.length : Int)) = true := by simpa using hlt
      obtain ⟨q, hq⟩ := nth_some hlt
      have hq' := nth_exprs hq
      have hqm := nth_memU hq
      have hszq := szXs_mem hqm
      have hndq := nodesXs_mem hqm
      have hgq := goodXs_mem hGk hqm
      have hw := wrap_add (i := j) (by omega)
      have hul := under_len o s ps j bs
      have hih := fun c => ihk q hqm hgq (underF o s ps j bs) c (by omega) (by omega)
      have htk := usedK_take o s ps bs hq
      rw [if_neg (hno q hqm)] at htk
      have hrL : rowsOk 1 L = true := by rw [hL]; exact rowsOk_strs _
      have hru := rowsOk_strs (usedX q (underF o s ps j bs))
      have huq := usedX_len q (underF o s ps j bs)
      have hlen2 : L.length + ((usedX q (underF o s ps j bs)).map strC).length ≤ 1048576 := by
        rw [hL]
        simp only [List.length_map]
        have h7 := usedK_len o s ps (ks.take j) 0 bs
        have h8 := nodes_takeX ks (j + 1)
        rw [take_mapS hq, nodesXs_app] at h8
        simp only [nodesXs] at h8
        omega
      have hL2 : L ++ (usedX q (underF o s ps j bs)).map strC = (usedK o s ps 0 (ks.take (j + 1)) bs).map strC := by rw [htk, hL]; simp
      by_cases h71 : o = 7 ∧ j = 1
      · obtain ⟨h7, hj1⟩ := h71
        have d7 : (((j : Nat) : Int) == 1) = true := by rw [hj1]; rfl
        subst h7
        have hI0 : I = bs.map strC := by rw [hI, hj1]; simp [innF]
        have hun : underF 7 s ps j bs = bs ++ [s] := by rw [hj1]; simp [underF]
        have hrI : rowsOk 1 I = true := by rw [hI0]; exact rowsOk_strs _
        have hap1 := apB_one (y := strC s) hok4 hrI rfl (by rw [hI0]; simp; omega)
        have hI2 : I ++ [strC s] = (bs ++ [s]).map strC := by rw [hI0]; simp
        have hI3 : I ++ [strC s] = (innF 7 s ps (j + 1) bs).map strC := by rw [hI2, hj1]; simp [innF]
        have hok5 := okCap_keep hok2 hdf
        have hoki := okCap_new hok4
        have hdf2 := Diff_new hok2 hdf
        have hap2 := apB_all hok5 hrL hru hlen2
        rw [hun] at hih
        rw [← hI2] at hih
        subst hDC
        obtain ⟨qo, qs, qn, qk, qp, qa, qt⟩ := q
        simp only [exprC, strC] at hq' hih hap1 hI3
        rw [hun] at hap2 hL2
        generalize (usedX (.node qo qs qn qk qp qa qt) (bs ++ [s])).map strC = UL at *
        simp (maxSteps := 10^6) +contextual (disch := try exact dqd) only [ev0, simprocAttr, AV.int, AV.bool, AV.str, Tryz.results39, gE, e1, e2, e5, e6, e56, e57, e58, d1, d7, hq', hw, hih, gO_refl, hap1, hap2, xfs]
        exact IH ((j + 1, _, _, _, _)) _ (by first | omega | (simp only; omega)) ⟨rfl, hlt, okCap_new hok5, okCap_keep hoki hdf2.symm, (Diff_new hoki hdf2.symm).symm, hL2, hI3, rfl, rfl, rfl, rfl, rfl, rfl, rfl, rfl⟩
      · have hI2 : I = (underF o s ps j bs).map strC := by rw [hI, inn_under o s ps j bs hG hlt h71]
        have hI3 : I = (innF o s ps (j + 1) bs).map strC := by rw [hI, inn_next o s ps j bs h71]
        have hap2 := apB_all hok2 hrL hru hlen2
        rw [← hI2] at hih
        have hst := okCap_keep hok4 hdf.symm
        have hst2 := (Diff_new hok4 hdf.symm).symm
        subst hDC
        obtain ⟨qo, qs, qn, qk, qp, qa, qt⟩ := q
        simp only [exprC] at hq' hih
        generalize (usedX (.node qo qs qn qk qp qa qt) (underF o s ps j bs)).map strC = UL at *
        by_cases h7 : o = 7
        · have d7 : (((j : Nat) : Int) == 1) = false := by
            have : j ≠ 1 := fun h => h71 ⟨h7, h⟩
            simp; omega
          subst h7
          simp (maxSteps := 10^6) +contextual (disch := try exact dqd) only [ev0, simprocAttr, AV.int, AV.bool, AV.str, Tryz.results39, gE, e1, e2, e5, e6, e56, e57, e58, d1, d7, hq', hw, hih, gO_refl, hap2, xfs]
          exact IH ((j + 1, _, _, _, _)) _ (by first | omega | (simp only; omega)) ⟨rfl, hlt, okCap_new hok2, hst, hst2, hL2, hI3, rfl, rfl, rfl, rfl, rfl, rfl, rfl, rfl⟩
        · have d7 : (o == 7) = false := by simpa using h7
          simp (maxSteps := 10^6) +contextual (disch := try exact dqd) only [ev0, simprocAttr, AV.int, AV.bool, AV.str, Tryz.results39, gE, e1, e2, e5, e6, e56, e57, e58, d1, d7, hq', hw, hih, gO_refl, hap2, xfs]
          exact IH ((j + 1, _, _, _, _)) _ (by first | omega | (simp only; omega)) ⟨rfl, hlt, okCap_new hok2, hst, hst2, hL2, hI3, rfl, rfl, rfl, rfl, rfl, rfl, rfl, rfl⟩
    · have d1 : decide ((j : Int) < (ks.length : Int)) = false := by simpa using hlt
      rw [List.take_of_length_le (by omega)] at hL
      subst hL
      have hDC2 := hDC
      subst hDC
      simp (maxSteps := 10^6) +contextual (disch := try exact dqd) only [ev0, simprocAttr, AV.int, AV.bool, AV.str, Tryz.results39, gE, e1, e2, e5, e6, e56, e57, e58, d1, altsC_len]
      rw [← hDC2]
      exact of_KA rfl (loop3 _ _ _ _ rfl rfl rfl rfl rfl rfl hok2 hA0)


  have hrs := rowsOk_strs bs
  have hap0 : ∀ tk, apB (some 1) [] .tight (bs.map strC) tk = some (.frz (bs.map strC) (capNew tk .tight 1), capPut tk .tight) := fun tk => apB_all (es := []) rfl rfl hrs (by simp; omega)
  have key : ∃ r, (∀ S tk kk, cL Tryz.prog 39 [.agg (exprC (.node o s n ks ps al ts)), .frz (bs.map strC) c] S tk kk = some (r, S, tk, kk)) ∧ IsF R (r, [], [], 0) := by
    refine opE Tryz.func39 Tryz.ntmps39 (fun r h => by rw [h]; rfl) ?_
    by_cases h3 : o = 3
    · have hv := VarC_all (.node o s n ks ps al ts) hgood0 bs .unk (by simp only [szX]; omega) (by simp only [nodesX]; omega)
      have hk0 := hG.leaf h3
      have ha0 := hG.alt (by omega)
      have hvR : varX (.node o s n ks ps al ts) bs = R := by rw [hR]; subst h3 hk0 ha0; simp only [varX, varK, varA, usedK, usedA]
      rw [hvR] at hv
      have hDC2 := hDC
      subst h3
      simp only [exprC] at hv
      simp (maxSteps := 10^6) +contextual (disch := try exact dqd) only [ev0, simprocAttr, AV.int, AV.bool, AV.str, Tryz.results39, gE, exprC, hv]
      rfl
    have d3 : (o == 3) = false := by simpa using h3
    rw [if_neg (fun h => h3 h.1)] at hR
    by_cases h23 : o = 23
    · have hl1 := hG.get h23
      obtain ⟨q, hq⟩ := nth_some (show 0 < ks.length by omega)
      have hq' := nth_exprs hq
      have hqo : ¬ q.op = 3 := fun e => hno q (nth_memU hq) ⟨h23, e⟩
      have hlk : (((exprsC ks).length : Int) == 1) = true := by rw [exprsC_len, hl1]; rfl
      have i0 : intN (.prim (.int .i64 0)) = some 0 := rfl
      have hlk2 : ((ks.length : Int) == 1) = true := by rw [hl1]; rfl
      have dlt : decide ((0 : Int) < (ks.length : Int)) = true := by rw [hl1]; rfl
      subst h23
      obtain ⟨qo, qs, qn, qk, qp, qa, qt⟩ := q
      simp only [XT.op] at hqo
      have dq : (qo == 3) = false := by simpa using hqo
      simp only [exprC] at hq'
      simp (maxSteps := 10^6) +contextual (disch := try exact dqd) only [ev0, simprocAttr, AV.int, AV.bool, AV.str, Tryz.results39, gE, exprC, exprsC_len, hlk, hlk2, hq', i0, dq, dlt, hap0]
      rw [← hDC]
      exact of_KA rfl (loop2 _ _ _ _ rfl rfl rfl rfl (by rw [if_neg (by decide), List.append_nil]; rfl) rfl rfl rfl (okCap_new (c := .tight) (tk := []) rfl) hR)
    have d23 : (o == 23) = false := by simpa using h23
    by_cases h6 : o = 6
    case neg =>
      have d6 : (o == 6) = false := by simpa using h6
      simp (maxSteps := 10^6) +contextual (disch := try exact dqd) only [ev0, simprocAttr, AV.int, AV.bool, AV.str, Tryz.results39, gE, exprC, exprsC_len, d3, d23, d6, hap0]
      rw [← hDC]
      exact of_KA rfl (loop2 _ _ _ _ rfl rfl rfl rfl (by rw [if_neg h6, List.append_nil]; rfl) rfl rfl rfl (okCap_new (c := .tight) (tk := []) rfl) hR)
    have hDC2 := hDC
    subst h6
    simp (maxSteps := 10^6) +contextual (disch := try exact dqd) only [ev0, simprocAttr, AV.int, AV.bool, AV.str, Tryz.results39, gE, exprC, exprsC_len, d23, hap0, hpl]
    rw [← hDC]
    refine loopG (P := Tryz.prog) (fun x st => st.T.length = 101 ∧ (x.1 ≤ ps.length) ∧ (okCap st.tk x.2.1 1 = true) ∧ (x.2.2 = (bs ++ (ps.take x.1).map (·.1)).map strC) ∧ getT st.T 1 = .frz (bs.map strC) .unk ∧ getT st.T 2 = .ref 0 0 0 ∧ getT st.T 5 = .frz [] .nilc ∧ getT st.T 6 = .frz x.2.2 x.2.1 ∧ getT st.T 43 = .frz (ps.map paramC) .unk ∧ getT st.T 44 = .int (ps.length : Nat) ∧ getT st.T 45 = .int (x.1 : Nat) ∧ st.S = [⟨0, DC⟩]) (fun x => ps.length - x.1) ((0 : Nat), capNew [] .tight 1, bs.map strC) ?_ ?_
    case refine_2 => exact ⟨rfl, Nat.zero_le _, okCap_new (c := .tight) (tk := []) rfl, by simp, rfl, rfl, rfl, rfl, rfl, rfl, rfl, rfl⟩
    rintro ⟨i, ci, I⟩ ⟨T, S', tk', n'⟩ ⟨hl, hi, hok4, hI, e1, e2, e5, e6, e43, e44, e45, eS⟩ IH
    simp only at hi hok4 hI e1 e2 e5 e6 e43 e44 e45 eS
    subst eS
    obtain ⟨g, hg, hT⟩ := tab_of hl
    rw [hg] at e1 e2 e5 e6 e43 e44 e45
    subst hT
    clear hg hl
    by_cases la : i < ps.length
    · have d1 : decide ((i : Int) < (ps.length : Int)) = true := by simpa using la
      obtain ⟨p, hp⟩ := nth_some la
      have hp' := nth_params hp
      have hst := under_take ps i p hp
      have hw := wrap_add (i := i) (by omega)
      have hrI : rowsOk 1 I = true := by rw [hI]; exact rowsOk_strs _
      have hap1 := apB_one (y := strC p.1) hok4 hrI rfl (by rw [hI]; simp; omega)
      have hI2 : I ++ [strC p.1] = (bs ++ (ps.take (i + 1)).map (·.1)).map strC := by rw [hst, hI]; simp
      obtain ⟨nm, o', s', a', ns', ⟨po, pn, pv, pk⟩, pp⟩ := p
      simp only [paramC, typeC, predC, strsA, List.cons_append, List.nil_append] at hp'
      simp only [strC] at hap1 hI2
      simp (maxSteps := 10^6) +contextual (disch := try exact dqd) only [ev0, simprocAttr, AV.int, AV.bool, AV.str, Tryz.results39, gE, e1, e2, e5, e6, e43, e44, e45, d1, hp', hw, hap1]
      exact IH ((i + 1, _, _)) _ (by first | omega | (simp only; omega)) ⟨rfl, la, okCap_new hok4, hI2, rfl, rfl, rfl, rfl, rfl, rfl, rfl, rfl⟩
    · have d1 : decide ((i : Int) < (ps.length : Int)) = false := by simpa using la
      rw [List.take_of_length_le (by omega)] at hI
      subst hI hDC
      simp (maxSteps := 10^6) +contextual (disch := try exact dqd) only [ev0, simprocAttr, AV.int, AV.bool, AV.str, Tryz.results39, gE, e1, e2, e5, e6, e43, e44, e45, d1, exprsC_len]
      rw [← hDC2]
      exact of_KA rfl (loop2 _ _ _ _ rfl rfl rfl rfl (by rw [if_pos rfl]; rfl) rfl rfl rfl hok4 hR)
  obtain ⟨r, h1, h2⟩ := key
  rw [h1, IsF_of.1 h2]
mutual
theorem RUsC_all : ∀ e : XT, RUsC e
  | .node o s n ks ps al ts => RUsC_step o s n ks ps al ts (RUsC_allK ks) (RUsC_allA al)
theorem RUsC_allK : ∀ ks : List XT, ∀ q ∈ ks, RUsC q
  | [] => fun q h => by simp at h
  | x :: ks => fun q h => by
    rcases List.mem_cons.1 h with e | h
    · rw [e]; exact RUsC_all x
    · exact RUsC_allK ks q h
theorem RUsC_allA : ∀ al : List LT, ∀ c ns b, LT.mk c ns b ∈ al → RUsC b
  | [] => fun c ns b h => by simp at h
  | .mk c0 ns0 b0 :: al => fun c ns b h => by
    rcases List.mem_cons.1 h with e | h
    · injection e with e1 e2 e3; rw [e3]; exact RUsC_all b0
    · exact RUsC_allA al c ns b h
end
theorem R28_Used (e : XT) (hg : goodX e) (hs : szX e ≤ 80000) (hn : nodesX e ≤ 80000) (S : List Ent) (tk : List Nat) (k : Nat) : cL Tryz.prog 17 [.agg (exprC e)] S tk k = some (strsA (uniS (usedX e [])), S, tk, k) := by
  have h1 := RUsC_all e hg [] .nilc (by simp; omega) (by omega)
  have hl := usedX_len e []
  have h2 := fun S tk k => R04_Union S tk k (usedX e []) [] .unk .nilc (by simp; omega)
  rw [List.append_nil] at h2
  obtain ⟨o, s, n, ks, ps, al, ts⟩ := e
  simp only [exprC, List.map_nil, strsA] at h1 h2 ⊢
  generalize usedX (.node o s n ks ps al ts) [] = L at *
  refine opP Tryz.func17 Tryz.ntmps17 ?_
  simp (maxSteps := 10^6) +contextual (disch := try exact dqd) only [ev0, simprocAttr, AV.int, AV.bool, AV.str, Tryz.results17, h1, h2]
end
end Go.Proofs.YtmkoiandfojgmaaGreat
