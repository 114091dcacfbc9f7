/-
  Texts laid together: UR5, UR8.
-/
import Derived.Test.YtmkoiandfojgmaaGreatZM19
import Derived.Test.YtmkoiandfojgmaaGreatZM14
import Derived.Test.YtmkoiandfojgmaaGreatZM16
namespace Go.Proofs.YtmkoiandfojgmaaGreat
open Go
def capId : Cap → Option Nat
  | .tok id _ _ => some id
  | _ => none
def Diff (a b : Cap) : Prop := ∀ id, ¬ (capId a = some id ∧ capId b = some id)
theorem Diff.symm {a b : Cap} (h : Diff a b) : Diff b a := fun id q => h id ⟨q.2, q.1⟩
theorem okCap_keep {tk : List Nat} {a b : Cap} (ha : okCap tk a 1 = true) (h : Diff a b) : okCap (capPut tk b) a 1 = true := by
  cases a with
  | tok id ep s =>
    simp only [okCap, Bool.and_eq_true, beq_iff_eq] at ha ⊢
    refine ⟨ha.1, ?_⟩
    have hl := nth_lt ha.2
    cases b with
    | tok id2 ep2 s2 =>
      simp only [capPut]
      rw [nth_put_other (fun e => h id ⟨rfl, by rw [← e]; rfl⟩)]
      exact ha.2
    | _ =>
      simp only [capPut]
      rw [nth_get, List.getElem?_append_left hl, ← nth_get]
      exact ha.2
  | _ => exact ha
theorem Diff_new {tk : List Nat} {a b : Cap} (ha : okCap tk a 1 = true) (h : Diff a b) : Diff a (capNew tk b 1) := by
  intro id ⟨h1, h2⟩
  cases b with
  | tok id2 ep2 s2 => exact h id ⟨h1, h2⟩
  | _ =>
    simp only [capNew, capId, Option.some.injEq] at h2
    cases a with
    | tok id3 ep3 s3 =>
      simp only [okCap, Bool.and_eq_true, beq_iff_eq] at ha
      have hl := nth_lt ha.2
      simp only [capId, Option.some.injEq] at h1
      omega
    | _ => simp [capId] at h1
def innF (o : Int) (s : ByteArray) (ps : List (ByteArray × TT)) (j : Nat) (bs : List ByteArray) : List ByteArray := if o = 7 ∧ 2 ≤ j then bs ++ [s] else bs ++ (if o = 6 then ps.map (·.1) else [])
theorem inn_under (o : Int) (s : ByteArray) (ps : List (ByteArray × TT)) (j : Nat) (bs : List ByteArray) {ks : List XT} {al : List LT} (hG : GoodN o ks ps al) (hj : j < ks.length) (h : ¬ (o = 7 ∧ j = 1)) : innF o s ps j bs = underF o s ps j bs := by
  by_cases h7 : o = 7
  · have := hG.lets h7
    have hj0 : j = 0 := by
      have : j ≠ 1 := fun e => h ⟨h7, e⟩
      omega
    subst h7 hj0
    simp [innF, underF]
  · have n1 : ¬ (o = 7 ∧ 2 ≤ j) := fun e => h7 e.1
    have n2 : ¬ (o = 7 ∧ 0 < j) := fun e => h7 e.1
    unfold innF underF
    rw [if_neg n1, if_neg n2, List.append_nil]
theorem inn_next (o : Int) (s : ByteArray) (ps : List (ByteArray × TT)) (j : Nat) (bs : List ByteArray) (h : ¬ (o = 7 ∧ j = 1)) : innF o s ps j bs = innF o s ps (j + 1) bs := by
  unfold innF
  by_cases h7 : o = 7
  · have hj : j ≠ 1 := fun e => h ⟨h7, e⟩
    by_cases h2 : 2 ≤ j
    · rw [if_pos ⟨h7, h2⟩, if_pos ⟨h7, by omega⟩]
    · have n1 : ¬ (o = 7 ∧ 2 ≤ j) := fun e => h2 e.2
      have n2 : ¬ (o = 7 ∧ 2 ≤ j + 1) := fun e => by omega
      rw [if_neg n1, if_neg n2]
  · have n1 : ¬ (o = 7 ∧ 2 ≤ j) := fun e => h7 e.1
    have n2 : ¬ (o = 7 ∧ 2 ≤ j + 1) := fun e => h7 e.1
    rw [if_neg n1, if_neg n2]
theorem goodXs_mem : ∀ {l : List XT} {k : XT}, goodXs l → k ∈ l → goodX k
  | x :: l, k, h, hk => by
    simp only [goodXs] at h
    rcases List.mem_cons.1 hk with rfl | hk
    · exact h.1
    · exact goodXs_mem h.2 hk
theorem goodLs_mem : ∀ {l : List LT} {k : LT}, goodLs l → k ∈ l → goodX k.body
  | .mk c ns b :: l, k, h, hk => by
    simp only [goodLs] at h
    rcases List.mem_cons.1 hk with rfl | hk
    · exact h.1
    · exact goodLs_mem h.2 hk
theorem nodesLs_mem : ∀ {l : List LT} {k : LT}, k ∈ l → nodesX k.body ≤ nodesLs l
  | .mk c ns b :: l, k, hk => by
    simp only [nodesLs]
    rcases List.mem_cons.1 hk with rfl | hk
    · simp only [LT.body]; omega
    · have := nodesLs_mem hk; omega
mutual
def varX : XT → List ByteArray → List ByteArray
  | .node o s _ ks ps al _, bs => if o = 3 ∧ memB bs s = false then [s] else varK o s ps 0 ks bs ++ varA al bs
def varK (o : Int) (s : ByteArray) (ps : List (ByteArray × TT)) : Nat → List XT → List ByteArray → List ByteArray
  | _, [], _ => []
  | i, k :: ks, bs => varX k (underF o s ps i bs) ++ varK o s ps (i + 1) ks bs
def varA : List LT → List ByteArray → List ByteArray
  | [], _ => []
  | .mk _ ns b :: al, bs => varX b (bs ++ ns) ++ varA al bs
end
mutual
theorem varX_len : ∀ (e : XT) (bs : List ByteArray), (varX e bs).length ≤ nodesX e
  | .node o s n ks ps al ts, bs => by
    have := varK_len o s ps ks 0 bs
    have := varA_len al bs
    simp only [varX, nodesX]
    split
    · simp; omega
    · rw [List.length_append]; omega
theorem varK_len (o : Int) (s : ByteArray) (ps : List (ByteArray × TT)) : ∀ (ks : List XT) (i : Nat) (bs : List ByteArray), (varK o s ps i ks bs).length ≤ nodesXs ks
  | [], _, _ => by simp [varK]
  | k :: ks, i, bs => by
    have h1 := varX_len k (underF o s ps i bs)
    have := varK_len o s ps ks (i + 1) bs
    simp only [varK, nodesXs, List.length_append]; omega
theorem varA_len : ∀ (al : List LT) (bs : List ByteArray), (varA al bs).length ≤ nodesLs al
  | [], _ => by simp [varA]
  | .mk _ ns b :: al, bs => by
    have := varX_len b (bs ++ ns)
    have := varA_len al bs
    simp only [varA, nodesLs, List.length_append]; omega
end
theorem varK_app (o : Int) (s : ByteArray) (ps : List (ByteArray × TT)) (bs : List ByteArray) : ∀ (a b : List XT) (i : Nat), varK o s ps i (a ++ b) bs = varK o s ps i a bs ++ varK o s ps (i + a.length) b bs
  | [], b, i => by simp [varK]
  | k :: a, b, i => by
    simp only [List.cons_append, varK, varK_app o s ps bs a b (i + 1), List.append_assoc, List.length_cons, show i + 1 + a.length = i + (a.length + 1) by omega]
theorem varK_take (o : Int) (s : ByteArray) (ps : List (ByteArray × TT)) (bs : List ByteArray) {ks : List XT} {j : Nat} {q : XT} (h : nth ks j = some q) : varK o s ps 0 (ks.take (j + 1)) bs = varK o s ps 0 (ks.take j) bs ++ varX q (underF o s ps j bs) := by
  have hl := nth_lt h
  rw [take_mapS h, varK_app]
  simp only [varK, List.append_nil, List.length_take, Nat.zero_add, Nat.min_eq_left (Nat.le_of_lt hl)]
theorem varA_app (bs : List ByteArray) : ∀ (a b : List LT), varA (a ++ b) bs = varA a bs ++ varA b bs
  | [], b => by simp [varA]
  | .mk _ _ _ :: a, b => by simp only [List.cons_append, varA, varA_app bs a b, List.append_assoc]
theorem varA_take (bs : List ByteArray) {al : List LT} {j : Nat} {c : ByteArray} {ns : List ByteArray} {b : XT} (h : nth al j = some (.mk c ns b)) : varA (al.take (j + 1)) bs = varA (al.take j) bs ++ varX b (bs ++ ns) := by
  rw [take_mapS h, varA_app]
  simp only [varA, List.append_nil]
section
variable [Depth]
def VarC (e : XT) : Prop := goodX e → ∀ (bs : List ByteArray) (c : Cap), bs.length + szX e ≤ 1048576 → nodesX e ≤ 1048576 → ∀ S tk k, cL Tryz.prog 59 [.agg (exprC e), .frz (bs.map strC) c] S tk k = some (.frz ((varX e bs).map strC) .unk, S, tk, k)
set_option maxRecDepth 100000 in
set_option maxHeartbeats 4000000 in
theorem VarC_step (o : Int) (s : ByteArray) (n : Int) (ks : List XT) (ps : List (ByteArray × TT)) (al : List LT) (ts : List TT) (ihk : ∀ q ∈ ks, VarC q) (iha : ∀ c ns b, LT.mk c ns b ∈ al → VarC b) : VarC (.node o s n ks ps al ts) := by
  intro hgood bs c hsz hnd S tk k
  have hgood0 := hgood
  simp only [goodX] at hgood
  obtain ⟨hG, hGk, hGa⟩ := hgood
  simp only [szX] at hsz
  simp only [nodesX] at hnd
  have hks := szXs_len ks
  have hal := szLs_len al
  have hpl : (ps.map paramC).length = ps.length := List.length_map ..
  have f1 := R04_FindC bs .unk s (by omega)
  have hlt := findF_lt bs s
  obtain ⟨R, hR⟩ : ∃ R, R = varX (.node o s n ks ps al ts) bs := ⟨_, rfl⟩
  rw [← hR]
  simp only [varX] at hR
  obtain ⟨DC, hDC⟩ : ∃ DC : List AV, DC = [.prim (.int .i64 o), .prim (.string s), .prim (.int .i64 n), .frz (exprsC ks) .unk, .frz (ps.map paramC) .unk, .frz (altsC al) .unk, .frz (typesC ts) .unk] := ⟨_, rfl⟩
  have loop3 : ∀ (T : List AV) (tk2 : List Nat) (k2 : Nat) (c' : Cap), T.length = 91 → getT T 1 = .frz (bs.map strC) .unk → getT T 5 = .frz ((varK o s ps 0 ks bs).map strC) c' → getT T 72 = .frz (altsC al) .unk → getT T 73 = .int (al.length : Nat) → getT T 74 = .int (0 : Nat) → okCap tk2 c' 1 = true → R = varK o s ps 0 ks bs ++ varA al bs →
      Gd finE (IsF R) (KA Tryz.prog Tryz.f59 19 [] ⟨T, [⟨0, DC⟩], tk2, k2⟩) := by
    intro T tk2 k2 c' hT h1 h5 h49 h50 h51 hok hA0
    refine KA_of rfl (t := .mk) ?_
    refine loopG (P := Tryz.prog) (fun x st => st.T.length = 91 ∧ (x.1 ≤ al.length) ∧ (okCap st.tk x.2.1 1 = true) ∧ (x.2.2 = (varK o s ps 0 ks bs ++ varA (al.take x.1) bs).map strC) ∧ getT st.T 1 = .frz (bs.map strC) .unk ∧ getT st.T 5 = .frz x.2.2 x.2.1 ∧ getT st.T 72 = .frz (altsC al) .unk ∧ getT st.T 73 = .int (al.length : Nat) ∧ getT st.T 74 = .int (x.1 : Nat) ∧ st.S = [⟨0, DC⟩]) (fun x => al.length - x.1) ((0 : Nat), c', (varK o s ps 0 ks bs).map strC) ?_ ?_
    case refine_2 => exact ⟨(by first | rfl | assumption), Nat.zero_le _, hok, by simp [varA], (by first | rfl | assumption), (by first | rfl | assumption), (by first | rfl | assumption), (by first | rfl | assumption), (by first | rfl | assumption), (by first | rfl | assumption)⟩
    rintro ⟨j, cc, L⟩ ⟨T, S', tk', n'⟩ ⟨hl, hj, hok2, hL, e1, e5, e72, e73, e74, eS⟩ IH
    simp only at hj hok2 hL e1 e5 e72 e73 e74 eS
    subst eS
    obtain ⟨g, hg, hT⟩ := tab_of hl
    rw [hg] at e1 e5 e72 e73 e74
    subst hT
    clear hg hl
    by_cases hlt : j < al.length
    · have d1 : decide ((j : Int) < (al.length : Int)) = true := by simpa using hlt
      obtain ⟨q, hq⟩ := nth_some hlt
      have hq' := nth_alts hq
      have hqm := nth_memU hq
      have hszq := szLs_mem hqm
      have hndq := nodesLs_mem hqm
      have hgq := goodLs_mem hGa hqm
      have hw := wrap_add (i := j) (by omega)
      obtain ⟨qc, qns, qb⟩ := q
      simp only [szL] at hszq
      simp only [LT.body] at hndq hgq
      have hrs := rowsOk_strs bs
      have hrn := rowsOk_strs qns
      have hap0 : ∀ tk, apB (some 1) [] .tight (bs.map strC) tk = some (.frz (bs.map strC) (capNew tk .tight 1), capPut tk .tight) := fun tk => apB_all (es := []) rfl rfl hrs (by simp; omega)
      have hap1 : ∀ tk, apB (some 1) (bs.map strC) (capNew tk .tight 1) (qns.map strC) (capPut tk .tight) = _ := fun tk => apB_all (okCap_new (c := .tight) (tk := tk) rfl) hrs hrn (by simp; omega)
      have hok3 := okCap_more hok2
      have hih := fun c => iha qc qns qb hqm hgq (bs ++ qns) c (by simp; omega) (by omega)
      have htk := varA_take bs hq
      have hrL : rowsOk 1 L = true := by rw [hL]; exact rowsOk_strs _
      have hru := rowsOk_strs (varX qb (bs ++ qns))
      have hul := varX_len qb (bs ++ qns)
      have hL2 : L ++ (varX qb (bs ++ qns)).map strC = (varK o s ps 0 ks bs ++ varA (al.take (j + 1)) bs).map strC := by rw [htk, hL]; simp
      have hlen2 : L.length + ((varX qb (bs ++ qns)).map strC).length ≤ 1048576 := by
        have e := congrArg List.length hL2
        simp only [List.length_append, List.length_map] at e ⊢
        rw [e]
        have := varK_len o s ps ks 0 bs
        have h7 := varA_len (al.take (j + 1)) bs
        have h8 := nodes_takeL al (j + 1)
        omega
      have hap2 := apB_all hok3 hrL hru hlen2
      simp only [capPut, capNew] at hap0 hap1 hap2
      subst hDC
      obtain ⟨qo, qs, qn, qk, qp, qa, qt⟩ := qb
      simp only [altC, exprC, strsA] at hq'
      simp only [exprC, List.map_append] at hih
      generalize (varX (.node qo qs qn qk qp qa qt) (bs ++ qns)).map strC = UL at *
      simp (maxSteps := 10^6) +contextual (disch := try exact dqd) only [ev0, simprocAttr, AV.int, AV.bool, AV.str, Tryz.results59, gE, e1, e5, e72, e73, e74, d1, hq', hw, hap0, hap1, hap2, gO_refl, reA_nil, hih, xfs]
      exact IH ((j + 1, _, _)) _ (by first | omega | (simp only; omega)) ⟨rfl, hlt, okCap_new hok3, hL2, rfl, rfl, rfl, rfl, rfl, rfl⟩
    · have d1 : decide ((j : Int) < (al.length : Int)) = false := by simpa using hlt
      rw [List.take_of_length_le (by omega)] at hL
      subst hL
      simp (maxSteps := 10^6) +contextual (disch := try exact dqd) only [ev0, simprocAttr, AV.int, AV.bool, AV.str, Tryz.results59, gE, e1, e5, e72, e73, e74, d1]
      rw [IsF_of, hA0]
  have loop2 : ∀ (T : List AV) (tk2 : List Nat) (k2 : Nat) (c6 : Cap), T.length = 91 → getT T 1 = .frz (bs.map strC) .unk → getT T 2 = .ref 0 0 0 → getT T 5 = .frz [] .nilc → getT T 6 = .frz ((bs ++ (if o = 6 then ps.map (·.1) else [])).map strC) c6 → getT T 46 = .frz (exprsC ks) .unk → getT T 47 = .int (ks.length : Nat) → getT T 48 = .int (0 : Nat) → okCap tk2 c6 1 = true → R = varK o s ps 0 ks bs ++ varA al bs →
      Gd finE (IsF R) (KA Tryz.prog Tryz.f59 12 [] ⟨T, [⟨0, DC⟩], tk2, k2⟩) := by
    intro T tk2 k2 c6 hT h1 h2 h5 h6 h24 h25 h26 hok6 hA0
    refine KA_of rfl (t := .mk) ?_
    refine loopG (P := Tryz.prog) (fun x st => st.T.length = 91 ∧ (x.1 ≤ ks.length) ∧ (okCap st.tk x.2.1 1 = true) ∧ (okCap st.tk x.2.2.2.1 1 = true) ∧ (Diff x.2.1 x.2.2.2.1) ∧ (x.2.2.1 = (varK o s ps 0 (ks.take x.1) bs).map strC) ∧ (x.2.2.2.2 = (innF o s ps x.1 bs).map strC) ∧ getT st.T 1 = .frz (bs.map strC) .unk ∧ getT st.T 2 = .ref 0 0 0 ∧ getT st.T 5 = .frz x.2.2.1 x.2.1 ∧ getT st.T 6 = .frz x.2.2.2.2 x.2.2.2.1 ∧ getT st.T 46 = .frz (exprsC ks) .unk ∧ getT st.T 47 = .int (ks.length : Nat) ∧ getT st.T 48 = .int (x.1 : Nat) ∧ st.S = [⟨0, DC⟩]) (fun x => ks.length - x.1) ((0 : Nat), Cap.nilc, ([] : List (List AV)), c6, (bs ++ (if o = 6 then ps.map (·.1) else [])).map strC) ?_ ?_
    case refine_2 => exact ⟨(by first | rfl | assumption), Nat.zero_le _, rfl, hok6, (fun id h => by cases h.1), by simp [varK], by simp [innF], (by first | rfl | assumption), (by first | rfl | assumption), (by first | rfl | assumption), (by first | rfl | assumption), (by first | rfl | assumption), (by first | rfl | assumption), (by first | rfl | assumption), (by first | rfl | assumption)⟩
    rintro ⟨j, cc, L, ci, I⟩ ⟨T, S', tk', n'⟩ ⟨hl, hj, hok2, hok4, hdf, hL, hI, e1, e2, e5, e6, e46, e47, e48, eS⟩ IH
    simp only at hj hok2 hok4 hdf hL hI e1 e2 e5 e6 e46 e47 e48 eS
    subst eS
    obtain ⟨g, hg, hT⟩ := tab_of hl
    rw [hg] at e1 e2 e5 e6 e46 e47 e48
    subst hT
    clear hg hl
    by_cases hlt : j < ks.length
    · have d1 : decide ((j : Int) < (ks.length : Int)) = true := by simpa using hlt
      obtain ⟨q, hq⟩ := nth_some hlt
      have hq' := nth_exprs hq
      have hqm := nth_memU hq
      have hszq := szXs_mem hqm
      have hndq := nodesXs_mem hqm
      have hgq := goodXs_mem hGk hqm
      have hw := wrap_add (i := j) (by omega)
      have hul := under_len o s ps j bs
      have hih := fun c => ihk q hqm hgq (underF o s ps j bs) c (by omega) (by omega)
      have htk := varK_take o s ps bs hq
      have hrL : rowsOk 1 L = true := by rw [hL]; exact rowsOk_strs _
      have hru := rowsOk_strs (varX q (underF o s ps j bs))
      have huq := varX_len q (underF o s ps j bs)
      have hlen2 : L.length + ((varX q (underF o s ps j bs)).map strC).length ≤ 1048576 := by
        rw [hL]
        simp only [List.length_map]
        have h7 := varK_len o s ps (ks.take j) 0 bs
        have h8 := nodes_takeX ks (j + 1)
        rw [take_mapS hq, nodesXs_app] at h8
        simp only [nodesXs] at h8
        omega
      have hL2 : L ++ (varX q (underF o s ps j bs)).map strC = (varK o s ps 0 (ks.take (j + 1)) bs).map strC := by rw [htk, hL]; simp
      by_cases h71 : o = 7 ∧ j = 1
      · obtain ⟨h7, hj1⟩ := h71
        have d7 : (((j : Nat) : Int) == 1) = true := by rw [hj1]; rfl
        subst h7
        have hI0 : I = bs.map strC := by rw [hI, hj1]; simp [innF]
        have hun : underF 7 s ps j bs = bs ++ [s] := by rw [hj1]; simp [underF]
        have hrI : rowsOk 1 I = true := by rw [hI0]; exact rowsOk_strs _
        have hap1 := apB_one (y := strC s) hok4 hrI rfl (by rw [hI0]; simp; omega)
        have hI2 : I ++ [strC s] = (bs ++ [s]).map strC := by rw [hI0]; simp
        have hI3 : I ++ [strC s] = (innF 7 s ps (j + 1) bs).map strC := by rw [hI2, hj1]; simp [innF]
        have hok5 := okCap_keep hok2 hdf
        have hoki := okCap_new hok4
        have hdf2 := Diff_new hok2 hdf
        have hap2 := apB_all hok5 hrL hru hlen2
        rw [hun] at hih
        rw [← hI2] at hih
        subst hDC
        obtain ⟨qo, qs, qn, qk, qp, qa, qt⟩ := q
        simp only [exprC, strC] at hq' hih hap1 hI3
        rw [hun] at hap2 hL2
        generalize (varX (.node qo qs qn qk qp qa qt) (bs ++ [s])).map strC = UL at *
        simp (maxSteps := 10^6) +contextual (disch := try exact dqd) only [ev0, simprocAttr, AV.int, AV.bool, AV.str, Tryz.results59, gE, e1, e2, e5, e6, e46, e47, e48, d1, d7, hq', hw, hih, gO_refl, hap1, hap2, xfs]
        exact IH ((j + 1, _, _, _, _)) _ (by first | omega | (simp only; omega)) ⟨rfl, hlt, okCap_new hok5, okCap_keep hoki hdf2.symm, (Diff_new hoki hdf2.symm).symm, hL2, hI3, rfl, rfl, rfl, rfl, rfl, rfl, rfl, rfl⟩
      · have hI2 : I = (underF o s ps j bs).map strC := by rw [hI, inn_under o s ps j bs hG hlt h71]
        have hI3 : I = (innF o s ps (j + 1) bs).map strC := by rw [hI, inn_next o s ps j bs h71]
        have hap2 := apB_all hok2 hrL hru hlen2
        rw [← hI2] at hih
        have hst := okCap_keep hok4 hdf.symm
        have hst2 := (Diff_new hok4 hdf.symm).symm
        subst hDC
        obtain ⟨qo, qs, qn, qk, qp, qa, qt⟩ := q
        simp only [exprC] at hq' hih
        generalize (varX (.node qo qs qn qk qp qa qt) (underF o s ps j bs)).map strC = UL at *
        by_cases h7 : o = 7
        · have d7 : (((j : Nat) : Int) == 1) = false := by
            have : j ≠ 1 := fun h => h71 ⟨h7, h⟩
            simp; omega
          subst h7
          simp (maxSteps := 10^6) +contextual (disch := try exact dqd) only [ev0, simprocAttr, AV.int, AV.bool, AV.str, Tryz.results59, gE, e1, e2, e5, e6, e46, e47, e48, d1, d7, hq', hw, hih, gO_refl, hap2, xfs]
          exact IH ((j + 1, _, _, _, _)) _ (by first | omega | (simp only; omega)) ⟨rfl, hlt, okCap_new hok2, hst, hst2, hL2, hI3, rfl, rfl, rfl, rfl, rfl, rfl, rfl, rfl⟩
        · have d7 : (o == 7) = false := by simpa using h7
          simp (maxSteps := 10^6) +contextual (disch := try exact dqd) only [ev0, simprocAttr, AV.int, AV.bool, AV.str, Tryz.results59, gE, e1, e2, e5, e6, e46, e47, e48, d1, d7, hq', hw, hih, gO_refl, hap2, xfs]
          exact IH ((j + 1, _, _, _, _)) _ (by first | omega | (simp only; omega)) ⟨rfl, hlt, okCap_new hok2, hst, hst2, hL2, hI3, rfl, rfl, rfl, rfl, rfl, rfl, rfl, rfl⟩
    · have d1 : decide ((j : Int) < (ks.length : Int)) = false := by simpa using hlt
      rw [List.take_of_length_le (by omega)] at hL
      subst hL
      have hDC2 := hDC
      subst hDC
      simp (maxSteps := 10^6) +contextual (disch := try exact dqd) only [ev0, simprocAttr, AV.int, AV.bool, AV.str, Tryz.results59, gE, e1, e2, e5, e6, e46, e47, e48, d1, altsC_len]
      rw [← hDC2]
      exact of_KA rfl (loop3 _ _ _ _ rfl rfl rfl rfl rfl rfl hok2 hA0)
  have hrs := rowsOk_strs bs
  have hap0 : ∀ tk, apB (some 1) [] .tight (bs.map strC) tk = some (.frz (bs.map strC) (capNew tk .tight 1), capPut tk .tight) := fun tk => apB_all (es := []) rfl rfl hrs (by simp; omega)
  have key : ∃ r, (∀ S tk kk, cL Tryz.prog 59 [.agg (exprC (.node o s n ks ps al ts)), .frz (bs.map strC) c] S tk kk = some (r, S, tk, kk)) ∧ IsF R (r, [], [], 0) := by
    refine opE Tryz.func59 Tryz.ntmps59 (fun r h => by rw [h]; rfl) ?_
    by_cases h3 : o = 3
    · have hk0 := hG.leaf h3
      have ha0 := hG.alt (by omega)
      subst h3
      cases hm : memB bs s
      · rw [hm, if_pos ⟨rfl, rfl⟩] at hR
        rw [hm] at hlt
        simp (maxSteps := 10^6) +contextual (disch := try exact dqd) only [ev0, simprocAttr, AV.int, AV.bool, AV.str, Tryz.results59, gE, exprC, f1, hlt]
        rw [IsF_of, hR]; rfl
      · rw [hm, if_neg (by simp)] at hR
        rw [hm] at hlt
        simp (maxSteps := 10^6) +contextual (disch := try exact dqd) only [ev0, simprocAttr, AV.int, AV.bool, AV.str, Tryz.results59, gE, exprC, exprsC_len, f1, hlt, hap0]
        rw [← hDC]
        exact of_KA rfl (loop2 _ _ _ _ rfl rfl rfl rfl (by rw [if_neg (by decide), List.append_nil]; rfl) rfl rfl rfl (okCap_new (c := .tight) (tk := []) rfl) hR)
    have d3 : (o == 3) = false := by simpa using h3
    have d23 : True := trivial
    rw [if_neg (fun h => h3 h.1)] at hR
    by_cases h6 : o = 6
    case neg =>
      have d6 : (o == 6) = false := by simpa using h6
      simp (maxSteps := 10^6) +contextual (disch := try exact dqd) only [ev0, simprocAttr, AV.int, AV.bool, AV.str, Tryz.results59, gE, exprC, exprsC_len, d3, d23, d6, hap0]
      rw [← hDC]
      exact of_KA rfl (loop2 _ _ _ _ rfl rfl rfl rfl (by rw [if_neg h6, List.append_nil]; rfl) rfl rfl rfl (okCap_new (c := .tight) (tk := []) rfl) hR)
    have hDC2 := hDC
    subst h6
    simp (maxSteps := 10^6) +contextual (disch := try exact dqd) only [ev0, simprocAttr, AV.int, AV.bool, AV.str, Tryz.results59, gE, exprC, exprsC_len, d23, hap0, hpl]
    rw [← hDC]
    refine loopG (P := Tryz.prog) (fun x st => st.T.length = 91 ∧ (x.1 ≤ ps.length) ∧ (okCap st.tk x.2.1 1 = true) ∧ (x.2.2 = (bs ++ (ps.take x.1).map (·.1)).map strC) ∧ getT st.T 1 = .frz (bs.map strC) .unk ∧ getT st.T 2 = .ref 0 0 0 ∧ getT st.T 5 = .frz [] .nilc ∧ getT st.T 6 = .frz x.2.2 x.2.1 ∧ getT st.T 33 = .frz (ps.map paramC) .unk ∧ getT st.T 34 = .int (ps.length : Nat) ∧ getT st.T 35 = .int (x.1 : Nat) ∧ st.S = [⟨0, DC⟩]) (fun x => ps.length - x.1) ((0 : Nat), capNew [] .tight 1, bs.map strC) ?_ ?_
    case refine_2 => exact ⟨rfl, Nat.zero_le _, okCap_new (c := .tight) (tk := []) rfl, by simp, rfl, rfl, rfl, rfl, rfl, rfl, rfl, rfl⟩
    rintro ⟨i, ci, I⟩ ⟨T, S', tk', n'⟩ ⟨hl, hi, hok4, hI, e1, e2, e5, e6, e33, e34, e35, eS⟩ IH
    simp only at hi hok4 hI e1 e2 e5 e6 e33 e34 e35 eS
    subst eS
    obtain ⟨g, hg, hT⟩ := tab_of hl
    rw [hg] at e1 e2 e5 e6 e33 e34 e35
    subst hT
    clear hg hl
    by_cases la : i < ps.length
    · have d1 : decide ((i : Int) < (ps.length : Int)) = true := by simpa using la
      obtain ⟨p, hp⟩ := nth_some la
      have hp' := nth_params hp
      have hst := under_take ps i p hp
      have hw := wrap_add (i := i) (by omega)
      have hrI : rowsOk 1 I = true := by rw [hI]; exact rowsOk_strs _
      have hap1 := apB_one (y := strC p.1) hok4 hrI rfl (by rw [hI]; simp; omega)
      have hI2 : I ++ [strC p.1] = (bs ++ (ps.take (i + 1)).map (·.1)).map strC := by rw [hst, hI]; simp
      obtain ⟨nm, o', s', a', ns', ⟨po, pn, pv, pk⟩, pp⟩ := p
      simp only [paramC, typeC, predC, strsA, List.cons_append, List.nil_append] at hp'
      simp only [strC] at hap1 hI2
      simp (maxSteps := 10^6) +contextual (disch := try exact dqd) only [ev0, simprocAttr, AV.int, AV.bool, AV.str, Tryz.results59, gE, e1, e2, e5, e6, e33, e34, e35, d1, hp', hw, hap1]
      exact IH ((i + 1, _, _)) _ (by first | omega | (simp only; omega)) ⟨rfl, la, okCap_new hok4, hI2, rfl, rfl, rfl, rfl, rfl, rfl, rfl, rfl⟩
    · have d1 : decide ((i : Int) < (ps.length : Int)) = false := by simpa using la
      rw [List.take_of_length_le (by omega)] at hI
      subst hI hDC
      simp (maxSteps := 10^6) +contextual (disch := try exact dqd) only [ev0, simprocAttr, AV.int, AV.bool, AV.str, Tryz.results59, gE, e1, e2, e5, e6, e33, e34, e35, d1, exprsC_len]
      rw [← hDC2]
      exact of_KA rfl (loop2 _ _ _ _ rfl rfl rfl rfl (by rw [if_pos rfl]; rfl) rfl rfl rfl hok4 hR)
  obtain ⟨r, h1, h2⟩ := key
  rw [h1, IsF_of.1 h2]
mutual
theorem VarC_all : ∀ e : XT, VarC e
  | .node o s n ks ps al ts => VarC_step o s n ks ps al ts (VarC_allK ks) (VarC_allA al)
theorem VarC_allK : ∀ ks : List XT, ∀ q ∈ ks, VarC q
  | [] => fun q h => by simp at h
  | x :: ks => fun q h => by
    rcases List.mem_cons.1 h with e | h
    · rw [e]; exact VarC_all x
    · exact VarC_allK ks q h
theorem VarC_allA : ∀ al : List LT, ∀ c ns b, LT.mk c ns b ∈ al → VarC b
  | [] => fun c ns b h => by simp at h
  | .mk c0 ns0 b0 :: al => fun c ns b h => by
    rcases List.mem_cons.1 h with e | h
    · injection e with e1 e2 e3; rw [e3]; exact VarC_all b0
    · exact VarC_allA al c ns b h
end
end
end Go.Proofs.YtmkoiandfojgmaaGreat
namespace Go.Proofs.YtmkoiandfojgmaaGreat
open Go
def getN (o : Int) (ks : List XT) : Option ByteArray :=
  match ks with
  | [k] => if o = 23 ∧ k.op = 3 then some k.name else none
  | _ => none
def ownR (ps : List (ByteArray × TT)) : RT := ps.foldl (fun r p => bindR r p.1 (isCell p.2)) ⟨[], [], false⟩
def bindsR (r : RT) (ns : List ByteArray) : RT := ns.foldl (fun r x => bindR r x false) r
def backB (G : List ByteArray) (g : List ByteArray) (x : ByteArray) : List ByteArray := if memB G x = true then uniS (delB g x ++ [x]) else delB g x
def branchR (s t : RT) (ns : List ByteArray) : RT := ⟨s.cells, ns.foldl (backB s.gone) t.gone, t.bad⟩
mutual
def walkR : XT → RT → RT
  | .node o s n ks ps al ts, r =>
    if o = 3 then useR r s true
    else match getN o ks with
    | some m => useR r m false
    | none =>
      if o = 6 then ⟨r.cells, r.gone, (r.bad || (varX (.node o s n ks ps al ts) []).any (memB r.cells)) || (walksR ks (ownR ps)).bad⟩
      else if o = 7 then afterR (walkAt ks 0 r) (walkAt ks 1 (bindR (walkAt ks 0 r) s (typedF ts))) s
      else if o = 8 then joinR (walkAt ks 1 (walkAt ks 0 r)) (walkAt ks 2 (walkAt ks 0 r))
      else if o = 9 then altsR al (walksR ks r) (walksR ks r)
      else walksR ks r
def walksR : List XT → RT → RT
  | [], r => r
  | k :: ks, r => walksR ks (walkR k r)
def walkAt : List XT → Nat → RT → RT
  | [], _, r => r
  | k :: _, 0, r => walkR k r
  | _ :: ks, i + 1, r => walkAt ks i r
def altsR : List LT → RT → RT → RT
  | [], _, out => out
  | .mk _ ns b :: al, s, out => altsR al s (joinR out (branchR s (walkR b (bindsR s ns)) ns))
end
theorem walkAt_nth : ∀ {ks : List XT} {i : Nat} {k : XT}, nth ks i = some k → ∀ r, walkAt ks i r = walkR k r
  | k :: _, 0, _, h, r => by simp only [nth, Option.some.injEq] at h; subst h; simp only [walkAt]
  | _ :: ks, i + 1, _, h, r => by simp only [nth] at h; simp only [walkAt]; exact walkAt_nth h r
  | [], _, _, h, _ => by simp [nth] at h
theorem walksR_app : ∀ (a b : List XT) (r : RT), walksR (a ++ b) r = walksR b (walksR a r)
  | [], b, r => by simp [walksR]
  | k :: a, b, r => by simp only [List.cons_append, walksR, walksR_app a b]
theorem walksR_take {ks : List XT} {j : Nat} {q : XT} (h : nth ks j = some q) (r : RT) : walksR (ks.take (j + 1)) r = walkR q (walksR (ks.take j) r) := by
  rw [take_mapS h, walksR_app]; simp only [walksR]
theorem altsR_app : ∀ (a b : List LT) (s r : RT), altsR (a ++ b) s r = altsR b s (altsR a s r)
  | [], b, s, r => by simp [altsR]
  | .mk _ _ _ :: a, b, s, r => by simp only [List.cons_append, altsR, altsR_app a b]
theorem altsR_take {al : List LT} {j : Nat} {c : ByteArray} {ns : List ByteArray} {b : XT} (h : nth al j = some (.mk c ns b)) (s r : RT) : altsR (al.take (j + 1)) s r = joinR (altsR (al.take j) s r) (branchR s (walkR b (bindsR s ns)) ns) := by
  rw [take_mapS h, altsR_app]; simp only [altsR]
mutual
def allV : XT → List ByteArray
  | .node o s _ ks _ al _ => (if o = 3 then [s] else []) ++ (allVs ks ++ allVa al)
def allVs : List XT → List ByteArray
  | [] => []
  | k :: ks => allV k ++ allVs ks
def allVa : List LT → List ByteArray
  | [] => []
  | .mk _ _ b :: al => allV b ++ allVa al
end
mutual
theorem allV_len : ∀ e : XT, (allV e).length ≤ nodesX e
  | .node o s n ks ps al ts => by
    have := allVs_len ks
    have := allVa_len al
    simp only [allV, nodesX, List.length_append]
    split <;> simp <;> omega
theorem allVs_len : ∀ ks : List XT, (allVs ks).length ≤ nodesXs ks
  | [] => by simp [allVs]
  | k :: ks => by
    have := allV_len k
    have := allVs_len ks
    simp only [allVs, nodesXs, List.length_append]; omega
theorem allVa_len : ∀ al : List LT, (allVa al).length ≤ nodesLs al
  | [] => by simp [allVa]
  | .mk _ _ b :: al => by
    have := allV_len b
    have := allVa_len al
    simp only [allVa, nodesLs, List.length_append]; omega
end
theorem allVs_mem {x : ByteArray} : ∀ {ks : List XT} {k : XT}, k ∈ ks → x ∈ allV k → x ∈ allVs ks
  | q :: ks, k, h, hx => by
    simp only [allVs]
    rcases List.mem_cons.1 h with e | h
    · exact List.mem_append.2 (.inl (e ▸ hx))
    · exact List.mem_append.2 (.inr (allVs_mem h hx))
theorem allVa_mem {x : ByteArray} : ∀ {al : List LT} {c : ByteArray} {ns : List ByteArray} {b : XT}, LT.mk c ns b ∈ al → x ∈ allV b → x ∈ allVa al
  | .mk _ _ _ :: al, c, ns, b, h, hx => by
    simp only [allVa]
    rcases List.mem_cons.1 h with e | h
    · injection e with e1 e2 e3
      exact List.mem_append.2 (.inl (e3 ▸ hx))
    · exact List.mem_append.2 (.inr (allVa_mem h hx))
theorem allVs_take {x : ByteArray} : ∀ {ks : List XT} {i : Nat}, x ∈ allVs (ks.take i) → x ∈ allVs ks
  | [], i, h => by simp [allVs] at h
  | k :: ks, 0, h => by simp [allVs] at h
  | k :: ks, i + 1, h => by
    simp only [List.take_succ_cons, allVs] at h ⊢
    rcases List.mem_append.1 h with h | h
    · exact List.mem_append.2 (.inl h)
    · exact List.mem_append.2 (.inr (allVs_take h))
def Ok (U : List ByteArray) (s : RT) : Prop := Inc s.gone ∧ ∀ x ∈ s.gone, x ∈ U
theorem mem_delB {l : List ByteArray} {s x : ByteArray} : x ∈ delB l s ↔ x ∈ l ∧ x ≠ s := by
  unfold delB
  rw [List.mem_filter]
  constructor
  · rintro ⟨h1, h2⟩
    refine ⟨h1, fun e => ?_⟩
    rw [(sEq_iff x s).2 e] at h2
    cases h2
  · rintro ⟨h1, h2⟩
    refine ⟨h1, ?_⟩
    cases q : sEq x s
    · rfl
    · exact absurd ((sEq_iff x s).1 q) h2
theorem sub_len : ∀ {l U : List ByteArray}, l.Nodup → (∀ x ∈ l, x ∈ U) → l.length ≤ U.length
  | [], _, _, _ => Nat.zero_le _
  | x :: l, U, hn, h => by
    have hx := h x (by simp)
    have hn2 := List.nodup_cons.1 hn
    have h1 := sub_len (l := l) (U := delB U x) hn2.2 fun y hy => mem_delB.2 ⟨h y (by simp [hy]), fun e => hn2.1 (by rw [← e]; exact hy)⟩
    have h2 : (delB U x).length < U.length := List.length_filter_lt_length_iff_exists.2 ⟨x, hx, by rw [(sEq_iff x x).2 rfl]; simp⟩
    simp only [List.length_cons]; omega
theorem inc_nodup {l : List ByteArray} (h : Inc l) : l.Nodup := List.Pairwise.imp (fun hab e => by rw [e] at hab; exact absurd hab (nlt_irrefl _)) h
theorem ok_len {U : List ByteArray} {s : RT} (h : Ok U s) : s.gone.length ≤ U.length := sub_len (inc_nodup h.1) h.2
theorem inc_del {l : List ByteArray} (s : ByteArray) (h : Inc l) : Inc (delB l s) := List.Pairwise.filter _ h
theorem ok_use {U : List ByteArray} {s : RT} {n : ByteArray} {c : Bool} (hn : n ∈ U) (h : Ok U s) : Ok U (useR s n c) ∧ (useR s n c).cells = s.cells := by
  unfold useR
  split
  · exact ⟨h, rfl⟩
  · refine ⟨?_, rfl⟩
    split
    · refine ⟨(uni_facts _).1, fun x hx => ?_⟩
      have := ((uni_facts _).2.1 x).1 hx
      rcases List.mem_append.1 this with h1 | h1
      · exact h.2 x h1
      · rw [List.mem_singleton.1 h1]; exact hn
    · exact h
theorem ok_bind {U : List ByteArray} {s : RT} {n : ByteArray} {c : Bool} (h : Ok U s) : Ok U (bindR s n c) := ⟨inc_del n h.1, fun x hx => h.2 x (mem_delB.1 hx).1⟩
theorem bind_cells (s : RT) (n : ByteArray) (c : Bool) : (bindR s n c).cells.length ≤ s.cells.length + (if c = true then 1 else 0) := by
  have := delB_len s.cells n
  unfold bindR
  simp only
  cases c <;> simp <;> omega
theorem ok_back {U G g : List ByteArray} {x : ByteArray} (hG : ∀ y ∈ G, y ∈ U) (h : Inc g ∧ ∀ y ∈ g, y ∈ U) : Inc (backB G g x) ∧ ∀ y ∈ backB G g x, y ∈ U := by
  unfold backB
  by_cases q : memB G x = true
  · rw [if_pos q]
    refine ⟨(uni_facts _).1, fun y hy => ?_⟩
    have := ((uni_facts _).2.1 y).1 hy
    rcases List.mem_append.1 this with h1 | h1
    · exact h.2 y (mem_delB.1 h1).1
    · rw [List.mem_singleton.1 h1]; exact hG x (memB_iff.1 q)
  · rw [if_neg q]
    exact ⟨inc_del x h.1, fun y hy => h.2 y (mem_delB.1 hy).1⟩
theorem ok_after {U : List ByteArray} {s t : RT} {n : ByteArray} (hs : Ok U s) (ht : Ok U t) : Ok U (afterR s t n) := ok_back (x := n) hs.2 ht
theorem ok_join {U : List ByteArray} {s t : RT} (hs : Ok U s) (ht : Ok U t) : Ok U (joinR s t) := ⟨(uni_facts _).1, fun x hx => by
  have := ((uni_facts _).2.1 x).1 hx
  rcases List.mem_append.1 this with h1 | h1
  · exact hs.2 x h1
  · exact ht.2 x h1⟩
theorem ok_binds {U : List ByteArray} : ∀ (ns : List ByteArray) {s : RT}, Ok U s → Ok U (bindsR s ns) ∧ (bindsR s ns).cells.length ≤ s.cells.length
  | [], s, h => ⟨h, Nat.le_refl _⟩
  | n :: ns, s, h => by
    have h1 := ok_binds ns (ok_bind (n := n) (c := false) h)
    have h2 := bind_cells s n false
    simp only [Bool.false_eq_true, if_false] at h2
    exact ⟨h1.1, Nat.le_trans h1.2 (by omega)⟩
theorem ok_backs {U G : List ByteArray} (hG : ∀ y ∈ G, y ∈ U) : ∀ (ns g : List ByteArray), (Inc g ∧ ∀ y ∈ g, y ∈ U) → Inc (ns.foldl (backB G) g) ∧ ∀ y ∈ ns.foldl (backB G) g, y ∈ U
  | [], g, h => h
  | n :: ns, g, h => ok_backs hG ns _ (ok_back hG h)
theorem ok_branch {U : List ByteArray} {s t : RT} {ns : List ByteArray} (hs : Ok U s) (ht : Ok U t) : Ok U (branchR s t ns) := ok_backs hs.2 ns t.gone ht
theorem getN_mem {o : Int} {ks : List XT} {m : ByteArray} (h : getN o ks = some m) : m ∈ allVs ks := by
  unfold getN at h
  split at h
  · rename_i k
    split at h
    · rename_i hk
      simp only [Option.some.injEq] at h
      obtain ⟨ko, kn, a, b, c, d, e⟩ := k
      simp only [XT.op, XT.name] at hk h
      simp [allVs, allV, hk.2, h]
    · cases h
  · cases h
mutual
theorem walk_ok {U : List ByteArray} : ∀ (e : XT), (∀ x ∈ allV e, x ∈ U) → ∀ r, Ok U r → Ok U (walkR e r) ∧ (walkR e r).cells = r.cells
  | .node o s n ks ps al ts, hU, r, h => by
    simp only [allV] at hU
    have hks : ∀ x ∈ allVs ks, x ∈ U := fun x hx => hU x (by simp [hx])
    have hal : ∀ x ∈ allVa al, x ∈ U := fun x hx => hU x (by simp [hx])
    simp only [walkR]
    by_cases h3 : o = 3
    · rw [if_pos h3]
      exact ok_use (hU s (by simp [h3])) h
    rw [if_neg h3]
    cases q : getN o ks with
    | some m => exact ok_use (hks m (getN_mem q)) h
    | none =>
      simp only
      have h0 := walkAt_ok ks 0 hks r h
      by_cases h6 : o = 6
      · rw [if_pos h6]; exact ⟨h, rfl⟩
      rw [if_neg h6]
      by_cases h7 : o = 7
      · rw [if_pos h7]
        exact ⟨ok_after h0.1 (walkAt_ok ks 1 hks _ (ok_bind h0.1)).1, h0.2⟩
      rw [if_neg h7]
      by_cases h8 : o = 8
      · rw [if_pos h8]
        have h1 := walkAt_ok ks 1 hks _ h0.1
        exact ⟨ok_join h1.1 (walkAt_ok ks 2 hks _ h0.1).1, h1.2.trans h0.2⟩
      rw [if_neg h8]
      have hw := walks_ok ks hks r h
      by_cases h9 : o = 9
      · rw [if_pos h9]
        have := alts_ok al hal (walksR ks r) (walksR ks r) hw.1 hw.1
        exact ⟨this.1, this.2.trans hw.2⟩
      rw [if_neg h9]
      exact hw
theorem walks_ok {U : List ByteArray} : ∀ (ks : List XT), (∀ x ∈ allVs ks, x ∈ U) → ∀ r, Ok U r → Ok U (walksR ks r) ∧ (walksR ks r).cells = r.cells
  | [], _, r, h => by simp only [walksR]; exact ⟨h, trivial⟩
  | k :: ks, hU, r, h => by
    simp only [allVs] at hU
    have h1 := walk_ok k (fun x hx => hU x (by simp [hx])) r h
    have h2 := walks_ok ks (fun x hx => hU x (by simp [hx])) _ h1.1
    simp only [walksR]
    exact ⟨h2.1, h2.2.trans h1.2⟩
theorem walkAt_ok {U : List ByteArray} : ∀ (ks : List XT) (i : Nat), (∀ x ∈ allVs ks, x ∈ U) → ∀ r, Ok U r → Ok U (walkAt ks i r) ∧ (walkAt ks i r).cells = r.cells
  | [], _, _, r, h => by simp only [walkAt]; exact ⟨h, trivial⟩
  | k :: ks, 0, hU, r, h => by
    simp only [allVs] at hU
    simp only [walkAt]
    exact walk_ok k (fun x hx => hU x (by simp [hx])) r h
  | k :: ks, i + 1, hU, r, h => by
    simp only [allVs] at hU
    simp only [walkAt]
    exact walkAt_ok ks i (fun x hx => hU x (by simp [hx])) r h
theorem alts_ok {U : List ByteArray} : ∀ (al : List LT), (∀ x ∈ allVa al, x ∈ U) → ∀ s out, Ok U s → Ok U out → Ok U (altsR al s out) ∧ (altsR al s out).cells = out.cells
  | [], _, s, out, _, h => by simp only [altsR]; exact ⟨h, trivial⟩
  | .mk c ns b :: al, hU, s, out, hs, h => by
    simp only [allVa] at hU
    have h1 := walk_ok b (fun x hx => hU x (by simp [hx])) _ (ok_binds ns hs).1
    have h2 := alts_ok al (fun x hx => hU x (by simp [hx])) s _ hs (ok_join h (ok_branch (ns := ns) hs h1.1))
    simp only [altsR]
    exact ⟨h2.1, h2.2⟩
end
end Go.Proofs.YtmkoiandfojgmaaGreat
