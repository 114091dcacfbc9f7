/-
  Texts laid together: UR7, UA2, UN.
-/
import Derived.Test.YtmkoiandfojgmaaGreatZU20
import Derived.Test.YtmkoiandfojgmaaGreatZU14
import Derived.Test.YtmkoiandfojgmaaGreatZU18
import Derived.Test.YtmkoiandfojgmaaGreatZU11
/-
  Free occurrences, by the reference of the syntax.
-/

namespace Go.Proofs.YtmkoiandfojgmaaGreat
open Go
mutual
def freX : XT → List ByteArray → List ByteArray
  | .node o s _ ks ps al _, bs => (if (o = 5 ∨ o = 3) ∧ memB bs s = false then [s] else []) ++ (freK o s ps 0 ks bs ++ freA al bs)
def freK (o : Int) (s : ByteArray) (ps : List (ByteArray × TT)) : Nat → List XT → List ByteArray → List ByteArray
  | _, [], _ => []
  | i, k :: ks, bs => freX k (underF o s ps i bs) ++ freK o s ps (i + 1) ks bs
def freA : List LT → List ByteArray → List ByteArray
  | [], _ => []
  | .mk _ ns b :: al, bs => freX b (bs ++ ns) ++ freA al bs
end
mutual
theorem freX_len : ∀ (e : XT) (bs : List ByteArray), (freX e bs).length ≤ nodesX e
  | .node o s n ks ps al ts, bs => by
    have := freK_len o s ps ks 0 bs
    have := freA_len al bs
    simp only [freX, nodesX, List.length_append]
    split
    · simp; omega
    · simp; omega
theorem freK_len (o : Int) (s : ByteArray) (ps : List (ByteArray × TT)) : ∀ (ks : List XT) (i : Nat) (bs : List ByteArray), (freK o s ps i ks bs).length ≤ nodesXs ks
  | [], _, _ => by simp [freK]
  | k :: ks, i, bs => by
    have h1 := freX_len k (underF o s ps i bs)
    have := freK_len o s ps ks (i + 1) bs
    simp only [freK, nodesXs, List.length_append]; omega
theorem freA_len : ∀ (al : List LT) (bs : List ByteArray), (freA al bs).length ≤ nodesLs al
  | [], _ => by simp [freA]
  | .mk _ ns b :: al, bs => by
    have := freX_len b (bs ++ ns)
    have := freA_len al bs
    simp only [freA, nodesLs, List.length_append]; omega
end
theorem freK_app (o : Int) (s : ByteArray) (ps : List (ByteArray × TT)) (bs : List ByteArray) : ∀ (a b : List XT) (i : Nat), freK o s ps i (a ++ b) bs = freK o s ps i a bs ++ freK o s ps (i + a.length) b bs
  | [], b, i => by simp [freK]
  | k :: a, b, i => by
    simp only [List.cons_append, freK, freK_app o s ps bs a b (i + 1), List.append_assoc, List.length_cons, show i + 1 + a.length = i + (a.length + 1) by omega]
theorem freK_take (o : Int) (s : ByteArray) (ps : List (ByteArray × TT)) (bs : List ByteArray) {ks : List XT} {j : Nat} {q : XT} (h : nth ks j = some q) : freK o s ps 0 (ks.take (j + 1)) bs = freK o s ps 0 (ks.take j) bs ++ freX q (underF o s ps j bs) := by
  have hl := nth_lt h
  rw [take_mapS h, freK_app]
  simp only [freK, List.append_nil, List.length_take, Nat.zero_add, Nat.min_eq_left (Nat.le_of_lt hl)]
theorem freA_app (bs : List ByteArray) : ∀ (a b : List LT), freA (a ++ b) bs = freA a bs ++ freA b bs
  | [], b => by simp [freA]
  | .mk _ _ _ :: a, b => by simp only [List.cons_append, freA, freA_app bs a b, List.append_assoc]
theorem freA_take (bs : List ByteArray) {al : List LT} {j : Nat} {c : ByteArray} {ns : List ByteArray} {b : XT} (h : nth al j = some (.mk c ns b)) : freA (al.take (j + 1)) bs = freA (al.take j) bs ++ freX b (bs ++ ns) := by
  rw [take_mapS h, freA_app]
  simp only [freA, List.append_nil]
/- what is consumed occurs free -/
mutual
theorem used_free : ∀ (e : XT) (bs : List ByteArray) (x : ByteArray), x ∈ usedX e bs → x ∈ freX e bs
  | .node o s n ks ps al ts, bs, x, h => by
    simp only [usedX] at h
    simp only [freX]
    split at h
    · rename_i h3
      rw [if_pos ⟨.inr h3.1, h3.2⟩]
      exact List.mem_append.2 (.inl h)
    · refine List.mem_append.2 (.inr ?_)
      rcases List.mem_append.1 h with h | h
      · exact List.mem_append.2 (.inl (used_freeK o s ps ks 0 bs x h))
      · exact List.mem_append.2 (.inr (used_freeA al bs x h))
theorem used_freeK (o : Int) (s : ByteArray) (ps : List (ByteArray × TT)) : ∀ (ks : List XT) (i : Nat) (bs : List ByteArray) (x : ByteArray), x ∈ usedK o s ps i ks bs → x ∈ freK o s ps i ks bs
  | [], _, _, x, h => by simp [usedK] at h
  | k :: ks, i, bs, x, h => by
    simp only [usedK] at h
    simp only [freK]
    rcases List.mem_append.1 h with h | h
    · split at h
      · simp at h
      · exact List.mem_append.2 (.inl (used_free k _ x h))
    · exact List.mem_append.2 (.inr (used_freeK o s ps ks (i + 1) bs x h))
theorem used_freeA : ∀ (al : List LT) (bs : List ByteArray) (x : ByteArray), x ∈ usedA al bs → x ∈ freA al bs
  | [], _, x, h => by simp [usedA] at h
  | .mk _ ns b :: al, bs, x, h => by
    simp only [usedA] at h
    simp only [freA]
    rcases List.mem_append.1 h with h | h
    · exact List.mem_append.2 (.inl (used_free b _ x h))
    · exact List.mem_append.2 (.inr (used_freeA al bs x h))
end
section
variable [Depth]
theorem R20_has (l : List ByteArray) (c : Cap) (s : ByteArray) (hl : l.length ≤ 1048576) (S : List Ent) (tk : List Nat) (k : Nat) : cL Tryz.prog 57 [.frz (l.map strC) c, .str s] S tk k = some (.bool (memB l s), S, tk, k) := by
  have f1 := R04_FindC l .unk s hl
  have hnn := findF_nn l 0 s
  refine opP Tryz.func57 Tryz.ntmps57 ?_
  simp (maxSteps := 10^6) +contextual (disch := try exact dqd) only [ev0, simprocAttr, AV.int, AV.bool, AV.str, Tryz.results57, f1, hnn]
set_option maxRecDepth 100000 in
set_option maxHeartbeats 2000000 in
theorem R20_under (o : Int) (s : ByteArray) (n : Int) (ks : List XT) (ps : List (ByteArray × TT)) (al : List LT) (ts : List TT) (i : Nat) (bs : List ByteArray) (c : Cap) (hb : bs.length + ps.length + 1 ≤ 1048576) (S : List Ent) (tk : List Nat) (k : Nat) :
    cL Tryz.prog 58 [.agg (exprC (.node o s n ks ps al ts)), .int i, .frz (bs.map strC) c] S tk k = some (strsA (underF o s ps i bs), S, tk, k) := by
  have hpl : (ps.map paramC).length = ps.length := List.length_map ..
  obtain ⟨L0, hL0⟩ : ∃ L0, L0 = bs ++ (if o = 7 ∧ 0 < i then [s] else []) := ⟨_, rfl⟩
  have hR : underF o s ps i bs = L0 ++ (if o = 6 then ps.map (·.1) else []) := by rw [hL0]; rfl
  generalize underF o s ps i bs = R at *
  have hrs := rowsOk_strs bs
  have hap0 : ∀ tk, apB (some 1) [] .tight (bs.map strC) tk = some (.frz (bs.map strC) (capNew tk .tight 1), capPut tk .tight) := fun tk => apB_all (es := []) rfl rfl hrs (by simp; omega)
  have hap1 := apB_one (y := strC s) (c := .tok 0 0 1) (tk := [0]) rfl hrs rfl (by simp; omega)
  have hm1 : bs.map strC ++ [strC s] = (bs ++ [s]).map strC := by simp
  have hokA := okCap_new (c := .tight) (tk := []) (sz := 1) rfl
  simp only [strC, capNew, capPut] at hap0 hap1 hm1
  simp only [capNew, capPut] at hokA
  obtain ⟨DC, hDC⟩ : ∃ DC : List AV, DC = [.prim (.int .i64 o), .prim (.string s), .prim (.int .i64 n), .frz (exprsC ks) .unk, .frz (ps.map paramC) .unk, .frz (altsC al) .unk, .frz (typesC ts) .unk] := ⟨_, rfl⟩
  have loop : ∀ (T : List AV) (tk2 : List Nat) (k2 : Nat) (c' : Cap), T.length = 46 → getT T 3 = .ref 0 0 0 → getT T 7 = .frz (L0.map strC) c' → getT T 8 = .int (0 : Nat) → okCap tk2 c' 1 = true →
      Gd finE (IsF R) (KA Tryz.prog Tryz.f58 5 [] ⟨T, [⟨0, DC⟩], tk2, k2⟩) := by
    intro T tk2 k2 c' hT h3 h7 h8 hok
    refine KA_of rfl (t := .mk) ?_
    have hll : L0.length ≤ bs.length + 1 := by rw [hL0]; split <;> simp
    by_cases h6 : o = 6
    case neg =>
      rw [if_neg h6, List.append_nil] at hR
      have d6 : (o == 6) = false := by simpa using h6
      refine loopG (P := Tryz.prog) (fun x st => st.T.length = 46 ∧ (x ≤ 0) ∧ getT st.T 3 = .ref 0 0 0 ∧ getT st.T 7 = .frz (L0.map strC) c' ∧ getT st.T 8 = .int (x : Nat) ∧ st.S = [⟨0, DC⟩]) (fun x => 0) ((0 : Nat)) ?_ ?_
      case refine_2 => exact ⟨(by first | rfl | assumption), Nat.le_refl _, (by first | rfl | assumption), (by first | rfl | assumption), (by first | rfl | assumption), (by first | rfl | assumption)⟩
      rintro i ⟨T, S', tk', n'⟩ ⟨hl, hi, e3, e7, e8, eS⟩ IH
      subst eS
      obtain ⟨g, hg, hT⟩ := tab_of hl
      rw [hg] at e3 e7 e8
      subst hT
      clear hg hl
      have hi0 : i = 0 := by omega
      subst hi0
      subst hDC
      by_cases hp : ps.length = 0
      · have d1 : decide ((0 : Int) < (ps.length : Int)) = false := decide_eq_false (by omega)
        simp (maxSteps := 10^6) +contextual (disch := try exact dqd) only [ev0, simprocAttr, AV.int, AV.bool, AV.str, Tryz.results58, gE, e3, e7, e8, d1, d6, hpl]
        rw [IsF_of, hR]
      · have d1 : decide ((0 : Int) < (ps.length : Int)) = true := decide_eq_true (by omega)
        simp (maxSteps := 10^6) +contextual (disch := try exact dqd) only [ev0, simprocAttr, AV.int, AV.bool, AV.str, Tryz.results58, gE, e3, e7, e8, d1, d6, hpl]
        rw [IsF_of, hR]
    rw [if_pos h6] at hR
    have hl6 : L0 = bs := by rw [hL0, if_neg (fun e => by omega), List.append_nil]
    have hll : L0.length ≤ bs.length := by rw [hl6]; exact Nat.le_refl _
    subst h6
    refine loopG (P := Tryz.prog) (fun x st => st.T.length = 46 ∧ (x.1 ≤ ps.length) ∧ (okCap st.tk x.2.1 1 = true) ∧ (x.2.2 = (L0 ++ (ps.take x.1).map (·.1)).map strC) ∧ getT st.T 3 = .ref 0 0 0 ∧ getT st.T 7 = .frz x.2.2 x.2.1 ∧ getT st.T 8 = .int (x.1 : Nat) ∧ st.S = [⟨0, DC⟩]) (fun x => ps.length - x.1) ((0 : Nat), c', L0.map strC) ?_ ?_
    case refine_2 => exact ⟨(by first | rfl | assumption), Nat.zero_le _, hok, by simp, (by first | rfl | assumption), (by first | rfl | assumption), (by first | rfl | assumption), (by first | rfl | assumption)⟩
    rintro ⟨i, ci, I⟩ ⟨T, S', tk', n'⟩ ⟨hl, hi, hok4, hI, e3, e7, e8, eS⟩ IH
    simp only at hi hok4 hI e3 e7 e8 eS
    subst eS
    obtain ⟨g, hg, hT⟩ := tab_of hl
    rw [hg] at e3 e7 e8
    subst hT
    clear hg hl
    by_cases la : i < ps.length
    · have d1 : decide ((i : Int) < (ps.length : Int)) = true := by simpa using la
      obtain ⟨p, hp⟩ := nth_some la
      have hp' := nth_params hp
      have hst := under_take ps i p hp
      have hw := wrap_add (i := i) (by omega)
      have hrI : rowsOk 1 I = true := by rw [hI]; exact rowsOk_strs _
      have hap1 := apB_one (y := strC p.1) hok4 hrI rfl (by rw [hI]; simp; omega)
      have hI2 : I ++ [strC p.1] = (L0 ++ (ps.take (i + 1)).map (·.1)).map strC := by rw [hst, hI]; simp
      obtain ⟨nm, o', s', a', ns', ⟨po, pn, pv, pk⟩, pp⟩ := p
      simp only [paramC, typeC, predC, strsA, List.cons_append, List.nil_append] at hp'
      simp only [strC] at hap1 hI2
      subst hDC
      simp (maxSteps := 10^6) +contextual (disch := try exact dqd) only [ev0, simprocAttr, AV.int, AV.bool, AV.str, Tryz.results58, gE, e3, e7, e8, d1, hp', hw, hap1, hpl]
      exact IH ((i + 1, _, _)) _ (by first | omega | (simp only; omega)) ⟨rfl, la, okCap_new hok4, hI2, rfl, rfl, rfl, rfl⟩
    · have d1 : decide ((i : Int) < (ps.length : Int)) = false := by simpa using la
      rw [List.take_of_length_le (by omega)] at hI
      subst hI hDC
      simp (maxSteps := 10^6) +contextual (disch := try exact dqd) only [ev0, simprocAttr, AV.int, AV.bool, AV.str, Tryz.results58, gE, e3, e7, e8, d1, hpl]
      rw [IsF_of, hR]
  have key : ∃ r, (∀ S tk kk, cL Tryz.prog 58 [.agg (exprC (.node o s n ks ps al ts)), .int i, .frz (bs.map strC) c] S tk kk = some (r, S, tk, kk)) ∧ IsF R (r, [], [], 0) := by
    refine opE Tryz.func58 Tryz.ntmps58 (fun r h => by rw [h]; rfl) ?_
    by_cases h7 : o = 7
    · by_cases hi : 0 < i
      · have di : decide ((i : Int) > 0) = true := by simpa using hi
        have hl : L0 = bs ++ [s] := by rw [hL0, if_pos ⟨h7, hi⟩]
        have hDC2 := hDC
        subst h7
        simp (maxSteps := 10^6) +contextual (disch := try exact dqd) only [ev0, simprocAttr, AV.int, AV.bool, AV.str, Tryz.results58, gE, exprC, hap0, hap1, di]
        rw [← hDC]
        exact of_KA rfl (loop _ _ _ (.tok 0 1 1) rfl rfl (by rw [hl, ← hm1]; rfl) rfl rfl)
      · have di : decide ((i : Int) > 0) = false := by simpa using hi
        have hl : L0 = bs := by rw [hL0, if_neg (fun h => hi h.2), List.append_nil]
        subst h7
        simp (maxSteps := 10^6) +contextual (disch := try exact dqd) only [ev0, simprocAttr, AV.int, AV.bool, AV.str, Tryz.results58, gE, exprC, hap0, di]
        rw [← hDC]
        exact of_KA rfl (loop _ _ _ _ rfl rfl (by rw [hl]; rfl) rfl hokA)
    · have d7 : (o == 7) = false := by simpa using h7
      have hl : L0 = bs := by rw [hL0, if_neg (fun h => h7 h.1), List.append_nil]
      simp (maxSteps := 10^6) +contextual (disch := try exact dqd) only [ev0, simprocAttr, AV.int, AV.bool, AV.str, Tryz.results58, gE, exprC, hap0, d7]
      rw [← hDC]
      exact of_KA rfl (loop _ _ _ _ rfl rfl (by rw [hl]; rfl) rfl hokA)
  obtain ⟨r, h1, h2⟩ := key
  rw [h1, IsF_of.1 h2]
  rfl
def RFrC (e : XT) : Prop := ∀ (bs : List ByteArray) (c : Cap), bs.length + szX e ≤ 1048576 → nodesX e ≤ 1048576 → ∀ S tk k, cL Tryz.prog 38 [.agg (exprC e), .frz (bs.map strC) c, .bool false] S tk k = some (.frz ((freX e bs).map strC) .unk, S, tk, k)
set_option maxRecDepth 100000 in
set_option maxHeartbeats 4000000 in
theorem RFrC_step (o : Int) (s : ByteArray) (n : Int) (ks : List XT) (ps : List (ByteArray × TT)) (al : List LT) (ts : List TT) (ihk : ∀ q ∈ ks, RFrC q) (iha : ∀ c ns b, LT.mk c ns b ∈ al → RFrC b) : RFrC (.node o s n ks ps al ts) := by
  intro bs c hsz hnd S tk k
  simp only [szX] at hsz
  simp only [nodesX] at hnd
  have hks := szXs_len ks
  have hal := szLs_len al
  have hrs := rowsOk_strs bs
  have f1 := fun c S tk k => R20_has bs c s (by omega) S tk k
  obtain ⟨R, hR⟩ : ∃ R, R = freX (.node o s n ks ps al ts) bs := ⟨_, rfl⟩
  rw [← hR]
  simp only [freX] at hR
  obtain ⟨L0, hL0⟩ : ∃ L0, L0 = (if (o = 5 ∨ o = 3) ∧ memB bs s = false then [s] else []) := ⟨_, rfl⟩
  rw [← hL0] at hR
  have hL0l : L0.length ≤ 1 := by rw [hL0]; split <;> simp
  obtain ⟨DC, hDC⟩ : ∃ DC : List AV, DC = [.prim (.int .i64 o), .prim (.string s), .prim (.int .i64 n), .frz (exprsC ks) .unk, .frz (ps.map paramC) .unk, .frz (altsC al) .unk, .frz (typesC ts) .unk] := ⟨_, rfl⟩
  have loop2 : ∀ (T : List AV) (tk2 : List Nat) (k2 : Nat) (c' : Cap), T.length = 84 → getT T 1 = .frz (bs.map strC) .unk → getT T 2 = .bool false → getT T 3 = .ref 0 0 0 → getT T 7 = .frz ((L0 ++ freK o s ps 0 ks bs).map strC) c' → getT T 9 = .int (0 : Nat) → okCap tk2 c' 1 = true →
      Gd finE (IsF R) (KA Tryz.prog Tryz.f38 9 [] ⟨T, [⟨0, DC⟩], tk2, k2⟩) := by
    intro T tk2 k2 c' hT h1 h2 h3 h7 h9 hok
    refine KA_of rfl (t := .mk) ?_
    refine loopG (P := Tryz.prog) (fun x st => st.T.length = 84 ∧ (x.1 ≤ al.length) ∧ (okCap st.tk x.2.1 1 = true) ∧ (x.2.2 = (L0 ++ freK o s ps 0 ks bs ++ freA (al.take x.1) bs).map strC) ∧ getT st.T 1 = .frz (bs.map strC) .unk ∧ getT st.T 2 = .bool false ∧ getT st.T 3 = .ref 0 0 0 ∧ getT st.T 7 = .frz x.2.2 x.2.1 ∧ getT st.T 9 = .int (x.1 : Nat) ∧ st.S = [⟨0, DC⟩]) (fun x => al.length - x.1) ((0 : Nat), c', (L0 ++ freK o s ps 0 ks bs).map strC) ?_ ?_
    case refine_2 => exact ⟨(by first | rfl | assumption), Nat.zero_le _, hok, by simp [freA], (by first | rfl | assumption), (by first | rfl | assumption), (by first | rfl | assumption), (by first | rfl | assumption), (by first | rfl | assumption), (by first | rfl | assumption)⟩
    rintro ⟨j, cc, L⟩ ⟨T, S', tk', n'⟩ ⟨hl, hj, hok2, hL, e1, e2, e3, e7, e9, eS⟩ IH
    simp only at hj hok2 hL e1 e2 e3 e7 e9 eS
    subst eS
    obtain ⟨g, hg, hT⟩ := tab_of hl
    rw [hg] at e1 e2 e3 e7 e9
    subst hT
    clear hg hl
    by_cases hlt : j < al.length
    · have d1 : decide ((j : Int) < (al.length : Int)) = true := by simpa using hlt
      obtain ⟨q, hq⟩ := nth_some hlt
      have hq' := nth_alts hq
      have hqm := nth_memU hq
      have hszq := szLs_mem hqm
      have hndq := nodesLs_mem hqm
      have hw := wrap_add (i := j) (by omega)
      obtain ⟨qc, qns, qb⟩ := q
      simp only [szL] at hszq
      simp only [LT.body] at hndq
      have hrn := rowsOk_strs qns
      have hap0 : ∀ tk, apB (some 1) [] .tight (bs.map strC) tk = some (.frz (bs.map strC) (capNew tk .tight 1), capPut tk .tight) := fun tk => apB_all (es := []) rfl rfl hrs (by simp; omega)
      have hap1 : ∀ tk, apB (some 1) (bs.map strC) (capNew tk .tight 1) (qns.map strC) (capPut tk .tight) = _ := fun tk => apB_all (okCap_new (c := .tight) (tk := tk) rfl) hrs hrn (by simp; omega)
      have hok3 := okCap_more hok2
      have hih := fun c => iha qc qns qb hqm (bs ++ qns) c (by simp; omega) (by omega)
      have htk := freA_take bs hq
      have hrL : rowsOk 1 L = true := by rw [hL]; exact rowsOk_strs _
      have hru := rowsOk_strs (freX qb (bs ++ qns))
      have hL2 : L ++ (freX qb (bs ++ qns)).map strC = (L0 ++ freK o s ps 0 ks bs ++ freA (al.take (j + 1)) bs).map strC := by rw [htk, hL]; simp
      have hlen2 : L.length + ((freX qb (bs ++ qns)).map strC).length ≤ 1048576 := by
        have e := congrArg List.length hL2
        simp only [List.length_append, List.length_map] at e ⊢
        rw [e]
        have := freK_len o s ps ks 0 bs
        have h7 := freA_len (al.take (j + 1)) bs
        have h8 := nodes_takeL al (j + 1)
        omega
      have hap2 := apB_all hok3 hrL hru hlen2
      simp only [capPut, capNew] at hap0 hap1 hap2
      subst hDC
      obtain ⟨qo, qs, qn, qk, qp, qa, qt⟩ := qb
      simp only [altC, exprC, strsA] at hq'
      simp only [exprC, List.map_append] at hih
      generalize (freX (.node qo qs qn qk qp qa qt) (bs ++ qns)).map strC = UL at *
      simp (maxSteps := 10^6) +contextual (disch := try exact dqd) only [ev0, simprocAttr, AV.int, AV.bool, AV.str, Tryz.results38, gE, e1, e2, e3, e7, e9, altsC_len, d1, hq', hw, hap0, hap1, hap2, gO_refl, reA_nil, hih, xfs]
      exact IH ((j + 1, _, _)) _ (by first | omega | (simp only; omega)) ⟨rfl, hlt, okCap_new hok3, hL2, rfl, rfl, rfl, rfl, rfl, rfl⟩
    · have d1 : decide ((j : Int) < (al.length : Int)) = false := by simpa using hlt
      rw [List.take_of_length_le (by omega)] at hL
      subst hL
      subst hDC
      simp (maxSteps := 10^6) +contextual (disch := try exact dqd) only [ev0, simprocAttr, AV.int, AV.bool, AV.str, Tryz.results38, gE, e1, e2, e3, e7, e9, altsC_len, d1]
      rw [IsF_of, hR, List.append_assoc]
  have loop1 : ∀ (T : List AV) (tk2 : List Nat) (k2 : Nat) (c' : Cap), T.length = 84 → getT T 1 = .frz (bs.map strC) .unk → getT T 2 = .bool false → getT T 3 = .ref 0 0 0 → getT T 7 = .frz (L0.map strC) c' → getT T 8 = .int (0 : Nat) → okCap tk2 c' 1 = true →
      Gd finE (IsF R) (KA Tryz.prog Tryz.f38 5 [] ⟨T, [⟨0, DC⟩], tk2, k2⟩) := by
    intro T tk2 k2 c' hT h1 h2 h3 h7 h9 hok
    refine KA_of rfl (t := .mk) ?_
    refine loopG (P := Tryz.prog) (fun x st => st.T.length = 84 ∧ (x.1 ≤ ks.length) ∧ (okCap st.tk x.2.1 1 = true) ∧ (x.2.2 = (L0 ++ freK o s ps 0 (ks.take x.1) bs).map strC) ∧ getT st.T 1 = .frz (bs.map strC) .unk ∧ getT st.T 2 = .bool false ∧ getT st.T 3 = .ref 0 0 0 ∧ getT st.T 7 = .frz x.2.2 x.2.1 ∧ getT st.T 8 = .int (x.1 : Nat) ∧ st.S = [⟨0, DC⟩]) (fun x => ks.length - x.1) ((0 : Nat), c', L0.map strC) ?_ ?_
    case refine_2 => exact ⟨(by first | rfl | assumption), Nat.zero_le _, hok, by simp [freK], (by first | rfl | assumption), (by first | rfl | assumption), (by first | rfl | assumption), (by first | rfl | assumption), (by first | rfl | assumption), (by first | rfl | assumption)⟩
    rintro ⟨j, cc, L⟩ ⟨T, S', tk', n'⟩ ⟨hl, hj, hok2, hL, e1, e2, e3, e7, e8, eS⟩ IH
    simp only at hj hok2 hL e1 e2 e3 e7 e8 eS
    subst eS
    obtain ⟨g, hg, hT⟩ := tab_of hl
    rw [hg] at e1 e2 e3 e7 e8
    subst hT
    clear hg hl
    by_cases hlt : j < ks.length
    · have d1 : decide ((j : Int) < (ks.length : Int)) = true := by simpa using hlt
      obtain ⟨q, hq⟩ := nth_some hlt
      have hq' := nth_exprs hq
      have hqm := nth_memU hq
      have hszq := szXs_mem hqm
      have hndq := nodesXs_mem hqm
      have hw := wrap_add (i := j) (by omega)
      have hul := under_len o s ps j bs
      have hun := fun c S tk k => R20_under o s n ks ps al ts j bs c (by omega) S tk k
      have hih := fun c => ihk q hqm (underF o s ps j bs) c (by omega) (by omega)
      have htk := freK_take o s ps bs hq
      have hrL : rowsOk 1 L = true := by rw [hL]; exact rowsOk_strs _
      have hru := rowsOk_strs (freX q (underF o s ps j bs))
      have huq := freX_len q (underF o s ps j bs)
      have hlen2 : L.length + ((freX q (underF o s ps j bs)).map strC).length ≤ 1048576 := by
        rw [hL]
        simp only [List.length_map, List.length_append]
        have h7 := freK_len o s ps (ks.take j) 0 bs
        have h8 := nodes_takeX ks (j + 1)
        rw [take_mapS hq, nodesXs_app] at h8
        simp only [nodesXs] at h8
        omega
      have hL2 : L ++ (freX q (underF o s ps j bs)).map strC = (L0 ++ freK o s ps 0 (ks.take (j + 1)) bs).map strC := by rw [htk, hL]; simp
      have hap2 := apB_all hok2 hrL hru hlen2
      obtain ⟨qo, qs, qn, qk, qp, qa, qt⟩ := q
      simp only [exprC] at hq' hih
      simp only [exprC, strsA] at hun
      generalize (freX (.node qo qs qn qk qp qa qt) (underF o s ps j bs)).map strC = UL at *
      generalize (underF o s ps j bs).map strC = UN at *
      rw [← hDC] at hun
      subst hDC
      simp (maxSteps := 10^6) +contextual (disch := try exact dqd) only [ev0, simprocAttr, AV.int, AV.bool, AV.str, Tryz.results38, gE, e1, e2, e3, e7, e8, exprsC_len, d1, hq', hw, hun, hap2, gO_refl, reA_nil, hih, xfs]
      exact IH ((j + 1, _, _)) _ (by first | omega | (simp only; omega)) ⟨rfl, hlt, okCap_new hok2, hL2, rfl, rfl, rfl, rfl, rfl, rfl⟩
    · have d1 : decide ((j : Int) < (ks.length : Int)) = false := by simpa using hlt
      rw [List.take_of_length_le (by omega)] at hL
      subst hL
      have hDC2 := hDC
      subst hDC
      simp (maxSteps := 10^6) +contextual (disch := try exact dqd) only [ev0, simprocAttr, AV.int, AV.bool, AV.str, Tryz.results38, gE, e1, e2, e3, e7, e8, exprsC_len, d1]
      rw [← hDC2]
      exact of_KA rfl (loop2 _ _ _ _ rfl rfl rfl rfl rfl rfl hok2)
  have key : ∃ r, (∀ S tk kk, cL Tryz.prog 38 [.agg (exprC (.node o s n ks ps al ts)), .frz (bs.map strC) c, .bool false] S tk kk = some (r, S, tk, kk)) ∧ IsF R (r, [], [], 0) := by
    refine opE Tryz.func38 Tryz.ntmps38 (fun r h => by rw [h]; rfl) ?_
    have hap1 := apB_one (es := []) (y := strC s) (c := .nilc) (tk := []) (sz := 1) rfl rfl rfl (by simp)
    simp only [strC, capNew, capPut, List.nil_append, List.length_nil] at hap1
    by_cases h5 : o = 5
    · by_cases hm : memB bs s = true
      · have hL : L0 = [] := by rw [hL0, if_neg (fun h => by rw [hm] at h; exact absurd h.2 (by decide))]
        have f2 := f1
        rw [hm] at f2
        subst h5
        simp (maxSteps := 10^6) +contextual (disch := try exact dqd) only [ev0, simprocAttr, AV.int, AV.bool, AV.str, Tryz.results38, gE, exprC, f2, exprsC_len]
        rw [← hDC]
        exact of_KA rfl (loop1 _ _ _ _ rfl rfl rfl rfl (by rw [hL]; rfl) rfl rfl)
      · have hm := Bool.eq_false_iff.2 hm
        have hL : L0 = [s] := by rw [hL0, if_pos ⟨.inl h5, hm⟩]
        have f2 := f1
        rw [hm] at f2
        subst h5
        simp (maxSteps := 10^6) +contextual (disch := try exact dqd) only [ev0, simprocAttr, AV.int, AV.bool, AV.str, Tryz.results38, gE, exprC, f2, hap1, exprsC_len]
        rw [← hDC]
        exact of_KA rfl (loop1 _ _ _ _ rfl rfl rfl rfl (by rw [hL]; rfl) rfl rfl)
    have d5 : (o == 5) = false := by simpa using h5
    by_cases h3 : o = 3
    · by_cases hm : memB bs s = true
      · have hL : L0 = [] := by rw [hL0, if_neg (fun h => by rw [hm] at h; exact absurd h.2 (by decide))]
        have f2 := f1
        rw [hm] at f2
        subst h3
        simp (maxSteps := 10^6) +contextual (disch := try exact dqd) only [ev0, simprocAttr, AV.int, AV.bool, AV.str, Tryz.results38, gE, exprC, f2, exprsC_len]
        rw [← hDC]
        exact of_KA rfl (loop1 _ _ _ _ rfl rfl rfl rfl (by rw [hL]; rfl) rfl rfl)
      · have hm := Bool.eq_false_iff.2 hm
        have hL : L0 = [s] := by rw [hL0, if_pos ⟨.inr h3, hm⟩]
        have f2 := f1
        rw [hm] at f2
        subst h3
        simp (maxSteps := 10^6) +contextual (disch := try exact dqd) only [ev0, simprocAttr, AV.int, AV.bool, AV.str, Tryz.results38, gE, exprC, f2, hap1, exprsC_len]
        rw [← hDC]
        exact of_KA rfl (loop1 _ _ _ _ rfl rfl rfl rfl (by rw [hL]; rfl) rfl rfl)
    have d3 : (o == 3) = false := by simpa using h3
    have hL : L0 = [] := by rw [hL0, if_neg (fun h => h.1.elim h5 h3)]
    simp (maxSteps := 10^6) +contextual (disch := try exact dqd) only [ev0, simprocAttr, AV.int, AV.bool, AV.str, Tryz.results38, gE, exprC, d5, d3, exprsC_len]
    rw [← hDC]
    exact of_KA rfl (loop1 _ _ _ _ rfl rfl rfl rfl (by rw [hL]; rfl) rfl rfl)
  obtain ⟨r, h1, h2⟩ := key
  rw [h1, IsF_of.1 h2]
mutual
theorem RFrC_all : ∀ e : XT, RFrC e
  | .node o s n ks ps al ts => RFrC_step o s n ks ps al ts (RFrC_allK ks) (RFrC_allA al)
theorem RFrC_allK : ∀ ks : List XT, ∀ q ∈ ks, RFrC q
  | [] => fun q h => by simp at h
  | x :: ks => fun q h => by
    rcases List.mem_cons.1 h with e | h
    · rw [e]; exact RFrC_all x
    · exact RFrC_allK ks q h
theorem RFrC_allA : ∀ al : List LT, ∀ c ns b, LT.mk c ns b ∈ al → RFrC b
  | [] => fun c ns b h => by simp at h
  | .mk c0 ns0 b0 :: al => fun c ns b h => by
    rcases List.mem_cons.1 h with e | h
    · injection e with e1 e2 e3; rw [e3]; exact RFrC_all b0
    · exact RFrC_allA al c ns b h
end
theorem R20_Free (e : XT) (hs : szX e ≤ 80000) (hn : nodesX e ≤ 80000) (S : List Ent) (tk : List Nat) (k : Nat) : cL Tryz.prog 14 [.agg (exprC e)] S tk k = some (strsA (uniS (freX e [])), S, tk, k) := by
  have h1 := RFrC_all e [] .nilc (by simp; omega) (by omega)
  have hl := freX_len e []
  have h2 := fun S tk k => R04_Union S tk k (freX e []) [] .unk .nilc (by simp; omega)
  rw [List.append_nil] at h2
  obtain ⟨o, s, n, ks, ps, al, ts⟩ := e
  simp only [exprC, List.map_nil, strsA] at h1 h2 ⊢
  generalize freX (.node o s n ks ps al ts) [] = L at *
  refine opP Tryz.func14 Tryz.ntmps14 ?_
  simp (maxSteps := 10^6) +contextual (disch := try exact dqd) only [ev0, simprocAttr, AV.int, AV.bool, AV.str, Tryz.results14, h1, h2]
end
end Go.Proofs.YtmkoiandfojgmaaGreat
/-
  The law Used, walked.
-/



namespace Go.Proofs.YtmkoiandfojgmaaGreat
open Go
section
variable [Depth]
set_option maxRecDepth 100000 in
set_option maxHeartbeats 4000000 in
theorem L28_UniqueUsed (hD : 200 ≤ Depth.d + 1) (e : XT) (hb : bkX e ≤ 1048576) (S : List Ent) (tk : List Nat) (k : Nat) : cL Tryz.prog 4 [.agg (exprC e)] S tk k = some (.bool true, S, tk, k) := by
  have ha := L28_alive hD
  have hn := R20_Nodes _ e (Nat.le_refl _) hb
  obtain ⟨mc, hc, hcg⟩ := R20_Check e hb
  by_cases h200 : nodesX e ≤ 200
  case neg =>
    have d1 : decide (((nodesX e : Nat) : Int) > 200) = true := decide_eq_true (by omega)
    obtain ⟨o, s, n, ks, ps, al, ts⟩ := e
    simp only [exprC] at hn hc
    refine opP Tryz.func4 Tryz.ntmps4 ?_
    simp (maxSteps := 10^6) +contextual (disch := try exact dqd) only [ev0, simprocAttr, AV.int, AV.bool, AV.str, Tryz.results4, exprC, hn, d1, ha]
  have d1 : decide (((nodesX e : Nat) : Int) > 200) = false := decide_eq_false (by omega)
  by_cases hc0 : mc = 0
  case neg =>
    have d2 : (mc != 0) = true := by simpa using hc0
    obtain ⟨o, s, n, ks, ps, al, ts⟩ := e
    simp only [exprC] at hn hc
    refine opP Tryz.func4 Tryz.ntmps4 ?_
    simp (maxSteps := 10^6) +contextual (disch := try exact dqd) only [ev0, simprocAttr, AV.int, AV.bool, AV.str, Tryz.results4, exprC, hn, d1, hc, d2, ha]
  have hg := hcg hc0
  subst hc0
  have h6 := dp_le_nodes e
  have h7 := sz_good e hg
  obtain ⟨L, hL⟩ : ∃ L, L = uniS (usedX e []) := ⟨_, rfl⟩
  obtain ⟨F, hF⟩ : ∃ F, F = uniS (freX e []) := ⟨_, rfl⟩
  have hLl : L.length ≤ 200 := by
    have h8 := (uni_facts (usedX e [])).2.2
    have h9 := usedX_len e []
    rw [hL]; omega
  have hFl : F.length ≤ 200 := by
    have h8 := (uni_facts (freX e [])).2.2
    have h9 := freX_len e []
    rw [hF]; omega
  have hin : ∀ x ∈ L, x ∈ F := fun x hx => by
    rw [hL] at hx
    rw [hF]
    exact ((uni_facts _).2.1 x).2 (used_free e [] x (((uni_facts _).2.1 x).1 hx))
  have hU := unique_Used e (by omega) (by omega)
  have hR := R28_Used e hg (by omega) (by omega)
  have hFr := R20_Free e (by omega) (by omega)
  rw [← hL] at hU hR
  rw [← hF] at hFr
  clear hL hF
  have hfi := fun (x : ByteArray) S tk k => R04_FindC F .unk x (by omega) S tk k
  have hsame := fun S tk k => R04_Same L L .unk .unk (by omega) S tk k
  have hsl : sameL L L = true := (sameL_iff L L).2 rfl
  rw [hsl] at hsame
  obtain ⟨o, s, n, ks, ps, al, ts⟩ := e
  simp only [exprC, strsA] at hn hc hU hR hFr
  refine opP Tryz.func4 Tryz.ntmps4 ?_
  simp (maxSteps := 10^6) +contextual (disch := try exact dqd) only [ev0, simprocAttr, AV.int, AV.bool, AV.str, Tryz.results4, exprC, hn, d1, hc, hU, hFr, List.length_map]
  refine loop1 (P := Tryz.prog) (fun x st => st.T.length = 38 ∧ (x ≤ L.length) ∧ getT st.T 1 = .ref 0 0 0 ∧ getT st.T 3 = .frz (L.map strC) .unk ∧ getT st.T 4 = .frz (F.map strC) .unk ∧ getT st.T 20 = .frz (L.map strC) .unk ∧ getT st.T 21 = .int (L.length : Nat) ∧ getT st.T 22 = .int (x : Nat) ∧ st.S = [⟨0, [.prim (.int .i64 o), .prim (.string s), .prim (.int .i64 n), .frz (exprsC ks) .unk, .frz (ps.map paramC) .unk, .frz (altsC al) .unk, .frz (typesC ts) .unk]⟩]) (fun x => L.length - x) (fun x => .bool true) (0) ?_ ?_
  case refine_2 => exact ⟨rfl, Nat.zero_le _, rfl, rfl, rfl, rfl, rfl, rfl, rfl⟩
  rintro i ⟨T, S', tk', n'⟩ ⟨hl, hi, e1, e3, e4, e20, e21, e22, eS⟩ IH
  subst eS
  obtain ⟨g, hg, hT⟩ := tab_of hl
  rw [hg] at e1 e3 e4 e20 e21 e22
  subst hT
  clear hg hl
  by_cases la : i < L.length
  · have d3 : decide ((i : Int) < (L.length : Int)) = true := by simpa using la
    obtain ⟨x, hx⟩ := nth_some la
    have hx' := nth_strs hx
    simp only [strC] at hx'
    have hw := wrap_add (i := i) (by omega)
    have hf := hfi x
    have d4 := findF_lt F x
    rw [memB_iff.2 (hin x (nth_memU hx))] at d4
    simp only [Bool.not_true] at d4
    simp (maxSteps := 10^6) +contextual (disch := try exact dqd) only [ev0, simprocAttr, AV.int, AV.bool, AV.str, Tryz.results4, e1, e3, e4, e20, e21, e22, d3, hx', hf, d4, hw]
    exact IH ((i + 1)) _ (by first | omega | (simp only; omega)) ⟨rfl, la, rfl, rfl, rfl, rfl, rfl, rfl, rfl⟩
  · have d3 : decide ((i : Int) < (L.length : Int)) = false := by simpa using la
    simp (maxSteps := 10^6) +contextual (disch := try exact dqd) only [ev0, simprocAttr, AV.int, AV.bool, AV.str, Tryz.results4, e1, e3, e4, e20, e21, e22, d3, hR, hsame, ha]
end
end Go.Proofs.YtmkoiandfojgmaaGreat
/-
  With nothing told from outside: whether a list holds a name; copies of a list.
-/

namespace Go.Proofs.YtmkoiandfojgmaaGreat
open Go
namespace UN
@[reducible] noncomputable def EN : Ext Tryz.prog where
  on := fun _ => false
  call := fun _ _ _ _ _ => none
  mv := fun _ => false
  lp := fun _ _ => none
theorem en_ok : @ExtOk _ Tryz.prog EN := by
  refine @ExtOk.mk _ _ EN ?_ ?_ ?_
  · intro c st st' _ h
    cases h
  · intro f args S tk n r S' tk' n' h
    simp [extC] at h
  · intro M f args S tk n r S' tk' n' h
    unfold callP at h
    split at h
    · simp [extC] at h
    · cases h
attribute [local instance] EN
attribute [local instance] en_ok
theorem ext_mv (f : FuncId) : Ext.mv Tryz.prog f = false := rfl
set_option linter.defProp false in
def ev0 := And.intro ext_mv <| And.intro @entAt.eq_def <| And.intro evt tys
section
variable (S : List Ent) (tk : List Nat) (k : Nat)
theorem slices_Index (l : List ByteArray) (s : ByteArray) (hlen : l.length ≤ 1048576) : cL Tryz.prog 83 [strsA l, .str s] S tk k = some (.int (findF 0 l s), S, tk, k) := by
  refine opP Tryz.func83 Tryz.ntmps83 ?_
  simp (maxSteps := 10^6) +contextual (disch := try exact dqd) only [ev0, simprocAttr, AV.int, AV.bool, AV.str, Tryz.results83, strsA]
  refine loop1 (P := Tryz.prog) (fun x st => st.T.length = 19 ∧ (x ≤ l.length) ∧ (findF 0 l s = findF x (l.drop x) s) ∧ getT st.T 0 = strsA l ∧ getT st.T 1 = .str s ∧ getT st.T 7 = .int (l.length : Nat) ∧ getT st.T 8 = .int (x : Nat) ∧ st.S = []) (fun x => l.length - x) (fun x => .int (findF 0 l s)) (0) ?_ ?_
  case refine_2 => exact ⟨rfl, Nat.zero_le _, rfl, rfl, rfl, rfl, rfl, rfl⟩
  rintro i ⟨T, S', tk', n'⟩ ⟨hl, hi, hA, e0, e1, e7, e8, eS⟩ IH
  subst eS
  obtain ⟨g, hg, hT⟩ := tab_of hl
  rw [hg] at e0 e1 e7 e8
  subst hT
  clear hg hl
  by_cases la : i < l.length
  · have d1 : decide ((i : Int) < (l.length : Int)) = true := by simpa using la
    obtain ⟨x, hx⟩ := nth_some la
    have hx' := nth_strs hx
    have hw := wrap_add (i := i) (by omega)
    rw [nth_drop hx] at hA
    simp only [findF] at hA
    have hsy := sEq_comm s x
    cases hq : sEq x s <;> rw [hq] at hA hsy
    · simp (maxSteps := 10^6) +contextual (disch := try exact dqd) only [ev0, simprocAttr, AV.int, AV.bool, AV.str, Tryz.results83, e0, e1, e7, e8, d1, hx', hw, strC, strsA, hsy]
      exact IH (i + 1) _ (by omega) ⟨rfl, by omega, by simpa using hA, rfl, rfl, rfl, rfl, rfl⟩
    · simp (maxSteps := 10^6) +contextual (disch := try exact dqd) only [ev0, simprocAttr, AV.int, AV.bool, AV.str, Tryz.results83, e0, e1, e7, e8, d1, hx', hw, strC, strsA, hsy]
      simpa using hA.symm
  · have d1 : decide ((i : Int) < (l.length : Int)) = false := by simpa using la
    have he : i = l.length := by omega
    simp (maxSteps := 10^6) +contextual (disch := try exact dqd) only [ev0, simprocAttr, AV.int, AV.bool, AV.str, Tryz.results83, e0, e1, e7, e8, d1]
    rw [hA, he, List.drop_length]; rfl
theorem slices_Contains (l : List ByteArray) (s : ByteArray) (hlen : l.length ≤ 1048576) : cL Tryz.prog 53 [strsA l, .str s] S tk k = some (.bool (memB l s), S, tk, k) := by
  refine opP Tryz.func53 Tryz.ntmps53 ?_
  have c := fun S tk k => slices_Index S tk k l s hlen
  simp only [strsA] at c
  have hn := findF_nn l 0 s
  simp (maxSteps := 10^6) +contextual (disch := try exact dqd) only [ev0, simprocAttr, AV.int, AV.bool, AV.str, Tryz.results53, c, strsA, hn]
end
theorem Contains_calls (hm : Tryz.prog.follows .mixedOrders = true) {C : Cx} (hs : SR C) {l : List ByteArray} {c : Cap} {s : ByteArray} {x : Value} (hl : l.length ≤ 1048576) (hx : VR C (.frz (l.map strC) c) x) :
    Calls Tryz.prog 53 #[x, .string s] C.w fun e w' => ∃ C', e = .returned (.bool (memB l s)) ∧ C'.w = w' ∧ Le C C' ∧ SR C' ∧ C'.S = C.S ∧ C'.tk = C.tk ∧ C'.n = C.n := by
  have hx' : VR C (strsA l) x := by
    simp only [VR, strsA] at hx ⊢
    obtain ⟨a, len, cap, h1, h2, h3, -, h5⟩ := hx
    exact ⟨a, len, cap, h1, h2, h3, trivial, h5⟩
  refine Calls.mono (calls_of hm (slices_Contains C.S C.tk C.n l s hl) rfl rfl rfl hs (vs := #[x, .string s]) (by simp only [VRs, and_true]; exact ⟨hx', by simp only [AV.str, VR]⟩)) ?_
  rintro e w' ⟨v, C', rfl, h1, h2, h3, h4, h5, h6, h7⟩
  simp only [VR] at h7
  subst h7
  exact ⟨C', rfl, h1, h2, h3, h4, h5, h6⟩
end UN
end Go.Proofs.YtmkoiandfojgmaaGreat
