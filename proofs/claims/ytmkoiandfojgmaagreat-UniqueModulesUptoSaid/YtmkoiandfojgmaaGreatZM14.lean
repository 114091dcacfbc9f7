/-
  Texts laid together: UX13, UX14, UX15, URN.
-/
import Derived.Test.YtmkoiandfojgmaaGreatZM13
import Derived.Test.YtmkoiandfojgmaaGreatZM11
namespace Go.Proofs.YtmkoiandfojgmaaGreat
open Go
mutual
def usedX : XT → List ByteArray → List ByteArray
  | .node o s _ ks ps al _, bs => if o = 3 ∧ memB bs s = false then [s] else usedK o s ps 0 ks bs ++ usedA al bs
def usedK (o : Int) (s : ByteArray) (ps : List (ByteArray × TT)) : Nat → List XT → List ByteArray → List ByteArray
  | _, [], _ => []
  | i, k :: ks, bs => (if o = 23 ∧ k.op = 3 then [] else usedX k (underF o s ps i bs)) ++ usedK o s ps (i + 1) ks bs
def usedA : List LT → List ByteArray → List ByteArray
  | [], _ => []
  | .mk _ ns b :: al, bs => usedX b (bs ++ ns) ++ usedA al bs
end
mutual
theorem used_len : ∀ (e : XT) (bs : List ByteArray), (usedX e bs).length ≤ nodesX e
  | .node o s n ks ps al ts, bs => by
    have := used_lenK o s ps ks 0 bs
    have := used_lenA al bs
    simp only [usedX, nodesX]
    split
    · simp; omega
    · rw [List.length_append]; omega
theorem used_lenK (o : Int) (s : ByteArray) (ps : List (ByteArray × TT)) : ∀ (ks : List XT) (i : Nat) (bs : List ByteArray), (usedK o s ps i ks bs).length ≤ nodesXs ks
  | [], _, _ => by simp [usedK]
  | k :: ks, i, bs => by
    have h1 := used_len k (underF o s ps i bs)
    have := used_lenK o s ps ks (i + 1) bs
    simp only [usedK, nodesXs, List.length_append]
    split
    · simp; omega
    · omega
theorem used_lenA : ∀ (al : List LT) (bs : List ByteArray), (usedA al bs).length ≤ nodesLs al
  | [], _ => by simp [usedA]
  | .mk _ ns b :: al, bs => by
    have := used_len b (bs ++ ns)
    have := used_lenA al bs
    simp only [usedA, nodesLs, List.length_append]; omega
end
theorem usedK_app (o : Int) (s : ByteArray) (ps : List (ByteArray × TT)) (bs : List ByteArray) : ∀ (a b : List XT) (i : Nat), usedK o s ps i (a ++ b) bs = usedK o s ps i a bs ++ usedK o s ps (i + a.length) b bs
  | [], b, i => by simp [usedK]
  | k :: a, b, i => by
    simp only [List.cons_append, usedK, usedK_app o s ps bs a b (i + 1), List.append_assoc, List.length_cons, show i + 1 + a.length = i + (a.length + 1) by omega]
theorem usedK_take (o : Int) (s : ByteArray) (ps : List (ByteArray × TT)) (bs : List ByteArray) {ks : List XT} {j : Nat} {q : XT} (h : nth ks j = some q) : usedK o s ps 0 (ks.take (j + 1)) bs = usedK o s ps 0 (ks.take j) bs ++ (if o = 23 ∧ q.op = 3 then [] else usedX q (underF o s ps j bs)) := by
  have hl := nth_lt h
  rw [take_mapS h, usedK_app]
  simp only [usedK, List.append_nil, List.length_take, Nat.zero_add, Nat.min_eq_left (Nat.le_of_lt hl)]
theorem usedA_app (bs : List ByteArray) : ∀ (a b : List LT), usedA (a ++ b) bs = usedA a bs ++ usedA b bs
  | [], b => by simp [usedA]
  | .mk _ _ _ :: a, b => by simp only [List.cons_append, usedA, usedA_app bs a b, List.append_assoc]
theorem usedA_take (bs : List ByteArray) {al : List LT} {j : Nat} {c : ByteArray} {ns : List ByteArray} {b : XT} (h : nth al j = some (.mk c ns b)) : usedA (al.take (j + 1)) bs = usedA (al.take j) bs ++ usedX b (bs ++ ns) := by
  rw [take_mapS h, usedA_app]
  simp only [usedA, List.append_nil]
theorem nodesLs_app : ∀ a b : List LT, nodesLs (a ++ b) = nodesLs a + nodesLs b
  | [], b => by simp [nodesLs]
  | .mk _ _ _ :: a, b => by simp only [List.cons_append, nodesLs, nodesLs_app a b]; omega
theorem nodes_takeL (l : List LT) (i : Nat) : nodesLs (l.take i) ≤ nodesLs l := by
  have := nodesLs_app (l.take i) (l.drop i)
  rw [List.take_append_drop] at this
  omega
theorem nodes_takeX (l : List XT) (i : Nat) : nodesXs (l.take i) ≤ nodesXs l := by
  have := nodesXs_app (l.take i) (l.drop i)
  rw [List.take_append_drop] at this
  omega
theorem nodesXs_mem : ∀ {l : List XT} {k : XT}, k ∈ l → nodesX k ≤ nodesXs l
  | x :: l, k, h => by
    simp only [nodesXs]
    rcases List.mem_cons.1 h with rfl | h
    · omega
    · have := nodesXs_mem h; omega
theorem okCap_more {tk : List Nat} {c : Cap} {sz : Nat} (h : okCap tk c sz = true) : okCap (capPut (tk ++ [0]) (.tok tk.length 0 1)) c sz = true := by
  cases c with
  | tok id ep s =>
    simp only [okCap, Bool.and_eq_true, beq_iff_eq] at h ⊢
    refine ⟨h.1, ?_⟩
    have hl := nth_lt h.2
    simp only [capPut]
    rw [nth_put_other (by omega), nth_get, List.getElem?_append_left hl, ← nth_get]
    exact h.2
  | _ => exact h
def IsF (R : List ByteArray) (r : Rs) : Prop := r.1 = .frz (R.map strC) .unk
theorem IsF_of {R : List ByteArray} {v : AV} {x : List Ent × List Nat × Nat} : IsF R (v, x) ↔ v = .frz (R.map strC) .unk := Iff.rfl
section
variable [Depth]
def UsedC (e : XT) : Prop := ∀ (bs : List ByteArray) (c : Cap), bs.length + szX e ≤ 1048576 → nodesX e ≤ 1048576 → ∀ S tk k, cL Tryz.prog 36 [.agg (exprC e), .frz (bs.map strC) c] S tk k = some (.frz ((usedX e bs).map strC) .unk, S, tk, k)
set_option maxRecDepth 100000 in
set_option maxHeartbeats 4000000 in
theorem used_step (o : Int) (s : ByteArray) (n : Int) (ks : List XT) (ps : List (ByteArray × TT)) (al : List LT) (ts : List TT) (ihk : ∀ q ∈ ks, UsedC q) (iha : ∀ c ns b, LT.mk c ns b ∈ al → UsedC b) : UsedC (.node o s n ks ps al ts) := by
  intro bs c hsz hnd S tk k
  have hln := used_len (.node o s n ks ps al ts) bs
  simp only [szX] at hsz
  simp only [nodesX] at hnd
  have hks := szXs_len ks
  have hal := szLs_len al
  have hcon := fun S tk k => slices_Contains S tk k bs .unk s (by omega)
  obtain ⟨R, hR⟩ : ∃ R, R = usedX (.node o s n ks ps al ts) bs := ⟨_, rfl⟩
  rw [← hR]
  simp only [usedX] at hR
  obtain ⟨DC, hDC⟩ : ∃ DC : List AV, DC = [.prim (.int .i64 o), .prim (.string s), .prim (.int .i64 n), .frz (exprsC ks) .unk, .frz (ps.map paramC) .unk, .frz (altsC al) .unk, .frz (typesC ts) .unk] := ⟨_, rfl⟩
  have loop2 : ∀ (T : List AV) (tk2 : List Nat) (k2 : Nat) (c' : Cap), T.length = 67 → getT T 1 = .frz (bs.map strC) .unk → getT T 5 = .frz ((usedK o s ps 0 ks bs).map strC) c' → getT T 49 = .frz (altsC al) .unk → getT T 50 = .int (al.length : Nat) → getT T 51 = .int (0 : Nat) → okCap tk2 c' 1 = true → R = usedK o s ps 0 ks bs ++ usedA al bs →
      Gd finE (IsF R) (KA Tryz.prog Tryz.f36 11 [] ⟨T, [⟨0, DC⟩], tk2, k2⟩) := by
    intro T tk2 k2 c' hT h1 h5 h49 h50 h51 hok hA0
    refine KA_of rfl (t := .mk) ?_
    refine loopG (P := Tryz.prog) (fun x st => st.T.length = 67 ∧ (x.1 ≤ al.length) ∧ (okCap st.tk x.2.1 1 = true) ∧ (x.2.2 = (usedK o s ps 0 ks bs ++ usedA (al.take x.1) bs).map strC) ∧ getT st.T 1 = .frz (bs.map strC) .unk ∧ getT st.T 5 = .frz x.2.2 x.2.1 ∧ getT st.T 49 = .frz (altsC al) .unk ∧ getT st.T 50 = .int (al.length : Nat) ∧ getT st.T 51 = .int (x.1 : Nat) ∧ st.S = [⟨0, DC⟩]) (fun x => al.length - x.1) ((0 : Nat), c', (usedK o s ps 0 ks bs).map strC) ?_ ?_
    case refine_2 => exact ⟨(by first | rfl | assumption), Nat.zero_le _, hok, by simp [usedA], (by first | rfl | assumption), (by first | rfl | assumption), (by first | rfl | assumption), (by first | rfl | assumption), (by first | rfl | assumption), (by first | rfl | assumption)⟩
    rintro ⟨j, cc, L⟩ ⟨T, S', tk', n'⟩ ⟨hl, hj, hok2, hL, e1, e5, e49, e50, e51, eS⟩ IH
    simp only at hj hok2 hL e1 e5 e49 e50 e51 eS
    subst eS
    obtain ⟨g, hg, hT⟩ := tab_of hl
    rw [hg] at e1 e5 e49 e50 e51
    subst hT
    clear hg hl
    by_cases hlt : j < al.length
    · have d1 : decide ((j : Int) < (al.length : Int)) = true := by simpa using hlt
      obtain ⟨q, hq⟩ := nth_some hlt
      have hq' := nth_alts hq
      have hqm := nth_memU hq
      have hszq := szLs_mem hqm
      have hw := wrap_add (i := j) (by omega)
      obtain ⟨qc, qns, qb⟩ := q
      simp only [szL] at hszq
      have hndq : nodesX qb ≤ 1048576 := by
        have : ∀ {l : List LT}, LT.mk qc qns qb ∈ l → nodesX qb ≤ nodesLs l := by
          intro l
          induction l with
          | nil => intro h; simp at h
          | cons a l ih =>
            intro h
            obtain ⟨c0, n0, b0⟩ := a
            simp only [nodesLs]
            rcases List.mem_cons.1 h with h | h
            · injection h with e1 e2 e3; rw [e3]; omega
            · have := ih h; omega
        have := this hqm
        omega
      have hcl := fun S tk k => slices_CloneT S tk k bs .unk (by omega)
      have hrs := rowsOk_strs bs
      have hrn := rowsOk_strs qns
      have hlen : (bs.map strC).length + (qns.map strC).length ≤ 1048576 := by simp; omega
      have hcn : okCap (tk' ++ [0]) (.tok tk'.length 0 1) 1 = true := okCap_fresh
      have hok3 := okCap_more hok2
      have hih := fun c => iha qc qns qb hqm (bs ++ qns) c (by simp; omega) hndq
      have htk := usedA_take bs hq
      have hrL : rowsOk 1 L = true := by rw [hL]; exact rowsOk_strs _
      have hru := rowsOk_strs (usedX qb (bs ++ qns))
      have hul := used_len qb (bs ++ qns)
      have hL2 : L ++ (usedX qb (bs ++ qns)).map strC = (usedK o s ps 0 ks bs ++ usedA (al.take (j + 1)) bs).map strC := by rw [htk, hL]; simp
      have hlen2 : L.length + ((usedX qb (bs ++ qns)).map strC).length ≤ 1048576 := by
        have e := congrArg List.length hL2
        simp only [List.length_append, List.length_map] at e ⊢
        rw [e]
        have := used_lenK o s ps ks 0 bs
        have h7 := used_lenA (al.take (j + 1)) bs
        have h8 := nodes_takeL al (j + 1)
        omega
      subst hDC
      obtain ⟨qo, qs, qn, qk, qp, qa, qt⟩ := qb
      simp only [altC, exprC, strsA] at hq'
      simp only [exprC, List.map_append] at hih
      generalize (usedX (.node qo qs qn qk qp qa qt) (bs ++ qns)).map strC = UL at *
      simp (maxSteps := 10^6) +contextual (disch := try exact dqd) only [ev0, simprocAttr, AV.int, AV.bool, AV.str, Tryz.results36, gE, e1, e5, e49, e50, e51, d1, hq', hw, hcl, hrs, hrn, hlen, gO_refl, reA_nil, hih, hrL, hru, hlen2, hok3, xfs]
      exact IH ((j + 1, _, _)) _ (by first | omega | (simp only; omega)) ⟨rfl, hlt, okCap_new hok3, hL2, rfl, rfl, rfl, rfl, rfl, rfl⟩
    · have d1 : decide ((j : Int) < (al.length : Int)) = false := by simpa using hlt
      rw [List.take_of_length_le (by omega)] at hL
      subst hL
      simp (maxSteps := 10^6) +contextual (disch := try exact dqd) only [ev0, simprocAttr, AV.int, AV.bool, AV.str, Tryz.results36, gE, e1, e5, e49, e50, e51, d1]
      rw [IsF_of, hA0]
  have loop1 : ∀ (T : List AV) (tk2 : List Nat) (k2 : Nat), T.length = 67 → getT T 1 = .frz (bs.map strC) .unk → getT T 2 = .ref 0 0 0 → getT T 5 = .frz [] .nilc → getT T 24 = .frz (exprsC ks) .unk → getT T 25 = .int (ks.length : Nat) → getT T 26 = .int (0 : Nat) → R = usedK o s ps 0 ks bs ++ usedA al bs →
      Gd finE (IsF R) (KA Tryz.prog Tryz.f36 5 [] ⟨T, [⟨0, DC⟩], tk2, k2⟩) := by
    intro T tk2 k2 hT h1 h2 h5 h24 h25 h26 hA0
    refine KA_of rfl (t := .mk) ?_
    refine loopG (P := Tryz.prog) (fun x st => st.T.length = 67 ∧ (x.1 ≤ ks.length) ∧ (okCap st.tk x.2.1 1 = true) ∧ (x.2.2 = (usedK o s ps 0 (ks.take x.1) bs).map strC) ∧ getT st.T 1 = .frz (bs.map strC) .unk ∧ getT st.T 2 = .ref 0 0 0 ∧ getT st.T 5 = .frz x.2.2 x.2.1 ∧ getT st.T 24 = .frz (exprsC ks) .unk ∧ getT st.T 25 = .int (ks.length : Nat) ∧ getT st.T 26 = .int (x.1 : Nat) ∧ st.S = [⟨0, DC⟩]) (fun x => ks.length - x.1) ((0 : Nat), Cap.nilc, ([] : List (List AV))) ?_ ?_
    case refine_2 => exact ⟨(by first | rfl | assumption), Nat.zero_le _, rfl, by simp [usedK], (by first | rfl | assumption), (by first | rfl | assumption), (by first | rfl | assumption), (by first | rfl | assumption), (by first | rfl | assumption), (by first | rfl | assumption), (by first | rfl | assumption)⟩
    rintro ⟨j, cc, L⟩ ⟨T, S', tk', n'⟩ ⟨hl, hj, hok2, hL, e1, e2, e5, e24, e25, e26, eS⟩ IH
    simp only at hj hok2 hL e1 e2 e5 e24 e25 e26 eS
    subst eS
    obtain ⟨g, hg, hT⟩ := tab_of hl
    rw [hg] at e1 e2 e5 e24 e25 e26
    subst hT
    clear hg hl
    by_cases hlt : j < ks.length
    · have d1 : decide ((j : Int) < (ks.length : Int)) = true := by simpa using hlt
      obtain ⟨q, hq⟩ := nth_some hlt
      have hq' := nth_exprs hq
      have hqm := nth_memU hq
      have hszq := szXs_mem hqm
      have hndq := nodesXs_mem hqm
      have hw := wrap_add (i := j) (by omega)
      have hul := under_len o s ps j bs
      have hun := fun S tk k => unique_underC S tk k o s n ks ps al ts j bs .unk (by omega)
      have hih := ihk q hqm (underF o s ps j bs) .unk (by omega) (by omega)
      have htk := usedK_take o s ps bs hq
      have hrL : rowsOk 1 L = true := by rw [hL]; exact rowsOk_strs _
      have hru := rowsOk_strs (usedX q (underF o s ps j bs))
      have huq := used_len q (underF o s ps j bs)
      have hlen2 : L.length + ((usedX q (underF o s ps j bs)).map strC).length ≤ 1048576 := by
        rw [hL]
        simp only [List.length_map]
        have h7 := used_lenK o s ps (ks.take j) 0 bs
        have h8 := nodes_takeX ks (j + 1)
        rw [take_mapS hq, nodesXs_app] at h8
        simp only [nodesXs] at h8
        omega
      by_cases hg : o = 23 ∧ q.op = 3
      · rw [if_pos hg, List.append_nil] at htk
        rw [← htk] at hL
        obtain ⟨h23, h3⟩ := hg
        subst hDC h23
        obtain ⟨qo, qs, qn, qk, qp, qa, qt⟩ := q
        simp only [XT.op] at h3
        subst h3
        simp only [exprC] at hq'
        simp (maxSteps := 10^6) +contextual (disch := try exact dqd) only [ev0, simprocAttr, AV.int, AV.bool, AV.str, Tryz.results36, gE, e1, e2, e5, e24, e25, e26, d1, hq', hw]
        exact IH ((j + 1, _, _)) _ (by first | omega | (simp only; omega)) ⟨rfl, hlt, hok2, hL, rfl, rfl, rfl, rfl, rfl, rfl, rfl⟩
      · rw [if_neg hg] at htk
        have hL2 : L ++ (usedX q (underF o s ps j bs)).map strC = (usedK o s ps 0 (ks.take (j + 1)) bs).map strC := by rw [htk, hL]; simp
        by_cases h23 : o = 23
        · have h3 : ¬ q.op = 3 := fun h => hg ⟨h23, h⟩
          subst hDC h23
          obtain ⟨qo, qs, qn, qk, qp, qa, qt⟩ := q
          simp only [XT.op] at h3
          have d3 : (qo == 3) = false := by simpa using h3
          simp only [exprC, strsA] at hq' hun hih
          generalize (usedX (.node qo qs qn qk qp qa qt) (underF 23 s ps j bs)).map strC = UL at *
          simp (maxSteps := 10^6) +contextual (disch := try exact dqd) only [ev0, simprocAttr, AV.int, AV.bool, AV.str, Tryz.results36, gE, e1, e2, e5, e24, e25, e26, d1, d3, hq', hw, hun, hih, gO_refl, hrL, hru, hlen2, hok2, xfs]
          exact IH ((j + 1, _, _)) _ (by first | omega | (simp only; omega)) ⟨rfl, hlt, okCap_new hok2, hL2, rfl, rfl, rfl, rfl, rfl, rfl, rfl⟩
        · have d23 : (o == 23) = false := by simpa using h23
          subst hDC
          obtain ⟨qo, qs, qn, qk, qp, qa, qt⟩ := q
          simp only [exprC, strsA] at hq' hun hih
          generalize (usedX (.node qo qs qn qk qp qa qt) (underF o s ps j bs)).map strC = UL at *
          simp (maxSteps := 10^6) +contextual (disch := try exact dqd) only [ev0, simprocAttr, AV.int, AV.bool, AV.str, Tryz.results36, gE, e1, e2, e5, e24, e25, e26, d1, d23, hq', hw, hun, hih, gO_refl, hrL, hru, hlen2, hok2, xfs]
          exact IH ((j + 1, _, _)) _ (by first | omega | (simp only; omega)) ⟨rfl, hlt, okCap_new hok2, hL2, rfl, rfl, rfl, rfl, rfl, rfl, rfl⟩
    · have d1 : decide ((j : Int) < (ks.length : Int)) = false := by simpa using hlt
      rw [List.take_of_length_le (by omega)] at hL
      subst hL
      have hDC2 := hDC
      subst hDC
      simp (maxSteps := 10^6) +contextual (disch := try exact dqd) only [ev0, simprocAttr, AV.int, AV.bool, AV.str, Tryz.results36, gE, e1, e2, e5, e24, e25, e26, d1, altsC_len]
      rw [← hDC2]
      exact of_KA rfl (loop2 _ _ _ _ rfl rfl rfl rfl rfl rfl hok2 hA0)
  have key : ∃ r, (∀ S tk kk, cL Tryz.prog 36 [.agg (exprC (.node o s n ks ps al ts)), .frz (bs.map strC) c] S tk kk = some (r, S, tk, kk)) ∧ IsF R (r, [], [], 0) := by
    refine opE Tryz.func36 Tryz.ntmps36 (fun r h => by rw [h]; rfl) ?_
    by_cases h3 : o = 3
    · subst h3
      cases hm : memB bs s
      · rw [hm, if_pos ⟨rfl, rfl⟩] at hR
        simp (maxSteps := 10^6) +contextual (disch := try exact dqd) only [ev0, simprocAttr, AV.int, AV.bool, AV.str, Tryz.results36, gE, exprC, hcon, hm]
        rw [IsF_of, hR]; rfl
      · rw [hm, if_neg (by simp)] at hR
        simp (maxSteps := 10^6) +contextual (disch := try exact dqd) only [ev0, simprocAttr, AV.int, AV.bool, AV.str, Tryz.results36, gE, exprC, exprsC_len, hcon, hm]
        rw [← hDC]
        exact of_KA rfl (loop1 _ _ _ rfl rfl rfl rfl rfl rfl rfl hR)
    · have d3 : (o == 3) = false := by simpa using h3
      rw [if_neg (fun h => h3 h.1)] at hR
      simp (maxSteps := 10^6) +contextual (disch := try exact dqd) only [ev0, simprocAttr, AV.int, AV.bool, AV.str, Tryz.results36, gE, exprC, exprsC_len, d3]
      rw [← hDC]
      exact of_KA rfl (loop1 _ _ _ rfl rfl rfl rfl rfl rfl rfl hR)
  obtain ⟨r, h1, h2⟩ := key
  rw [h1, IsF_of.1 h2]
mutual
theorem used_all : ∀ e : XT, UsedC e
  | .node o s n ks ps al ts => used_step o s n ks ps al ts (used_allK ks) (used_allA al)
theorem used_allK : ∀ ks : List XT, ∀ q ∈ ks, UsedC q
  | [] => fun q h => by simp at h
  | x :: ks => fun q h => by
    rcases List.mem_cons.1 h with e | h
    · rw [e]; exact used_all x
    · exact used_allK ks q h
theorem used_allA : ∀ al : List LT, ∀ c ns b, LT.mk c ns b ∈ al → UsedC b
  | [] => fun c ns b h => by simp at h
  | .mk c0 ns0 b0 :: al => fun c ns b h => by
    rcases List.mem_cons.1 h with e | h
    · injection e with e1 e2 e3; rw [e3]; exact used_all b0
    · exact used_allA al c ns b h
end
theorem unique_Used (e : XT) (hs : szX e ≤ 262144) (hn : nodesX e ≤ 262144) (S : List Ent) (tk : List Nat) (k : Nat) : cL Tryz.prog 13 [.agg (exprC e)] S tk k = some (strsA (uniS (usedX e [])), S, tk, k) := by
  have h1 := used_all e [] .nilc (by simp; omega) (by omega)
  have hl := used_len e []
  have h2 := fun S tk k => names_Union S tk k (usedX e []) .unk (by omega)
  obtain ⟨o, s, n, ks, ps, al, ts⟩ := e
  simp only [exprC, List.map_nil, strsA] at h1 h2 ⊢
  generalize usedX (.node o s n ks ps al ts) [] = L at *
  refine opP Tryz.func13 Tryz.ntmps13 ?_
  simp (maxSteps := 10^6) +contextual (disch := try exact dqd) only [ev0, simprocAttr, AV.int, AV.bool, AV.str, Tryz.results13, h1, h2]
end
def sameL : List ByteArray → List ByteArray → Bool
  | [], [] => true
  | x :: a, y :: b => sEq x y && sameL a b
  | _, _ => false
theorem sameL_iff : ∀ a b : List ByteArray, sameL a b = true ↔ a = b
  | [], [] => by simp [sameL]
  | x :: a, y :: b => by simp only [sameL, Bool.and_eq_true, sEq_iff, sameL_iff a b, List.cons.injEq]
  | [], _ :: _ => by simp [sameL]
  | _ :: _, [] => by simp [sameL]
theorem sameL_len : ∀ {a b : List ByteArray}, a.length ≠ b.length → sameL a b = false
  | [], [], h => by simp at h
  | x :: a, y :: b, h => by simp only [sameL]; rw [sameL_len (by simpa using h), Bool.and_false]
  | [], _ :: _, _ => rfl
  | _ :: _, [], _ => rfl
section
variable [Depth]
theorem R04_Same (a b : List ByteArray) (c c2 : Cap) (ha : a.length ≤ 1048576) (S : List Ent) (tk : List Nat) (k : Nat) : cL Tryz.prog 16 [.frz (a.map strC) c, .frz (b.map strC) c2] S tk k = some (.bool (sameL a b), S, tk, k) := by
  have hla : (a.map strC).length = a.length := List.length_map ..
  have hlb : (b.map strC).length = b.length := List.length_map ..
  by_cases hl : a.length = b.length
  case neg =>
    rw [sameL_len hl]
    have d0 : ((a.length : Int) != (b.length : Int)) = true := by simp; omega
    refine opP Tryz.func16 Tryz.ntmps16 ?_
    simp (maxSteps := 10^6) +contextual (disch := try exact dqd) only [ev0, simprocAttr, AV.int, AV.bool, AV.str, Tryz.results16, hla, hlb, d0]
  have d0 : ((a.length : Int) != (b.length : Int)) = false := by simp; omega
  refine opP Tryz.func16 Tryz.ntmps16 ?_
  simp (maxSteps := 10^6) +contextual (disch := try exact dqd) only [ev0, simprocAttr, AV.int, AV.bool, AV.str, Tryz.results16, hla, hlb, d0]
  refine loop1 (P := Tryz.prog) (fun x st => st.T.length = 26 ∧ (x ≤ a.length) ∧ (sameL a b = sameL (a.drop x) (b.drop x)) ∧ getT st.T 0 = .frz (a.map strC) .unk ∧ getT st.T 1 = .frz (b.map strC) .unk ∧ getT st.T 12 = .int (a.length : Nat) ∧ getT st.T 13 = .int (x : Nat) ∧ st.S = []) (fun x => a.length - x) (fun x => .bool (sameL a b)) (0) ?_ ?_
  case refine_2 => exact ⟨rfl, Nat.zero_le _, rfl, rfl, rfl, rfl, rfl, rfl⟩
  rintro i ⟨T, S', tk', n'⟩ ⟨hl, hi, hA, e0, e1, e12, e13, eS⟩ IH
  subst eS
  obtain ⟨g, hg, hT⟩ := tab_of hl
  rw [hg] at e0 e1 e12 e13
  subst hT
  clear hg hl
  by_cases la : i < a.length
  · have d1 : decide ((i : Int) < (a.length : Int)) = true := by simpa using la
    obtain ⟨x, hx⟩ := nth_some la
    obtain ⟨y, hy⟩ := nth_some (show i < b.length by omega)
    have hx' := nth_strs hx
    have hy' := nth_strs hy
    have hw := wrap_add (i := i) (by omega)
    rw [nth_drop hx, nth_drop hy] at hA
    simp only [sameL] at hA
    simp only [strC] at hx' hy'
    cases hq : sEq x y <;> rw [hq] at hA
    · simp (maxSteps := 10^6) +contextual (disch := try exact dqd) only [ev0, simprocAttr, AV.int, AV.bool, AV.str, Tryz.results16, e0, e1, e12, e13, d1, hx', hy', hw, hq]
      simpa using hA.symm
    · simp (maxSteps := 10^6) +contextual (disch := try exact dqd) only [ev0, simprocAttr, AV.int, AV.bool, AV.str, Tryz.results16, e0, e1, e12, e13, d1, hx', hy', hw, hq]
      exact IH ((i + 1)) _ (by first | omega | (simp only; omega)) ⟨rfl, la, by simpa using hA, rfl, rfl, rfl, rfl, rfl⟩
  · have d1 : decide ((i : Int) < (a.length : Int)) = false := by simpa using la
    rw [List.drop_eq_nil_of_le (by omega), List.drop_eq_nil_of_le (by omega)] at hA
    simp (maxSteps := 10^6) +contextual (disch := try exact dqd) only [ev0, simprocAttr, AV.int, AV.bool, AV.str, Tryz.results16, e0, e1, e12, e13, d1]
    rw [hA]; rfl
end
end Go.Proofs.YtmkoiandfojgmaaGreat
namespace Go.Proofs.YtmkoiandfojgmaaGreat
open Go
def zP : PT := .node 0 ⟨#[]⟩ 0 []
def cellT : TT := .node 3 ⟨#[]⟩ [] [] zP []
def funT : TT := .node 6 ⟨#[]⟩ [cellT, cellT] [] zP []
def xX (s : ByteArray) : XT := .node 3 s 0 [] [] [] []
def opX (o : Int) (l : List XT) : XT := .node o ⟨#[]⟩ 0 l [] [] []
def letX (s : ByteArray) (a b : XT) : XT := .node 7 s 0 [a, b] [] [] [cellT]
def oneD (b : XT) : DT := ⟨⟨#[102]⟩, [⟨#[99]⟩], b, 0, true, [], [], [], [], funT, []⟩
def oneM (b : XT) : MT := ⟨[], [], [], [], [], [oneD b]⟩
section
variable [Depth] (S : List Ent) (tk : List Nat) (k : Nat)
theorem L28_x (s : ByteArray) : cL Tryz.prog 20 [.str s] S tk k = some (.agg (exprC (xX s)), S, tk, k) := by
  refine opP Tryz.func20 Tryz.ntmps20 ?_
  simp (maxSteps := 10^6) +contextual (disch := try exact dqd) only [ev0, simprocAttr, AV.int, AV.bool, AV.str, Tryz.results20, xX, exprC, exprsC, altsC, typesC, List.map_nil]
  try rfl
theorem L28_op (o : Int) (l : List XT) (c : Cap) : cL Tryz.prog 19 [.int o, .frz (exprsC l) c] S tk k = some (.agg (exprC (opX o l)), S, tk, k) := by
  refine opP Tryz.func19 Tryz.ntmps19 ?_
  simp (maxSteps := 10^6) +contextual (disch := try exact dqd) only [ev0, simprocAttr, AV.int, AV.bool, AV.str, Tryz.results19, opX, exprC, exprsC, altsC, typesC, List.map_nil]
  try rfl
theorem L28_let (s : ByteArray) (a b : XT) : cL Tryz.prog 22 [.str s, .agg (exprC a), .agg (exprC b)] S tk k = some (.agg (exprC (letX s a b)), S, tk, k) := by
  obtain ⟨o, s', n, ks, ps, al, ts⟩ := a
  obtain ⟨o2, s2, n2, ks2, ps2, al2, ts2⟩ := b
  refine opP Tryz.func22 Tryz.ntmps22 ?_
  simp (maxSteps := 10^6) +contextual (disch := try exact dqd) only [ev0, simprocAttr, AV.int, AV.bool, AV.str, Tryz.results22, letX, exprC, exprsC, altsC, typesC, typeC, predC, predsC, cellT, zP, strsA, List.map_nil, List.cons_append, List.nil_append]
  try rfl
theorem L28_one (b : XT) : cL Tryz.prog 21 [.agg (exprC b)] S tk k = some (.agg (modC (oneM b)), S, tk, k) := by
  obtain ⟨o2, s2, n2, ks2, ps2, al2, ts2⟩ := b
  refine opP Tryz.func21 Tryz.ntmps21 ?_
  simp (maxSteps := 10^6) +contextual (disch := try exact dqd) only [ev0, simprocAttr, AV.int, AV.bool, AV.str, Tryz.results21, oneM, oneD, modC, defC, funT, exprC, exprsC, altsC, typesC, typeC, predC, predsC, cellT, zP, strsA, strC, List.map_nil, List.map_cons, List.cons_append, List.nil_append]
  try rfl
end
end Go.Proofs.YtmkoiandfojgmaaGreat
namespace Go.Proofs.YtmkoiandfojgmaaGreat
open Go
def rightF (b : XT) : Bool := sEq (modF [oneD b]).1 ⟨#[]⟩ && ((modF [oneD b]).2 == 0)
def bc : ByteArray := ⟨#[99]⟩
def bd : ByteArray := ⟨#[100]⟩
def bb : ByteArray := ⟨#[98]⟩
def zT : TT := .node 0 ⟨#[]⟩ [] [] zP []
def nX : XT := .node 1 ⟨#[]⟩ 1 [] [] [] []
def setX : XT := opX 24 [xX bc, nX]
def getX (s : ByteArray) : XT := opX 23 [xX s]
def callX : XT := .node 5 ⟨#[102]⟩ 0 [xX bc, xX bc] [] [] []
def lamX : XT := .node 6 ⟨#[]⟩ 0 [getX bc] [(⟨#[120]⟩, zT)] [] []
def ifX : XT := opX 8 [xX bb, setX, xX bc]
def noM : MT := ⟨[], [], [], [], [], []⟩
theorem small_no : SmallM noM := ⟨by simp [noM], by simp [noM], by simp [noM], by simp [noM], by simp [noM], by simp [noM], by simp [allDefs, noM], by simp [allDefs, noM]⟩
theorem small_one {b : XT} (h : bkX b ≤ 1048576) : SmallM (oneM b) := ⟨by simp [oneM], by simp [oneM], by simp [oneM], by simp [oneM], by simp [oneM], by simp [oneM], by simp [allDefs, oneM], by
  intro d hd
  simp only [allDefs, oneM, List.flatMap_nil, List.append_nil, List.mem_singleton] at hd
  subst hd
  exact ⟨h, (by decide +kernel : bkT funT ≤ 1048576), by simp [oneD]⟩⟩
section
variable [Depth]
theorem mod_one (b : XT) (hd : dpX b ≤ Depth.d + 1) (hs : szX b ≤ 262144) (S : List Ent) (tk : List Nat) (k : Nat) : cL Tryz.prog 7 [.agg (modC (oneM b))] S tk k = some (.tup [.str (modF [oneD b]).1, .int (modF [oneD b]).2], S, tk, k) :=
  unique_Module (oneM b) (by simp [oneM]) (by
    intro d h
    simp only [oneM, List.mem_singleton] at h
    subst h
    exact ⟨hd, hs, by simp [oneD], by simp [oneD, funT, TT.args]⟩) S tk k
theorem right_caps (c1 c2 c3 c4 : Cap) (o : Int) (s : ByteArray) (n : Int) (ks : List XT) (ps : List (ByteArray × TT)) (al : List LT) (ts : List TT) (hd : dpX (.node o s n ks ps al ts) ≤ Depth.d + 1) (hs : szX (.node o s n ks ps al ts) ≤ 262144) (S : List Ent) (tk : List Nat) (k : Nat) : cL Tryz.prog 23 [.agg [.int o, .str s, .int n, .frz (exprsC ks) c1, .frz (ps.map paramC) c2, .frz (altsC al) c3, .frz (typesC ts) c4]] S tk k = some (.bool (rightF (.node o s n ks ps al ts)), S, tk, k) := by
  have h1 := fun S tk k => L28_one S tk k (.node o s n ks ps al ts)
  have h2 := mod_one (.node o s n ks ps al ts) hd hs
  unfold rightF
  generalize modC (oneM (.node o s n ks ps al ts)) = M at *
  generalize (modF [oneD (.node o s n ks ps al ts)]).1 = x at *
  generalize (modF [oneD (.node o s n ks ps al ts)]).2 = y at *
  simp only [exprC] at h1
  refine opP Tryz.func23 Tryz.ntmps23 ?_
  simp (maxSteps := 10^6) +contextual (disch := try exact dqd) only [ev0, simprocAttr, AV.int, AV.bool, AV.str, Tryz.results23, exprC, h1, h2]
  exact ⟨fun _ => trivial, fun _ => trivial⟩
theorem L28_right (b : XT) (hd : dpX b ≤ Depth.d + 1) (hs : szX b ≤ 262144) (S : List Ent) (tk : List Nat) (k : Nat) : cL Tryz.prog 23 [.agg (exprC b)] S tk k = some (.bool (rightF b), S, tk, k) := by
  obtain ⟨o, s, n, ks, ps, al, ts⟩ := b
  exact right_caps .unk .unk .unk .unk o s n ks ps al ts hd hs S tk k
theorem used_caps (c1 c2 c3 c4 : Cap) (o : Int) (s : ByteArray) (n : Int) (ks : List XT) (ps : List (ByteArray × TT)) (al : List LT) (ts : List TT) (hs : szX (.node o s n ks ps al ts) ≤ 262144) (hn : nodesX (.node o s n ks ps al ts) ≤ 262144) (S : List Ent) (tk : List Nat) (k : Nat) : cL Tryz.prog 13 [.agg [.int o, .str s, .int n, .frz (exprsC ks) c1, .frz (ps.map paramC) c2, .frz (altsC al) c3, .frz (typesC ts) c4]] S tk k = some (strsA (uniS (usedX (.node o s n ks ps al ts) [])), S, tk, k) := by
  have h1 := used_all (.node o s n ks ps al ts) [] .nilc (by simp; omega) (by omega)
  have hl := used_len (.node o s n ks ps al ts) []
  have h2 := fun S tk k => names_Union S tk k (usedX (.node o s n ks ps al ts) []) .unk (by omega)
  simp only [exprC, List.map_nil, strsA] at h1 h2 ⊢
  generalize usedX (.node o s n ks ps al ts) [] = L at *
  refine opP Tryz.func13 Tryz.ntmps13 ?_
  simp (maxSteps := 10^6) +contextual (disch := try exact dqd) only [ev0, simprocAttr, AV.int, AV.bool, AV.str, Tryz.results13, h1, h2]
theorem one_caps (c1 c2 c3 c4 : Cap) (o : Int) (s : ByteArray) (n : Int) (ks : List XT) (ps : List (ByteArray × TT)) (al : List LT) (ts : List TT) (S : List Ent) (tk : List Nat) (k : Nat) : cL Tryz.prog 21 [.agg [.int o, .str s, .int n, .frz (exprsC ks) c1, .frz (ps.map paramC) c2, .frz (altsC al) c3, .frz (typesC ts) c4]] S tk k = some (.agg (modC (oneM (.node o s n ks ps al ts))), S, tk, k) := by
  refine opP Tryz.func21 Tryz.ntmps21 ?_
  simp (maxSteps := 10^6) +contextual (disch := try exact dqd) only [ev0, simprocAttr, AV.int, AV.bool, AV.str, Tryz.results21, oneM, oneD, modC, defC, funT, exprC, exprsC, altsC, typesC, typeC, predC, predsC, cellT, zP, strsA, strC, List.map_nil, List.map_cons, List.cons_append, List.nil_append]
  try rfl
end
theorem bk_of (e : XT) (b : Nat) (h : decide (bkX e ≤ b) = true := by decide +kernel) : bkX e ≤ b := of_decide_eq_true h
theorem dp_of (e : XT) (b : Nat) (h : decide (dpX e ≤ b) = true := by decide +kernel) : dpX e ≤ b := of_decide_eq_true h
theorem sz_of (e : XT) (b : Nat) (h : decide (szX e ≤ b) = true := by decide +kernel) : szX e ≤ b := of_decide_eq_true h
theorem nd_of (e : XT) (b : Nat) (h : decide (nodesX e ≤ b) = true := by decide +kernel) : nodesX e ≤ b := of_decide_eq_true h
section
variable [Depth]
set_option maxRecDepth 100000 in
set_option maxHeartbeats 8000000 in
theorem L28_alive (hD : 200 ≤ Depth.d + 1) (S : List Ent) (tk : List Nat) (k : Nat) : cL Tryz.prog 6 [] S tk k = some (.bool true, S, tk, k) := by
  have x1 := fun S tk k => L28_x S tk k bc
  have x2 := fun S tk k => L28_x S tk k bd
  have x3 := fun S tk k => L28_x S tk k bb
  have o1 := fun c S tk k => L28_op S tk k 24 [xX bc, nX] c
  have o2 := fun c S tk k => L28_op S tk k 23 [xX bc] c
  have o3 := fun c S tk k => L28_op S tk k 23 [xX bd] c
  have o4 := fun c S tk k => L28_op S tk k 8 [xX bb, setX, xX bc] c
  have l1 := fun S tk k => L28_let S tk k bd setX (getX bc)
  have l2 := fun S tk k => L28_let S tk k bd setX (getX bd)
  have n1 := fun S tk k => L28_one S tk k (letX bd setX (getX bc))
  have n2 := one_caps .nilc .nilc .nilc .nilc 1 ⟨#[]⟩ 1 [] [] [] []
  have m1 := mod_one (letX bd setX (getX bc)) (by have := dp_of (letX bd setX (getX bc)) 10; omega) (sz_of _ _)
  have r1 := L28_right (letX bd setX (getX bd)) (by have := dp_of (letX bd setX (getX bd)) 10; omega) (sz_of _ _)
  have r2 := right_caps .tight .nilc .nilc .nilc 5 ⟨#[102]⟩ 0 [xX bc, xX bc] [] [] [] (by have := dp_of callX 10; unfold callX at this; omega) (sz_of callX _)
  have r3 := L28_right ifX (by have := dp_of ifX 10; omega) (sz_of _ _)
  have r4 := right_caps .tight .tight .nilc .nilc 6 ⟨#[]⟩ 0 [getX bc] [(⟨#[120]⟩, zT)] [] [] (by have := dp_of lamX 10; unfold lamX at this; omega) (sz_of lamX _)
  have u1 := used_caps .tight .nilc .nilc .nilc 5 ⟨#[102]⟩ 0 [xX bc, xX bc] [] [] [] (sz_of callX _) (nd_of callX _)
  have u2 := used_caps .tight .tight .nilc .nilc 6 ⟨#[]⟩ 0 [getX bc] [(⟨#[120]⟩, zT)] [] [] (sz_of lamX _) (nd_of lamX _)
  have s1 := fun c => R04_Same [bc] [bc] .unk c (by decide +kernel)
  have f1 := unique_Free (oneM nX) (small_one (bk_of _ _))
  have f2 := Free_caps .nilc .nilc .nilc .nilc .nilc .nilc noM small_no
  rw [show modF [oneD (letX bd setX (getX bc))] = (⟨#[102]⟩, 15) by decide +kernel] at m1
  rw [show rightF (letX bd setX (getX bd)) = true by decide +kernel] at r1
  rw [show rightF (.node 5 ⟨#[102]⟩ 0 [xX bc, xX bc] [] [] []) = false by decide +kernel] at r2
  rw [show rightF ifX = true by decide +kernel] at r3
  rw [show rightF (.node 6 ⟨#[]⟩ 0 [getX bc] [(⟨#[120]⟩, zT)] [] []) = false by decide +kernel] at r4
  rw [show uniS (usedX (.node 5 ⟨#[102]⟩ 0 [xX bc, xX bc] [] [] []) []) = [bc] by decide +kernel] at u1
  rw [show uniS (usedX (.node 6 ⟨#[]⟩ 0 [getX bc] [(⟨#[120]⟩, zT)] [] []) []) = [] by decide +kernel] at u2
  rw [show sameL [bc] [bc] = true by decide +kernel] at s1
  rw [show freeF (oneM nX) = false by decide +kernel] at f1
  rw [show freeF noM = true by decide +kernel] at f2
  simp only [callX, lamX, ifX, getX, setX, letX, opX, xX, nX, oneM, oneD, noM, bb, bc, bd, modC, defC, funT, zT, exprC, exprsC, altsC, typesC, typeC, predC, predsC, cellT, zP, paramC, strsA, strC, List.map_nil, List.map_cons, List.cons_append, List.nil_append] at *
  have hs : sEq ⟨#[102]⟩ ⟨#[102]⟩ = true := by decide +kernel
  refine opP Tryz.func6 Tryz.ntmps6 ?_
  simp (maxSteps := 10^6) +contextual (disch := try exact dqd) only [ev0, simprocAttr, AV.int, AV.bool, AV.str, Tryz.results6, x1, x2, x3, o1, o2, o3, o4, l1, l2, n1, n2, m1, r1, r2, r3, r4, u1, u2, s1, f1, f2, hs]
  done
end
end Go.Proofs.YtmkoiandfojgmaaGreat
namespace Go.Proofs.YtmkoiandfojgmaaGreat
open Go
def kwL : List ByteArray := [
  ⟨#[97, 110, 100]⟩,
  ⟨#[97, 115, 115, 117, 109, 101]⟩,
  ⟨#[98, 111, 111, 108]⟩,
  ⟨#[98, 111, 117, 110, 100]⟩,
  ⟨#[99, 97, 115, 101]⟩,
  ⟨#[99, 101, 108, 108]⟩,
  ⟨#[99, 108, 97, 115, 115]⟩,
  ⟨#[100, 97, 116, 97]⟩,
  ⟨#[100, 101, 102]⟩,
  ⟨#[100, 105, 118]⟩,
  ⟨#[101, 108, 115, 101]⟩,
  ⟨#[101, 110, 100]⟩,
  ⟨#[102, 97, 108, 115, 101]⟩,
  ⟨#[102, 111, 114, 97, 108, 108]⟩,
  ⟨#[102, 117, 110]⟩,
  ⟨#[103, 101, 116]⟩,
  ⟨#[105, 102]⟩,
  ⟨#[105, 110]⟩,
  ⟨#[105, 110, 115, 116]⟩,
  ⟨#[105, 110, 116]⟩,
  ⟨#[105, 110, 118, 97, 114, 105, 97, 110, 116]⟩,
  ⟨#[108, 101, 116]⟩,
  ⟨#[109, 97, 116, 99, 104]⟩,
  ⟨#[109, 101, 97, 115, 117, 114, 101]⟩,
  ⟨#[109, 101, 116, 114, 105, 99]⟩,
  ⟨#[109, 111, 100]⟩,
  ⟨#[109, 117]⟩,
  ⟨#[110, 101, 119]⟩,
  ⟨#[110, 111, 116]⟩,
  ⟨#[111, 102]⟩,
  ⟨#[111, 114]⟩,
  ⟨#[113, 117, 97, 108]⟩,
  ⟨#[114, 101, 102, 108, 101, 99, 116]⟩,
  ⟨#[115, 101, 116]⟩,
  ⟨#[116, 104, 101, 110]⟩,
  ⟨#[116, 114, 117, 101]⟩,
  ⟨#[117, 115, 101]⟩,
  ⟨#[118]⟩,
  ⟨#[118, 97, 108]⟩,
  ⟨#[116, 97, 103]⟩,
  ⟨#[119, 104, 101, 114, 101]⟩,
  ⟨#[119, 105, 116, 104]⟩]
def kwF (s : ByteArray) : Bool := kwL.any fun k => sEq k s
def smallB (b : UInt8) : Bool := decide (97 ≤ b.toNat) && decide (b.toNat ≤ 122)
def capB (b : UInt8) : Bool := decide (65 ≤ b.toNat) && decide (b.toNat ≤ 90)
def digB (b : UInt8) : Bool := decide (48 ≤ b.toNat) && decide (b.toNat ≤ 57)
def lowB (b : UInt8) : Bool := smallB b || digB b || decide (b.toNat = 95)
def alnB (b : UInt8) : Bool := smallB b || capB b || digB b
def bsL (s : ByteArray) : List UInt8 := s.data.toList
def sizedF (s : ByteArray) : Bool := decide (1 ≤ s.size) && decide (s.size ≤ 24)
def headB (f : UInt8 → Bool) : List UInt8 → Bool
  | [] => false
  | b :: _ => f b
def nameF (s : ByteArray) : Bool := sizedF s && headB smallB (bsL s) && !kwF s && (bsL s).all lowB
def bInt : ByteArray := ⟨#[73, 110, 116]⟩
def bBool : ByteArray := ⟨#[66, 111, 111, 108]⟩
def bCell : ByteArray := ⟨#[67, 101, 108, 108]⟩
def bFun : ByteArray := ⟨#[70, 117, 110]⟩
def titleF (s : ByteArray) : Bool := sizedF s && headB capB (bsL s) && (bsL s).all alnB && !(sEq s bInt || sEq s bBool || sEq s bCell || sEq s bFun)
def wordF : List UInt8 → Bool
  | [] => true
  | b :: r => smallB b && r.all lowB
def partF (s : ByteArray) : Bool := sizedF s && ((bsL s).all alnB || wordF (bsL s))
def segsL : List UInt8 → List (List UInt8)
  | [] => [[]]
  | b :: r => if b.toNat = 46 then [] :: segsL r else match segsL r with
    | f :: fs => (b :: f) :: fs
    | [] => [[b]]
def ofL (l : List UInt8) : ByteArray := ⟨l.toArray⟩
def segsF (s : ByteArray) : List ByteArray := (segsL (bsL s)).map ofL
def bV : ByteArray := ⟨#[118]⟩
def bTag : ByteArray := ⟨#[116, 97, 103]⟩
def bVal : ByteArray := ⟨#[118, 97, 108]⟩
def coreL : List ByteArray → Bool
  | [] => false
  | f :: fs => (nameF f || titleF f || (sEq f bV && !fs.isEmpty)) && fs.all partF
def coreF (s : ByteArray) : Bool := decide (s.size ≤ 120) && coreL (segsF s)
theorem bsL_len (s : ByteArray) : (bsL s).length = s.size := rfl
theorem at_bs {s : ByteArray} {i : Nat} {b : UInt8} (h : nth (bsL s) i = some b) : s[i]? = some b := by
  rw [nth_get] at h
  have hl : i < (bsL s).length := (List.getElem?_eq_some_iff.1 h).1
  have hs : i < s.size := by rw [← bsL_len]; exact hl
  rw [getElem?_pos s i hs]
  rw [List.getElem?_eq_getElem hl] at h
  rw [← h]
  simp [bsL, ByteArray.getElem_eq_getElem_data]
theorem bs_at {s : ByteArray} {i : Nat} (h : i < s.size) : ∃ b, nth (bsL s) i = some b := nth_some (by rw [bsL_len]; exact h)
theorem sIx {s : ByteArray} {i : Nat} {b : UInt8} (h : nth (bsL s) i = some b) : strIdx true (.prim (.string s)) (some i) = some (.prim (.int .u8 b.toNat)) := by
  unfold strIdx; simp only [if_true]; rw [at_bs h]; rfl
theorem head_at {s : ByteArray} {b : UInt8} {f : UInt8 → Bool} (h : nth (bsL s) 0 = some b) : headB f (bsL s) = f b := by
  cases hl : bsL s with
  | nil => rw [hl] at h; simp [nth] at h
  | cons x l => rw [hl] at h; simp only [nth, Option.some.injEq] at h; subst h; rfl
theorem extract_ofL (s : ByteArray) (a b : Nat) : s.extract a b = ofL (((bsL s).take b).drop a) := by
  apply ByteArray.ext
  simp only [ofL, bsL, ByteArray.data_extract]
  apply Array.ext'
  simp [List.drop_take]
theorem bsL_ofL (l : List UInt8) : bsL (ofL l) = l := by simp [bsL, ofL]
theorem ofL_bsL (s : ByteArray) : ofL (bsL s) = s := by apply ByteArray.ext; simp [ofL, bsL]
theorem size_ofL (l : List UInt8) : (ofL l).size = l.length := by rw [← bsL_len, bsL_ofL]
def cutL : List UInt8 → List UInt8 × List UInt8 × Bool
  | [] => ([], [], false)
  | b :: r => if b.toNat = 46 then ([], r, true) else (b :: (cutL r).1, (cutL r).2.1, (cutL r).2.2)
theorem segs_cut : ∀ l : List UInt8, segsL l = (cutL l).1 :: (if (cutL l).2.2 = true then segsL (cutL l).2.1 else [])
  | [] => rfl
  | b :: r => by
    simp only [segsL, cutL]
    by_cases h : b.toNat = 46
    · simp [h]
    · rw [segs_cut r]; simp [h]
theorem cut_len : ∀ l : List UInt8, (cutL l).1.length ≤ l.length ∧ ((cutL l).2.2 = true → (cutL l).2.1.length < l.length)
  | [] => by simp [cutL]
  | b :: r => by
    have ih := cut_len r
    simp only [cutL]
    by_cases h : b.toNat = 46
    · simp [h]
    · simp only [if_neg h, List.length_cons]
      exact ⟨by omega, fun h1 => by have := ih.2 h1; omega⟩
theorem cut_rest : ∀ l : List UInt8, (cutL l).2.2 = false → (cutL l).1 = l ∧ (cutL l).2.1 = []
  | [] => fun _ => ⟨rfl, rfl⟩
  | b :: r => by
    have ih := cut_rest r
    simp only [cutL]
    by_cases h : b.toNat = 46
    · simp [h]
    · simp only [if_neg h]
      exact fun h1 => ⟨by rw [(ih h1).1], (ih h1).2⟩
theorem cut_at : ∀ (l : List UInt8) (i : Nat) (b : UInt8), nth l i = some b → (∀ j c, j < i → nth l j = some c → c.toNat ≠ 46) → b.toNat = 46 → cutL l = (l.take i, l.drop (i + 1), true)
  | x :: l, 0, b, h, _, hb => by simp only [nth, Option.some.injEq] at h; subst h; simp [cutL, hb]
  | x :: l, i + 1, b, h, hn, hb => by
    have h0 := hn 0 x (by omega) rfl
    have := cut_at l i b h (fun j c hj hc => hn (j + 1) c (by omega) hc) hb
    simp [cutL, h0, this]
  | [], _, _, h, _, _ => by simp [nth] at h
theorem cut_none : ∀ (l : List UInt8), (∀ j c, nth l j = some c → c.toNat ≠ 46) → cutL l = (l, [], false)
  | [], _ => rfl
  | x :: l, hn => by
    have h0 := hn 0 x rfl
    have := cut_none l (fun j c hc => hn (j + 1) c hc)
    simp [cutL, h0, this]
theorem isS : isStr Tryz.prog 9 = true := by kernel_rfl
theorem slice_to (s : ByteArray) (i : Nat) (h : i ≤ s.size) : sliceA Tryz.prog 9 (.prim (.string s)) none (some (.prim (.int .i64 (i : Int)))) none = some (.str (s.extract 0 i)) := by
  simp [sliceA, isS, bound, intN, h]
theorem slice_from (s : ByteArray) (i : Nat) (h : i ≤ s.size) : sliceA Tryz.prog 9 (.prim (.string s)) (some (.prim (.int .i64 (i : Int)))) none none = some (.str (s.extract i s.size)) := by
  simp [sliceA, isS, bound, intN, h]
end Go.Proofs.YtmkoiandfojgmaaGreat
