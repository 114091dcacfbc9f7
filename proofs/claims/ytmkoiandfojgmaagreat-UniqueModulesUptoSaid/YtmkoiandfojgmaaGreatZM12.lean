/-
  Texts laid together: U3, U4, U5, U6, U7, U8.
-/
import Derived.Test.YtmkoiandfojgmaaGreatZM11
namespace Go.Proofs.YtmkoiandfojgmaaGreat
open Go
theorem reA_nil {P : Program} {all : List Oper} {d : Option Tmp} {T : List AV} {S S' : List Ent} (hL : loadsB all d = []) (h2 : S.length ≤ S'.length) : reA P all d T S S' = some () := reA_some hL h2 (fun q h => by simp at h)
theorem put_len2 {S : List Ent} {x y : Ent} : put (S ++ [x]) S.length y = S ++ [y] := put_new
section
variable [Depth] (S : List Ent) (tk : List Nat) (k : Nat)
theorem unique_bind {ci ce : Nat} {C : Sn} (h : mapAt S ci ce = some C) (s : ByteArray) (c : Bool) : cL Tryz.prog 43 [.mref ci ce, .str s, .bool c] S tk k = some (.mref S.length k, S ++ [⟨k, [.mset (bindC C s c)]⟩], tk, k + 1) := by
  have hc := fun tk k => maps_Clone S tk k h
  have key : ∃ r, cL Tryz.prog 43 [.mref ci ce, .str s, .bool c] S tk k = some r ∧ r = (.mref S.length k, S ++ [⟨k, [.mset (bindC C s c)]⟩], tk, k + 1) := by
    refine opM Tryz.func43 Tryz.ntmps43 ?_
    cases c
    · simp (maxSteps := 10^6) +contextual (disch := try exact dqd) only [evg1, simprocAttr, AV.int, AV.bool, AV.str, Tryz.results43, hc]
      rfl
    · simp (maxSteps := 10^6) +contextual (disch := try exact dqd) only [evg1, simprocAttr, AV.int, AV.bool, AV.str, Tryz.results43, hc]
      rfl
  obtain ⟨r, h1, h2⟩ := key
  rw [h1, h2]
end
theorem okCap_fresh {tk : List Nat} : okCap (tk ++ [0]) (.tok tk.length 0 1) 1 = true := by
  simp only [okCap, nth_get]
  rw [List.getElem?_append_right (Nat.le_refl _)]
  simp
theorem skol {A B C : Type} {Q : A → B → C → Prop} (h : ∀ a b, ∃ c, Q a b c) : ∃ F : A → B → C, ∀ a b, Q a b (F a b) := ⟨fun a b => (h a b).choose, fun a b => (h a b).choose_spec⟩
theorem skolX {α β : Type} {Q : α → β → Prop} (h : ∀ x, ∃ F, Q x F) : ∃ G : α → β, ∀ x, Q x (G x) := ⟨fun x => (h x).choose, fun x => (h x).choose_spec⟩
theorem under_len (o : Int) (s : ByteArray) (ps : List (ByteArray × TT)) (i : Nat) (bs : List ByteArray) : (underF o s ps i bs).length ≤ bs.length + ps.length + 1 := by
  unfold underF
  split <;> split <;> simp <;> omega
theorem occK_drop (C : Sn) (o : Int) (s : ByteArray) (ps : List (ByteArray × TT)) (bs : List ByteArray) : ∀ (ks : List XT) (i j : Nat) (q : XT), nth ks j = some q → occK C o s ps (i + j) (ks.drop j) bs = (occ C q (underF o s ps (i + j) bs) || occK C o s ps (i + j + 1) (ks.drop (j + 1)) bs)
  | k :: ks, i, 0, q, h => by simp only [nth, Option.some.injEq] at h; subst h; simp only [List.drop_zero, occK, Nat.add_zero, List.drop_succ_cons]
  | k :: ks, i, j + 1, q, h => by
    simp only [nth] at h
    have := occK_drop C o s ps bs ks (i + 1) j q h
    simp only [List.drop_succ_cons]
    rw [show i + (j + 1) = i + 1 + j by omega]; exact this
  | [], _, _, _, h => by simp [nth] at h
theorem occA_drop (C : Sn) (bs : List ByteArray) : ∀ (al : List LT) (j : Nat) (c : ByteArray) (ns : List ByteArray) (b : XT), nth al j = some (.mk c ns b) → occA C (al.drop j) bs = (occ C b (bs ++ ns) || occA C (al.drop (j + 1)) bs)
  | k :: ks, 0, c, ns, b, h => by simp only [nth, Option.some.injEq] at h; subst h; simp only [List.drop_zero, occA, List.drop_succ_cons]
  | k :: ks, j + 1, c, ns, b, h => by
    simp only [nth] at h
    simp only [List.drop_succ_cons]
    exact occA_drop C bs ks j c ns b h
  | [], _, _, _, _, h => by simp [nth] at h
def OccC [Depth] (e : XT) : Prop := ∀ (bs : List ByteArray) (c : Cap), bs.length + 2 * szX e ≤ 1048576 → ∀ (S : List Ent) (ci ce : Nat) (C : Sn), mapAt S ci ce = some C →
  ∃ F : List Nat → Nat → List Nat × Nat, ∀ tk k, cL Tryz.prog 86 [.agg (exprC e), .mref ci ce, .frz (bs.map strC) c] S tk k = some (.bool (occ C e bs), S, (F tk k).1, (F tk k).2)
theorem xfs : xF 86 = true ∧ xF 45 = true ∧ xF 63 = true ∧ xF 64 = true ∧ xF 67 = true ∧ xF 43 = true ∧
    xF 61 = true ∧ xF 87 = true := ⟨rfl, rfl, rfl, rfl, rfl, rfl, rfl, rfl⟩
section
variable [Depth]
theorem unique_underC (S : List Ent) (tk : List Nat) (k : Nat) (o : Int) (s : ByteArray) (n : Int) (ks : List XT) (ps : List (ByteArray × TT)) (al : List LT) (ts : List TT) (i : Nat) (bs : List ByteArray) (c : Cap) (hb : bs.length + ps.length + 1 ≤ 1048576) :
    cL Tryz.prog 54 [.agg (exprC (.node o s n ks ps al ts)), .int i, .frz (bs.map strC) c] S tk k = some (strsA (underF o s ps i bs), S, tk, k) := by
  rw [← unique_under S tk k o s n ks ps al ts i bs hb]
  exact cL_w2 rfl rfl rfl
set_option maxRecDepth 100000 in
set_option maxHeartbeats 2000000 in
theorem occ_step (o : Int) (s : ByteArray) (n : Int) (ks : List XT) (ps : List (ByteArray × TT)) (al : List LT) (ts : List TT) (ihk : ∀ q ∈ ks, OccC q) (iha : ∀ c ns b, LT.mk c ns b ∈ al → OccC b) : OccC (.node o s n ks ps al ts) := by
  intro bs c hsz S ci ce C hC
  simp only [szX] at hsz
  have hps := szQs_len ps
  have hks := szXs_len ks
  have hal := szLs_len al
  refine skol (Q := fun tk k (p : List Nat × Nat) => cL Tryz.prog 86 [.agg (exprC (.node o s n ks ps al ts)), .mref ci ce, .frz (bs.map strC) c] S tk k = some (.bool (occ C (.node o s n ks ps al ts) bs), S, p.1, p.2)) fun tk k => ?_
  have key : ∃ r, cL Tryz.prog 86 [.agg (exprC (.node o s n ks ps al ts)), .mref ci ce, .frz (bs.map strC) c] S tk k = some r ∧ (r.1 = .bool (occ C (.node o s n ks ps al ts) bs) ∧ r.2.1 = S) := by
    obtain ⟨R, hR⟩ : ∃ R, R = occ C (.node o s n ks ps al ts) bs := ⟨_, rfl⟩
    obtain ⟨Φ, hΦ⟩ : ∃ Φ : Rs → Prop, Φ = fun r => r.1 = .bool R ∧ r.2.1 = S := ⟨_, rfl⟩
    rw [← hR]
    show ∃ r, _ = some r ∧ (fun r : Rs => r.1 = .bool R ∧ r.2.1 = S) r
    rw [← hΦ]
    obtain ⟨E, hE⟩ : ∃ E : Ent, E = ⟨k, [.prim (.int .i64 o), .prim (.string s), .prim (.int .i64 n), .frz (exprsC ks) .unk, .frz (ps.map paramC) .unk, .frz (altsC al) .unk, .frz (typesC ts) .unk]⟩ := ⟨_, rfl⟩
    -- the kids, then the branches
    have loop2 : ∀ (T : List AV) (tk2 : List Nat) (k2 : Nat), T.length = 60 → getT T 1 = .mref ci ce → getT T 2 = .frz (bs.map strC) c → getT T 44 = .frz (altsC al) .unk → getT T 45 = .int (al.length : Nat) → getT T 46 = .int (0 : Nat) → R = occA C al bs →
        Gd (finS S.length) Φ (KA Tryz.prog Tryz.f86 10 [] ⟨T, S ++ [E], tk2, k2⟩) := by
      intro T tk2 k2 hT h1 h2 h44 h45 h46 hA0
      refine KA_of rfl (t := .mk) ?_
      refine loopG (P := Tryz.prog) (fun x st => st.T.length = 60 ∧ (x.2.2 ≤ al.length) ∧ (R = occA C (al.drop x.2.2) bs) ∧ getT st.T 1 = .mref ci ce ∧ getT st.T 2 = .frz (bs.map strC) c ∧ getT st.T 44 = .frz (altsC al) .unk ∧ getT st.T 45 = .int (al.length : Nat) ∧ getT st.T 46 = .int (x.2.2 : Nat) ∧ st.S = S ++ [E] ∧ st.tk = x.1 ∧ st.n = x.2.1) (fun x => al.length - x.2.2) (tk2, k2, (0 : Nat)) ?_ ?_
      case refine_2 => exact ⟨(by first | rfl | assumption), Nat.zero_le _, by simpa using hA0, (by first | rfl | assumption), (by first | rfl | assumption), (by first | rfl | assumption), (by first | rfl | assumption), (by first | rfl | assumption), (by first | rfl | assumption), (by first | rfl | assumption), (by first | rfl | assumption)⟩
      rintro ⟨tkx, nx, j⟩ ⟨T, S', tk', n'⟩ ⟨hl, hj, hA, e1, e2, e44, e45, e46, eS, eT, eN⟩ IH
      simp only at hj hA e1 e2 e44 e45 e46 eS eT eN
      subst eS eT eN
      obtain ⟨g, hg, hT⟩ := tab_of hl
      rw [hg] at e1 e2 e44 e45 e46
      subst hT
      clear hg hl
      by_cases hlt : j < al.length
      · have d1 : decide ((j : Int) < (al.length : Int)) = true := by simpa using hlt
        obtain ⟨q, hq⟩ := nth_some hlt
        have hq' := nth_alts hq
        have hqm := nth_memU hq
        have hszq := szLs_mem hqm
        have hw := wrap_add (i := j) (by omega)
        obtain ⟨qc, qns, qb⟩ := q
        simp only [szL] at hszq
        rw [occA_drop C bs al j qc qns qb hq] at hA
        have hcl := fun S tk k => slices_CloneT S tk k bs c (by omega)
        have hrs := rowsOk_strs bs
        have hrn := rowsOk_strs qns
        have hlen : (bs.map strC).length + (qns.map strC).length ≤ 1048576 := by simp; omega
        have hcn : okCap (tk' ++ [0]) (.tok tk'.length 0 1) 1 = true := okCap_fresh
        have hih := iha qc qns qb hqm (bs ++ qns)
        obtain ⟨F, hF0⟩ := skolX fun X : Ent × Cap => hih X.2 (by simp; omega) ((S ++ [E]) ++ [X.1]) ci ce C (mapAt_old (mapAt_old hC))
        have hF := fun (X : Ent) (c : Cap) => hF0 (X, c)
        clear hF0
        simp only at hF
        subst hE
        obtain ⟨qo, qs, qn, qk, qp, qa, qt⟩ := qb
        simp only [altC, exprC, strsA] at hq'
        simp only [exprC, List.map_append] at hF
        generalize hocc : occ C (.node qo qs qn qk qp qa qt) (bs ++ qns) = b at hF hA
        simp (maxSteps := 10^6) +contextual (disch := try exact dqd) only [evg1, simprocAttr, AV.int, AV.bool, AV.str, Tryz.results86, e1, e2, e44, e45, e46, d1, hq', hw, hcl, hrs, hrn, hlen, gO_refl, reA_nil, hF, xfs]
        refine ⟨fun hb => ?_, fun hb => ?_⟩
        · rw [hΦ, hA, hb]
          simp
        · rw [hb, Bool.false_or] at hA
          exact IH (_, _, j + 1) _ (by dsimp only; omega) ⟨rfl, hlt, hA, rfl, rfl, rfl, rfl, rfl, rfl, rfl, rfl⟩
      · have d1 : decide ((j : Int) < (al.length : Int)) = false := by simpa using hlt
        have he : j = al.length := by omega
        rw [he, List.drop_length] at hA
        simp only [occA] at hA
        simp (maxSteps := 10^6) +contextual (disch := try exact dqd) only [evg1, simprocAttr, AV.int, AV.bool, AV.str, Tryz.results86, e1, e2, e44, e45, e46, d1]
        rw [hΦ, hA]
        exact ⟨rfl, rfl⟩
    have loop1 : ∀ (T : List AV) (tk2 : List Nat) (k2 : Nat), T.length = 60 → getT T 1 = .mref ci ce → getT T 2 = .frz (bs.map strC) c → getT T 3 = .ref S.length k 0 → getT T 28 = .frz (exprsC ks) .unk → getT T 29 = .int (ks.length : Nat) → getT T 30 = .int (0 : Nat) → R = (occK C o s ps 0 ks bs || occA C al bs) →
        Gd (finS S.length) Φ (KA Tryz.prog Tryz.f86 4 [] ⟨T, S ++ [E], tk2, k2⟩) := by
      intro T tk2 k2 hT h1 h2 h3 h28 h29 h30 hA0
      refine KA_of rfl (t := .mk) ?_
      refine loopG (P := Tryz.prog) (fun x st => st.T.length = 60 ∧ (x.2.2 ≤ ks.length) ∧ (R = (occK C o s ps x.2.2 (ks.drop x.2.2) bs || occA C al bs)) ∧ getT st.T 1 = .mref ci ce ∧ getT st.T 2 = .frz (bs.map strC) c ∧ getT st.T 3 = .ref S.length k 0 ∧ getT st.T 28 = .frz (exprsC ks) .unk ∧ getT st.T 29 = .int (ks.length : Nat) ∧ getT st.T 30 = .int (x.2.2 : Nat) ∧ st.S = S ++ [E] ∧ st.tk = x.1 ∧ st.n = x.2.1) (fun x => ks.length - x.2.2) (tk2, k2, (0 : Nat)) ?_ ?_
      case refine_2 => exact ⟨(by first | rfl | assumption), Nat.zero_le _, by simpa using hA0, (by first | rfl | assumption), (by first | rfl | assumption), (by first | rfl | assumption), (by first | rfl | assumption), (by first | rfl | assumption), (by first | rfl | assumption), (by first | rfl | assumption), (by first | rfl | assumption), (by first | rfl | assumption)⟩
      rintro ⟨tkx, nx, j⟩ ⟨T, S', tk', n'⟩ ⟨hl, hj, hA, e1, e2, e3, e28, e29, e30, eS, eT, eN⟩ IH
      simp only at hj hA e1 e2 e3 e28 e29 e30 eS eT eN
      subst eS eT eN
      obtain ⟨g, hg, hT⟩ := tab_of hl
      rw [hg] at e1 e2 e3 e28 e29 e30
      subst hT
      clear hg hl
      by_cases hlt : j < ks.length
      · have d1 : decide ((j : Int) < (ks.length : Int)) = true := by simpa using hlt
        obtain ⟨q, hq⟩ := nth_some hlt
        have hq' := nth_exprs hq
        have hqm := nth_memU hq
        have hszq := szXs_mem hqm
        have hw := wrap_add (i := j) (by omega)
        have hdr := occK_drop C o s ps bs ks 0 j q hq
        rw [Nat.zero_add] at hdr
        rw [hdr] at hA
        have hul := under_len o s ps j bs
        have hun := fun S tk k => unique_underC S tk k o s n ks ps al ts j bs c (by omega)
        have hih := ihk q hqm (underF o s ps j bs) .unk (by omega)
        obtain ⟨F, hF⟩ := skolX fun X => hih ((S ++ [E]) ++ [X]) ci ce C (mapAt_old (mapAt_old hC))
        subst hE
        obtain ⟨qo, qs, qn, qk, qp, qa, qt⟩ := q
        simp only [exprC] at hq' hun hF
        generalize hocc : occ C (.node qo qs qn qk qp qa qt) (underF o s ps j bs) = b at hF hA
        simp only [strsA] at hun
        simp (maxSteps := 10^6) +contextual (disch := try exact dqd) only [evg1, simprocAttr, AV.int, AV.bool, AV.str, Tryz.results86, e1, e2, e3, e28, e29, e30, d1, hq', hw, hun, hF, gO_refl, xfs]
        refine ⟨fun hb => ?_, fun hb => ?_⟩
        · rw [hΦ, hA, hb]
          simp
        · rw [hb, Bool.false_or] at hA
          exact IH (_, _, j + 1) _ (by dsimp only; omega) ⟨rfl, hlt, hA, rfl, rfl, rfl, rfl, rfl, rfl, rfl, rfl, rfl⟩
      · have d1 : decide ((j : Int) < (ks.length : Int)) = false := by simpa using hlt
        have he : j = ks.length := by omega
        rw [he, List.drop_length] at hA
        simp only [occK, Bool.false_or] at hA
        have hE2 := hE
        subst hE
        simp (maxSteps := 10^6) +contextual (disch := try exact dqd) only [evg1, simprocAttr, AV.int, AV.bool, AV.str, Tryz.results86, e1, e2, e3, e28, e29, e30, d1, altsC_len]
        rw [← hE2]
        exact of_KA rfl (loop2 _ _ _ rfl rfl rfl rfl rfl rfl hA)
    have hcon := fun S tk k => slices_Contains S tk k bs c s (by omega)
    simp only [occ] at hR
    by_cases h3 : o = 3
    · subst h3
      refine opG Tryz.func86 Tryz.ntmps86 ?_
      cases hcs : C s
      · have hR' : R = (occK C 3 s ps 0 ks bs || occA C al bs) := by rw [hR, hcs]; simp
        simp (maxSteps := 10^6) +contextual (disch := try exact dqd) only [evg1, simprocAttr, AV.int, AV.bool, AV.str, Tryz.results86, exprC, exprsC_len, altsC_len, hC, hcs, hcon]
        rw [← hE]
        exact of_KA rfl (loop1 _ _ _ rfl rfl rfl rfl rfl rfl rfl hR')
      · cases hm : memB bs s
        · simp (maxSteps := 10^6) +contextual (disch := try exact dqd) only [evg1, simprocAttr, AV.int, AV.bool, AV.str, Tryz.results86, exprC, exprsC_len, altsC_len, hC, hcs, hcon, hm]
          rw [hΦ, hR, hcs, hm]
          simp
        · have hR' : R = (occK C 3 s ps 0 ks bs || occA C al bs) := by rw [hR, hcs, hm]; simp
          simp (maxSteps := 10^6) +contextual (disch := try exact dqd) only [evg1, simprocAttr, AV.int, AV.bool, AV.str, Tryz.results86, exprC, exprsC_len, altsC_len, hC, hcs, hcon, hm]
          rw [← hE]
          exact of_KA rfl (loop1 _ _ _ rfl rfl rfl rfl rfl rfl rfl hR')
    · have d3 : (o == 3) = false := by simpa using h3
      have hR' : R = (occK C o s ps 0 ks bs || occA C al bs) := by rw [hR, decide_eq_false h3]; simp
      refine opG Tryz.func86 Tryz.ntmps86 ?_
      simp (maxSteps := 10^6) +contextual (disch := try exact dqd) only [evg1, simprocAttr, AV.int, AV.bool, AV.str, Tryz.results86, exprC, exprsC_len, altsC_len, d3]
      rw [← hE]
      exact of_KA rfl (loop1 _ _ _ rfl rfl rfl rfl rfl rfl rfl hR')
  obtain ⟨⟨r1, r2, r3, r4⟩, h1, h2, h3⟩ := key
  simp only at h2 h3
  exact ⟨(r3, r4), by rw [h1, h2, h3]⟩
mutual
theorem occ_all : ∀ e : XT, OccC e
  | .node o s n ks ps al ts => occ_step o s n ks ps al ts (occ_allK ks) (occ_allA al)
theorem occ_allK : ∀ ks : List XT, ∀ q ∈ ks, OccC q
  | [] => fun q h => by simp at h
  | x :: ks => fun q h => by
    rcases List.mem_cons.1 h with e | h
    · rw [e]; exact occ_all x
    · exact occ_allK ks q h
theorem occ_allA : ∀ al : List LT, ∀ c ns b, LT.mk c ns b ∈ al → OccC b
  | [] => fun c ns b h => by simp at h
  | .mk c0 ns0 b0 :: al => fun c ns b h => by
    rcases List.mem_cons.1 h with e | h
    · injection e with e1 e2 e3; rw [e3]; exact occ_all b0
    · exact occ_allA al c ns b h
end
end
end Go.Proofs.YtmkoiandfojgmaaGreat
namespace Go.Proofs.YtmkoiandfojgmaaGreat
open Go
theorem reA_app {P : Program} {all : List Oper} {d : Option Tmp} {T : List AV} {S : List Ent} {x : Ent} (hL : loadsB all d = []) : reA P all d T S (S ++ [x]) = some () := reA_nil hL (by simp)
theorem reA_put {P : Program} {all : List Oper} {d : Option Tmp} {T : List AV} {S : List Ent} {i : Nat} {x : Ent} (hL : loadsB all d = []) : reA P all d T S (put S i x) = some () := reA_nil hL (by simp [put_len])
structure Kp (S S' : List Ent) : Prop where
  len : S.length ≤ S'.length
  same : ∀ i, i < S.length → nth S' i = nth S i
theorem Kp.refl (S : List Ent) : Kp S S := ⟨Nat.le_refl _, fun _ _ => rfl⟩
theorem Kp.trans {a b c : List Ent} (h : Kp a b) (k : Kp b c) : Kp a c := ⟨Nat.le_trans h.len k.len, fun i hi => (k.same i (Nat.lt_of_lt_of_le hi h.len)).trans (h.same i hi)⟩
theorem Kp.old {S S' : List Ent} (h : Kp S S') (x : Ent) : Kp S (S' ++ [x]) := ⟨by simp; have := h.len; omega, fun i hi => by rw [nth_old (Nat.lt_of_lt_of_le hi h.len)]; exact h.same i hi⟩
theorem Kp.put {S S' : List Ent} (h : Kp S S') {id : Nat} (hid : S.length ≤ id) (x : Ent) : Kp S (put S' id x) := ⟨by rw [put_len]; exact h.len, fun i hi => by rw [nth_put_other (by omega)]; exact h.same i hi⟩
theorem Kp.ent {S S' : List Ent} (h : Kp S S') {id ep : Nat} {cs : List AV} (he : entAt S id ep = some cs) : entAt S' id ep = some cs := by rw [entAt_nth (h.same id (entAt_lt he))]; exact he
theorem Kp.map {S S' : List Ent} (h : Kp S S') {id ep : Nat} {s : Sn} (he : mapAt S id ep = some s) : mapAt S' id ep = some s := by rw [mapAt_nth (h.same id (mapAt_lt he))]; exact he
theorem Kp.take {S S' : List Ent} (h : Kp S S') : S'.take S.length = S := by
  apply List.ext_getElem?
  intro i
  rw [List.getElem?_take]
  split
  · rename_i hi
    have := h.same i hi
    rw [nth_get, nth_get] at this
    exact this
  · rename_i hi
    rw [List.getElem?_eq_none (by omega)]
theorem Kp.put2 {S S' : List Ent} (h : Kp S S') {id : Nat} (hid : id < S.length) (x : Ent) : Kp (Go.Proofs.YtmkoiandfojgmaaGreat.put S id x) (Go.Proofs.YtmkoiandfojgmaaGreat.put S' id x) :=
  ⟨by rw [put_len, put_len]; exact h.len, fun i hi => by
    rw [put_len] at hi
    by_cases e : id = i
    · subst e; rw [nth_put_lt hi, nth_put_lt (Nat.lt_of_lt_of_le hi h.len)]
    · rw [nth_put_other e, nth_put_other e]; exact h.same i hi⟩
def ThrC [Depth] (e : XT) : Prop := dpX e ≤ Depth.d + 1 → szX e ≤ 262144 → ∀ (S : List Ent) (tk : List Nat) (k ci ce gi ge : Nat) (C G : Sn), mapAt S ci ce = some C → mapAt S gi ge = some G → ci ≠ gi →
  ∃ G' tk' k', cL Tryz.prog 45 [.agg [.mref ci ce, .mref gi ge], .agg (exprC e)] S tk k = some (.bool (thr e C G).isSome, put S gi ⟨ge, [.mset G']⟩, tk', k') ∧ ∀ G2, thr e C G = some G2 → G' = G2
theorem ownL_snoc : ∀ (C : Sn) (ps : List (ByteArray × TT)) (j : Nat) (p : ByteArray × TT), nth ps j = some p → ownL C (ps.take (j + 1)) = bindC (ownL C (ps.take j)) p.1 (isCell p.2)
  | C, q :: ps, 0, p, h => by simp only [nth, Option.some.injEq] at h; subst h; simp [ownL]
  | C, q :: ps, j + 1, p, h => by simp only [nth] at h; simp only [List.take_succ_cons, ownL]; exact ownL_snoc _ ps j p h
  | C, [], _, _, h => by simp [nth] at h
theorem lamK_drop (C own : Sn) (bs : List ByteArray) : ∀ (ks : List XT) (j : Nat) (q : XT), nth ks j = some q → lamK (ks.drop j) C own bs = (!occ C q bs && (thr q own noK).isSome && lamK (ks.drop (j + 1)) C own bs)
  | k :: ks, 0, q, h => by simp only [nth, Option.some.injEq] at h; subst h; simp only [List.drop_zero, lamK, List.drop_succ_cons]
  | k :: ks, j + 1, q, h => by simp only [nth] at h; simp only [List.drop_succ_cons]; exact lamK_drop C own bs ks j q h
  | [], _, _, h => by simp [nth] at h
theorem skol3 {A B C D : Type} {Q : A → B → C → D → Prop} (h : ∀ a b c, ∃ d, Q a b c d) : ∃ F : A → B → C → D, ∀ a b c, Q a b c (F a b c) := ⟨fun a b c => (h a b c).choose, fun a b c => (h a b c).choose_spec⟩
theorem skol4 {A B C D E : Type} {Q : A → B → C → D → E → Prop} (h : ∀ a b c d, ∃ e, Q a b c d e) : ∃ F : A → B → C → D → E, ∀ a b c d, Q a b c d (F a b c d) := ⟨fun a b c d => (h a b c d).choose, fun a b c d => (h a b c d).choose_spec⟩
section
variable [Depth]
theorem thr_fresh {q : XT} (h : ThrC q) (hd : dpX q ≤ Depth.d + 1) (hs : szX q ≤ 262144) {S : List Ent} {oi oe : Nat} {own : Sn} (ho : mapAt S oi oe = some own) :
    ∃ F : Ent → Nat → List Nat → Nat → Sn × List Nat × Nat, ∀ X g tk k, cL Tryz.prog 45 [.agg [.mref oi oe, .mref (S ++ [X]).length g], .agg (exprC q)] ((S ++ [X]) ++ [⟨g, [.mset noK]⟩]) tk k =
      some (.bool (thr q own noK).isSome, (S ++ [X]) ++ [⟨g, [.mset (F X g tk k).1]⟩], (F X g tk k).2.1, (F X g tk k).2.2) := by
  refine skol4 (Q := fun (X : Ent) (g : Nat) (tk : List Nat) (k : Nat) (p : Sn × List Nat × Nat) => cL Tryz.prog 45 [.agg [.mref oi oe, .mref (S ++ [X]).length g], .agg (exprC q)] ((S ++ [X]) ++ [⟨g, [.mset noK]⟩]) tk k =
      some (.bool (thr q own noK).isSome, (S ++ [X]) ++ [⟨g, [.mset p.1]⟩], p.2.1, p.2.2)) fun X g tk k => ?_
  have hlt := mapAt_lt ho
  obtain ⟨G', tk', k', h1, -⟩ := h hd hs ((S ++ [X]) ++ [⟨g, [.mset noK]⟩]) tk k oi oe (S ++ [X]).length g own noK (mapAt_old (mapAt_old ho)) mapAt_new (by simp; omega)
  rw [put_new] at h1
  exact ⟨(G', tk', k'), h1⟩
set_option maxRecDepth 100000 in
set_option maxHeartbeats 2000000 in
theorem lambda_is (o : Int) (s : ByteArray) (n : Int) (ks : List XT) (ps : List (ByteArray × TT)) (al : List LT) (ts : List TT) (ihk : ∀ q ∈ ks, ThrC q) (hd : dpX (.node o s n ks ps al ts) ≤ Depth.d + 1) (hsz : szX (.node o s n ks ps al ts) ≤ 262144)
    (S : List Ent) (tk : List Nat) (k ci ce gi ge : Nat) (C : Sn) (hC : mapAt S ci ce = some C) :
    ∃ tk' k', cL Tryz.prog 62 [.agg [.mref ci ce, .mref gi ge], .agg (exprC (.node o s n ks ps al ts))] S tk k = some (.bool (lamK ks C (ownL noK ps) (ps.map (·.1))), S, tk', k') := by
  simp only [szX] at hsz
  simp only [dpX] at hd
  have hps := szQs_len ps
  have hks := szXs_len ks
  have key : ∃ r, cL Tryz.prog 62 [.agg [.mref ci ce, .mref gi ge], .agg (exprC (.node o s n ks ps al ts))] S tk k = some r ∧ (r.1 = .bool (lamK ks C (ownL noK ps) (ps.map (·.1))) ∧ r.2.1 = S) := by
    obtain ⟨R, hR⟩ : ∃ R, R = lamK ks C (ownL noK ps) (ps.map (·.1)) := ⟨_, rfl⟩
    obtain ⟨Φ, hΦ⟩ : ∃ Φ : Rs → Prop, Φ = fun r => r.1 = .bool R ∧ r.2.1 = S := ⟨_, rfl⟩
    rw [← hR]
    show ∃ r, _ = some r ∧ (fun r : Rs => r.1 = .bool R ∧ r.2.1 = S) r
    rw [← hΦ]
    obtain ⟨S1, hS1⟩ : ∃ S1 : List Ent, S1 = S ++ [⟨k, [.mref ci ce, .mref gi ge]⟩] ++ [⟨k + 1, [.prim (.int .i64 o), .prim (.string s), .prim (.int .i64 n), .frz (exprsC ks) .unk, .frz (ps.map paramC) .unk, .frz (altsC al) .unk, .frz (typesC ts) .unk]⟩] := ⟨_, rfl⟩
    have hK1 : Kp S S1 := by rw [hS1]; exact ((Kp.refl S).old _).old _
    have hp1 : entAt S1 S.length k = some [.mref ci ce, .mref gi ge] := by rw [hS1]; exact entAt_mid rfl
    have he1 : entAt S1 (S.length + 1) (k + 1) = some [.prim (.int .i64 o), .prim (.string s), .prim (.int .i64 n), .frz (exprsC ks) .unk, .frz (ps.map paramC) .unk, .frz (altsC al) .unk, .frz (typesC ts) .unk] := by
      rw [hS1]
      have := @entAt_new (S ++ [⟨k, [.mref ci ce, .mref gi ge]⟩]) (k + 1) [.prim (.int .i64 o), .prim (.string s), .prim (.int .i64 n), .frz (exprsC ks) .unk, .frz (ps.map paramC) .unk, .frz (altsC al) .unk, .frz (typesC ts) .unk] rfl
      simpa using this
    have hl1 : S1.length = S.length + 2 := by rw [hS1]; simp
    have he2 := fun x => entAt_old (e := x) he1
    rw [hS1] at he2
    refine opG Tryz.func62 Tryz.ntmps62 ?_
    simp (maxSteps := 10^6) +contextual (disch := try exact dqd) only [evg1, simprocAttr, AV.int, AV.bool, AV.str, Tryz.results62, exprC, exprsC_len, altsC_len, List.length_append, he2]
    rw [← hS1]
    clear he2
    have hm1 : mapAt (S1 ++ [⟨k + 1 + 1, [.mset noK]⟩]) (S.length + 1 + 1) (k + 1 + 1) = some noK := by
      rw [show S.length + 1 + 1 = S1.length by omega]; exact mapAt_new
    have hC1 := hK1.map hC
    clear hS1
    refine loopG (P := Tryz.prog) (fun x st => st.T.length = 51 ∧ (x.2.2.2.2.2.2 ≤ ps.length) ∧ (Kp S1 x.1) ∧ (mapAt x.1 x.2.2.2.1 x.2.2.2.2.1 = some (ownL noK (ps.take x.2.2.2.2.2.2))) ∧ (okCap x.2.1 x.2.2.2.2.2.1 1 = true) ∧ (S1.length ≤ x.2.2.2.1) ∧ getT st.T 2 = .ref S.length k 0 ∧ getT st.T 3 = .ref (S.length + 1) (k + 1) 0 ∧ getT st.T 5 = .mref x.2.2.2.1 x.2.2.2.2.1 ∧ getT st.T 6 = .frz (((ps.take x.2.2.2.2.2.2).map (·.1)).map strC) x.2.2.2.2.2.1 ∧ getT st.T 13 = .frz (ps.map paramC) .unk ∧ getT st.T 14 = .int (ps.length : Nat) ∧ getT st.T 15 = .int (x.2.2.2.2.2.2 : Nat) ∧ st.S = x.1 ∧ st.tk = x.2.1 ∧ st.n = x.2.2.1) (fun x => ps.length - x.2.2.2.2.2.2) ((S1 ++ [⟨k + 1 + 1, [.mset noK]⟩]), tk, (k + 1 + 1 + 1), (S.length + 1 + 1), (k + 1 + 1), Cap.nilc, (0 : Nat)) ?_ ?_
    case refine_2 => exact ⟨rfl, Nat.zero_le _, (Kp.refl _).old _, by simpa [ownL] using hm1, rfl, by dsimp only; omega, rfl, rfl, rfl, rfl, rfl, rfl, rfl, rfl, rfl, rfl⟩
    rintro ⟨SS, tkx, nx, oi, oe, cc, j⟩ ⟨T, S', tk', n'⟩ ⟨hl, hj, hK, hown, hcap, hoi, e2, e3, e5, e6, e13, e14, e15, eS, eT, eN⟩ IH
    simp only at hj hK hown hcap hoi e2 e3 e5 e6 e13 e14 e15 eS eT eN
    subst eS eT eN
    obtain ⟨g, hg, hT⟩ := tab_of hl
    rw [hg] at e2 e3 e5 e6 e13 e14 e15
    subst hT
    clear hg hl
    by_cases hlt : j < ps.length
    · have d1 : decide ((j : Int) < (ps.length : Int)) = true := by simpa using hlt
      obtain ⟨p, hp⟩ := nth_some hlt
      have hp' := nth_params hp
      have hst := under_take ps j p hp
      have how := ownL_snoc noK ps j p hp
      have hw := wrap_add (i := j) (by omega)
      have hbd := fun (x : Ent) (tk : List Nat) (k : Nat) => unique_bind (S' ++ [x]) tk k (mapAt_old hown) p.1 (isCell p.2)
      have hcl := fun S tk k => unique_cell S tk k p.2
      have hrow := rowsOk_strs ((ps.take j).map (·.1))
      have hlen : (((ps.take j).map (·.1)).map strC).length + 1 ≤ 1048576 := by simp; omega
      have hcap2 := okCap_new hcap
      obtain ⟨nm, o', s', a', ns', ⟨po, pn, pv, pk⟩, pp⟩ := p
      simp only [paramC, typeC, predC, strsA, List.cons_append, List.nil_append] at hp' hcl
      simp only at hbd hst how
      simp (maxSteps := 10^6) +contextual (disch := try exact dqd) only [evg1, simprocAttr, AV.int, AV.bool, AV.str, Tryz.results62, e2, e3, e5, e6, e13, e14, e15, d1, hp', hw, hbd, hcl, hrow, xfs, reA_app]
      refine IH (_, _, _, _, _, _, j + 1) _ (by dsimp only; omega) ⟨rfl, hlt, (hK.old _).old _, by rw [how]; exact mapAt_new, hcap2, by dsimp only; have := hK.len; simp; omega, rfl, rfl, rfl, ?_, rfl, rfl, rfl, rfl, rfl, rfl⟩
      rw [hst, List.map_append]
      rfl
    · have d1 : decide ((j : Int) < (ps.length : Int)) = false := by simpa using hlt
      have he : j = ps.length := by omega
      have he3 := hK.ent he1
      rw [he, List.take_length] at hown e6
      simp (maxSteps := 10^6) +contextual (disch := try exact dqd) only [evg1, simprocAttr, AV.int, AV.bool, AV.str, Tryz.results62, e2, e3, e5, e6, e13, e14, e15, d1, he3, exprsC_len]
      have hR2 : R = lamK (ks.drop 0) C (ownL noK ps) (ps.map (·.1)) := hR
      clear hR he3 e13 e14 e15 d1 hlt
      refine loopG (P := Tryz.prog) (fun x st => st.T.length = 51 ∧ (x.2.2.2 ≤ ks.length) ∧ (Kp S1 x.1) ∧ (mapAt x.1 oi oe = some (ownL noK ps)) ∧ (R = lamK (ks.drop x.2.2.2) C (ownL noK ps) (ps.map (·.1))) ∧ getT st.T 2 = .ref S.length k 0 ∧ getT st.T 5 = .mref oi oe ∧ getT st.T 6 = .frz ((ps.map (·.1)).map strC) cc ∧ getT st.T 33 = .frz (exprsC ks) .unk ∧ getT st.T 34 = .int (ks.length : Nat) ∧ getT st.T 35 = .int (x.2.2.2 : Nat) ∧ st.S = x.1 ∧ st.tk = x.2.1 ∧ st.n = x.2.2.1) (fun x => ks.length - x.2.2.2) (S', tk', n', (0 : Nat)) ?_ ?_
      case refine_2 => exact ⟨(by first | rfl | assumption), Nat.zero_le _, hK, hown, hR2, (by first | rfl | assumption), (by first | rfl | assumption), (by first | rfl | assumption), (by first | rfl | assumption), (by first | rfl | assumption), (by first | rfl | assumption), (by first | rfl | assumption), (by first | rfl | assumption), (by first | rfl | assumption)⟩
      rintro ⟨SS, tkx, nx, i⟩ ⟨T, S', tk', n'⟩ ⟨hl, hi, hK2, hown2, hA, e2, e5, e6, e33, e34, e35, eS, eT, eN⟩ IH
      simp only at hi hK2 hown2 hA e2 e5 e6 e33 e34 e35 eS eT eN
      subst eS eT eN
      obtain ⟨g, hg, hT⟩ := tab_of hl
      rw [hg] at e2 e5 e6 e33 e34 e35
      subst hT
      clear hg hl
      by_cases hlt : i < ks.length
      · have d1 : decide ((i : Int) < (ks.length : Int)) = true := by simpa using hlt
        obtain ⟨q, hq⟩ := nth_some hlt
        have hq' := nth_exprs hq
        have hqm := nth_memU hq
        have hszq := szXs_mem hqm
        have hdq := dpXs_mem hqm
        have hw := wrap_add (i := i) (by omega)
        rw [lamK_drop C _ _ ks i q hq] at hA
        obtain ⟨F, hF⟩ := skolX fun X : Ent => occ_all q (ps.map (·.1)) cc (by simp; omega) (S' ++ [X]) ci ce C (mapAt_old (hK2.map hC1))
        obtain ⟨F2, hF2⟩ := thr_fresh (ihk q hqm) (by omega) (by omega) hown2
        have hp3 := fun x => entAt_old (e := x) (hK2.ent hp1)
        obtain ⟨qo, qs, qn, qk, qp, qa, qt⟩ := q
        simp only [exprC] at hq' hF hF2
        generalize occ C (.node qo qs qn qk qp qa qt) (ps.map (·.1)) = b1 at hF hA
        generalize (thr (.node qo qs qn qk qp qa qt) (ownL noK ps) noK).isSome = b2 at hF2 hA
        simp (maxSteps := 10^6) +contextual (disch := try exact dqd) only [evg1, simprocAttr, AV.int, AV.bool, AV.str, Tryz.results62, e2, e5, e6, e33, e34, e35, d1, hq', hw, hF, hF2, hp3, xfs, gO_refl]
        have hK3 := hK1.trans hK2
        refine ⟨fun hb => ?_, fun hb => ⟨fun hb2 => ?_, fun hb2 => ?_⟩⟩
        · rw [hΦ, hA, hb]
          exact ⟨rfl, (hK3.old _).take⟩
        · rw [hb, hb2] at hA
          exact IH (_, _, _, i + 1) _ (by dsimp only; omega) ⟨rfl, hlt, (hK2.old _).old _, mapAt_old (mapAt_old hown2), by simpa using hA, rfl, rfl, rfl, rfl, rfl, rfl, rfl, rfl, rfl⟩
        · rw [hΦ, hA, hb, hb2]
          exact ⟨rfl, ((hK3.old _).old _).take⟩
      · have d1 : decide ((i : Int) < (ks.length : Int)) = false := by simpa using hlt
        have he : i = ks.length := by omega
        rw [he, List.drop_length] at hA
        simp only [lamK] at hA
        simp (maxSteps := 10^6) +contextual (disch := try exact dqd) only [evg1, simprocAttr, AV.int, AV.bool, AV.str, Tryz.results62, e2, e5, e6, e33, e34, e35, d1]
        rw [hΦ, hA]
        exact ⟨rfl, (hK1.trans hK2).take⟩
  obtain ⟨⟨r1, r2, r3, r4⟩, h1, h2, h3⟩ := key
  simp only at h2 h3
  exact ⟨r3, r4, by rw [h1, h2, h3]⟩
end
end Go.Proofs.YtmkoiandfojgmaaGreat
namespace Go.Proofs.YtmkoiandfojgmaaGreat
open Go
def thrBr : List (Sn → Option Sn) → Sn → Sn → Option Sn
  | [], _, acc => some acc
  | F :: Fs, G0, acc => (F G0).bind fun r => thrBr Fs G0 (uniK acc r)
structure KpX (S : List Ent) (gi : Nat) (S' : List Ent) : Prop where
  len : S.length ≤ S'.length
  same : ∀ i, i < S.length → i ≠ gi → nth S' i = nth S i
theorem KpX.of {S S' : List Ent} {gi : Nat} {v : Ent} (h : Kp (put S gi v) S') : KpX S gi S' := ⟨by have := h.len; rwa [put_len] at this, fun i hi hn => by rw [h.same i (by rw [put_len]; exact hi), nth_put_other (Ne.symm hn)]⟩
theorem KpX.ent {S S' : List Ent} {gi : Nat} (h : KpX S gi S') {id ep : Nat} {cs : List AV} (he : entAt S id ep = some cs) (hn : id ≠ gi) : entAt S' id ep = some cs := by rw [entAt_nth (h.same id (entAt_lt he) hn)]; exact he
theorem KpX.map {S S' : List Ent} {gi : Nat} (h : KpX S gi S') {id ep : Nat} {s : Sn} (he : mapAt S id ep = some s) (hn : id ≠ gi) : mapAt S' id ep = some s := by rw [mapAt_nth (h.same id (mapAt_lt he) hn)]; exact he
theorem KpX.old {S S' : List Ent} {gi : Nat} (h : KpX S gi S') (x : Ent) : KpX S gi (S' ++ [x]) := ⟨by simp; have := h.len; omega, fun i hi hn => by rw [nth_old (Nat.lt_of_lt_of_le hi h.len)]; exact h.same i hi hn⟩
theorem KpX.ofK {S S1 S' S'' : List Ent} {gi : Nat} (h : KpX S1 gi S') (h2 : Kp S' S'') (h1 : Kp S S1) : KpX S gi S'' :=
  ⟨Nat.le_trans h1.len (Nat.le_trans h.len h2.len), fun i hi hn => by
    have a := Nat.lt_of_lt_of_le hi h1.len
    rw [h2.same i (Nat.lt_of_lt_of_le a h.len), h.same i a hn, h1.same i hi]⟩
theorem put_midE {S : List Ent} {x y z : Ent} : put (S ++ [x] ++ [y]) S.length z = S ++ [z] ++ [y] := by
  rw [put_app (by simp), put_new]
theorem take_put_len {S S' : List Ent} {gi : Nat} {v : Ent} (h : Kp (put S gi v) S') : S'.take S.length = put S gi v := by
  have := h.take
  rwa [put_len] at this
theorem reA_appL {P : Program} {all : List Oper} {d : Option Tmp} {T : List AV} {S : List Ent} {x : Ent} (hL : CkT (loadsB all d).isEmpty) : reA P all d T S (S ++ [x]) = some () := reA_nil (by simpa using hL.h) (by simp)
def isLd1 (t : TypeId) (a q : Tmp) : List (TypeId × Operand × Option Tmp × Bool) → Bool
  | [(t', .tmp a', some q', true)] => t' == t && a' == a && q' == q
  | _ => false
theorem isLd1_eq {t : TypeId} {a q : Tmp} {l : List (TypeId × Operand × Option Tmp × Bool)} (h : isLd1 t a q l = true) : l = [(t, .tmp a, some q, true)] := by
  unfold isLd1 at h
  split at h
  · simp only [Bool.and_eq_true, beq_iff_eq] at h
    obtain ⟨⟨rfl, rfl⟩, rfl⟩ := h
    rfl
  · cases h
open Classical in
noncomputable def reLd (o : Option AV) (v : AV) (c : Option Unit) : Option Unit := if o = some v then c else none
theorem reLd_same {v : AV} {c : Option Unit} : reLd (some v) v c = c := by unfold reLd; rw [if_pos rfl]
theorem reA_one (t : TypeId) (a q : Tmp) {P : Program} {all : List Oper} {d : Option Tmp} {T : List AV} {S : List Ent} {x : Ent} (hL : CkT (isLd1 t a q (loadsB all d))) (hq : CkT (decide (q < T.length))) (hd : CkT d.isSome) : reA P all d T S (S ++ [x]) = reLd (ldA P t (getT T a) (S ++ [x])) (getT T q) (some ()) := by
  by_cases h : ldA P t (getT T a) (S ++ [x]) = some (getT T q)
  · rw [h, reLd_same]
    exact reA_some (isLd1_eq hL.h) (by simp) (fun y hy => by
      simp only [List.mem_singleton] at hy
      subst hy
      exact ⟨rfl, q, rfl, of_decide_eq_true hq.h, h⟩)
  · unfold reLd reA
    rw [if_neg h, if_neg]
    rintro ⟨-, h2⟩
    have := h2 hd.h (t, .tmp a, some q, true) (by rw [isLd1_eq hL.h]; simp)
    obtain ⟨-, q', h3, -, h4⟩ := this
    simp only [Option.some.injEq] at h3
    subst h3
    exact h h4
theorem ent_ne {S : List Ent} {i j ep ep' : Nat} {cs : List AV} {s : Sn} (h : entAt S i ep = some cs) (h' : mapAt S j ep' = some s) : i ≠ j := by
  rintro rfl
  obtain ⟨e, h1, h2, h3⟩ := entAt_some h
  have h4 := mapAt_some h'
  have h5 := entAt_notM h
  rw [h1] at h4
  simp only [Option.some.injEq] at h4
  subst h4
  subst h3
  simp [notM, isMs] at h5
def EachC [Depth] (S : List Ent) (gi ci ce : Nat) (f : FuncId) (caps : List AV) (F : Sn → Option Sn) : Prop := ∀ (S' : List Ent) (tk : List Nat) (k oi oe : Nat) (G0 : Sn), KpX S gi S' → mapAt S' oi oe = some G0 → S.length ≤ oi →
  ∃ G' tk' k', cL Tryz.prog f (.agg [.mref ci ce, .mref oi oe] :: caps) S' tk k = some (.bool (F G0).isSome, put S' oi ⟨oe, [.mset G']⟩, tk', k') ∧ ∀ G2, F G0 = some G2 → G' = G2
def fnA (p : FuncId × List AV) : AV := .fn p.1 p.2
section
variable [Depth]
set_option maxRecDepth 100000 in
set_option maxHeartbeats 2000000 in
theorem branches_is (S : List Ent) (tk : List Nat) (k ci ce gi ge li le : Nat) (G : Sn) (fs : List (FuncId × List AV)) (Fs : List (Sn → Option Sn)) (hG : mapAt S gi ge = some G) (hl : entAt S li le = some (fs.map fnA)) (hlen : fs.length = Fs.length) (hn : fs.length ≤ 1048576)
    (each : ∀ j p F, nth fs j = some p → nth Fs j = some F → EachC S gi ci ce p.1 p.2 F) :
    ∃ G' tk' k', cL Tryz.prog 64 [.agg [.mref ci ce, .mref gi ge], .sref li le 0 fs.length 1] S tk k = some (.bool (thrBr Fs G G).isSome, put S gi ⟨ge, [.mset G']⟩, tk', k') ∧ ∀ G2, thrBr Fs G G = some G2 → G' = G2 := by
  have key : ∃ r, cL Tryz.prog 64 [.agg [.mref ci ce, .mref gi ge], .sref li le 0 fs.length 1] S tk k = some r ∧ (r.1 = .bool (thrBr Fs G G).isSome ∧ ∃ G', r.2.1 = put S gi ⟨ge, [.mset G']⟩ ∧ ∀ G2, thrBr Fs G G = some G2 → G' = G2) := by
    obtain ⟨R, hR⟩ : ∃ R, R = thrBr Fs G G := ⟨_, rfl⟩
    obtain ⟨Φ, hΦ⟩ : ∃ Φ : Rs → Prop, Φ = fun r => r.1 = .bool R.isSome ∧ ∃ G', r.2.1 = put S gi ⟨ge, [.mset G']⟩ ∧ ∀ G2, R = some G2 → G' = G2 := ⟨_, rfl⟩
    rw [← hR]
    show ∃ r, _ = some r ∧ (fun r : Rs => r.1 = .bool R.isSome ∧ ∃ G', r.2.1 = put S gi ⟨ge, [.mset G']⟩ ∧ ∀ G2, R = some G2 → G' = G2) r
    rw [← hΦ]
    obtain ⟨S1, hS1⟩ : ∃ S1 : List Ent, S1 = S ++ [⟨k, [.mref ci ce, .mref gi ge]⟩] ++ [⟨k + 1, [.mset G]⟩] := ⟨_, rfl⟩
    have hK1 : Kp S S1 := by rw [hS1]; exact ((Kp.refl S).old _).old _
    have hp1 : entAt S1 S.length k = some [.mref ci ce, .mref gi ge] := by rw [hS1]; exact entAt_mid rfl
    have hl1 : S1.length = S.length + 2 := by rw [hS1]; simp
    have hb1 : mapAt S1 (S.length + 1) (k + 1) = some G := by
      rw [hS1]
      have := @mapAt_new (S ++ [⟨k, [.mref ci ce, .mref gi ge]⟩]) (k + 1) G
      simpa using this
    have hgl := mapAt_lt hG
    have hcl := fun x tk k => maps_Clone (S ++ [x]) tk k (mapAt_old hG)
    refine opG Tryz.func64 Tryz.ntmps64 ?_
    simp (maxSteps := 10^6) +contextual (disch := try exact dqd) only [evg1, simprocAttr, AV.int, AV.bool, AV.str, Tryz.results64, List.length_append, hcl, xfs]
    rw [← hS1]
    have hl2 := hK1.ent hl
    have hg1 := hK1.map hG
    have hlg := ent_ne hl hG
    have hpg := ent_ne hp1 hg1
    have hbg : S.length + 1 ≠ gi := by omega
    clear hcl hS1
    have hR2 : R = thrBr (Fs.drop 0) G G := hR
    refine loopG (P := Tryz.prog) (fun x st => st.T.length = 33 ∧ (x.2.2.2.2 ≤ fs.length) ∧ (Kp (put S1 gi ⟨ge, [.mset x.2.2.2.1]⟩) x.1) ∧ (R = thrBr (Fs.drop x.2.2.2.2) G x.2.2.2.1) ∧ getT st.T 2 = .ref S.length k 0 ∧ getT st.T 5 = .mref (S.length + 1) (k + 1) ∧ getT st.T 12 = .sref li le 0 fs.length 1 ∧ getT st.T 13 = .int (fs.length : Nat) ∧ getT st.T 14 = .int (x.2.2.2.2 : Nat) ∧ st.S = x.1 ∧ st.tk = x.2.1 ∧ st.n = x.2.2.1) (fun x => fs.length - x.2.2.2.2) (S1, tk, (k + 1 + 1), G, (0 : Nat)) ?_ ?_
    case refine_2 => exact ⟨rfl, Nat.zero_le _, by rw [put_same hg1]; exact Kp.refl _, hR2, rfl, rfl, rfl, rfl, rfl, rfl, rfl, rfl⟩
    rintro ⟨SS, tkx, nx, acc, j⟩ ⟨T, S', tk', n'⟩ ⟨hl, hj, hK, hA, e2, e5, e12, e13, e14, eS, eT, eN⟩ IH
    simp only at hj hK hA e2 e5 e12 e13 e14 eS eT eN
    subst eS eT eN
    obtain ⟨g, hg, hT⟩ := tab_of hl
    rw [hg] at e2 e5 e12 e13 e14
    subst hT
    clear hg hl
    have hX := KpX.of hK
    have hend : S'.take S.length = put S gi ⟨ge, [.mset acc]⟩ := take_put_len ((hK1.put2 hgl ⟨ge, [.mset acc]⟩).trans hK)
    by_cases hlt : j < fs.length
    · have d1 : decide ((j : Int) < (fs.length : Int)) = true := by simpa using hlt
      have hgl1 : gi < S1.length := Nat.lt_of_lt_of_le hgl hK1.len
      obtain ⟨q, hq⟩ := nth_some hlt
      obtain ⟨F, hF⟩ := nth_some (show j < Fs.length by omega)
      have hq' : nth ((fs.map fnA).drop (j * 1)) 0 = some (.fn q.1 q.2) := by
        rw [Nat.mul_one, nth_drop (x := fnA q) (by rw [nth_map, hq]; rfl)]
        rfl
      rw [nth_drop hF] at hA
      simp only [thrBr] at hA
      have hw := wrap_add (i := j) (by omega)
      have hb2 := hX.map hb1 hbg
      have hcl := maps_Clone S' tk' n' hb2
      have hp2 := hX.ent hp1 hpg
      have hp3 := fun x => entAt_old (e := x) hp2
      have hli := hX.ent hl2 hlg
      have hg2 : mapAt S' gi ge = some acc := hK.map (mapAt_put hgl1)
      obtain ⟨G', tk2, k2, hc, hG'⟩ := each j q F hq hF ((S' ++ [⟨n', [.mset G]⟩]) ++ [⟨n' + 1, [.mref ci ce, .mref S'.length n']⟩]) tk' (n' + 1 + 1) S'.length n' G ((hX.ofK (Kp.refl _ |>.old _ |>.old _) hK1)) (mapAt_old mapAt_new) (by have := hX.len; omega)
      rw [put_midE] at hc
      have hone : entAt (S' ++ [⟨n', [.mset G']⟩] ++ [⟨n' + 1, [.mref ci ce, .mref S'.length n']⟩]) (S' ++ [(⟨n', [.mset G]⟩ : Ent)]).length (n' + 1) = some [.mref ci ce, .mref S'.length n'] := by
        have := @entAt_new (S' ++ [⟨n', [.mset G']⟩]) (n' + 1) [.mref ci ce, .mref S'.length n'] rfl
        simpa using this
      have hcp := maps_Copy (S' ++ [⟨n', [.mset G']⟩] ++ [⟨n' + 1, [.mref ci ce, .mref S'.length n']⟩]) tk2 k2 (mapAt_old (mapAt_old hg2)) (mapAt_old mapAt_new) (by have := mapAt_lt hg2; omega)
      generalize hs : (F G).isSome = b at hc
      simp (maxSteps := 10^6) +contextual (disch := try exact dqd) only [evg1, simprocAttr, AV.int, AV.bool, AV.str, Tryz.results64, e2, e5, e12, e13, e14, d1, hlt, hq', hw, hcl, hc, hp2, hp3, hli, hone, hcp, xfs, reLd_same, reA_one 95 18 19]
      refine ⟨fun hb => ?_, fun hb => ?_⟩
      · rw [hb] at hs
        obtain ⟨r, hr⟩ := Option.isSome_iff_exists.1 hs
        have hr2 := hG' r hr
        subst hr2
        rw [hr] at hA
        refine IH (_, _, _, uniK acc G', j + 1) _ (by dsimp only; omega) ⟨rfl, hlt, ?_, hA, rfl, rfl, rfl, rfl, rfl, rfl, rfl, rfl⟩
        have := ((hK.old ⟨n', [.mset G']⟩).old ⟨n' + 1, [.mref ci ce, .mref S'.length n']⟩).put2 (by rw [put_len]; exact hgl1) ⟨ge, [.mset (uniK acc G')]⟩
        rwa [put_put] at this
      · rw [hb] at hs
        have hF0 : F G = none := by simpa using hs
        rw [hF0] at hA
        rw [hΦ, hA]
        exact ⟨rfl, acc, take_put_len ((hK1.put2 hgl _).trans ((hK.old _).old _)), fun G2 h => by cases h⟩
    · have d1 : decide ((j : Int) < (fs.length : Int)) = false := by simpa using hlt
      have he : Fs.length ≤ j := by omega
      rw [List.drop_eq_nil_of_le he] at hA
      simp only [thrBr] at hA
      simp (maxSteps := 10^6) +contextual (disch := try exact dqd) only [evg1, simprocAttr, AV.int, AV.bool, AV.str, Tryz.results64, e2, e5, e12, e13, e14, d1]
      rw [hΦ, hA]
      exact ⟨rfl, acc, hend, fun G2 h => by simpa using h⟩
  obtain ⟨⟨r1, r2, r3, r4⟩, h1, h2, G', h3, h4⟩ := key
  simp only at h2 h3
  exact ⟨G', r3, r4, by rw [h1, h2, h3], h4⟩
end
end Go.Proofs.YtmkoiandfojgmaaGreat
namespace Go.Proofs.YtmkoiandfojgmaaGreat
open Go
theorem reA_putL {P : Program} {all : List Oper} {d : Option Tmp} {T : List AV} {S : List Ent} {i : Nat} {x : Ent} (hL : CkT (loadsB all d).isEmpty) : reA P all d T S (put S i x) = some () := reA_nil (by simpa using hL.h) (by simp [put_len])
theorem reA_sameL {P : Program} {all : List Oper} {d : Option Tmp} {T : List AV} {S : List Ent} (hL : CkT (loadsB all d).isEmpty) : reA P all d T S S = some () := reA_nil (by simpa using hL.h) (Nat.le_refl _)
theorem delL_app : ∀ (G : Sn) (l l' : List ByteArray), delL G (l ++ l') = delL (delL G l) l'
  | _, [], _ => rfl
  | G, s :: l, l' => by simp only [List.cons_append, delL, delL_app (delK G s) l l']
theorem delL_take {G : Sn} {l : List ByteArray} {j : Nat} {s : ByteArray} (h : nth l j = some s) : delL G (l.take (j + 1)) = delK (delL G (l.take j)) s := by
  rw [nth_get] at h
  rw [List.take_add_one, h, Option.toList_some, delL_app]
  rfl
def kidF : Bool → FuncId
  | false => 65
  | true => 66
section
variable [Depth]
set_option maxRecDepth 100000 in
set_option maxHeartbeats 2000000 in
theorem each_kid (b : Bool) {S : List Ent} {ei ee ci ce gi : Nat} {C : Sn} {o : Int} {s : ByteArray} {n : Int} {ks : List XT} {ps : List (ByteArray × TT)} {al : List LT} {ts : List TT} {q : XT} (he : entAt S ei ee = some (exprC (.node o s n ks ps al ts))) (hne : ei ≠ gi) (hC : mapAt S ci ce = some C) (hcg : ci ≠ gi)
    (hq : nth ks (bif b then 2 else 1) = some q) (ih : ThrC q) (hd : dpX q ≤ Depth.d + 1) (hs : szX q ≤ 262144) : EachC S gi ci ce (kidF b) [.ref ei ee 0] (thr q C) := by
  intro S' tk k oi oe G0 hX hG hoi
  have he2 := fun x => entAt_old (e := x) (hX.ent he hne)
  have hC2 := hX.map hC hcg
  have hq' := nth_exprs hq
  have hci := mapAt_lt hC
  have hol := mapAt_lt hG
  obtain ⟨G', tk', k', hc, hG'⟩ := ih hd hs (S' ++ [⟨k, [.mref ci ce, .mref oi oe]⟩]) tk (k + 1) ci ce oi oe C G0 (mapAt_old hC2) (mapAt_old hG) (by omega)
  obtain ⟨qo, qs, qn, qk, qp, qa, qt⟩ := q
  simp only [exprC] at he2 hq' hc
  generalize (thr (.node qo qs qn qk qp qa qt) C G0).isSome = r at hc
  have htake : (put (S' ++ [(⟨k, [.mref ci ce, .mref oi oe]⟩ : Ent)]) oi ⟨oe, [.mset G']⟩).take S'.length = put S' oi ⟨oe, [.mset G']⟩ := by rw [put_app hol, List.take_left' (by rw [put_len])]
  have i1 : intN (.prim (.int .i64 1)) = some 1 := rfl
  have i2 : intN (.prim (.int .i64 2)) = some 2 := rfl
  have key : ∃ x, cL Tryz.prog (kidF b) (.agg [.mref ci ce, .mref oi oe] :: [.ref ei ee 0]) S' tk k = some x ∧ x = (.bool r, put S' oi ⟨oe, [.mset G']⟩, tk', k') := by
    cases b
    · simp only [cond_false] at hq'
      show ∃ x, cL Tryz.prog 65 [.agg [.mref ci ce, .mref oi oe], .ref ei ee 0] S' tk k = some x ∧ _
      refine opG Tryz.func65 Tryz.ntmps65 ?_
      simp (maxSteps := 10^6) +contextual (disch := try exact dqd) only [evg1, simprocAttr, AV.int, AV.bool, AV.str, Tryz.results65, i1, he2, hq', hc, xfs, reA_putL]
      rw [htake]
    · simp only [cond_true] at hq'
      show ∃ x, cL Tryz.prog 66 [.agg [.mref ci ce, .mref oi oe], .ref ei ee 0] S' tk k = some x ∧ _
      refine opG Tryz.func66 Tryz.ntmps66 ?_
      simp (maxSteps := 10^6) +contextual (disch := try exact dqd) only [evg1, simprocAttr, AV.int, AV.bool, AV.str, Tryz.results66, i2, he2, hq', hc, xfs, reA_putL]
      rw [htake]
  obtain ⟨x, h1, h2⟩ := key
  exact ⟨G', tk', k', by rw [h1, h2], hG'⟩
theorem inside_is {S : List Ent} {tk : List Nat} {k ci ce gi ge hi he : Nat} {e : XT} {bs : List ByteArray} {G C : Sn} (hG : mapAt S gi ge = some G) (hC : mapAt S hi he = some C) (hd : dpX e ≤ Depth.d) (hs : szX e ≤ 262144) (hb : bs.length ≤ 1048576) (hne : gi ≠ hi) :
    ∃ tk' k', cL Tryz.prog 63 [.agg [.mref ci ce, .mref gi ge], .agg (exprC e), .mref hi he, .frz (bs.map strC) .unk] S tk k = some (.bool (insF e C bs G).isSome, put S gi ⟨ge, [.mset ((insF e C bs G).getD G)]⟩, tk', k') := by
  exact path_inside (q := ⟨ci, ce, gi, ge, hi, he, e, bs⟩) S tk k ⟨hd, hs, hb, hne⟩ hG hC
set_option maxRecDepth 100000 in
set_option maxHeartbeats 2000000 in
theorem each_alt {S : List Ent} {ai ae ci ce gi : Nat} {C : Sn} {con : ByteArray} {ns : List ByteArray} {q : XT} (he : entAt S ai ae = some (altC (.mk con ns q))) (hne : ai ≠ gi) (hC : mapAt S ci ce = some C) (hcg : ci ≠ gi)
    (hd : dpX q ≤ Depth.d) (hs : szX q ≤ 262144) (hns : ns.length ≤ 262144) : EachC S gi ci ce 88 [.ref ai ae 0] (fun G => insF q (delL C ns) ns G) := by
  intro Sq tk k oi oe G0 hX hG hoi
  have he2 := hX.ent he hne
  have hC2 := hX.map hC hcg
  have hci := mapAt_lt hC
  have hol := mapAt_lt hG
  have key : ∃ r, cL Tryz.prog 88 [.agg [.mref ci ce, .mref oi oe], .ref ai ae 0] Sq tk k = some r ∧ (r.1 = .bool (insF q (delL C ns) ns G0).isSome ∧ r.2.1 = put Sq oi ⟨oe, [.mset ((insF q (delL C ns) ns G0).getD G0)]⟩) := by
    obtain ⟨R, hR⟩ : ∃ R, R = insF q (delL C ns) ns G0 := ⟨_, rfl⟩
    obtain ⟨Φ, hΦ⟩ : ∃ Φ : Rs → Prop, Φ = fun r => r.1 = .bool R.isSome ∧ r.2.1 = put Sq oi ⟨oe, [.mset (R.getD G0)]⟩ := ⟨_, rfl⟩
    rw [← hR]
    show ∃ r, _ = some r ∧ (fun r : Rs => r.1 = .bool R.isSome ∧ r.2.1 = put Sq oi ⟨oe, [.mset (R.getD G0)]⟩) r
    rw [← hΦ]
    obtain ⟨S1, hS1⟩ : ∃ S1 : List Ent, S1 = Sq ++ [⟨k, [.mref ci ce, .mref oi oe]⟩] := ⟨_, rfl⟩
    have hK1 : Kp Sq S1 := by rw [hS1]; exact (Kp.refl Sq).old _
    have hp1 : entAt S1 Sq.length k = some [.mref ci ce, .mref oi oe] := by rw [hS1]; exact entAt_new rfl
    have hl1 : S1.length = Sq.length + 1 := by rw [hS1]; simp
    have he3 := fun x => entAt_old (e := x) he2
    obtain ⟨qo, qs, qn, qk, qp, qa, qt⟩ := q
    simp only [altC, exprC, strsA] at he2 he3
    refine opG Tryz.func88 Tryz.ntmps88 ?_
    simp (maxSteps := 10^6) +contextual (disch := try exact dqd) only [evg1, simprocAttr, AV.int, AV.bool, AV.str, Tryz.results88, he3]
    rw [← hS1]
    have he4 := hK1.ent he2
    have hC1 := hK1.map hC2
    have hG1 := hK1.map hG
    clear hS1 he3
    refine loopG (P := Tryz.prog) (fun x st => st.T.length = 27 ∧ (x.2.2.2.2.2 ≤ ns.length) ∧ (Kp S1 x.1) ∧ (mapAt x.1 x.2.2.2.1 x.2.2.2.2.1 = some (delL C (ns.take x.2.2.2.2.2))) ∧ (oi ≠ x.2.2.2.1) ∧ getT st.T 1 = .ref ai ae 0 ∧ getT st.T 2 = .ref Sq.length k 0 ∧ getT st.T 4 = .mref x.2.2.2.1 x.2.2.2.2.1 ∧ getT st.T 10 = .frz (ns.map strC) .unk ∧ getT st.T 11 = .int (ns.length : Nat) ∧ getT st.T 12 = .int (x.2.2.2.2.2 : Nat) ∧ st.S = x.1 ∧ st.tk = x.2.1 ∧ st.n = x.2.2.1) (fun x => ns.length - x.2.2.2.2.2) (S1, tk, (k + 1), ci, ce, (0 : Nat)) ?_ ?_
    case refine_2 => exact ⟨rfl, Nat.zero_le _, Kp.refl _, hC1, by dsimp only; omega, rfl, rfl, rfl, rfl, rfl, rfl, rfl, rfl, rfl⟩
    rintro ⟨SS, tkx, nx, hi, he, j⟩ ⟨T, S', tk', n'⟩ ⟨hl, hj, hK, hm, hne2, e1, e2, e4, e10, e11, e12, eS, eT, eN⟩ IH
    simp only at hj hK hm hne2 e1 e2 e4 e10 e11 e12 eS eT eN
    subst eS eT eN
    obtain ⟨g, hg, hT⟩ := tab_of hl
    rw [hg] at e1 e2 e4 e10 e11 e12
    subst hT
    clear hg hl
    by_cases hlt : j < ns.length
    · have d1 : decide ((j : Int) < (ns.length : Int)) = true := by simpa using hlt
      obtain ⟨s, hs⟩ := nth_some hlt
      have hs' := nth_strs hs
      simp only [strC] at hs'
      have hw := wrap_add (i := j) (by omega)
      have hbd := unique_bind S' tk' n' hm s false
      simp (maxSteps := 10^6) +contextual (disch := try exact dqd) only [evg1, simprocAttr, AV.int, AV.bool, AV.str, Tryz.results88, e1, e2, e4, e10, e11, e12, d1, hs', hw, hbd]
      refine IH (_, _, _, _, _, j + 1) _ (by dsimp only; omega) ⟨rfl, hlt, hK.old _, ?_, ?_, rfl, rfl, rfl, rfl, rfl, rfl, rfl, rfl, rfl⟩
      · rw [delL_take hs]; exact mapAt_new
      · have := hK.len; dsimp only; omega
    · have d1 : decide ((j : Int) < (ns.length : Int)) = false := by simpa using hlt
      have hel : j = ns.length := by omega
      rw [hel, List.take_length] at hm
      obtain ⟨tkz, kz, hin⟩ := inside_is (tk := tk') (k := n') (ci := ci) (ce := ce) (e := .node qo qs qn qk qp qa qt) (bs := ns) (hK.map hG1) hm hd hs (by omega) hne2
      rw [← hR] at hin
      simp only [exprC] at hin
      have hp2 := hK.ent hp1
      have he5 := hK.ent he4
      simp (maxSteps := 10^6) +contextual (disch := try exact dqd) only [evg1, simprocAttr, AV.int, AV.bool, AV.str, Tryz.results88, e1, e2, e4, e10, e11, e12, d1, hin, hp2, he5, xfs, reA_putL]
      rw [hΦ]
      exact ⟨rfl, take_put_len ((hK1.trans hK).put2 hol _)⟩
  obtain ⟨⟨r1, r2, r3, r4⟩, h1, h2, h3⟩ := key
  simp only at h2 h3
  refine ⟨_, r3, r4, by rw [h1, h2, h3], fun G2 h => ?_⟩
  simp only at h
  rw [h]; rfl
end
end Go.Proofs.YtmkoiandfojgmaaGreat
namespace Go.Proofs.YtmkoiandfojgmaaGreat
open Go
def altA (r : Nat × Nat) : AV := .fn 88 [.ref r.1 r.2 0]
def altP (r : Nat × Nat) : FuncId × List AV := (88, [.ref r.1 r.2 0])
def altF (C : Sn) : LT → Sn → Option Sn
  | .mk _ ns b => fun G => insF b (delL C ns) ns G
theorem thrA_br (C : Sn) : ∀ (al : List LT) (G acc : Sn), thrA al C G acc = thrBr (al.map (altF C)) G acc
  | [], _, _ => by simp only [thrA, List.map_nil, thrBr]
  | .mk c ns b :: al, G, acc => by
    simp only [thrA, List.map_cons, thrBr, altF, insF]
    cases thr b (delL C ns) (delL G ns) with
    | none => rfl
    | some r => simp only [Option.bind_some, Option.map_some]; exact thrA_br C al G _
theorem thrL_drop (C : Sn) {ks : List XT} {j : Nat} {q : XT} (h : nth ks j = some q) (G : Sn) : thrL (ks.drop j) C G = (thr q C G).bind fun G1 => thrL (ks.drop (j + 1)) C G1 := by
  rw [nth_drop h]; simp only [thrL]
theorem ap_fn0 {S : List Ent} {n : Nat} {f : FuncId} {cs : List AV} : apO Tryz.prog 115 (.frz [] .nilc) (.lit 1 [.fn f cs]) S n = some (.sref S.length n 0 1 1, S ++ [⟨n, [.fn f cs]⟩], n + 1) := by
  have e1 : apT Tryz.prog 115 = some 1 := by kernel_rfl
  unfold apO
  simp only [e1, litC]
  rw [if_pos (by simp [leafOk])]
  simp [roomy, apO2]
theorem ap_fn {S : List Ent} {id ep n j : Nat} {l : List AV} {f : FuncId} {cs : List AV} (h : entAt S id ep = some l) (hl : l.length = j) (hn : j + 1 ≤ 1048576) : apO Tryz.prog 115 (.sref id ep 0 j 1) (.lit 1 [.fn f cs]) S n = some (.sref id n 0 (j + 1) 1, put S id ⟨n, l ++ [.fn f cs]⟩, n + 1) := by
  have e1 : apT Tryz.prog 115 = some 1 := by kernel_rfl
  unfold apO
  simp only [e1, litC]
  rw [if_pos (by simp [leafOk])]
  simp only
  rw [if_pos (by simp [roomy])]
  unfold apO2
  simp only [if_true, h, Nat.mul_one]
  rw [if_pos ⟨by omega, by simp only [roomy, decide_eq_true_eq]; omega⟩, List.take_of_length_le (by omega)]
theorem entAt_putN {S : List Ent} {id n : Nat} {l : List AV} (h : id < S.length) (hl : notM l = true) : entAt (put S id ⟨n, l⟩) id n = some l := by
  unfold entAt
  rw [nth_put_lt h]
  simp [hl]
theorem notM_alts (rs : List (Nat × Nat)) {x : AV} (hx : notM [x] = true := by rfl) : notM (rs.map altA ++ [x]) = true := by cases rs <;> first | exact hx | rfl
section
variable [Depth]
set_option maxRecDepth 100000 in
set_option maxHeartbeats 2000000 in
theorem branches_nil (S : List Ent) (tk : List Nat) (k ci ce gi ge : Nat) (G : Sn) (hG : mapAt S gi ge = some G) :
    ∃ tk' k', cL Tryz.prog 64 [.agg [.mref ci ce, .mref gi ge], .frz [] .nilc] S tk k = some (.bool true, S, tk', k') := by
  have key : ∃ r, cL Tryz.prog 64 [.agg [.mref ci ce, .mref gi ge], .frz [] .nilc] S tk k = some r ∧ (r.1 = .bool true ∧ r.2.1 = S) := by
    obtain ⟨Φ, hΦ⟩ : ∃ Φ : Rs → Prop, Φ = fun r => r.1 = .bool true ∧ r.2.1 = S := ⟨_, rfl⟩
    show ∃ r, _ = some r ∧ (fun r : Rs => r.1 = .bool true ∧ r.2.1 = S) r
    rw [← hΦ]
    obtain ⟨S1, hS1⟩ : ∃ S1 : List Ent, S1 = S ++ [⟨k, [.mref ci ce, .mref gi ge]⟩] ++ [⟨k + 1, [.mset G]⟩] := ⟨_, rfl⟩
    have hK1 : Kp S S1 := by rw [hS1]; exact ((Kp.refl S).old _).old _
    have hcl := fun x tk k => maps_Clone (S ++ [x]) tk k (mapAt_old hG)
    refine opG Tryz.func64 Tryz.ntmps64 ?_
    simp (maxSteps := 10^6) +contextual (disch := try exact dqd) only [evg1, simprocAttr, AV.int, AV.bool, AV.str, Tryz.results64, List.length_append, hcl, xfs]
    rw [← hS1]
    clear hS1
    refine loopG (P := Tryz.prog) (fun x st => st.T.length = 33 ∧ getT st.T 13 = .int (0 : Nat) ∧ getT st.T 14 = .int (0 : Nat) ∧ st.S = S1 ∧ st.tk = x.1 ∧ st.n = x.2) (fun x => 0) (tk, (k + 1 + 1)) ?_ ?_
    case refine_2 => exact ⟨rfl, rfl, rfl, rfl, rfl, rfl⟩
    rintro ⟨tkx, nx⟩ ⟨T, S', tk', n'⟩ ⟨hl, e13, e14, eS, eT, eN⟩ IH
    simp only at e13 e14 eS eT eN
    subst eS eT eN
    obtain ⟨g, hg, hT⟩ := tab_of hl
    rw [hg] at e13 e14
    subst hT
    clear hg hl
    have d1 : decide (((0 : Nat) : Int) < ((0 : Nat) : Int)) = false := rfl
    simp (maxSteps := 10^6) +contextual (disch := try exact dqd) only [evg1, simprocAttr, AV.int, AV.bool, AV.str, Tryz.results64, e13, e14, d1]
    rw [hΦ]
    exact ⟨rfl, hK1.take⟩
  obtain ⟨⟨r1, r2, r3, r4⟩, h1, h2, h3⟩ := key
  simp only at h2 h3
  exact ⟨r3, r4, by rw [h1, h2, h3]⟩
def AnsR (S : List Ent) (gi ge : Nat) (R : Option Sn) (r : Rs) : Prop := r.1 = .bool R.isSome ∧ ∃ G', r.2.1 = put S gi ⟨ge, [.mset G']⟩ ∧ ∀ G2, R = some G2 → G' = G2
omit [Depth] in
theorem AnsR.no {S S' S1 : List Ent} {gi ge : Nat} {R : Option Sn} {G : Sn} (hR : R = none) (hK : Kp (put S1 gi ⟨ge, [.mset G]⟩) S') (h1 : Kp S S1) (hg : gi < S.length) (r : List Nat × Nat) : AnsR S gi ge R (.prim (.bool false), S'.take S.length, r) := by
  subst hR
  exact ⟨rfl, G, take_put_len ((h1.put2 hg _).trans hK), fun G2 h => by cases h⟩
set_option maxRecDepth 100000 in
set_option maxHeartbeats 4000000 in
theorem match_is (o : Int) (s : ByteArray) (n : Int) (ks : List XT) (ps : List (ByteArray × TT)) (al : List LT) (ts : List TT) (ihk : ∀ q ∈ ks, ThrC q) (hd : dpX (.node o s n ks ps al ts) ≤ Depth.d + 1) (hsz : szX (.node o s n ks ps al ts) ≤ 262144)
    (S : List Ent) (tk : List Nat) (k ci ce gi ge : Nat) (C G : Sn) (hC : mapAt S ci ce = some C) (hG : mapAt S gi ge = some G) (hcg : ci ≠ gi) :
    ∃ r, cL Tryz.prog 67 [.agg [.mref ci ce, .mref gi ge], .agg (exprC (.node o s n ks ps al ts))] S tk k = some r ∧ AnsR S gi ge ((thrL ks C G).bind fun G1 => thrA al C G1 G1) r := by
  simp only [szX] at hsz
  simp only [dpX] at hd
  have hks := szXs_len ks
  have hals := szLs_len al
  obtain ⟨R, hR⟩ : ∃ R, R = (thrL ks C G).bind fun G1 => thrA al C G1 G1 := ⟨_, rfl⟩
  obtain ⟨Φ, hΦ⟩ : ∃ Φ : Rs → Prop, Φ = AnsR S gi ge R := ⟨_, rfl⟩
  rw [← hR, ← hΦ]
  obtain ⟨S1, hS1⟩ : ∃ S1 : List Ent, S1 = S ++ [⟨k, [.mref ci ce, .mref gi ge]⟩] ++ [⟨k + 1, [.prim (.int .i64 o), .prim (.string s), .prim (.int .i64 n), .frz (exprsC ks) .unk, .frz (ps.map paramC) .unk, .frz (altsC al) .unk, .frz (typesC ts) .unk]⟩] := ⟨_, rfl⟩
  have hK1 : Kp S S1 := by rw [hS1]; exact ((Kp.refl S).old _).old _
  have hp1 : entAt S1 S.length k = some [.mref ci ce, .mref gi ge] := by rw [hS1]; exact entAt_mid rfl
  have he1 : entAt S1 (S.length + 1) (k + 1) = some [.prim (.int .i64 o), .prim (.string s), .prim (.int .i64 n), .frz (exprsC ks) .unk, .frz (ps.map paramC) .unk, .frz (altsC al) .unk, .frz (typesC ts) .unk] := by
    rw [hS1]
    have := @entAt_new (S ++ [⟨k, [.mref ci ce, .mref gi ge]⟩]) (k + 1) [.prim (.int .i64 o), .prim (.string s), .prim (.int .i64 n), .frz (exprsC ks) .unk, .frz (ps.map paramC) .unk, .frz (altsC al) .unk, .frz (typesC ts) .unk] rfl
    simpa using this
  have hl1 : S1.length = S.length + 2 := by rw [hS1]; simp
  have he2 := he1
  rw [hS1] at he2
  have hgl := mapAt_lt hG
  refine opG Tryz.func67 Tryz.ntmps67 ?_
  simp (maxSteps := 10^6) +contextual (disch := try exact dqd) only [evg1, simprocAttr, AV.int, AV.bool, AV.str, Tryz.results67, exprC, exprsC_len, List.length_append, he2]
  rw [← hS1]
  clear he2
  have hG1 := hK1.map hG
  have hC1 := hK1.map hC
  have hgl1 := mapAt_lt hG1
  have hpg := ent_ne hp1 hG1
  have heg := ent_ne he1 hG1
  clear hS1
  have hR2 : R = (thrL (ks.drop 0) C G).bind fun G1 => thrA al C G1 G1 := hR
  refine loopG (P := Tryz.prog) (fun x st => st.T.length = 37 ∧ (x.2.2.2.2 ≤ ks.length) ∧ (Kp (put S1 gi ⟨ge, [.mset x.2.2.2.1]⟩) x.1) ∧ (R = (thrL (ks.drop x.2.2.2.2) C x.2.2.2.1).bind fun G1 => thrA al C G1 G1) ∧ getT st.T 2 = .ref S.length k 0 ∧ getT st.T 3 = .ref (S.length + 1) (k + 1) 0 ∧ getT st.T 11 = .frz (exprsC ks) .unk ∧ getT st.T 12 = .int (ks.length : Nat) ∧ getT st.T 13 = .int (x.2.2.2.2 : Nat) ∧ st.S = x.1 ∧ st.tk = x.2.1 ∧ st.n = x.2.2.1) (fun x => ks.length - x.2.2.2.2) (S1, tk, (k + 1 + 1), G, (0 : Nat)) ?_ ?_
  case refine_2 => exact ⟨rfl, Nat.zero_le _, by rw [put_same hG1]; exact Kp.refl _, hR2, rfl, rfl, rfl, rfl, rfl, rfl, rfl, rfl⟩
  rintro ⟨SS, tkx, nx, acc, j⟩ ⟨T, S', tk', n'⟩ ⟨hl, hj, hK, hA, e2, e3, e11, e12, e13, eS, eT, eN⟩ IH
  simp only at hj hK hA e2 e3 e11 e12 e13 eS eT eN
  subst eS eT eN
  obtain ⟨g, hg, hT⟩ := tab_of hl
  rw [hg] at e2 e3 e11 e12 e13
  subst hT
  clear hg hl
  have hX := KpX.of hK
  have hg2 : mapAt S' gi ge = some acc := hK.map (mapAt_put hgl1)
  have hc2 := hX.map hC1 hcg
  by_cases hlt : j < ks.length
  · have d1 : decide ((j : Int) < (ks.length : Int)) = true := by simpa using hlt
    obtain ⟨q, hq⟩ := nth_some hlt
    have hq' := nth_exprs hq
    have hqm := nth_memU hq
    have hszq := szXs_mem hqm
    have hdq := dpXs_mem hqm
    have hw := wrap_add (i := j) (by omega)
    rw [thrL_drop C hq] at hA
    have hp2 := fun x => entAt_old (e := x) (hX.ent hp1 hpg)
    obtain ⟨G', tk2, k2, hc, hG'⟩ := ihk q hqm (by omega) (by omega) (S' ++ [⟨n', exprC q⟩]) tk' (n' + 1) ci ce gi ge C acc (mapAt_old hc2) (mapAt_old hg2) hcg
    have hK2 : Kp (put S1 gi ⟨ge, [.mset G']⟩) (put (S' ++ [⟨n', exprC q⟩]) gi ⟨ge, [.mset G']⟩) := by
      have := (hK.old ⟨n', exprC q⟩).put2 (by rw [put_len]; exact hgl1) ⟨ge, [.mset G']⟩
      rwa [put_put] at this
    obtain ⟨qo, qs, qn, qk, qp, qa, qt⟩ := q
    simp only [exprC] at hq' hc hK2
    generalize hb : thr (.node qo qs qn qk qp qa qt) C acc = x at hc hA hG'
    simp (maxSteps := 10^6) +contextual (disch := try exact dqd) only [evg1, simprocAttr, AV.int, AV.bool, AV.str, Tryz.results67, e2, e3, e11, e12, e13, d1, hq', hw, hc, hp2, xfs, reA_putL]
    refine ⟨fun hx => ?_, fun hx => ?_⟩
    · obtain ⟨r, hr⟩ := Option.isSome_iff_exists.1 hx
      obtain rfl := hG' r hr
      rw [hr] at hA
      exact IH (_, _, _, G', j + 1) _ (by dsimp only; omega) ⟨rfl, hlt, hK2, hA, rfl, rfl, rfl, rfl, rfl, rfl, rfl, rfl⟩
    · have hx0 : x = none := by simpa using hx
      rw [hΦ]
      exact AnsR.no (R := R) (by rw [hA, hx0]; rfl) hK2 hK1 hgl _
  · have d1 : decide ((j : Int) < (ks.length : Int)) = false := by simpa using hlt
    have he : ks.length ≤ j := by omega
    rw [List.drop_eq_nil_of_le he] at hA
    simp only [thrL, Option.bind_some] at hA
    have he3 := hX.ent he1 heg
    simp (maxSteps := 10^6) +contextual (disch := try exact dqd) only [evg1, simprocAttr, AV.int, AV.bool, AV.str, Tryz.results67, e2, e3, e11, e12, e13, d1, he3, altsC_len]
    rw [thrA_br] at hA
    clear hR2 IH he3 e2 e3 e11 e12 e13 d1
    refine loopG (P := Tryz.prog) (fun x st => st.T.length = 37 ∧ (x.2.2.2.2.2 ≤ al.length) ∧ (Kp (put S1 gi ⟨ge, [.mset acc]⟩) x.1) ∧ (x.2.2.2.2.1.length = x.2.2.2.2.2) ∧ ((x.2.2.2.2.2 = 0 ∧ x.2.2.2.1 = .frz [] .nilc) ∨ (∃ li le, x.2.2.2.1 = .sref li le 0 x.2.2.2.2.2 1 ∧ entAt x.1 li le = some (x.2.2.2.2.1.map altA) ∧ S1.length ≤ li ∧ ∀ r ∈ x.2.2.2.2.1, r.1 ≠ li)) ∧ (∀ m r a, nth x.2.2.2.2.1 m = some r → nth al m = some a → entAt x.1 r.1 r.2 = some (altC a) ∧ S1.length ≤ r.1) ∧ getT st.T 2 = .ref S.length k 0 ∧ getT st.T 7 = x.2.2.2.1 ∧ getT st.T 23 = .frz (altsC al) .unk ∧ getT st.T 24 = .int (al.length : Nat) ∧ getT st.T 25 = .int (x.2.2.2.2.2 : Nat) ∧ st.S = x.1 ∧ st.tk = x.2.1 ∧ st.n = x.2.2.1) (fun x => al.length - x.2.2.2.2.2) (S', tk', n', (AV.frz [] .nilc), ([] : List (Nat × Nat)), (0 : Nat)) ?_ ?_
    case refine_2 => exact ⟨(by first | rfl | assumption), Nat.zero_le _, hK, rfl, .inl ⟨rfl, rfl⟩, fun m r a h => by simp [nth] at h, (by first | rfl | assumption), (by first | rfl | assumption), (by first | rfl | assumption), (by first | rfl | assumption), (by first | rfl | assumption), (by first | rfl | assumption), (by first | rfl | assumption), (by first | rfl | assumption)⟩
    rintro ⟨SS, tkx, nx, w, rs, i⟩ ⟨T, S', tk', n'⟩ ⟨hl, hi, hK2, hrl, hw2, hrs, e2, e7, e23, e24, e25, eS, eT, eN⟩ IH
    simp only at hi hK2 hrl hw2 hrs e2 e7 e23 e24 e25 eS eT eN
    subst eS eT eN
    obtain ⟨g, hg, hT⟩ := tab_of hl
    rw [hg] at e2 e7 e23 e24 e25
    subst hT
    clear hg hl
    have hX2 := KpX.of hK2
    by_cases hlt : i < al.length
    · have d1 : decide ((i : Int) < (al.length : Int)) = true := by simpa using hlt
      obtain ⟨a, ha⟩ := nth_some hlt
      have ha' := nth_alts ha
      have hw := wrap_add (i := i) (by omega)
      obtain ⟨ac, ans, ao, as', an, ak, ap, aa, at'⟩ := a
      simp only [altC, exprC, strsA] at ha'
      have hcap : ∀ a b, capsOk (.ref a b 0) = true := fun _ _ => rfl
      have hlit : ∀ f cs, lit1 1 1 [(0, .fn f cs)] = some (.lit 1 [.fn f cs]) := fun _ _ => rfl
      rcases hw2 with ⟨h0, rfl⟩ | ⟨li, le, rfl, hle, hli, hne⟩
      · have hap := fun (S : List Ent) (n : Nat) (cs : List AV) => @ap_fn0 S n 88 cs
        simp (maxSteps := 10^6) +contextual (disch := try exact dqd) only [evg1, simprocAttr, AV.int, AV.bool, AV.str, Tryz.results67, e2, e7, e23, e24, e25, d1, ha', hw, hap, hcap, hlit]
        refine IH (_, _, _, _, [(S'.length, n')], i + 1) _ (by dsimp only; omega) ⟨rfl, hlt, (hK2.old _).old _, by simp [h0], .inr ⟨_, _, by rw [h0], entAt_new rfl, ?_, ?_⟩, ?_, rfl, rfl, rfl, rfl, rfl, rfl, rfl, rfl⟩
        · have := hK2.len; rw [put_len] at this; simp; omega
        · intro r hr
          simp only [List.mem_singleton] at hr
          subst hr
          simp
        · intro m r a' hm hm'
          match m, hm with
          | 0, hm =>
            simp only [nth, Option.some.injEq] at hm
            subst hm
            rw [h0] at ha
            rw [ha] at hm'
            simp only [Option.some.injEq] at hm'
            subst hm'
            exact ⟨entAt_old (entAt_new rfl), by have := hK2.len; rw [put_len] at this; exact this⟩
          | m + 1, hm => simp [nth] at hm
      · have hle2 := fun x => entAt_old (e := x) hle
        have hap := fun (x : Ent) (n : Nat) (cs : List AV) => @ap_fn (S' ++ [x]) li le n i _ 88 cs (hle2 x) (by simpa using hrl) (by omega)
        simp (maxSteps := 10^6) +contextual (disch := try exact dqd) only [evg1, simprocAttr, AV.int, AV.bool, AV.str, Tryz.results67, e2, e7, e23, e24, e25, d1, ha', hw, hap, hcap, hlit]
        have hll := entAt_lt hle
        refine IH (_, _, _, _, rs ++ [(S'.length, n')], i + 1) _ (by dsimp only; omega) ⟨rfl, hlt, (hK2.old _).put (by rw [put_len]; exact hli) _, by simp [hrl], .inr ⟨_, _, rfl, ?_, hli, ?_⟩, ?_, rfl, rfl, rfl, rfl, rfl, rfl, rfl, rfl⟩
        · rw [List.map_append]
          exact entAt_putN (by simp; omega) (notM_alts rs)
        · intro r hr
          rcases List.mem_append.1 hr with hr | hr
          · exact hne r hr
          · simp only [List.mem_singleton] at hr
            subst hr
            simp only
            omega
        · intro m r a' hm hm'
          have hrl' := hrl
          rcases Nat.lt_or_ge m i with hmi | hmi
          · rw [nth_get, List.getElem?_append_left (by rw [hrl]; exact hmi), ← nth_get] at hm
            obtain ⟨h1, h2⟩ := hrs m r a' hm hm'
            refine ⟨?_, h2⟩
            rw [entAt_put_other (Ne.symm (hne r (nth_memU hm)))]
            exact entAt_old h1
          · have hme : m = i := by
              have := nth_lt hm
              simp at this; omega
            subst hme
            rw [nth_get, List.getElem?_append_right (by omega), hrl, Nat.sub_self] at hm
            simp only [List.getElem?_cons_zero, Option.some.injEq] at hm
            subst hm
            rw [ha] at hm'
            simp only [Option.some.injEq] at hm'
            subst hm'
            rw [entAt_put_other (by simp only; omega)]
            exact ⟨entAt_new rfl, by have := hK2.len; rw [put_len] at this; exact this⟩
    · have d1 : decide ((i : Int) < (al.length : Int)) = false := by simpa using hlt
      have hie : i = al.length := by omega
      have hp2 := hX2.ent hp1 hpg
      have hg2 : mapAt S' gi ge = some acc := hK2.map (mapAt_put hgl1)
      have hgl2 := mapAt_lt hg2
      rcases hw2 with ⟨h0, rfl⟩ | ⟨li, le, rfl, hle, hli, hne⟩
      · obtain ⟨tk2, k2, hbr⟩ := branches_nil S' tk' n' ci ce gi ge acc hg2
        simp (maxSteps := 10^6) +contextual (disch := try exact dqd) only [evg1, simprocAttr, AV.int, AV.bool, AV.str, Tryz.results67, e2, e7, e23, e24, e25, d1, hp2, hbr, xfs]
        have : al = [] := List.eq_nil_of_length_eq_zero (by omega)
        subst this
        rw [hΦ, hA]
        exact ⟨rfl, acc, take_put_len ((hK1.put2 hgl _).trans hK2), fun G2 h => by simpa [thrBr] using h⟩
      · have hmap : rs.map altA = (rs.map altP).map fnA := by rw [List.map_map]; rfl
        rw [hmap] at hle
        have heach : ∀ m p F, nth (rs.map altP) m = some p → nth (al.map (altF C)) m = some F → EachC S' gi ci ce p.1 p.2 F := by
          intro m p F hm hF
          rw [nth_map] at hm hF
          obtain ⟨r, hr, rfl⟩ := Option.map_eq_some_iff.1 hm
          obtain ⟨⟨ac, ans, ab⟩, ha, rfl⟩ := Option.map_eq_some_iff.1 hF
          obtain ⟨h1, h2⟩ := hrs m r _ hr ha
          have ham := nth_memU ha
          have hsa := szLs_mem ham
          have hda := dpLs_mem ham
          simp only [szL] at hsa
          exact each_alt h1 (by omega) (hX2.map hC1 hcg) hcg (by omega) (by omega) (by omega)
        obtain ⟨G', tk2, k2, hbr, hG'⟩ := branches_is S' tk' n' ci ce gi ge li le acc (rs.map altP) (al.map (altF C)) hg2 hle (by simp; omega) (by simp; omega) heach
        rw [List.length_map, hrl] at hbr
        rw [← hA] at hbr hG'
        simp (maxSteps := 10^6) +contextual (disch := try exact dqd) only [evg1, simprocAttr, AV.int, AV.bool, AV.str, Tryz.results67, e2, e7, e23, e24, e25, d1, hp2, hbr, xfs]
        rw [hΦ]
        exact ⟨rfl, G', take_put_len (by have := (hK1.put2 hgl ⟨ge, [.mset acc]⟩).trans hK2; have := this.put2 (by rw [put_len]; exact hgl) ⟨ge, [.mset G']⟩; rwa [put_put] at this), hG'⟩
end
end Go.Proofs.YtmkoiandfojgmaaGreat
namespace Go.Proofs.YtmkoiandfojgmaaGreat
open Go
section
variable [Depth]
set_option maxRecDepth 100000 in
set_option maxHeartbeats 4000000 in
theorem thr_loop (ks : List XT) (ihk : ∀ q ∈ ks, ThrC q) (hd : dpXs ks ≤ Depth.d) (hsz : szXs ks ≤ 262144) {S S1 : List Ent} {ci ce gi ge : Nat} {C G : Sn} {k : Nat} (hK1 : Kp S S1) (hp1 : entAt S1 S.length k = some [.mref ci ce, .mref gi ge]) (hC : mapAt S ci ce = some C) (hG : mapAt S gi ge = some G) (hcg : ci ≠ gi)
    (T : List AV) (tk2 : List Nat) (k2 : Nat) (hT : T.length = 156) (h2 : getT T 2 = .ref S.length k 0) (h145 : getT T 145 = .frz (exprsC ks) .unk) (h146 : getT T 146 = .int (ks.length : Nat)) (h147 : getT T 147 = .int (0 : Nat)) :
    Gd (finS S.length) (AnsR S gi ge (thrL ks C G)) (KA Tryz.prog Tryz.f45 19 [] ⟨T, S1, tk2, k2⟩) := by
  have hks := szXs_len ks
  obtain ⟨R, hR⟩ : ∃ R, R = thrL ks C G := ⟨_, rfl⟩
  obtain ⟨Φ, hΦ⟩ : ∃ Φ : Rs → Prop, Φ = AnsR S gi ge R := ⟨_, rfl⟩
  rw [← hR, ← hΦ]
  have hgl := mapAt_lt hG
  have hG1 := hK1.map hG
  have hC1 := hK1.map hC
  have hgl1 := mapAt_lt hG1
  have hpg := ent_ne hp1 hG1
  have hR2 : R = thrL (ks.drop 0) C G := hR
  refine KA_of rfl (t := .mk) ?_
  refine loopG (P := Tryz.prog) (fun x st => st.T.length = 156 ∧ (x.2.2.2.2 ≤ ks.length) ∧ (Kp (put S1 gi ⟨ge, [.mset x.2.2.2.1]⟩) x.1) ∧ (R = thrL (ks.drop x.2.2.2.2) C x.2.2.2.1) ∧ getT st.T 2 = .ref S.length k 0 ∧ getT st.T 145 = .frz (exprsC ks) .unk ∧ getT st.T 146 = .int (ks.length : Nat) ∧ getT st.T 147 = .int (x.2.2.2.2 : Nat) ∧ st.S = x.1 ∧ st.tk = x.2.1 ∧ st.n = x.2.2.1) (fun x => ks.length - x.2.2.2.2) (S1, tk2, k2, G, (0 : Nat)) ?_ ?_
  case refine_2 => exact ⟨(by first | rfl | assumption), Nat.zero_le _, by rw [put_same hG1]; exact Kp.refl _, hR2, (by first | rfl | assumption), (by first | rfl | assumption), (by first | rfl | assumption), (by first | rfl | assumption), (by first | rfl | assumption), (by first | rfl | assumption), (by first | rfl | assumption)⟩
  rintro ⟨SS, tkx, nx, acc, j⟩ ⟨T, S', tk', n'⟩ ⟨hl, hj, hK, hA, e2, e145, e146, e147, eS, eT, eN⟩ IH
  simp only at hj hK hA e2 e145 e146 e147 eS eT eN
  subst eS eT eN
  obtain ⟨g, hg, hT⟩ := tab_of hl
  rw [hg] at e2 e145 e146 e147
  subst hT
  clear hg hl
  have hX := KpX.of hK
  have hg2 : mapAt S' gi ge = some acc := hK.map (mapAt_put hgl1)
  have hc2 := hX.map hC1 hcg
  by_cases hlt : j < ks.length
  · have d1 : decide ((j : Int) < (ks.length : Int)) = true := by simpa using hlt
    obtain ⟨q, hq⟩ := nth_some hlt
    have hq' := nth_exprs hq
    have hqm := nth_memU hq
    have hszq := szXs_mem hqm
    have hdq := dpXs_mem hqm
    have hw := wrap_add (i := j) (by omega)
    rw [thrL_drop C hq] at hA
    have hp2 := fun x => entAt_old (e := x) (hX.ent hp1 hpg)
    obtain ⟨G', tk2', k2', hc, hG'⟩ := ihk q hqm (by omega) (by omega) (S' ++ [⟨n', exprC q⟩]) tk' (n' + 1) ci ce gi ge C acc (mapAt_old hc2) (mapAt_old hg2) hcg
    have hK2 : Kp (put S1 gi ⟨ge, [.mset G']⟩) (put (S' ++ [⟨n', exprC q⟩]) gi ⟨ge, [.mset G']⟩) := by
      have := (hK.old ⟨n', exprC q⟩).put2 (by rw [put_len]; exact hgl1) ⟨ge, [.mset G']⟩
      rwa [put_put] at this
    obtain ⟨qo, qs, qn, qk, qp, qa, qt⟩ := q
    simp only [exprC] at hq' hc hK2
    generalize hb : thr (.node qo qs qn qk qp qa qt) C acc = x at hc hA hG'
    simp (maxSteps := 10^6) +contextual (disch := try exact dqd) only [evg1, simprocAttr, AV.int, AV.bool, AV.str, Tryz.results45, e2, e145, e146, e147, d1, hq', hw, hc, hp2, xfs, reA_putL]
    refine ⟨fun hx => ?_, fun hx => ?_⟩
    · obtain ⟨r, hr⟩ := Option.isSome_iff_exists.1 hx
      obtain rfl := hG' r hr
      rw [hr] at hA
      exact IH (_, _, _, G', j + 1) _ (by dsimp only; omega) ⟨rfl, hlt, hK2, hA, rfl, rfl, rfl, rfl, rfl, rfl, rfl⟩
    · have hx0 : x = none := by simpa using hx
      rw [hΦ]
      exact AnsR.no (R := R) (by rw [hA, hx0]; rfl) hK2 hK1 hgl _
  · have d1 : decide ((j : Int) < (ks.length : Int)) = false := by simpa using hlt
    have he : ks.length ≤ j := by omega
    rw [List.drop_eq_nil_of_le he] at hA
    simp only [thrL] at hA
    simp (maxSteps := 10^6) +contextual (disch := try exact dqd) only [evg1, simprocAttr, AV.int, AV.bool, AV.str, Tryz.results45, e2, e145, e146, e147, d1]
    rw [hΦ]
    exact ⟨by rw [hA]; rfl, acc, take_put_len ((hK1.put2 hgl _).trans hK), fun G2 h => by rw [hA] at h; simpa using h⟩
end
def ThrA [Depth] (e : XT) : Prop := ∀ (S : List Ent) (tk : List Nat) (k ci ce gi ge : Nat) (C G : Sn), mapAt S ci ce = some C → mapAt S gi ge = some G → ci ≠ gi →
  ∃ r, cL Tryz.prog 45 [.agg [.mref ci ce, .mref gi ge], .agg (exprC e)] S tk k = some r ∧ AnsR S gi ge (thr e C G) r
theorem AnsR.same {S : List Ent} {gi ge : Nat} {R : Option Sn} {G : Sn} {b : Bool} (hG : mapAt S gi ge = some G) (hb : b = R.isSome) (hR : ∀ G2, R = some G2 → G = G2) (r : List Nat × Nat) : AnsR S gi ge R (.prim (.bool b), S, r) :=
  ⟨by rw [hb], G, by rw [put_same hG], hR⟩
section
variable [Depth]
set_option maxRecDepth 100000 in
set_option maxHeartbeats 4000000 in
theorem thr_var (s : ByteArray) (n : Int) (ks : List XT) (ps : List (ByteArray × TT)) (al : List LT) (ts : List TT) : ThrA (.node 3 s n ks ps al ts) := by
  intro S tk k ci ce gi ge C G hC hG hcg
  obtain ⟨R, hR⟩ : ∃ R, R = thr (.node 3 s n ks ps al ts) C G := ⟨_, rfl⟩
  obtain ⟨Φ, hΦ⟩ : ∃ Φ : Rs → Prop, Φ = AnsR S gi ge R := ⟨_, rfl⟩
  rw [← hR, ← hΦ]
  have hgl := mapAt_lt hG
  have i0 : intN (.prim (.int .i64 0)) = some 0 := rfl
  have i1 : intN (.prim (.int .i64 1)) = some 1 := rfl
  obtain ⟨S1, hS1⟩ : ∃ S1 : List Ent, S1 = S ++ [⟨k, [.mref ci ce, .mref gi ge]⟩] ++ [⟨k + 1, [.prim (.int .i64 3), .prim (.string s), .prim (.int .i64 n), .frz (exprsC ks) .unk, .frz (ps.map paramC) .unk, .frz (altsC al) .unk, .frz (typesC ts) .unk]⟩] := ⟨_, rfl⟩
  have hK1 : Kp S S1 := by rw [hS1]; exact ((Kp.refl S).old _).old _
  have hp1 : entAt S1 S.length k = some [.mref ci ce, .mref gi ge] := by rw [hS1]; exact entAt_mid rfl
  have he1 : entAt S1 (S.length + 1) (k + 1) = some [.prim (.int .i64 3), .prim (.string s), .prim (.int .i64 n), .frz (exprsC ks) .unk, .frz (ps.map paramC) .unk, .frz (altsC al) .unk, .frz (typesC ts) .unk] := by
    rw [hS1]
    have := @entAt_new (S ++ [⟨k, [.mref ci ce, .mref gi ge]⟩]) (k + 1) [.prim (.int .i64 3), .prim (.string s), .prim (.int .i64 n), .frz (exprsC ks) .unk, .frz (ps.map paramC) .unk, .frz (altsC al) .unk, .frz (typesC ts) .unk] rfl
    simpa using this
  have hl1 : S1.length = S.length + 2 := by rw [hS1]; simp
  have hG1 := hK1.map hG
  have hC1 := hK1.map hC
  have hgl1 := mapAt_lt hG1
  have hCx := hC1
  have hGx := hG1
  rw [hS1] at hCx hGx
  have hR2 : R = if C s = true then (if G s = true then none else some (addK G s)) else some G := by rw [hR, thr.eq_def]; simp only [if_true]
  refine opG Tryz.func45 Tryz.ntmps45 ?_
  cases hcs : C s
  · rw [hcs] at hR2
    simp only [Bool.false_eq_true, if_false] at hR2
    simp (maxSteps := 10^6) +contextual (disch := try exact dqd) only [evg1, simprocAttr, AV.int, AV.bool, AV.str, Tryz.results45, exprC, hCx, hGx, hcs]
    rw [hΦ]
    exact AnsR.same hG (by rw [hR2]; rfl) (fun G2 h => by rw [hR2] at h; simpa using h) _
  · cases hgs : G s
    · rw [hcs, hgs] at hR2
      simp only [Bool.false_eq_true, if_false, if_true] at hR2
      simp (maxSteps := 10^6) +contextual (disch := try exact dqd) only [evg1, simprocAttr, AV.int, AV.bool, AV.str, Tryz.results45, exprC, hCx, hGx, hcs, hgs]
      rw [hΦ, ← hS1]
      exact ⟨by rw [hR2]; rfl, _, take_put_len (hK1.put2 hgl _), fun G2 h => by rw [hR2] at h; simpa using h⟩
    · rw [hcs, hgs] at hR2
      simp only [if_true] at hR2
      simp (maxSteps := 10^6) +contextual (disch := try exact dqd) only [evg1, simprocAttr, AV.int, AV.bool, AV.str, Tryz.results45, exprC, hCx, hGx, hcs, hgs]
      rw [hΦ]
      exact AnsR.same hG (by rw [hR2]; rfl) (fun G2 h => by rw [hR2] at h; cases h) _
end
end Go.Proofs.YtmkoiandfojgmaaGreat
