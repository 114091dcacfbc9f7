/-
  Texts laid together: U9, U10, U11, UMod, U12, UE, UX1, UPD, UX11, UX12.
-/
import Derived.Test.YtmkoiandfojgmaaGreatZM12
import Derived.Test.YtmkoiandfojgmaaGreatZM11
namespace Go.Proofs.YtmkoiandfojgmaaGreat
open Go
section
variable [Depth]
set_option maxRecDepth 100000 in
set_option maxHeartbeats 4000000 in
theorem thr_get (s : ByteArray) (n : Int) (ks : List XT) (ps : List (ByteArray × TT)) (al : List LT) (ts : List TT) (ihk : ∀ q ∈ ks, ThrC q) (hd : dpX (.node 23 s n ks ps al ts) ≤ Depth.d + 1) (hsz : szX (.node 23 s n ks ps al ts) ≤ 262144) : ThrA (.node 23 s n ks ps al ts) := by
  intro S tk k ci ce gi ge C G hC hG hcg
  obtain ⟨R, hR⟩ : ∃ R, R = thr (.node 23 s n ks ps al ts) C G := ⟨_, rfl⟩
  obtain ⟨Φ, hΦ⟩ : ∃ Φ : Rs → Prop, Φ = AnsR S gi ge R := ⟨_, rfl⟩
  rw [← hR, ← hΦ]
  have hgl := mapAt_lt hG
  have i0 : intN (.prim (.int .i64 0)) = some 0 := rfl
  have i1 : intN (.prim (.int .i64 1)) = some 1 := rfl
  have hd' := hd
  have hsz' := hsz
  simp only [dpX] at hd'
  simp only [szX] at hsz'
  obtain ⟨S1, hS1⟩ : ∃ S1 : List Ent, S1 = S ++ [⟨k, [.mref ci ce, .mref gi ge]⟩] ++ [⟨k + 1, [.prim (.int .i64 23), .prim (.string s), .prim (.int .i64 n), .frz (exprsC ks) .unk, .frz (ps.map paramC) .unk, .frz (altsC al) .unk, .frz (typesC ts) .unk]⟩] := ⟨_, rfl⟩
  have hK1 : Kp S S1 := by rw [hS1]; exact ((Kp.refl S).old _).old _
  have hp1 : entAt S1 S.length k = some [.mref ci ce, .mref gi ge] := by rw [hS1]; exact entAt_mid rfl
  have he1 : entAt S1 (S.length + 1) (k + 1) = some [.prim (.int .i64 23), .prim (.string s), .prim (.int .i64 n), .frz (exprsC ks) .unk, .frz (ps.map paramC) .unk, .frz (altsC al) .unk, .frz (typesC ts) .unk] := by
    rw [hS1]
    have := @entAt_new (S ++ [⟨k, [.mref ci ce, .mref gi ge]⟩]) (k + 1) [.prim (.int .i64 23), .prim (.string s), .prim (.int .i64 n), .frz (exprsC ks) .unk, .frz (ps.map paramC) .unk, .frz (altsC al) .unk, .frz (typesC ts) .unk] rfl
    simpa using this
  have hl1 : S1.length = S.length + 2 := by rw [hS1]; simp
  have hG1 := hK1.map hG
  have hC1 := hK1.map hC
  have hgl1 := mapAt_lt hG1
  have hCx := hC1
  have hGx := hG1
  rw [hS1] at hCx hGx
  by_cases hl : ks.length = 1
  · have hl' : ((ks.length : Int) == 1) = true := by simp [hl]
    obtain ⟨q, rfl⟩ : ∃ q, ks = [q] := List.length_eq_one_iff.1 hl
    have hq' : nth (exprsC [q]) 0 = some (exprC q) := rfl
    obtain ⟨qo, qs, qn, qk, qp, qa, qt⟩ := q
    simp only [exprC] at hq'
    by_cases h3 : qo = 3
    · subst h3
      cases hcs : C qs
      · have hR2 : R = thrL [.node 3 qs qn qk qp qa qt] C G := by rw [hR, thr.eq_def]; simp [getV, XT.op, XT.name, hcs]
        refine opG Tryz.func45 Tryz.ntmps45 ?_
        simp (maxSteps := 10^6) +contextual (disch := try exact dqd) only [evg1, simprocAttr, AV.int, AV.bool, AV.str, Tryz.results45, exprC, exprsC_len, hl', i0, hq', hCx, hGx, hcs]
        rw [hΦ, hR2, ← hS1]
        exact of_KA rfl (thr_loop _ ihk (by omega) (by omega) hK1 hp1 hC hG hcg _ _ _ rfl rfl rfl rfl rfl)
      · have hR2 : R = if G qs = true then none else some G := by rw [hR, thr.eq_def]; simp [getV, XT.op, XT.name, hcs]
        cases hgs : G qs
        · refine opG Tryz.func45 Tryz.ntmps45 ?_
          simp (maxSteps := 10^6) +contextual (disch := try exact dqd) only [evg1, simprocAttr, AV.int, AV.bool, AV.str, Tryz.results45, exprC, exprsC_len, hl', i0, hq', hCx, hGx, hcs, hgs]
          rw [hgs] at hR2
          simp only [Bool.false_eq_true, if_false] at hR2
          rw [hΦ]
          exact AnsR.same hG (by rw [hR2]; rfl) (fun G2 h => by rw [hR2] at h; simpa using h) _
        · refine opG Tryz.func45 Tryz.ntmps45 ?_
          simp (maxSteps := 10^6) +contextual (disch := try exact dqd) only [evg1, simprocAttr, AV.int, AV.bool, AV.str, Tryz.results45, exprC, exprsC_len, hl', i0, hq', hCx, hGx, hcs, hgs]
          rw [hgs] at hR2
          simp only [if_true] at hR2
          rw [hΦ]
          exact AnsR.same hG (by rw [hR2]; rfl) (fun G2 h => by rw [hR2] at h; cases h) _
    · have d3 : (qo == 3) = false := by simpa using h3
      have hR2 : R = thrL [.node qo qs qn qk qp qa qt] C G := by rw [hR, thr.eq_def]; simp [getV, XT.op, XT.name, h3]
      refine opG Tryz.func45 Tryz.ntmps45 ?_
      simp (maxSteps := 10^6) +contextual (disch := try exact dqd) only [evg1, simprocAttr, AV.int, AV.bool, AV.str, Tryz.results45, exprC, exprsC_len, hl', i0, hq', d3, hCx, hGx]
      rw [hΦ, hR2, ← hS1]
      exact of_KA rfl (thr_loop _ ihk (by omega) (by omega) hK1 hp1 hC hG hcg _ _ _ rfl rfl rfl rfl rfl)
  · have hl' : ((ks.length : Int) == 1) = false := by simp; omega
    have hR2 : R = thrL ks C G := by
      have hg : getV 23 ks C = none := by
        unfold getV
        split
        · simp at hl
        · rfl
      rw [hR, thr.eq_def]; simp [hg]
    refine opG Tryz.func45 Tryz.ntmps45 ?_
    simp (maxSteps := 10^6) +contextual (disch := try exact dqd) only [evg1, simprocAttr, AV.int, AV.bool, AV.str, Tryz.results45, exprC, exprsC_len, hl']
    rw [hΦ, hR2, ← hS1]
    exact of_KA rfl (thr_loop _ ihk (by omega) (by omega) hK1 hp1 hC hG hcg _ _ _ rfl rfl rfl rfl rfl)
set_option maxRecDepth 100000 in
set_option maxHeartbeats 4000000 in
theorem thr_other (o : Int) (h3 : o ≠ 3) (h23 : o ≠ 23) (h6 : o ≠ 6) (h9 : o ≠ 9) (s : ByteArray) (n : Int) (ks : List XT) (ps : List (ByteArray × TT)) (al : List LT) (ts : List TT) (ihk : ∀ q ∈ ks, ThrC q) (hd : dpX (.node o s n ks ps al ts) ≤ Depth.d + 1) (hsz : szX (.node o s n ks ps al ts) ≤ 262144) (h7 : o = 7 → ks.length ≠ 2) (h8 : o = 8 → ks.length ≠ 3) : ThrA (.node o s n ks ps al ts) := by
  intro S tk k ci ce gi ge C G hC hG hcg
  obtain ⟨R, hR⟩ : ∃ R, R = thr (.node o s n ks ps al ts) C G := ⟨_, rfl⟩
  obtain ⟨Φ, hΦ⟩ : ∃ Φ : Rs → Prop, Φ = AnsR S gi ge R := ⟨_, rfl⟩
  rw [← hR, ← hΦ]
  have hgl := mapAt_lt hG
  have i0 : intN (.prim (.int .i64 0)) = some 0 := rfl
  have i1 : intN (.prim (.int .i64 1)) = some 1 := rfl
  have hd' := hd
  have hsz' := hsz
  simp only [dpX] at hd'
  simp only [szX] at hsz'
  obtain ⟨S1, hS1⟩ : ∃ S1 : List Ent, S1 = S ++ [⟨k, [.mref ci ce, .mref gi ge]⟩] ++ [⟨k + 1, [.prim (.int .i64 o), .prim (.string s), .prim (.int .i64 n), .frz (exprsC ks) .unk, .frz (ps.map paramC) .unk, .frz (altsC al) .unk, .frz (typesC ts) .unk]⟩] := ⟨_, rfl⟩
  have hK1 : Kp S S1 := by rw [hS1]; exact ((Kp.refl S).old _).old _
  have hp1 : entAt S1 S.length k = some [.mref ci ce, .mref gi ge] := by rw [hS1]; exact entAt_mid rfl
  have he1 : entAt S1 (S.length + 1) (k + 1) = some [.prim (.int .i64 o), .prim (.string s), .prim (.int .i64 n), .frz (exprsC ks) .unk, .frz (ps.map paramC) .unk, .frz (altsC al) .unk, .frz (typesC ts) .unk] := by
    rw [hS1]
    have := @entAt_new (S ++ [⟨k, [.mref ci ce, .mref gi ge]⟩]) (k + 1) [.prim (.int .i64 o), .prim (.string s), .prim (.int .i64 n), .frz (exprsC ks) .unk, .frz (ps.map paramC) .unk, .frz (altsC al) .unk, .frz (typesC ts) .unk] rfl
    simpa using this
  have hl1 : S1.length = S.length + 2 := by rw [hS1]; simp
  have hG1 := hK1.map hG
  have hC1 := hK1.map hC
  have hgl1 := mapAt_lt hG1
  have hCx := hC1
  have hGx := hG1
  rw [hS1] at hCx hGx
  have d3 : (o == 3) = false := by simpa using h3
  have d23 : (o == 23) = false := by simpa using h23
  have d6 : (o == 6) = false := by simpa using h6
  have d9 : (o == 9) = false := by simpa using h9
  have hR2 : R = thrL ks C G := by
    have hg : getV o ks C = none := by
      unfold getV
      split
      · rw [if_neg (fun h => h23 h.1)]
      · rfl
    rw [hR, thr.eq_def]
    simp only [hg]
    rw [if_neg h3, if_neg h6, if_neg (fun h => h7 h.1 h.2), if_neg (fun h => h8 h.1 h.2), if_neg h9]
  by_cases h7' : o = 7
  · subst h7'
    have hl' : ((ks.length : Int) == 2) = false := by simpa using fun h => h7 rfl (by omega)
    refine opG Tryz.func45 Tryz.ntmps45 ?_
    simp (maxSteps := 10^6) +contextual (disch := try exact dqd) only [evg1, simprocAttr, AV.int, AV.bool, AV.str, Tryz.results45, exprC, exprsC_len, hl']
    rw [hΦ, hR2, ← hS1]
    exact of_KA rfl (thr_loop _ ihk (by omega) (by omega) hK1 hp1 hC hG hcg _ _ _ rfl rfl rfl rfl rfl)
  · have d7 : (o == 7) = false := by simpa using h7'
    by_cases h8' : o = 8
    · subst h8'
      have hl' : ((ks.length : Int) == 3) = false := by simpa using fun h => h8 rfl (by omega)
      refine opG Tryz.func45 Tryz.ntmps45 ?_
      simp (maxSteps := 10^6) +contextual (disch := try exact dqd) only [evg1, simprocAttr, AV.int, AV.bool, AV.str, Tryz.results45, exprC, exprsC_len, hl']
      rw [hΦ, hR2, ← hS1]
      exact of_KA rfl (thr_loop _ ihk (by omega) (by omega) hK1 hp1 hC hG hcg _ _ _ rfl rfl rfl rfl rfl)
    · have d8 : (o == 8) = false := by simpa using h8'
      refine opG Tryz.func45 Tryz.ntmps45 ?_
      simp (maxSteps := 10^6) +contextual (disch := try exact dqd) only [evg1, simprocAttr, AV.int, AV.bool, AV.str, Tryz.results45, exprC, exprsC_len, d3, d23, d6, d7, d8, d9]
      rw [hΦ, hR2, ← hS1]
      exact of_KA rfl (thr_loop _ ihk (by omega) (by omega) hK1 hp1 hC hG hcg _ _ _ rfl rfl rfl rfl rfl)
set_option maxRecDepth 100000 in
set_option maxHeartbeats 4000000 in
theorem thr_lam (s : ByteArray) (n : Int) (ks : List XT) (ps : List (ByteArray × TT)) (al : List LT) (ts : List TT) (ihk : ∀ q ∈ ks, ThrC q) (hd : dpX (.node 6 s n ks ps al ts) ≤ Depth.d + 1) (hsz : szX (.node 6 s n ks ps al ts) ≤ 262144) : ThrA (.node 6 s n ks ps al ts) := by
  intro S tk k ci ce gi ge C G hC hG hcg
  obtain ⟨R, hR⟩ : ∃ R, R = thr (.node 6 s n ks ps al ts) C G := ⟨_, rfl⟩
  obtain ⟨Φ, hΦ⟩ : ∃ Φ : Rs → Prop, Φ = AnsR S gi ge R := ⟨_, rfl⟩
  rw [← hR, ← hΦ]
  have hgl := mapAt_lt hG
  have i0 : intN (.prim (.int .i64 0)) = some 0 := rfl
  have i1 : intN (.prim (.int .i64 1)) = some 1 := rfl
  have hd' := hd
  have hsz' := hsz
  simp only [dpX] at hd'
  simp only [szX] at hsz'
  obtain ⟨S1, hS1⟩ : ∃ S1 : List Ent, S1 = S ++ [⟨k, [.mref ci ce, .mref gi ge]⟩] ++ [⟨k + 1, [.prim (.int .i64 6), .prim (.string s), .prim (.int .i64 n), .frz (exprsC ks) .unk, .frz (ps.map paramC) .unk, .frz (altsC al) .unk, .frz (typesC ts) .unk]⟩] := ⟨_, rfl⟩
  have hK1 : Kp S S1 := by rw [hS1]; exact ((Kp.refl S).old _).old _
  have hp1 : entAt S1 S.length k = some [.mref ci ce, .mref gi ge] := by rw [hS1]; exact entAt_mid rfl
  have he1 : entAt S1 (S.length + 1) (k + 1) = some [.prim (.int .i64 6), .prim (.string s), .prim (.int .i64 n), .frz (exprsC ks) .unk, .frz (ps.map paramC) .unk, .frz (altsC al) .unk, .frz (typesC ts) .unk] := by
    rw [hS1]
    have := @entAt_new (S ++ [⟨k, [.mref ci ce, .mref gi ge]⟩]) (k + 1) [.prim (.int .i64 6), .prim (.string s), .prim (.int .i64 n), .frz (exprsC ks) .unk, .frz (ps.map paramC) .unk, .frz (altsC al) .unk, .frz (typesC ts) .unk] rfl
    simpa using this
  have hl1 : S1.length = S.length + 2 := by rw [hS1]; simp
  have hG1 := hK1.map hG
  have hC1 := hK1.map hC
  have hgl1 := mapAt_lt hG1
  have hCx := hC1
  have hGx := hG1
  rw [hS1] at hCx hGx
  have hR2 : R = if lamK ks C (ownL noK ps) (ps.map (·.1)) = true then some G else none := by
    have hg : getV 6 ks C = none := by unfold getV; split <;> simp
    rw [hR, thr.eq_def]; simp [hg]
  obtain ⟨tk2, k2, hlam⟩ := lambda_is 6 s n ks ps al ts ihk hd hsz S1 tk (k + 1 + 1) ci ce gi ge C hC1
  rw [hS1] at hlam
  simp only [exprC] at hlam
  cases hlk : lamK ks C (ownL noK ps) (ps.map (·.1))
  · rw [hlk] at hlam hR2
    refine opG Tryz.func45 Tryz.ntmps45 ?_
    simp (maxSteps := 10^6) +contextual (disch := try exact dqd) only [evg1, simprocAttr, AV.int, AV.bool, AV.str, Tryz.results45, exprC, exprsC_len, hlam]
    simp only [Bool.false_eq_true, if_false] at hR2
    rw [hΦ]
    exact AnsR.same hG (by rw [hR2]; rfl) (fun G2 h => by rw [hR2] at h; cases h) _
  · rw [hlk] at hlam hR2
    refine opG Tryz.func45 Tryz.ntmps45 ?_
    simp (maxSteps := 10^6) +contextual (disch := try exact dqd) only [evg1, simprocAttr, AV.int, AV.bool, AV.str, Tryz.results45, exprC, exprsC_len, hlam]
    simp only [if_true] at hR2
    rw [hΦ]
    exact AnsR.same hG (by rw [hR2]; rfl) (fun G2 h => by rw [hR2] at h; simpa using h) _
set_option maxRecDepth 100000 in
set_option maxHeartbeats 4000000 in
theorem thr_match (s : ByteArray) (n : Int) (ks : List XT) (ps : List (ByteArray × TT)) (al : List LT) (ts : List TT) (ihk : ∀ q ∈ ks, ThrC q) (hd : dpX (.node 9 s n ks ps al ts) ≤ Depth.d + 1) (hsz : szX (.node 9 s n ks ps al ts) ≤ 262144) : ThrA (.node 9 s n ks ps al ts) := by
  intro S tk k ci ce gi ge C G hC hG hcg
  obtain ⟨R, hR⟩ : ∃ R, R = thr (.node 9 s n ks ps al ts) C G := ⟨_, rfl⟩
  obtain ⟨Φ, hΦ⟩ : ∃ Φ : Rs → Prop, Φ = AnsR S gi ge R := ⟨_, rfl⟩
  rw [← hR, ← hΦ]
  have hgl := mapAt_lt hG
  have i0 : intN (.prim (.int .i64 0)) = some 0 := rfl
  have i1 : intN (.prim (.int .i64 1)) = some 1 := rfl
  have hd' := hd
  have hsz' := hsz
  simp only [dpX] at hd'
  simp only [szX] at hsz'
  obtain ⟨S1, hS1⟩ : ∃ S1 : List Ent, S1 = S ++ [⟨k, [.mref ci ce, .mref gi ge]⟩] ++ [⟨k + 1, [.prim (.int .i64 9), .prim (.string s), .prim (.int .i64 n), .frz (exprsC ks) .unk, .frz (ps.map paramC) .unk, .frz (altsC al) .unk, .frz (typesC ts) .unk]⟩] := ⟨_, rfl⟩
  have hK1 : Kp S S1 := by rw [hS1]; exact ((Kp.refl S).old _).old _
  have hp1 : entAt S1 S.length k = some [.mref ci ce, .mref gi ge] := by rw [hS1]; exact entAt_mid rfl
  have he1 : entAt S1 (S.length + 1) (k + 1) = some [.prim (.int .i64 9), .prim (.string s), .prim (.int .i64 n), .frz (exprsC ks) .unk, .frz (ps.map paramC) .unk, .frz (altsC al) .unk, .frz (typesC ts) .unk] := by
    rw [hS1]
    have := @entAt_new (S ++ [⟨k, [.mref ci ce, .mref gi ge]⟩]) (k + 1) [.prim (.int .i64 9), .prim (.string s), .prim (.int .i64 n), .frz (exprsC ks) .unk, .frz (ps.map paramC) .unk, .frz (altsC al) .unk, .frz (typesC ts) .unk] rfl
    simpa using this
  have hl1 : S1.length = S.length + 2 := by rw [hS1]; simp
  have hG1 := hK1.map hG
  have hC1 := hK1.map hC
  have hgl1 := mapAt_lt hG1
  have hCx := hC1
  have hGx := hG1
  rw [hS1] at hCx hGx
  have hR2 : R = (thrL ks C G).bind fun G1 => thrA al C G1 G1 := by
    have hg : getV 9 ks C = none := by unfold getV; split <;> simp
    rw [hR, thr.eq_def]; simp [hg]
  obtain ⟨⟨r1, r2, r3, r4⟩, hm, h1, G', h2, h3⟩ := match_is 9 s n ks ps al ts ihk hd hsz S1 tk (k + 1 + 1) ci ce gi ge C G hC1 hG1 hcg
  simp only at h1 h2
  subst h1 h2
  rw [← hR2] at hm h3
  simp only [hS1, exprC] at hm
  refine opG Tryz.func45 Tryz.ntmps45 ?_
  simp (maxSteps := 10^6) +contextual (disch := try exact dqd) only [evg1, simprocAttr, AV.int, AV.bool, AV.str, Tryz.results45, exprC, exprsC_len, hm]
  rw [hΦ, ← hS1]
  exact ⟨rfl, G', take_put_len (hK1.put2 hgl _), h3⟩
end
end Go.Proofs.YtmkoiandfojgmaaGreat
namespace Go.Proofs.YtmkoiandfojgmaaGreat
open Go
section
variable [Depth]
theorem inside_isT {S : List Ent} {tk : List Nat} {k ci ce gi ge hi he : Nat} {e : XT} {bs : List ByteArray} {G C : Sn} (hG : mapAt S gi ge = some G) (hC : mapAt S hi he = some C) (hd : dpX e ≤ Depth.d) (hs : szX e ≤ 262144) (hb : bs.length ≤ 1048576) (hne : gi ≠ hi) :
    ∃ tk' k', cL Tryz.prog 63 [.agg [.mref ci ce, .mref gi ge], .agg (exprC e), .mref hi he, .frz (bs.map strC) .tight] S tk k = some (.bool (insF e C bs G).isSome, put S gi ⟨ge, [.mset ((insF e C bs G).getD G)]⟩, tk', k') := by
  exact path_inside (q := ⟨ci, ce, gi, ge, hi, he, e, bs⟩) S tk k ⟨hd, hs, hb, hne⟩ hG hC
def isLd3 (t1 : TypeId) (a1 q1 : Tmp) (t2 : TypeId) (a2 q2 : Tmp) (t3 : TypeId) (a3 q3 : Tmp) : List (TypeId × Operand × Option Tmp × Bool) → Bool
  | [x, y, z] => isLd1 t1 a1 q1 [x] && isLd1 t2 a2 q2 [y] && isLd1 t3 a3 q3 [z]
  | _ => false
def isB1 (x : Tmp) : List Tmp → Bool
  | [y] => y == x
  | _ => false
open Classical in
noncomputable def reLt (v : AV) (S : List Ent) (c : Option Unit) : Option Unit := if ∀ id ep off, v = .ref id ep off → id < S.length then c else none
omit [Depth] in
theorem reLt_ref {id ep off : Nat} {S : List Ent} {c : Option Unit} : reLt (.ref id ep off) S c = if id < S.length then c else none := by
  unfold reLt
  by_cases h : id < S.length
  · rw [if_pos h, if_pos]
    intro a b d e
    simp only [AV.ref.injEq] at e
    omega
  · rw [if_neg h, if_neg]
    intro hh
    exact h (hh _ _ _ rfl)
omit [Depth] in
theorem reM_one (x : Tmp) {P : Program} {all : List Oper} {d : Option Tmp} {T : List AV} {S X : List Ent} (hB : isB1 x (behindB all d) = true) : reM P all d T S (S ++ X) = reLt (getT T x) S (reA P all d T S (S ++ X)) := by
  have e : behindB all d = [x] := by
    unfold isB1 at hB
    split at hB
    · rename_i y hy; rw [hy]; simpa using hB
    · cases hB
  unfold reM reLt
  rw [e]
  by_cases h : ∀ id ep off, getT T x = .ref id ep off → id < S.length
  · rw [if_pos h, if_pos ⟨List.prefix_append S X, fun y hy => by simp only [List.mem_singleton] at hy; subst hy; exact h⟩]
  · rw [if_neg h, if_neg]
    rintro ⟨-, hh⟩
    exact h (hh x (by simp))
omit [Depth] in
theorem reA_putU {P : Program} {all : List Oper} {d : Option Tmp} {T : List AV} {S : List Ent} {i : Nat} {x : Ent} (hL : (loadsB all d).isEmpty = true) : reA P all d T S (put S i x) = some () := reA_nil (by simpa using hL) (by simp [put_len])
omit [Depth] in
theorem isLd3_eq {t1 : TypeId} {a1 q1 : Tmp} {t2 : TypeId} {a2 q2 : Tmp} {t3 : TypeId} {a3 q3 : Tmp} {l : List (TypeId × Operand × Option Tmp × Bool)} (h : isLd3 t1 a1 q1 t2 a2 q2 t3 a3 q3 l = true) : l = [(t1, .tmp a1, some q1, true), (t2, .tmp a2, some q2, true), (t3, .tmp a3, some q3, true)] := by
  unfold isLd3 at h
  split at h
  · simp only [Bool.and_eq_true] at h
    obtain ⟨⟨h1, h2⟩, h3⟩ := h
    have e1 := isLd1_eq h1
    have e2 := isLd1_eq h2
    have e3 := isLd1_eq h3
    simp only [List.cons.injEq, and_true] at e1 e2 e3
    rw [e1, e2, e3]
  · cases h
omit [Depth] in
theorem reA_three (t1 : TypeId) (a1 q1 : Tmp) (t2 : TypeId) (a2 q2 : Tmp) (t3 : TypeId) (a3 q3 : Tmp) {P : Program} {all : List Oper} {d : Option Tmp} {T : List AV} {S : List Ent} {x : Ent} (hL : isLd3 t1 a1 q1 t2 a2 q2 t3 a3 q3 (loadsB all d) = true) (hq : CkT (decide (q1 < T.length) && decide (q2 < T.length) && decide (q3 < T.length))) (hd : CkT d.isSome) :
    reA P all d T S (S ++ [x]) = reLd (ldA P t1 (getT T a1) (S ++ [x])) (getT T q1) (reLd (ldA P t2 (getT T a2) (S ++ [x])) (getT T q2) (reLd (ldA P t3 (getT T a3) (S ++ [x])) (getT T q3) (some ()))) := by
  have hq := hq.h
  simp only [Bool.and_eq_true, decide_eq_true_eq] at hq
  have key : ∀ y ∈ loadsB all d, y = (t1, .tmp a1, some q1, true) ∨ y = (t2, .tmp a2, some q2, true) ∨ y = (t3, .tmp a3, some q3, true) := by
    rw [isLd3_eq hL]; simp
  by_cases h1 : ldA P t1 (getT T a1) (S ++ [x]) = some (getT T q1)
  · rw [h1, reLd_same]
    by_cases h2 : ldA P t2 (getT T a2) (S ++ [x]) = some (getT T q2)
    · rw [h2, reLd_same]
      by_cases h3 : ldA P t3 (getT T a3) (S ++ [x]) = some (getT T q3)
      · rw [h3, reLd_same]
        refine reA_some rfl (by simp) (fun y hy => ?_)
        rcases key y hy with rfl | rfl | rfl
        · exact ⟨rfl, q1, rfl, hq.1.1, h1⟩
        · exact ⟨rfl, q2, rfl, hq.1.2, h2⟩
        · exact ⟨rfl, q3, rfl, hq.2, h3⟩
      · unfold reLd reA
        rw [if_neg h3, if_neg]
        rintro ⟨-, h⟩
        obtain ⟨-, q', e, -, h4⟩ := h hd.h (t3, .tmp a3, some q3, true) (by rw [isLd3_eq hL]; simp)
        simp only [Option.some.injEq] at e
        subst e
        exact h3 h4
    · unfold reLd reA
      rw [if_neg h2, if_neg]
      rintro ⟨-, h⟩
      obtain ⟨-, q', e, -, h4⟩ := h hd.h (t2, .tmp a2, some q2, true) (by rw [isLd3_eq hL]; simp)
      simp only [Option.some.injEq] at e
      subst e
      exact h2 h4
  · unfold reLd reA
    rw [if_neg h1, if_neg]
    rintro ⟨-, h⟩
    obtain ⟨-, q', e, -, h4⟩ := h hd.h (t1, .tmp a1, some q1, true) (by rw [isLd3_eq hL]; simp)
    simp only [Option.some.injEq] at e
    subst e
    exact h1 h4
set_option maxRecDepth 100000 in
set_option maxHeartbeats 4000000 in
theorem thr_let (s : ByteArray) (n : Int) (ks : List XT) (ps : List (ByteArray × TT)) (al : List LT) (ts : List TT) (ihk : ∀ q ∈ ks, ThrC q) (hd : dpX (.node 7 s n ks ps al ts) ≤ Depth.d + 1) (hsz : szX (.node 7 s n ks ps al ts) ≤ 262144) (hl2 : ks.length = 2) : ThrA (.node 7 s n ks ps al ts) := by
  intro S tk k ci ce gi ge C G hC hG hcg
  obtain ⟨R, hR⟩ : ∃ R, R = thr (.node 7 s n ks ps al ts) C G := ⟨_, rfl⟩
  obtain ⟨Φ, hΦ⟩ : ∃ Φ : Rs → Prop, Φ = AnsR S gi ge R := ⟨_, rfl⟩
  rw [← hR, ← hΦ]
  have hgl := mapAt_lt hG
  have i0 : intN (.prim (.int .i64 0)) = some 0 := rfl
  have i1 : intN (.prim (.int .i64 1)) = some 1 := rfl
  have hd' := hd
  have hsz' := hsz
  simp only [dpX] at hd'
  simp only [szX] at hsz'
  obtain ⟨S1, hS1⟩ : ∃ S1 : List Ent, S1 = S ++ [⟨k, [.mref ci ce, .mref gi ge]⟩] ++ [⟨k + 1, [.prim (.int .i64 7), .prim (.string s), .prim (.int .i64 n), .frz (exprsC ks) .unk, .frz (ps.map paramC) .unk, .frz (altsC al) .unk, .frz (typesC ts) .unk]⟩] := ⟨_, rfl⟩
  have hK1 : Kp S S1 := by rw [hS1]; exact ((Kp.refl S).old _).old _
  have hp1 : entAt S1 S.length k = some [.mref ci ce, .mref gi ge] := by rw [hS1]; exact entAt_mid rfl
  have he1 : entAt S1 (S.length + 1) (k + 1) = some [.prim (.int .i64 7), .prim (.string s), .prim (.int .i64 n), .frz (exprsC ks) .unk, .frz (ps.map paramC) .unk, .frz (altsC al) .unk, .frz (typesC ts) .unk] := by
    rw [hS1]
    have := @entAt_new (S ++ [⟨k, [.mref ci ce, .mref gi ge]⟩]) (k + 1) [.prim (.int .i64 7), .prim (.string s), .prim (.int .i64 n), .frz (exprsC ks) .unk, .frz (ps.map paramC) .unk, .frz (altsC al) .unk, .frz (typesC ts) .unk] rfl
    simpa using this
  have hl1 : S1.length = S.length + 2 := by rw [hS1]; simp
  have hG1 := hK1.map hG
  have hC1 := hK1.map hC
  have hgl1 := mapAt_lt hG1
  have hCx := hC1
  have hGx := hG1
  rw [hS1] at hCx hGx
  have hl' : ((ks.length : Int) == 2) = true := by simp; omega
  obtain ⟨q0, hn0⟩ := nth_some (show 0 < ks.length by omega)
  have hq0 := nth_exprs hn0
  have hm0 := nth_memU hn0
  have hz0 := szXs_mem hm0
  have hD0 := dpXs_mem hm0
  obtain ⟨q1, hn1⟩ := nth_some (show 1 < ks.length by omega)
  have hq1 := nth_exprs hn1
  have hm1 := nth_memU hn1
  have hz1 := szXs_mem hm1
  have hD1 := dpXs_mem hm1
  have hR2 : R = (thr q0 C G).bind fun G1 => insF q1 (bindC C s (typedF ts)) [s] G1 := by
    have hg : getV 7 ks C = none := by unfold getV; split <;> simp
    rw [hR, thr.eq_def]
    simp [hg, hl2, thrAt_nth hn0, thrAt_nth hn1, insF]
  obtain ⟨G', tk2, k2, hc, hG'⟩ := ihk q0 hm0 (by omega) (by omega) S1 tk (k + 1 + 1) ci ce gi ge C G hC1 hG1 hcg
  obtain ⟨S2, hS2⟩ : ∃ S2 : List Ent, S2 = put S1 gi ⟨ge, [.mset G']⟩ := ⟨_, rfl⟩
  rw [← hS2] at hc
  have hK2 : Kp (put S gi ⟨ge, [.mset G']⟩) S2 := by rw [hS2]; exact hK1.put2 hgl _
  have hKe : ∀ X v, Kp (put S gi ⟨ge, v⟩) (put (S2 ++ [X]) gi ⟨ge, v⟩) := fun X v => by
    have := (hK2.old X).put2 (by rw [put_len]; exact hgl) ⟨ge, v⟩
    rwa [put_put] at this
  have hX2 : KpX S1 gi S2 := KpX.of (by rw [hS2]; exact Kp.refl _)
  have hpg := ent_ne hp1 hG1
  have heg := ent_ne he1 hG1
  have hp2 := hX2.ent hp1 hpg
  have he2 := hX2.ent he1 heg
  have hp3 := fun x => entAt_old (e := x) hp2
  have he3 := fun x => entAt_old (e := x) he2
  have hC2 := hX2.map hC1 hcg
  have hG2 : mapAt S2 gi ge = some G' := by rw [hS2]; exact mapAt_put hgl1
  have hgl2 := mapAt_lt hG2
  have hbd := unique_bind S2 tk2 k2 hC2 s (typedF ts)
  obtain ⟨tkz, kz, hins⟩ := inside_isT (S := S2 ++ [⟨k2, [.mset (bindC C s (typedF ts))]⟩]) (tk := tk2) (k := k2 + 1) (ci := ci) (ce := ce) (gi := gi) (ge := ge) (hi := S2.length) (he := k2) (e := q1) (bs := [s]) (mapAt_old hG2) mapAt_new (by omega) (by omega) (by simp) (by omega)
  have hinw := hins
  generalize hI : insF q1 (bindC C s (typedF ts)) [s] G' = y at hinw
  have hls : S.length + 1 = (S ++ [(⟨k, [.mref ci ce, .mref gi ge]⟩ : Ent)]).length := by simp
  rw [hls] at he1 he2 he3
  have hlt3 : (S ++ [(⟨k, [.mref ci ce, .mref gi ge]⟩ : Ent)]).length < S2.length := by rw [hS2, put_len, hl1]; simp
  have hre : ∀ (all : List Oper) (d : Option Tmp) (T : List AV), (loadsB all d).isEmpty = true → reA Tryz.prog all d T S1 S2 = some () := fun _ _ _ hL => reA_nil (by simpa using hL) (by rw [hS2, put_len]; exact Nat.le_refl _)
  rw [hS1] at hc hre
  have hty : typedF ts = (decide ((ts.length : Int) > 0) && typedF ts) := by cases ts <;> simp [typedF]
  simp only [strC, List.map_cons, List.map_nil] at hinw
  generalize h0 : thr q0 C G = x0 at hc hG' hR2
  obtain ⟨q0o, q0s, q0n, q0k, q0p, q0a, q0t⟩ := q0
  obtain ⟨q1o, q1s, q1n, q1k, q1p, q1a, q1t⟩ := q1
  simp only [exprC] at hq0 hq1 hc hinw
  cases ts with
  | nil =>
    have ht : ((([] : List TT).length : Int) > 0) = False := by simp
    simp only [typedF] at hbd hinw
    cases x0 with
    | none =>
      simp only [Option.isSome_none] at hc
      simp only [Option.bind_none] at hR2
      refine opG Tryz.func45 Tryz.ntmps45 ?_
      simp (maxSteps := 10^6) +contextual (disch := try exact dqd) only [evg1, simprocAttr, AV.int, AV.bool, AV.str, Tryz.results45, exprC, exprsC_len, typesC_len, hl', i0, i1, hq0, hq1, hc, hp2, hp3, he2, he3, hbd, hinw, ht, xfs, hre, reA_putU, hlt3, reM_one 3, reLt_ref, reLd_same, reA_three 98 2 98 36 99 100 41 101 102]
      rw [hΦ, hS2]
      exact AnsR.no (R := R) hR2 (Kp.refl _) hK1 hgl _
    | some G1 =>
      obtain rfl := hG' G1 rfl
      simp only [Option.isSome_some] at hc
      simp only [Option.bind_some] at hR2
      refine opG Tryz.func45 Tryz.ntmps45 ?_
      simp (maxSteps := 10^6) +contextual (disch := try exact dqd) only [evg1, simprocAttr, AV.int, AV.bool, AV.str, Tryz.results45, exprC, exprsC_len, typesC_len, hl', i0, i1, hq0, hq1, hc, hp2, hp3, he2, he3, hbd, hinw, ht, xfs, hre, reA_putU, hlt3, reM_one 3, reLt_ref, reLd_same, reA_three 98 2 98 36 99 100 41 101 102]
      rw [hΦ]
      exact ⟨by rw [hR2.trans hI], y.getD G', take_put_len (hKe _ _), fun G2 h => by rw [hR2.trans hI] at h; rw [h]; rfl⟩
  | cons t ts =>
    have ht : decide (((ts.length + 1 : Nat) : Int) > 0) = true := by simp
    have hcell := fun S tk k => unique_cell S tk k t
    have ht0 : nth (typesC (t :: ts)) 0 = some (typeC t) := by simp only [typesC, nth]
    simp only [typedF] at hbd hinw
    generalize hcb : isCell t = cb at hbd hinw hcell
    obtain ⟨to, tn, ta, tns, ⟨po, pn, pv, pk⟩, pp⟩ := t
    simp only [typeC, predC, strsA, List.cons_append, List.nil_append] at ht0 hcell
    cases x0 with
    | none =>
      simp only [Option.isSome_none] at hc
      simp only [Option.bind_none] at hR2
      refine opG Tryz.func45 Tryz.ntmps45 ?_
      simp (maxSteps := 10^6) +contextual (disch := try exact dqd) only [evg1, simprocAttr, AV.int, AV.bool, AV.str, Tryz.results45, exprC, exprsC_len, typesC_len, hl', i0, i1, hq0, hq1, hc, hp2, hp3, he2, he3, hbd, hinw, ht, hcell, ht0, xfs, hre, reA_putU, hlt3, reM_one 3, reLt_ref, reLd_same, reA_three 98 2 98 36 99 100 41 101 102]
      rw [hΦ, hS2]
      exact AnsR.no (R := R) hR2 (Kp.refl _) hK1 hgl _
    | some G1 =>
      obtain rfl := hG' G1 rfl
      simp only [Option.isSome_some] at hc
      simp only [Option.bind_some] at hR2
      refine opG Tryz.func45 Tryz.ntmps45 ?_
      simp (maxSteps := 10^6) +contextual (disch := try exact dqd) only [evg1, simprocAttr, AV.int, AV.bool, AV.str, Tryz.results45, exprC, exprsC_len, typesC_len, hl', i0, i1, hq0, hq1, hc, hp2, hp3, he2, he3, hbd, hinw, ht, hcell, ht0, xfs, hre, reA_putU, hlt3, reM_one 3, reLt_ref, reLd_same, reA_three 98 2 98 36 99 100 41 101 102]
      rw [hΦ]
      exact ⟨by rw [hR2.trans hI], y.getD G', take_put_len (hKe _ _), fun G2 h => by rw [hR2.trans hI] at h; rw [h]; rfl⟩
set_option maxRecDepth 100000 in
set_option maxHeartbeats 4000000 in
theorem thr_if (s : ByteArray) (n : Int) (ks : List XT) (ps : List (ByteArray × TT)) (al : List LT) (ts : List TT) (ihk : ∀ q ∈ ks, ThrC q) (hd : dpX (.node 8 s n ks ps al ts) ≤ Depth.d + 1) (hsz : szX (.node 8 s n ks ps al ts) ≤ 262144) (hl2 : ks.length = 3) : ThrA (.node 8 s n ks ps al ts) := by
  intro S tk k ci ce gi ge C G hC hG hcg
  obtain ⟨R, hR⟩ : ∃ R, R = thr (.node 8 s n ks ps al ts) C G := ⟨_, rfl⟩
  obtain ⟨Φ, hΦ⟩ : ∃ Φ : Rs → Prop, Φ = AnsR S gi ge R := ⟨_, rfl⟩
  rw [← hR, ← hΦ]
  have hgl := mapAt_lt hG
  have i0 : intN (.prim (.int .i64 0)) = some 0 := rfl
  have i1 : intN (.prim (.int .i64 1)) = some 1 := rfl
  have hd' := hd
  have hsz' := hsz
  simp only [dpX] at hd'
  simp only [szX] at hsz'
  obtain ⟨S1, hS1⟩ : ∃ S1 : List Ent, S1 = S ++ [⟨k, [.mref ci ce, .mref gi ge]⟩] ++ [⟨k + 1, [.prim (.int .i64 8), .prim (.string s), .prim (.int .i64 n), .frz (exprsC ks) .unk, .frz (ps.map paramC) .unk, .frz (altsC al) .unk, .frz (typesC ts) .unk]⟩] := ⟨_, rfl⟩
  have hK1 : Kp S S1 := by rw [hS1]; exact ((Kp.refl S).old _).old _
  have hp1 : entAt S1 S.length k = some [.mref ci ce, .mref gi ge] := by rw [hS1]; exact entAt_mid rfl
  have he1 : entAt S1 (S.length + 1) (k + 1) = some [.prim (.int .i64 8), .prim (.string s), .prim (.int .i64 n), .frz (exprsC ks) .unk, .frz (ps.map paramC) .unk, .frz (altsC al) .unk, .frz (typesC ts) .unk] := by
    rw [hS1]
    have := @entAt_new (S ++ [⟨k, [.mref ci ce, .mref gi ge]⟩]) (k + 1) [.prim (.int .i64 8), .prim (.string s), .prim (.int .i64 n), .frz (exprsC ks) .unk, .frz (ps.map paramC) .unk, .frz (altsC al) .unk, .frz (typesC ts) .unk] rfl
    simpa using this
  have hl1 : S1.length = S.length + 2 := by rw [hS1]; simp
  have hG1 := hK1.map hG
  have hC1 := hK1.map hC
  have hgl1 := mapAt_lt hG1
  have hCx := hC1
  have hGx := hG1
  rw [hS1] at hCx hGx
  have hl' : ((ks.length : Int) == 3) = true := by simp; omega
  obtain ⟨q0, hn0⟩ := nth_some (show 0 < ks.length by omega)
  have hq0 := nth_exprs hn0
  have hm0 := nth_memU hn0
  have hz0 := szXs_mem hm0
  have hD0 := dpXs_mem hm0
  obtain ⟨q1, hn1⟩ := nth_some (show 1 < ks.length by omega)
  have hq1 := nth_exprs hn1
  have hm1 := nth_memU hn1
  have hz1 := szXs_mem hm1
  have hD1 := dpXs_mem hm1
  obtain ⟨q2, hn2⟩ := nth_some (show 2 < ks.length by omega)
  have hq2 := nth_exprs hn2
  have hm2 := nth_memU hn2
  have hz2 := szXs_mem hm2
  have hD2 := dpXs_mem hm2
  have hR2 : R = (thr q0 C G).bind fun G1 => thrBr [thr q1 C, thr q2 C] G1 G1 := by
    have hg : getV 8 ks C = none := by unfold getV; split <;> simp
    rw [hR, thr.eq_def]
    simp only [hg, hl2]
    rw [if_neg (by decide), if_neg (by decide), if_neg (by decide), if_pos (by decide), thrAt_nth hn0]
    congr 1
    funext G1
    rw [thrAt_nth hn1, thrAt_nth hn2]
    simp only [thrBr]
    cases thr q1 C G1 with
    | none => rfl
    | some a => simp only [Option.bind_some]; cases thr q2 C G1 <;> rfl
  obtain ⟨G', tk2, k2, hc, hG'⟩ := ihk q0 hm0 (by omega) (by omega) S1 tk (k + 1 + 1) ci ce gi ge C G hC1 hG1 hcg
  obtain ⟨S2, hS2⟩ : ∃ S2 : List Ent, S2 = put S1 gi ⟨ge, [.mset G']⟩ := ⟨_, rfl⟩
  rw [← hS2] at hc
  have hK2 : Kp (put S gi ⟨ge, [.mset G']⟩) S2 := by rw [hS2]; exact hK1.put2 hgl _
  have hKe : ∀ X v, Kp (put S gi ⟨ge, v⟩) (put (S2 ++ [X]) gi ⟨ge, v⟩) := fun X v => by
    have := (hK2.old X).put2 (by rw [put_len]; exact hgl) ⟨ge, v⟩
    rwa [put_put] at this
  have hX2 : KpX S1 gi S2 := KpX.of (by rw [hS2]; exact Kp.refl _)
  have hpg := ent_ne hp1 hG1
  have heg := ent_ne he1 hG1
  have hp2 := hX2.ent hp1 hpg
  have he2 := hX2.ent he1 heg
  have hp3 := fun x => entAt_old (e := x) hp2
  have he3 := fun x => entAt_old (e := x) he2
  have hC2 := hX2.map hC1 hcg
  have hG2 : mapAt S2 gi ge = some G' := by rw [hS2]; exact mapAt_put hgl1
  have hgl2 := mapAt_lt hG2
  have hls : S.length + 1 = (S ++ [(⟨k, [.mref ci ce, .mref gi ge]⟩ : Ent)]).length := by simp
  rw [hls] at he1 he2 he3 heg
  obtain ⟨caps, hcaps⟩ : ∃ caps : List AV, caps = [.ref (S ++ [(⟨k, [.mref ci ce, .mref gi ge]⟩ : Ent)]).length (k + 1) 0] := ⟨_, rfl⟩
  have hfs : ∀ (f : FuncId), notM [.fn f caps, .fn 66 caps] = true := fun _ => rfl
  have each : ∀ j p F, nth [(65, caps), (66, caps)] j = some p → nth [thr q1 C, thr q2 C] j = some F → EachC (S2 ++ [⟨k2, [.fn 65 caps, .fn 66 caps]⟩]) gi ci ce p.1 p.2 F := by
    intro j p F hp hF
    match j, hp, hF with
    | 0, hp, hF =>
      simp only [nth, Option.some.injEq] at hp hF
      subst hp hF
      rw [hcaps]
      exact each_kid false (he3 _) heg (mapAt_old hC2) hcg hn1 (ihk q1 hm1) (by omega) (by omega)
    | 1, hp, hF =>
      simp only [nth, Option.some.injEq] at hp hF
      subst hp hF
      rw [hcaps]
      exact each_kid true (he3 _) heg (mapAt_old hC2) hcg hn2 (ihk q2 hm2) (by omega) (by omega)
    | _ + 2, hp, _ => simp [nth] at hp
  obtain ⟨G3, tk3, k3, hbr, hG3⟩ := branches_is (S2 ++ [⟨k2, [.fn 65 caps, .fn 66 caps]⟩]) tk2 (k2 + 1) ci ce gi ge S2.length k2 G' [(65, caps), (66, caps)] [thr q1 C, thr q2 C] (mapAt_old hG2) (entAt_new (hfs _)) rfl (by simp) each
  rw [show ([(65, caps), (66, caps)] : List (FuncId × List AV)).length = 2 from rfl] at hbr
  have hcap : ∀ a b, capsOk (.ref a b 0) = true := fun _ _ => rfl
  have h115 : two1 Tryz.prog 115 = true := by kernel_rfl
  have hlf : ∀ f g cs ds, (leafOk (.fn f cs) && leafOk (.fn g ds)) = true := fun _ _ _ _ => rfl
  have hre : ∀ (all : List Oper) (d : Option Tmp) (T : List AV), (loadsB all d).isEmpty = true → reA Tryz.prog all d T S1 S2 = some () := fun _ _ _ hL => reA_nil (by simpa using hL) (by rw [hS2, put_len]; exact Nat.le_refl _)
  rw [hS1] at hc hre
  generalize hI : thrBr [thr q1 C, thr q2 C] G' G' = y at hbr hG3
  generalize h0 : thr q0 C G = x0 at hc hG' hR2
  obtain ⟨q0o, q0s, q0n, q0k, q0p, q0a, q0t⟩ := q0
  simp only [exprC] at hq0 hc
  subst hcaps
  cases x0 with
    | none =>
      simp only [Option.isSome_none] at hc
      simp only [Option.bind_none] at hR2
      refine opG Tryz.func45 Tryz.ntmps45 ?_
      simp (maxSteps := 10^6) +contextual (disch := try exact dqd) only [evg1, simprocAttr, AV.int, AV.bool, AV.str, Tryz.results45, exprC, exprsC_len, hl', i0, i1, hq0, hc, hp2, hp3, he2, he3, hbr, hcap, h115, hlf, xfs, hre, reA_putU]
      rw [hΦ, hS2]
      exact AnsR.no (R := R) hR2 (Kp.refl _) hK1 hgl _
    | some G1 =>
      obtain rfl := hG' G1 rfl
      simp only [Option.isSome_some] at hc
      simp only [Option.bind_some] at hR2
      refine opG Tryz.func45 Tryz.ntmps45 ?_
      simp (maxSteps := 10^6) +contextual (disch := try exact dqd) only [evg1, simprocAttr, AV.int, AV.bool, AV.str, Tryz.results45, exprC, exprsC_len, hl', i0, i1, hq0, hc, hp2, hp3, he2, he3, hbr, hcap, h115, hlf, xfs, hre, reA_putU]
      rw [hΦ]
      exact ⟨by rw [hR2.trans hI], G3, take_put_len (hKe _ _), fun G2 h => hG3 G2 (by rw [← hR2.trans hI]; exact h)⟩
end
end Go.Proofs.YtmkoiandfojgmaaGreat
namespace Go.Proofs.YtmkoiandfojgmaaGreat
open Go
section
variable [Depth]
theorem thr_step (o : Int) (s : ByteArray) (n : Int) (ks : List XT) (ps : List (ByteArray × TT)) (al : List LT) (ts : List TT) (ihk : ∀ q ∈ ks, ThrC q) : ThrC (.node o s n ks ps al ts) := by
  intro hd hsz
  have key : ThrA (.node o s n ks ps al ts) := by
    by_cases h3 : o = 3
    · subst h3; exact thr_var s n ks ps al ts
    by_cases h23 : o = 23
    · subst h23; exact thr_get s n ks ps al ts ihk hd hsz
    by_cases h6 : o = 6
    · subst h6; exact thr_lam s n ks ps al ts ihk hd hsz
    by_cases h9 : o = 9
    · subst h9; exact thr_match s n ks ps al ts ihk hd hsz
    by_cases h7 : o = 7 ∧ ks.length = 2
    · obtain ⟨rfl, hl⟩ := h7; exact thr_let s n ks ps al ts ihk hd hsz hl
    by_cases h8 : o = 8 ∧ ks.length = 3
    · obtain ⟨rfl, hl⟩ := h8; exact thr_if s n ks ps al ts ihk hd hsz hl
    exact thr_other o h3 h23 h6 h9 s n ks ps al ts ihk hd hsz (fun h hl => h7 ⟨h, hl⟩) (fun h hl => h8 ⟨h, hl⟩)
  intro S tk k ci ce gi ge C G hC hG hcg
  obtain ⟨⟨r1, r2, r3, r4⟩, h, h1, G', h2, h3⟩ := key S tk k ci ce gi ge C G hC hG hcg
  simp only at h1 h2
  subst h1 h2
  exact ⟨G', r3, r4, h, h3⟩
mutual
theorem thr_all : ∀ e : XT, ThrC e
  | .node o s n ks ps al ts => thr_step o s n ks ps al ts (thr_allK ks)
theorem thr_allK : ∀ ks : List XT, ∀ q ∈ ks, ThrC q
  | [] => fun q h => by simp at h
  | x :: ks => fun q h => by
    rcases List.mem_cons.1 h with e | h
    · rw [e]; exact thr_all x
    · exact thr_allK ks q h
end
end
end Go.Proofs.YtmkoiandfojgmaaGreat
namespace Go.Proofs.YtmkoiandfojgmaaGreat
open Go
structure DT where
  name : ByteArray
  params : List ByteArray
  body : XT
  mode : Int
  typed : Bool
  vars : List (List AV)
  needs : List (List AV)
  abs : List (List AV)
  bounds : List (List AV)
  ty : TT
  metric : List (List AV)
def defC (d : DT) : List AV := .prim (.string d.name) :: strsA d.params :: (exprC d.body ++ (.prim (.int .i64 d.mode) :: .prim (.bool d.typed) :: .frz d.vars .unk :: .frz d.needs .unk :: .frz d.abs .unk :: .frz d.bounds .unk :: (typeC d.ty ++ [.frz d.metric .unk])))
structure CT where
  name : ByteArray
  names : List ByteArray
  fields : List TT
def conC (c : CT) : List AV := [.prim (.string c.name), strsA c.names, .frz (typesC c.fields) .unk]
structure AT where
  name : ByteArray
  vars : List (List AV)
  preds : List (List AV)
  cons : List CT
def dataC (d : AT) : List AV := [.prim (.string d.name), .frz d.vars .unk, .frz d.preds .unk, .frz (d.cons.map conC) .unk]
structure KT where
  name : ByteArray
  var : ByteArray
  methods : List (ByteArray × TT)
def classC (d : KT) : List AV := [.prim (.string d.name), .prim (.string d.var), .frz (d.methods.map paramC) .unk]
structure NT where
  name : ByteArray
  ty : TT
  needs : List (List AV)
  defs : List DT
def instC (d : NT) : List AV := .prim (.string d.name) :: (typeC d.ty ++ [.frz d.needs .unk, .frz (d.defs.map defC) .unk])
structure MT where
  datas : List AT
  classes : List KT
  insts : List NT
  measures : List (List AV)
  quals : List (List AV)
  defs : List DT
def modC (m : MT) : List AV := [.frz (m.datas.map dataC) .unk, .frz (m.classes.map classC) .unk, .frz (m.insts.map instC) .unk, .frz m.measures .unk, .frz m.quals .unk, .frz (m.defs.map defC) .unk]
theorem defC_len (d : DT) : (defC d).length = 25 := by simp [defC, exprC_seven, typeC_nine]
theorem instC_len (d : NT) : (instC d).length = 12 := by simp [instC, typeC_nine]
theorem nth_mapC {α : Type} {f : α → List AV} {l : List α} {i : Nat} {k : α} (h : nth l i = some k) : nth (l.map f) i = some (f k) := by rw [nth_map, h]; rfl
mutual
def bkP : PT → Nat
  | .node _ s _ ks => 4 + s.size + bkPs ks
def bkPs : List PT → Nat
  | [] => 0
  | k :: ks => bkP k + bkPs ks
end
def bkSs : List ByteArray → Nat
  | [] => 0
  | s :: l => 1 + s.size + bkSs l
mutual
def bkT : TT → Nat
  | .node _ s al ns p ps => 5 + s.size + bkTs al + bkSs ns + bkP p + bkPs ps
def bkTs : List TT → Nat
  | [] => 0
  | k :: ks => bkT k + bkTs ks
end
def bkQs : List (ByteArray × TT) → Nat
  | [] => 0
  | p :: ps => 1 + p.1.size + bkT p.2 + bkQs ps
mutual
def bkX : XT → Nat
  | .node _ s _ ks ps al ts => 7 + s.size + bkXs ks + bkQs ps + bkLs al + bkTs ts
def bkXs : List XT → Nat
  | [] => 0
  | k :: ks => bkX k + bkXs ks
def bkL : LT → Nat
  | .mk c ns b => 2 + c.size + bkSs ns + bkX b
def bkLs : List LT → Nat
  | [] => 0
  | a :: al => bkL a + bkLs al
end
theorem bkX_pos : ∀ e, 7 ≤ bkX e | .node _ _ _ _ _ _ _ => by simp only [bkX]; omega
theorem bkT_pos : ∀ e, 5 ≤ bkT e | .node _ _ _ _ _ _ => by simp only [bkT]; omega
theorem bkP_pos : ∀ e, 4 ≤ bkP e | .node _ _ _ _ => by simp only [bkP]; omega
theorem bkL_pos : ∀ e, 9 ≤ bkL e | .mk _ _ b => by have := bkX_pos b; simp only [bkL]; omega
theorem bkXs_len : ∀ l : List XT, l.length * 7 ≤ bkXs l
  | [] => by simp [bkXs, bkTs, bkPs, bkLs, bkQs, bkSs]
  | k :: l => by have := bkXs_len l; have := bkX_pos k; simp only [bkXs, List.length_cons]; omega
theorem bkTs_len : ∀ l : List TT, l.length * 5 ≤ bkTs l
  | [] => by simp [bkXs, bkTs, bkPs, bkLs, bkQs, bkSs]
  | k :: l => by have := bkTs_len l; have := bkT_pos k; simp only [bkTs, List.length_cons]; omega
theorem bkPs_len : ∀ l : List PT, l.length * 4 ≤ bkPs l
  | [] => by simp [bkXs, bkTs, bkPs, bkLs, bkQs, bkSs]
  | k :: l => by have := bkPs_len l; have := bkP_pos k; simp only [bkPs, List.length_cons]; omega
theorem bkLs_len : ∀ l : List LT, l.length * 9 ≤ bkLs l
  | [] => by simp [bkXs, bkTs, bkPs, bkLs, bkQs, bkSs]
  | k :: l => by have := bkLs_len l; have := bkL_pos k; simp only [bkLs, List.length_cons]; omega
theorem bkQs_len : ∀ l : List (ByteArray × TT), l.length * 6 ≤ bkQs l
  | [] => by simp [bkXs, bkTs, bkPs, bkLs, bkQs, bkSs]
  | k :: l => by have := bkQs_len l; have := bkT_pos k.2; simp only [bkQs, List.length_cons]; omega
theorem bkSs_len : ∀ l : List ByteArray, l.length ≤ bkSs l
  | [] => by simp [bkXs, bkTs, bkPs, bkLs, bkQs, bkSs]
  | k :: l => by have := bkSs_len l; simp only [bkSs, List.length_cons]; omega
theorem bkXs_mem : ∀ {l : List XT} {k : XT}, k ∈ l → bkX k ≤ bkXs l
  | x :: l, k, h => by
    simp only [bkXs]
    rcases List.mem_cons.1 h with rfl | h
    · omega
    · have := bkXs_mem h; omega
theorem bkTs_mem : ∀ {l : List TT} {k : TT}, k ∈ l → bkT k ≤ bkTs l
  | x :: l, k, h => by
    simp only [bkTs]
    rcases List.mem_cons.1 h with rfl | h
    · omega
    · have := bkTs_mem h; omega
theorem bkPs_mem : ∀ {l : List PT} {k : PT}, k ∈ l → bkP k ≤ bkPs l
  | x :: l, k, h => by
    simp only [bkPs]
    rcases List.mem_cons.1 h with rfl | h
    · omega
    · have := bkPs_mem h; omega
theorem bkLs_mem : ∀ {l : List LT} {k : LT}, k ∈ l → bkL k ≤ bkLs l
  | x :: l, k, h => by
    simp only [bkLs]
    rcases List.mem_cons.1 h with rfl | h
    · omega
    · have := bkLs_mem h; omega
theorem bkQs_mem : ∀ {l : List (ByteArray × TT)} {k : ByteArray × TT}, k ∈ l → bkT k.2 + k.1.size ≤ bkQs l
  | x :: l, k, h => by
    simp only [bkQs]
    rcases List.mem_cons.1 h with rfl | h
    · omega
    · have := bkQs_mem h; omega
theorem bkSs_mem : ∀ {l : List ByteArray} {k : ByteArray}, k ∈ l → k.size ≤ bkSs l
  | x :: l, k, h => by
    simp only [bkSs]
    rcases List.mem_cons.1 h with rfl | h
    · omega
    · have := bkSs_mem h; omega
end Go.Proofs.YtmkoiandfojgmaaGreat
namespace Go.Proofs.YtmkoiandfojgmaaGreat
open Go
def cellAt (t : TT) (i : Nat) : Bool := decide (t.op = 6) && decide (i + 1 < t.args.length) && (match nth t.args i with | some a => isCell a | none => false)
def scopeF (t : TT) : Nat → List ByteArray → Sn → Sn
  | _, [], C => C
  | i, s :: l, C => scopeF t (i + 1) l (bindC C s (cellAt t i))
def violF (d : DT) : Bool := !(thr d.body (scopeF d.ty 0 d.params noK) noK).isSome
def modF : List DT → ByteArray × Int
  | [] => (ByteArray.empty, 0)
  | d :: l => if d.mode ≠ 1 ∧ violF d = true then (d.name, 15) else modF l
theorem scopeF_drop (t : TT) (C : Sn) (l : List ByteArray) (j : Nat) (s : ByteArray) (h : nth l j = some s) (i : Nat) : scopeF t i (l.drop j) C = scopeF t (i + 1) (l.drop (j + 1)) (bindC C s (cellAt t i)) := by
  rw [nth_drop h]; rfl
section
variable [Depth]
set_option maxRecDepth 100000 in
set_option maxHeartbeats 4000000 in
theorem unique_violated (d : DT) (hd : dpX d.body ≤ Depth.d + 1) (hs : szX d.body ≤ 262144) (hp : d.params.length ≤ 1048576) (ha : d.ty.args.length ≤ 1048576) (S : List Ent) (tk : List Nat) (k : Nat) :
    cL Tryz.prog 24 [.agg (defC d)] S tk k = some (.bool (violF d), S, tk, k) := by
  have hth := thr_all d.body hd hs
  obtain ⟨R, hR⟩ : ∃ R, R = violF d := ⟨_, rfl⟩
  rw [← hR]
  unfold violF at hR
  obtain ⟨name, params, ⟨o, s, n, ks, ps, al, ts⟩, mode, typed, vars, needs, abs, bounds, ⟨to, tn, ta, tns, ⟨po, pn, pv, pk⟩, pp⟩, metric⟩ := d
  simp only [exprC] at hth
  simp only at hp hR
  simp only [TT.args] at ha
  refine opP Tryz.func24 Tryz.ntmps24 ?_
  simp (maxSteps := 10^6) +contextual (disch := try exact dqd) only [ev0, simprocAttr, AV.int, AV.bool, AV.str, Tryz.results24, defC, exprC, typeC, predC, strsA, List.cons_append, List.nil_append]
  obtain ⟨DC, hDC⟩ : ∃ DC : List AV, DC = defC ⟨name, params, ⟨o, s, n, ks, ps, al, ts⟩, mode, typed, vars, needs, abs, bounds, ⟨to, tn, ta, tns, ⟨po, pn, pv, pk⟩, pp⟩, metric⟩ := ⟨_, rfl⟩
  simp only [defC, exprC, typeC, predC, strsA, List.cons_append, List.nil_append] at hDC
  rw [← hDC]
  refine loop1 (P := Tryz.prog) (fun x st => st.T.length = 49 ∧ (x.2.2.2.2.1 ≤ params.length) ∧ (entAt x.1 0 0 = some DC) ∧ (mapAt x.1 x.2.2.1 x.2.2.2.1 = some x.2.2.2.2.2) ∧ (R = !(thr (.node o s n ks ps al ts) (scopeF (.node to tn ta tns (.node po pn pv pk) pp) x.2.2.2.2.1 (params.drop x.2.2.2.2.1) x.2.2.2.2.2) noK).isSome) ∧ getT st.T 1 = .ref 0 0 0 ∧ getT st.T 3 = .mref x.2.2.1 x.2.2.2.1 ∧ getT st.T 9 = .frz (params.map strC) .unk ∧ getT st.T 10 = .int (params.length : Nat) ∧ getT st.T 11 = .int (x.2.2.2.2.1 : Nat) ∧ st.S = x.1 ∧ st.tk = [] ∧ st.n = x.2.1) (fun x => params.length - x.2.2.2.2.1) (fun x => .bool R) (([⟨0, DC⟩, ⟨1, [.mset noK]⟩] : List Ent), (2 : Nat), (1 : Nat), (1 : Nat), (0 : Nat), noK) ?_ ?_
  case refine_2 => exact ⟨rfl, Nat.zero_le _, by rw [hDC]; rfl, rfl, hR, rfl, rfl, rfl, rfl, rfl, rfl, rfl, rfl⟩
  rintro ⟨SS, n1, mi, me, j, C⟩ ⟨T, S', tk', n'⟩ ⟨hl, hj, he, hm, hA, e1, e3, e9, e10, e11, eS, eT, eN⟩ IH
  simp only at hj he hm hA e1 e3 e9 e10 e11 eS eT eN
  subst eS eT eN
  obtain ⟨g, hg, hT⟩ := tab_of hl
  rw [hg] at e1 e3 e9 e10 e11
  subst hT
  clear hg hl
  by_cases hlt : j < params.length
  · have d1 : decide ((j : Int) < (params.length : Int)) = true := by simpa using hlt
    obtain ⟨x, hx⟩ := nth_some hlt
    have hx' := nth_strs hx
    simp only [strC] at hx'
    have hw := wrap_add (i := j) (by omega)
    have hw2 : IntKind.i64.wrap ((ta.length : Int) - 1) = (ta.length : Int) - 1 := wrap_of (by unfold i64; omega)
    rw [scopeF_drop _ _ _ _ _ hx] at hA
    obtain ⟨Ty, hTy⟩ : ∃ Ty : List AV, Ty = typeC (.node to tn ta tns (.node po pn pv pk) pp) := ⟨_, rfl⟩
    simp only [typeC, predC, strsA, List.cons_append, List.nil_append] at hTy
    have hbd := fun (b : Bool) (y : Ent) (tk : List Nat) (k : Nat) => unique_bind (S' ++ [y]) tk k (mapAt_old hm) x b
    rw [hDC] at he
    by_cases h6 : to = 6
    · subst h6
      by_cases hl : j + 1 < ta.length
      · have d2 : decide ((j : Int) < (ta.length : Int) - 1) = true := by simp; omega
        obtain ⟨a, ha'⟩ := nth_some (show j < ta.length by omega)
        have hat := nth_types ha'
        have hcl := fun S tk k => unique_cell S tk k a
        have hb : cellAt (.node 6 tn ta tns (.node po pn pv pk) pp) j = isCell a := by simp [cellAt, TT.op, TT.args, hl, ha']
        rw [hb] at hA
        obtain ⟨ao, as', aa, ans, ⟨apo, apn, apv, apk⟩, app⟩ := a
        simp only [typeC, predC, strsA, List.cons_append, List.nil_append] at hat hcl
        simp (maxSteps := 10^6) +contextual (disch := try exact dqd) only [evs0, simprocAttr, AV.int, AV.bool, AV.str, Tryz.results24, e1, e3, e9, e10, e11, d1, hx', hw, hw2, d2, hat, hcl, hbd, he, typesC_len]
        refine IH (_, _, _, _, j + 1, _) _ (by dsimp only; omega) ⟨rfl, hlt, entAt_old (entAt_old (by rw [hDC]; exact he)), mapAt_new, hA, rfl, rfl, rfl, rfl, rfl, rfl, rfl, rfl⟩
      · have d2 : decide ((j : Int) < (ta.length : Int) - 1) = false := by simp; omega
        have hb : cellAt (.node 6 tn ta tns (.node po pn pv pk) pp) j = false := by simp [cellAt, TT.op, TT.args, hl]
        rw [hb] at hA
        simp (maxSteps := 10^6) +contextual (disch := try exact dqd) only [evs0, simprocAttr, AV.int, AV.bool, AV.str, Tryz.results24, e1, e3, e9, e10, e11, d1, hx', hw, hw2, d2, hbd, he, typesC_len]
        refine IH (_, _, _, _, j + 1, _) _ (by dsimp only; omega) ⟨rfl, hlt, entAt_old (entAt_old (by rw [hDC]; exact he)), mapAt_new, hA, rfl, rfl, rfl, rfl, rfl, rfl, rfl, rfl⟩
    · have d6 : (to == 6) = false := by simpa using h6
      have hb : cellAt (.node to tn ta tns (.node po pn pv pk) pp) j = false := by simp [cellAt, TT.op, h6]
      rw [hb] at hA
      simp (maxSteps := 10^6) +contextual (disch := try exact dqd) only [evs0, simprocAttr, AV.int, AV.bool, AV.str, Tryz.results24, e1, e3, e9, e10, e11, d1, hx', hw, d6, hbd, he, typesC_len]
      refine IH (_, _, _, _, j + 1, _) _ (by dsimp only; omega) ⟨rfl, hlt, entAt_old (entAt_old (by rw [hDC]; exact he)), mapAt_new, hA, rfl, rfl, rfl, rfl, rfl, rfl, rfl, rfl⟩
  · have d1 : decide ((j : Int) < (params.length : Int)) = false := by simpa using hlt
    have hel : j = params.length := by omega
    rw [hel, List.drop_length] at hA
    simp only [scopeF] at hA
    rw [hDC] at he
    have hml := mapAt_lt hm
    obtain ⟨G', tk', k', hc, -⟩ := hth (S' ++ [⟨n', [.mset noK]⟩]) [] (n' + 1) mi me S'.length n' C noK (mapAt_old hm) mapAt_new (by omega)
    simp (maxSteps := 10^6) +contextual (disch := try exact dqd) only [evs0, simprocAttr, AV.int, AV.bool, AV.str, Tryz.results24, e1, e3, e9, e10, e11, d1, he, hc, xfs]
    rw [hA]
set_option maxRecDepth 100000 in
set_option maxHeartbeats 4000000 in
theorem unique_Module (m : MT) (hl : m.defs.length ≤ 1048576) (h : ∀ d ∈ m.defs, dpX d.body ≤ Depth.d + 1 ∧ szX d.body ≤ 262144 ∧ d.params.length ≤ 1048576 ∧ d.ty.args.length ≤ 1048576) (S : List Ent) (tk : List Nat) (k : Nat) :
    cL Tryz.prog 7 [.agg (modC m)] S tk k = some (.tup [.str (modF m.defs).1, .int (modF m.defs).2], S, tk, k) := by
  obtain ⟨datas, classes, insts, measures, quals, defs⟩ := m
  simp only at hl h
  obtain ⟨R, hR⟩ : ∃ R, R = modF defs := ⟨_, rfl⟩
  rw [← hR]
  refine opP Tryz.func7 Tryz.ntmps7 ?_
  obtain ⟨MC, hMC⟩ : ∃ MC : List AV, MC = modC ⟨datas, classes, insts, measures, quals, defs⟩ := ⟨_, rfl⟩
  simp only [modC] at hMC
  simp (maxSteps := 10^6) +contextual (disch := try exact dqd) only [ev0, simprocAttr, AV.int, AV.bool, AV.str, Tryz.results7, modC]
  rw [← hMC]
  clear hMC
  have hR2 : R = modF (defs.drop 0) := hR
  clear hR
  refine loop1 (P := Tryz.prog) (fun x st => st.T.length = 23 ∧ (x ≤ defs.length) ∧ (R = modF (defs.drop x)) ∧ getT st.T 7 = .frz (defs.map defC) .unk ∧ getT st.T 8 = .int (defs.length : Nat) ∧ getT st.T 9 = .int (x : Nat) ∧ st.S = [⟨0, MC⟩]) (fun x => defs.length - x) (fun x => .tup [.prim (.string R.1), .prim (.int .i64 R.2)]) (0) ?_ ?_
  case refine_2 => exact ⟨rfl, Nat.zero_le _, hR2, rfl, rfl, rfl, rfl⟩
  rintro i ⟨T, S', tk', n'⟩ ⟨hl, hi, hA, e7, e8, e9, eS⟩ IH
  subst eS
  obtain ⟨g, hg, hT⟩ := tab_of hl
  rw [hg] at e7 e8 e9
  subst hT
  clear hg hl
  by_cases hlt : i < defs.length
  · have d1 : decide ((i : Int) < (defs.length : Int)) = true := by simpa using hlt
    obtain ⟨d, hd⟩ := nth_some hlt
    have hd' := nth_mapC (f := defC) hd
    have hw := wrap_add (i := i) (by omega)
    obtain ⟨b1, b2, b3, b4⟩ := h d (nth_memU hd)
    have hv := unique_violated d b1 b2 b3 b4
    rw [nth_drop hd] at hA
    simp only [modF] at hA
    have hnm : d.name = d.name := rfl
    generalize hvb : violF d = vb at hv hA
    obtain ⟨name, params, ⟨o, s, n, ks, ps, al, ts⟩, mode, typed, vars, needs, abs, bounds, ⟨to, tn, ta, tns, ⟨po, pn, pv, pk⟩, pp⟩, metric⟩ := d
    simp only [defC, exprC, typeC, predC, strsA, List.cons_append, List.nil_append] at hv hd'
    simp only at hA
    by_cases hm : mode = 1
    · subst hm
      simp only [ne_eq, not_true, false_and, if_false] at hA
      simp (maxSteps := 10^6) +contextual (disch := try exact dqd) only [ev0, simprocAttr, AV.int, AV.bool, AV.str, Tryz.results7, e7, e8, e9, d1, hd', hw]
      exact IH ((i + 1)) _ (by first | omega | (simp only; omega)) ⟨rfl, by first | omega | (dsimp only; omega), hA, rfl, rfl, rfl, rfl⟩
    · have d2 : (mode != 1) = true := by simpa using hm
      simp only [ne_eq, hm, not_false_eq_true, true_and] at hA
      cases vb <;> simp only [if_true, Bool.false_eq_true, if_false] at hA
      · simp (maxSteps := 10^6) +contextual (disch := try exact dqd) only [ev0, simprocAttr, AV.int, AV.bool, AV.str, Tryz.results7, e7, e8, e9, d1, hd', hw, hv, d2]
        exact IH ((i + 1)) _ (by first | omega | (simp only; omega)) ⟨rfl, by first | omega | (dsimp only; omega), hA, rfl, rfl, rfl, rfl⟩
      · simp (maxSteps := 10^6) +contextual (disch := try exact dqd) only [ev0, simprocAttr, AV.int, AV.bool, AV.str, Tryz.results7, e7, e8, e9, d1, hd', hw, hv, d2]
        simp [hA]
  · have d1 : decide ((i : Int) < (defs.length : Int)) = false := by simpa using hlt
    have hel : i = defs.length := by omega
    rw [hel, List.drop_length] at hA
    simp only [modF] at hA
    simp (maxSteps := 10^6) +contextual (disch := try exact dqd) only [ev0, simprocAttr, AV.int, AV.bool, AV.str, Tryz.results7, e7, e8, e9, d1]
    simp [hA]; rfl
end
end Go.Proofs.YtmkoiandfojgmaaGreat
namespace Go.Proofs.YtmkoiandfojgmaaGreat
open Go
def finE (x : Option (AV × St)) : Option Rs := match fin1 x with | some r => some (r, [], [], 0) | none => none
theorem GdE_BR {Φ : Rs → Prop} {t : Bool} {a b : Option (AV × St)} {tg : Tag (a, b)} : Gd finE Φ (BR (some t) a b tg) ↔ (t = true → Gd finE Φ a) ∧ (t = false → Gd finE Φ b) := by
  cases t <;> simp [BR, br]
theorem GdE_some {Φ : Rs → Prop} {r : AV} {s : St} : Gd finE Φ (some (r, s)) ↔ Φ (w3 (fz3 0 s.S r), [], [], 0) := by simp [Gd, finE, fin1]
def IsB (Q : Prop) (r : Rs) : Prop := ∃ b : Bool, r.1 = .bool b ∧ (b = true → Q)
def IsI (Q : Prop) (r : Rs) : Prop := ∃ n : Int, r.1 = .int n ∧ (n = 0 → Q)
theorem IsB.no {Q : Prop} {x : List Ent × List Nat × Nat} : IsB Q (.prim (.bool false), x) := ⟨false, rfl, fun h => by cases h⟩
theorem IsB.yes {Q : Prop} {x : List Ent × List Nat × Nat} (h : Q) : IsB Q (.prim (.bool true), x) := ⟨true, rfl, fun _ => h⟩
theorem IsB.of {Q : Prop} {x : List Ent × List Nat × Nat} {b : Bool} (h : b = true → Q) : IsB Q (.prim (.bool b), x) := ⟨b, rfl, h⟩
theorem IsI.of {Q : Prop} {x : List Ent × List Nat × Nat} {n : Int} (h : n = 0 → Q) : IsI Q (.prim (.int .i64 n), x) := ⟨n, rfl, h⟩
theorem IsB_of {Q : Prop} {x : List Ent × List Nat × Nat} {b : Bool} : IsB Q (.prim (.bool b), x) ↔ (b = true → Q) := ⟨fun ⟨b', h, h2⟩ => by cases h; exact h2, IsB.of⟩
theorem IsI_of {Q : Prop} {x : List Ent × List Nat × Nat} {n : Int} : IsI Q (.prim (.int .i64 n), x) ↔ (n = 0 → Q) := ⟨fun ⟨b', h, h2⟩ => by cases h; exact h2, IsI.of⟩
set_option linter.defProp false in
def gE := And.intro @GdE_BR <| And.intro @GdE_some <| And.intro @IsB_of <| And.intro @IsI_of <| And.intro @implies_true.{0} <| And.intro and_self true_implies
section
variable {P : Program} {fn : Func} [Globs] [Ext P] {f : FuncId} {c : Code} {args args' : List AV} {nt : Nat}
theorem opE {Φ : Rs → Prop} (hf : P.funcs[f]? = some fn) (hnt : fn.ntmps = nt) (hp3 : ∀ r, Φ r → pure3 r.1 = true) (h : Gd finE Φ (KX P fn c ⟨args' ++ bots (nt - args.length), [], [], 0⟩ [] .mk)) (hx : (Ext.on P f || Ext.mv P f) = false := by exact rfl) (hb : fn.body = some c := by exact rfl) (hnil : nilCmp c = false := by decide +kernel) (hname : (fn.name == "runtime.NumGoroutine") = false := by decide +kernel) (hargs : args.map w2 = args' := by exact rfl) (hp : args'.all pure2 = true := by exact rfl) :
    ∃ r, (∀ S tk n, cL P f args S tk n = some (r, S, tk, n)) ∧ Φ (r, [], [], 0) := by
  obtain ⟨r, h1, h2⟩ := h
  unfold finE at h1
  split at h1
  · rename_i r' hr
    simp only [Option.some.injEq] at h1
    subst h1
    exact ⟨r', fun S tk n => opP hf hnt hr hx hb hnil hname hargs hp (hp3 _ h2), h2⟩
  · cases h1
theorem opB {Q : Prop} (hf : P.funcs[f]? = some fn) (hnt : fn.ntmps = nt) (h : Gd finE (IsB Q) (KX P fn c ⟨args' ++ bots (nt - args.length), [], [], 0⟩ [] .mk)) (hx : (Ext.on P f || Ext.mv P f) = false := by exact rfl) (hb : fn.body = some c := by exact rfl) (hnil : nilCmp c = false := by decide +kernel) (hname : (fn.name == "runtime.NumGoroutine") = false := by decide +kernel) (hargs : args.map w2 = args' := by exact rfl) (hp : args'.all pure2 = true := by exact rfl) :
    ∃ b : Bool, (∀ S tk n, cL P f args S tk n = some (.bool b, S, tk, n)) ∧ (b = true → Q) := by
  obtain ⟨r, h1, b, h2, h3⟩ := opE hf hnt (fun r h => by obtain ⟨b, h, -⟩ := h; rw [h]; rfl) h hx hb hnil hname hargs hp
  simp only at h2
  subst h2
  exact ⟨b, h1, h3⟩
theorem opI' {Q : Prop} (hf : P.funcs[f]? = some fn) (hnt : fn.ntmps = nt) (h : Gd finE (IsI Q) (KX P fn c ⟨args' ++ bots (nt - args.length), [], [], 0⟩ [] .mk)) (hx : (Ext.on P f || Ext.mv P f) = false := by exact rfl) (hb : fn.body = some c := by exact rfl) (hnil : nilCmp c = false := by decide +kernel) (hname : (fn.name == "runtime.NumGoroutine") = false := by decide +kernel) (hargs : args.map w2 = args' := by exact rfl) (hp : args'.all pure2 = true := by exact rfl) :
    ∃ n : Int, (∀ S tk k, cL P f args S tk k = some (.int n, S, tk, k)) ∧ (n = 0 → Q) := by
  obtain ⟨r, h1, b, h2, h3⟩ := opE hf hnt (fun r h => by obtain ⟨b, h, -⟩ := h; rw [h]; rfl) h hx hb hnil hname hargs hp
  simp only at h2
  subst h2
  exact ⟨b, h1, h3⟩
end
end Go.Proofs.YtmkoiandfojgmaaGreat
namespace Go.Proofs.YtmkoiandfojgmaaGreat
open Go
def LT.body : LT → XT | .mk _ _ b => b
def LT.names : LT → List ByteArray | .mk _ ns _ => ns
def XT.kids : XT → List XT | .node _ _ _ ks _ _ _ => ks
def XT.alts : XT → List LT | .node _ _ _ _ _ al _ => al
def XT.params : XT → List (ByteArray × TT) | .node _ _ _ _ ps _ _ => ps
def XT.types : XT → List TT | .node _ _ _ _ _ _ ts => ts
def bodiesX (e : XT) : List XT := e.kids ++ e.alts.map LT.body
mutual
def nodesX : XT → Nat
  | .node _ _ _ ks _ al _ => 1 + nodesXs ks + nodesLs al
def nodesXs : List XT → Nat
  | [] => 0
  | k :: ks => nodesX k + nodesXs ks
def nodesLs : List LT → Nat
  | [] => 0
  | .mk _ _ b :: al => nodesX b + nodesLs al
end
theorem nodesXs_app : ∀ a b : List XT, nodesXs (a ++ b) = nodesXs a + nodesXs b
  | [], b => by simp [nodesXs]
  | k :: a, b => by simp only [List.cons_append, nodesXs, nodesXs_app a b]; omega
theorem nodesLs_map : ∀ al : List LT, nodesXs (al.map LT.body) = nodesLs al
  | [] => by simp [nodesXs, nodesLs]
  | .mk _ _ b :: al => by simp only [List.map_cons, nodesXs, nodesLs, LT.body, nodesLs_map al]
theorem nodesX_eq (e : XT) : nodesX e = 1 + nodesXs (bodiesX e) := by
  obtain ⟨o, s, n, ks, ps, al, ts⟩ := e
  simp only [nodesX, bodiesX, XT.kids, XT.alts, nodesXs_app, nodesLs_map]; omega
theorem nodesX_pos (e : XT) : 1 ≤ nodesX e := by rw [nodesX_eq]; omega
theorem dpXs_app : ∀ a b : List XT, dpXs (a ++ b) = max (dpXs a) (dpXs b)
  | [], b => by simp [dpXs]
  | k :: a, b => by simp only [List.cons_append, dpXs, dpXs_app a b]; omega
theorem dpLs_map : ∀ al : List LT, dpXs (al.map LT.body) = dpLs al
  | [] => by simp [dpXs, dpLs]
  | .mk _ _ b :: al => by simp only [List.map_cons, dpXs, dpLs, LT.body, dpLs_map al]
theorem dpX_eq (e : XT) : dpX e = 1 + dpXs (bodiesX e) := by
  obtain ⟨o, s, n, ks, ps, al, ts⟩ := e
  simp only [dpX, bodiesX, XT.kids, XT.alts, dpXs_app, dpLs_map]
mutual
theorem dp_le_nodes : ∀ e : XT, dpX e ≤ nodesX e
  | .node _ _ _ ks _ al _ => by
    have := dp_le_nodesK ks
    have := dp_le_nodesL al
    simp only [dpX, nodesX]; omega
theorem dp_le_nodesK : ∀ ks : List XT, dpXs ks ≤ nodesXs ks
  | [] => by simp [dpXs, nodesXs]
  | k :: ks => by
    have := dp_le_nodes k
    have := dp_le_nodesK ks
    simp only [dpXs, nodesXs]; omega
theorem dp_le_nodesL : ∀ al : List LT, dpLs al ≤ nodesLs al
  | [] => by simp [dpLs, nodesLs]
  | .mk _ _ b :: al => by
    have := dp_le_nodes b
    have := dp_le_nodesL al
    simp only [dpLs, nodesLs]; omega
end
mutual
theorem nodes_bk : ∀ e : XT, nodesX e * 7 ≤ bkX e
  | .node _ _ _ ks _ al _ => by
    have := nodes_bkK ks
    have := nodes_bkL al
    simp only [nodesX, bkX]; omega
theorem nodes_bkK : ∀ ks : List XT, nodesXs ks * 7 ≤ bkXs ks
  | [] => by simp [nodesXs, bkXs]
  | k :: ks => by
    have := nodes_bk k
    have := nodes_bkK ks
    simp only [nodesXs, bkXs]; omega
theorem nodes_bkL : ∀ al : List LT, nodesLs al * 7 ≤ bkLs al
  | [] => by simp [nodesLs, bkLs]
  | .mk _ _ b :: al => by
    have := nodes_bk b
    have := nodes_bkL al
    simp only [nodesLs, bkLs, bkL]; omega
end
theorem bkXs_app : ∀ a b : List XT, bkXs (a ++ b) = bkXs a + bkXs b
  | [], b => by simp [bkXs]
  | k :: a, b => by simp only [List.cons_append, bkXs, bkXs_app a b]; omega
theorem bkLs_map : ∀ al : List LT, bkXs (al.map LT.body) ≤ bkLs al
  | [] => by simp [bkXs, bkLs]
  | .mk _ _ b :: al => by
    have := bkLs_map al
    simp only [List.map_cons, bkXs, bkLs, bkL, LT.body]; omega
theorem bodies_bk (e : XT) : bkXs (bodiesX e) + 7 ≤ bkX e := by
  obtain ⟨o, s, n, ks, ps, al, ts⟩ := e
  have := bkLs_map al
  simp only [bkX, bodiesX, XT.kids, XT.alts, bkXs_app]; omega
theorem bodies_len (e : XT) : (bodiesX e).length * 7 ≤ bkX e := by
  have := bodies_bk e
  have := bkXs_len (bodiesX e)
  omega
theorem bodies_mem {e q : XT} (h : q ∈ bodiesX e) : bkX q + 7 ≤ bkX e := by
  have := bodies_bk e
  have := bkXs_mem h
  omega
theorem take_mapS {α : Type} {l : List α} {i : Nat} {x : α} (h : nth l i = some x) : l.take (i + 1) = l.take i ++ [x] := by
  rw [nth_get] at h
  rw [List.take_add_one, h]; rfl
theorem rowsOk_alts (l : List LT) : rowsOk 9 (altsC l) = true := by rw [altsC_map]; exact rowsOk_map (f := altC) (sz := 9) altC_nine l
section
variable [Depth]
set_option maxRecDepth 100000 in
set_option maxHeartbeats 2000000 in
theorem R20_bodies (e : XT) (hb : bkX e ≤ 1048576) (S : List Ent) (tk : List Nat) (k : Nat) : cL Tryz.prog 32 [.agg (exprC e)] S tk k = some (.frz (exprsC (bodiesX e)) .unk, S, tk, k) := by
  have hbl := bodies_len e
  obtain ⟨o, s, n, ks, ps, al, ts⟩ := e
  generalize hR : AV.frz (exprsC (bodiesX (.node o s n ks ps al ts))) .unk = R
  rw [exprsC_map] at hR
  simp only [bodiesX, XT.kids, XT.alts, List.length_append, List.length_map] at hbl hR
  have hrk := rowsOk_exprs ks
  have hlk : (exprsC ks).length ≤ 1048576 := by rw [exprsC_len]; omega
  have hka := exprsC_map ks
  refine opP Tryz.func32 Tryz.ntmps32 (hp3 := by rw [← hR]; rfl) ?_
  have hap : ∀ tk, apB (some 7) [] .tight (exprsC ks) tk = some (.frz (exprsC ks) (capNew tk .tight 7), capPut tk .tight) := fun tk => apB_all (es := []) rfl rfl hrk (by simpa using hlk)
  simp (maxSteps := 10^6) +contextual (disch := try exact dqd) only [ev0, simprocAttr, AV.int, AV.bool, AV.str, Tryz.results32, exprC, hap]
  clear hap
  refine loop1 (P := Tryz.prog) (fun x st => st.T.length = 26 ∧ (x.1 ≤ al.length) ∧ (okCap st.tk x.2.1 7 = true) ∧ (x.2.2 = (ks ++ (al.map LT.body).take x.1).map exprC) ∧ getT st.T 1 = .ref 0 0 0 ∧ getT st.T 3 = .frz x.2.2 x.2.1 ∧ getT st.T 4 = .int (x.1 : Nat) ∧ st.S = [⟨0, [.prim (.int .i64 o), .prim (.string s), .prim (.int .i64 n), .frz (exprsC ks) .unk, .frz (ps.map paramC) .unk, .frz (altsC al) .unk, .frz (typesC ts) .unk]⟩]) (fun x => al.length - x.1) (fun x => R) (0, capNew [] .tight 7, exprsC ks) ?_ ?_
  case refine_2 => exact ⟨rfl, Nat.zero_le _, okCap_new (c := .tight) (tk := []) rfl, by simp [exprsC_map], rfl, rfl, rfl, rfl⟩
  rintro ⟨i, c, L⟩ ⟨T, S', tk', n'⟩ ⟨hl, hi, hok, hL, e1, e3, e4, eS⟩ IH
  simp only at hi hok hL e1 e3 e4 eS
  subst eS
  obtain ⟨g, hg, hT⟩ := tab_of hl
  rw [hg] at e1 e3 e4
  subst hT
  clear hg hl
  by_cases la : i < al.length
  · have d1 : decide ((i : Int) < (al.length : Int)) = true := by simpa using la
    obtain ⟨x, hx⟩ := nth_some la
    have hx' := nth_alts hx
    have hw := wrap_add (i := i) (by omega)
    have htk := take_mapS (show nth (al.map LT.body) i = some x.body by rw [nth_map, hx]; rfl)
    have hr : rowsOk 7 L = true := by rw [hL]; exact rowsOk_map (f := exprC) (sz := 7) exprC_seven (ks ++ (al.map LT.body).take i)
    have hap := apB_one (y := exprC x.body) hok hr (by rw [exprC_seven]; rfl) (by rw [hL]; simp; omega)
    have hL2 : L ++ [exprC x.body] = (ks ++ (al.map LT.body).take (i + 1)).map exprC := by rw [htk, hL]; simp
    obtain ⟨con, ns, ⟨qo, qs, qn, qk, qp, qa, qt⟩⟩ := x
    simp only [altC, exprC, strsA, LT.body] at hx' hap hL2
    simp (maxSteps := 10^6) +contextual (disch := try exact dqd) only [ev0, simprocAttr, AV.int, AV.bool, AV.str, Tryz.results32, e1, e3, e4, d1, hx', hw, altsC_len, hap]
    exact IH ((i + 1, _, _)) _ (by first | omega | (simp only; omega)) ⟨rfl, la, okCap_new hok, hL2, rfl, rfl, rfl, rfl⟩
  · have d1 : decide ((i : Int) < (al.length : Int)) = false := by simpa using la
    have he : i = al.length := by omega
    simp (maxSteps := 10^6) +contextual (disch := try exact dqd) only [ev0, simprocAttr, AV.int, AV.bool, AV.str, Tryz.results32, e1, e3, e4, d1, altsC_len]
    rw [← hR, hL, List.take_of_length_le (by simp; omega)]
end
theorem nodes_fit : ∀ (l : List XT), nodesXs l ≤ 1048576 → ∀ i, nodesXs (l.take i) ≤ 1048576
  | l, h, i => by
    have := nodesXs_app (l.take i) (l.drop i)
    rw [List.take_append_drop] at this
    omega
section
variable [Depth]
theorem bodies_run (e : XT) (hb : bkX e ≤ 1048576) : ∀ (S : List Ent) (tk : List Nat) (k : Nat), cL Tryz.prog 32 [.agg (exprC e)] S tk k = some (.frz (exprsC (bodiesX e)) .unk, S, tk, k) := fun S tk k => R20_bodies e hb S tk k
set_option maxRecDepth 100000 in
set_option maxHeartbeats 2000000 in
theorem R20_Nodes_step (e : XT) (hb : bkX e ≤ 1048576) (ih : ∀ q ∈ bodiesX e, ∀ S tk k, cL Tryz.prog 11 [.agg (exprC q)] S tk k = some (.int (nodesX q : Nat), S, tk, k)) (S : List Ent) (tk : List Nat) (k : Nat) : cL Tryz.prog 11 [.agg (exprC e)] S tk k = some (.int (nodesX e : Nat), S, tk, k) := by
  have hbl := bodies_len e
  have hbd := bodies_run e hb
  have hnb := nodes_bk e
  have hne := nodesX_eq e
  generalize hR : nodesX e = R at *
  generalize bodiesX e = l at *
  have hfit := nodes_fit l (by omega)
  obtain ⟨DC, hDC⟩ : ∃ DC : List AV, DC = exprC e := ⟨_, rfl⟩
  obtain ⟨o, s, n, ks, ps, al, ts⟩ := e
  simp only [exprC] at hDC hbd
  refine opP Tryz.func11 Tryz.ntmps11 ?_
  simp (maxSteps := 10^6) +contextual (disch := try exact dqd) only [ev0, simprocAttr, AV.int, AV.bool, AV.str, Tryz.results11, exprC, hbd]
  rw [← hDC]
  clear hbd
  refine loop1 (P := Tryz.prog) (fun x st => st.T.length = 22 ∧ (x ≤ l.length) ∧ getT st.T 3 = .int ((1 + nodesXs (l.take x) : Nat) : Int) ∧ getT st.T 4 = .frz (exprsC l) .unk ∧ getT st.T 5 = .int (x : Nat) ∧ st.S = [⟨0, DC⟩]) (fun x => l.length - x) (fun x => .int (R : Nat)) (0) ?_ ?_
  case refine_2 => exact ⟨rfl, Nat.zero_le _, rfl, rfl, rfl, rfl⟩
  rintro i ⟨T, S', tk', n'⟩ ⟨hl, hi, e3, e4, e5, eS⟩ IH
  subst eS
  obtain ⟨g, hg, hT⟩ := tab_of hl
  rw [hg] at e3 e4 e5
  subst hT
  clear hg hl
  by_cases la : i < l.length
  · have d1 : decide ((i : Int) < (l.length : Int)) = true := by simpa using la
    obtain ⟨q, hq⟩ := nth_some la
    have hq' := nth_exprs hq
    have hw := wrap_add (i := i) (by omega)
    have hc := ih q (nth_memU hq)
    have h1 := hfit (i + 1)
    have h2 := take_mapS hq
    have h3 : nodesXs (l.take (i + 1)) = nodesXs (l.take i) + nodesX q := by rw [h2, nodesXs_app]; simp [nodesXs]
    have hw2 : IntKind.i64.wrap (((1 + nodesXs (l.take i) : Nat) : Int) + (nodesX q : Int)) = ((1 + nodesXs (l.take (i + 1)) : Nat) : Int) := by
      rw [wrap_of (by unfold i64; omega)]; omega
    generalize nodesX q = b at *
    obtain ⟨qo, qs, qn, qk, qp, qa, qt⟩ := q
    simp only [exprC] at hq' hc
    simp (maxSteps := 10^6) +contextual (disch := try exact dqd) only [ev0, simprocAttr, AV.int, AV.bool, AV.str, Tryz.results11, e3, e4, e5, d1, hq', hw, hw2, hc, exprsC_len]
    exact IH ((i + 1)) _ (by first | omega | (simp only; omega)) ⟨rfl, la, rfl, rfl, rfl, rfl⟩
  · have d1 : decide ((i : Int) < (l.length : Int)) = false := by simpa using la
    have he : i = l.length := by omega
    simp (maxSteps := 10^6) +contextual (disch := try exact dqd) only [ev0, simprocAttr, AV.int, AV.bool, AV.str, Tryz.results11, e3, e4, e5, d1, exprsC_len]
    rw [he, List.take_length, hne]
theorem R20_Nodes : ∀ (b : Nat) (e : XT), bkX e ≤ b → bkX e ≤ 1048576 → ∀ (S : List Ent) (tk : List Nat) (k : Nat), cL Tryz.prog 11 [.agg (exprC e)] S tk k = some (.int (nodesX e : Nat), S, tk, k)
  | 0, e, h, _ => by have := bkX_pos e; omega
  | b + 1, e, h, hb => R20_Nodes_step e hb fun q hq => R20_Nodes b q (by have := bodies_mem hq; omega) (by have := bodies_mem hq; omega)
end
theorem dp_fit (l : List XT) (i : Nat) : dpXs (l.take i) ≤ dpXs l := by
  have := dpXs_app (l.take i) (l.drop i)
  rw [List.take_append_drop] at this
  omega
section
variable [Depth]
set_option maxRecDepth 100000 in
set_option maxHeartbeats 2000000 in
theorem R20_Depth_step (e : XT) (hb : bkX e ≤ 1048576) (ih : ∀ q ∈ bodiesX e, ∀ S tk k, cL Tryz.prog 33 [.agg (exprC q)] S tk k = some (.int (dpX q : Nat), S, tk, k)) (S : List Ent) (tk : List Nat) (k : Nat) : cL Tryz.prog 33 [.agg (exprC e)] S tk k = some (.int (dpX e : Nat), S, tk, k) := by
  have hbl := bodies_len e
  have hbd := bodies_run e hb
  have hnb := nodes_bk e
  have hdn := dp_le_nodes e
  have hne := dpX_eq e
  generalize hR : dpX e = R at *
  generalize bodiesX e = l at *
  have hfit := dp_fit l
  obtain ⟨DC, hDC⟩ : ∃ DC : List AV, DC = exprC e := ⟨_, rfl⟩
  obtain ⟨o, s, n, ks, ps, al, ts⟩ := e
  simp only [exprC] at hDC hbd
  refine opP Tryz.func33 Tryz.ntmps33 ?_
  simp (maxSteps := 10^6) +contextual (disch := try exact dqd) only [ev0, simprocAttr, AV.int, AV.bool, AV.str, Tryz.results33, exprC, hbd]
  rw [← hDC]
  clear hbd
  refine loop1 (P := Tryz.prog) (fun x st => st.T.length = 23 ∧ (x ≤ l.length) ∧ getT st.T 3 = .int ((dpXs (l.take x) : Nat) : Int) ∧ getT st.T 4 = .frz (exprsC l) .unk ∧ getT st.T 5 = .int (x : Nat) ∧ st.S = [⟨0, DC⟩]) (fun x => l.length - x) (fun x => .int (R : Nat)) (0) ?_ ?_
  case refine_2 => exact ⟨rfl, Nat.zero_le _, rfl, rfl, rfl, rfl⟩
  rintro i ⟨T, S', tk', n'⟩ ⟨hl, hi, e3, e4, e5, eS⟩ IH
  subst eS
  obtain ⟨g, hg, hT⟩ := tab_of hl
  rw [hg] at e3 e4 e5
  subst hT
  clear hg hl
  by_cases la : i < l.length
  · have d1 : decide ((i : Int) < (l.length : Int)) = true := by simpa using la
    obtain ⟨q, hq⟩ := nth_some la
    have hq' := nth_exprs hq
    have hw := wrap_add (i := i) (by omega)
    have hc := ih q (nth_memU hq)
    have h2 := take_mapS hq
    have h3 : (if (dpX q : Int) > (dpXs (l.take i) : Int) then (dpX q : Int) else (dpXs (l.take i) : Int)) = ((dpXs (l.take (i + 1)) : Nat) : Int) := by rw [h2, dpXs_app]; simp only [dpXs]; split <;> omega
    generalize dpX q = b at *
    obtain ⟨qo, qs, qn, qk, qp, qa, qt⟩ := q
    simp only [exprC] at hq' hc
    simp (maxSteps := 10^6) +contextual (disch := try exact dqd) only [ev0, simprocAttr, AV.int, AV.bool, AV.str, Tryz.results33, e3, e4, e5, d1, hq', hw, hc, h3, exprsC_len]
    exact IH ((i + 1)) _ (by first | omega | (simp only; omega)) ⟨rfl, la, rfl, rfl, rfl, rfl⟩
  · have d1 : decide ((i : Int) < (l.length : Int)) = false := by simpa using la
    have he : i = l.length := by omega
    have hw2 : IntKind.i64.wrap (((dpXs (l.take i) : Nat) : Int) + 1) = ((R : Nat) : Int) := by
      rw [wrap_of (by unfold i64; have := hfit i; omega), he, List.take_length]; omega
    simp (maxSteps := 10^6) +contextual (disch := try exact dqd) only [ev0, simprocAttr, AV.int, AV.bool, AV.str, Tryz.results33, e3, e4, e5, d1, hw2, exprsC_len]
end
end Go.Proofs.YtmkoiandfojgmaaGreat
namespace Go.Proofs.YtmkoiandfojgmaaGreat
open Go
mutual
def deepT : TT → Bool
  | .node o _ al _ _ _ => (o == 3) || deepTs al
def deepTs : List TT → Bool
  | [] => false
  | t :: l => deepT t || deepTs l
end
theorem deepTs_any : ∀ l : List TT, deepTs l = l.any deepT
  | [] => by simp [deepTs]
  | t :: l => by simp only [deepTs, List.any_cons, deepTs_any l]
mutual
def madeX : XT → Bool
  | .node o _ _ ks ps al ts => (decide (o = 22 ∨ o = 23 ∨ o = 24) || deepTs ts) || (ps.any (fun p => deepT p.2) || (madeLs al || madeXs ks))
def madeXs : List XT → Bool
  | [] => false
  | k :: l => madeX k || madeXs l
def madeLs : List LT → Bool
  | [] => false
  | .mk _ _ b :: l => madeX b || madeLs l
end
theorem madeXs_any : ∀ l : List XT, madeXs l = l.any madeX
  | [] => by simp [madeXs]
  | t :: l => by simp only [madeXs, List.any_cons, madeXs_any l]
theorem madeLs_any : ∀ l : List LT, madeLs l = l.any fun a => madeX a.body
  | [] => by simp [madeLs]
  | .mk _ _ b :: l => by simp only [madeLs, List.any_cons, madeLs_any l, LT.body]
def idxF {α : Type} (p : α → Bool) : Nat → List α → Int
  | _, [] => -1
  | i, x :: l => if p x = true then (i : Int) else idxF p (i + 1) l
theorem idxF_nn {α : Type} (p : α → Bool) : ∀ (l : List α) (i : Nat), decide (idxF p i l ≥ 0) = l.any p
  | [], _ => rfl
  | x :: l, i => by
    rw [List.any_cons]
    by_cases h : p x = true
    · have e : idxF p i (x :: l) = i := if_pos h
      rw [e, h]; simp
    · have e : idxF p i (x :: l) = idxF p (i + 1) l := if_neg h
      have h' : p x = false := by simpa using h
      rw [e, h', Bool.false_or]
      exact idxF_nn p l (i + 1)
def allDefs (m : MT) : List DT := m.defs ++ m.insts.flatMap NT.defs
theorem rowsOk_defs (l : List DT) : rowsOk 25 (l.map defC) = true := rowsOk_map (f := defC) (sz := 25) defC_len l
theorem flat_take {l : List NT} {i : Nat} {x : NT} (h : nth l i = some x) : (l.take (i + 1)).flatMap NT.defs = (l.take i).flatMap NT.defs ++ x.defs := by rw [take_mapS h]; simp
theorem flat_le (l : List NT) (i : Nat) : ((l.take i).flatMap NT.defs).length ≤ (l.flatMap NT.defs).length := by
  have : l.flatMap NT.defs = (l.take i).flatMap NT.defs ++ (l.drop i).flatMap NT.defs := by rw [← List.flatMap_append, List.take_append_drop]
  rw [this, List.length_append]; omega
end Go.Proofs.YtmkoiandfojgmaaGreat
namespace Go.Proofs.YtmkoiandfojgmaaGreat
open Go
section
variable [Depth]
theorem IndexFuncT (l : List TT) (c : Cap) (p : TT → Bool) (f : FuncId) (hlen : l.length ≤ 1048576) (h : ∀ x ∈ l, ∀ S tk k, cL Tryz.prog f [.agg (typeC x)] S tk k = some (.bool (p x), S, tk, k)) : ∀ S tk k, cL Tryz.prog 48 [.frz (typesC l) c, .fn f []] S tk k = some (.int (idxF p 0 l), S, tk, k) := by
  intro S tk k
  refine opP Tryz.func48 Tryz.ntmps48 ?_
  simp (maxSteps := 10^6) +contextual (disch := try exact dqd) only [ev0, simprocAttr, AV.int, AV.bool, AV.str, Tryz.results48, typesC_len]
  refine loop1 (P := Tryz.prog) (fun x st => st.T.length = 19 ∧ (x ≤ l.length) ∧ (idxF p 0 l = idxF p x (l.drop x)) ∧ getT st.T 0 = .frz (typesC l) .unk ∧ getT st.T 1 = .fn f [] ∧ getT st.T 7 = .int (l.length : Nat) ∧ getT st.T 8 = .int (x : Nat) ∧ st.S = []) (fun x => l.length - x) (fun x => .int (idxF p 0 l)) (0) ?_ ?_
  case refine_2 => exact ⟨rfl, Nat.zero_le _, rfl, rfl, rfl, rfl, rfl, rfl⟩
  rintro i ⟨T, S', tk', n'⟩ ⟨hl, hi, hA, e0, e1, e7, e8, eS⟩ IH
  subst eS
  obtain ⟨g, hg, hT⟩ := tab_of hl
  rw [hg] at e0 e1 e7 e8
  subst hT
  clear hg hl
  by_cases la : i < l.length
  · have d1 : decide ((i : Int) < (l.length : Int)) = true := by simpa using la
    obtain ⟨x, hx⟩ := nth_some la
    have hx' := nth_types hx
    have hw := wrap_add (i := i) (by omega)
    have hc := h x (nth_memU hx)
    rw [nth_drop hx] at hA
    simp only [idxF] at hA
    obtain ⟨o', s', a', ns', ⟨po, pn, pv, pk⟩, pp⟩ := x
    simp only [typeC, predC, strsA, List.cons_append, List.nil_append] at hx' hc
    generalize p (.node o' s' a' ns' (.node po pn pv pk) pp) = b at *
    cases b
    · simp (maxSteps := 10^6) +contextual (disch := try exact dqd) only [ev0, simprocAttr, AV.int, AV.bool, AV.str, Tryz.results48, e0, e1, e7, e8, d1, hx', hw, hc]
      exact IH ((i + 1)) _ (by first | omega | (simp only; omega)) ⟨rfl, la, by simpa using hA, rfl, rfl, rfl, rfl, rfl⟩
    · simp (maxSteps := 10^6) +contextual (disch := try exact dqd) only [ev0, simprocAttr, AV.int, AV.bool, AV.str, Tryz.results48, e0, e1, e7, e8, d1, hx', hw, hc]
      simpa using hA.symm
  · have d1 : decide ((i : Int) < (l.length : Int)) = false := by simpa using la
    rw [List.drop_eq_nil_of_le (by omega)] at hA
    simp (maxSteps := 10^6) +contextual (disch := try exact dqd) only [ev0, simprocAttr, AV.int, AV.bool, AV.str, Tryz.results48, e0, e1, e7, e8, d1]
    rw [hA]; rfl
theorem ContainsT (l : List TT) (c : Cap) (p : TT → Bool) (f : FuncId) (hlen : l.length ≤ 1048576) (h : ∀ x ∈ l, ∀ S tk k, cL Tryz.prog f [.agg (typeC x)] S tk k = some (.bool (p x), S, tk, k)) : ∀ S tk k, cL Tryz.prog 27 [.frz (typesC l) c, .fn f []] S tk k = some (.bool (l.any p), S, tk, k) := by
  intro S tk k
  have hi := IndexFuncT l .unk p f hlen h
  refine opP Tryz.func27 Tryz.ntmps27 ?_
  simp (maxSteps := 10^6) +contextual (disch := try exact dqd) only [ev0, simprocAttr, AV.int, AV.bool, AV.str, Tryz.results27, hi]
  rw [idxF_nn]
theorem IndexFuncX (l : List XT) (c : Cap) (p : XT → Bool) (f : FuncId) (hlen : l.length ≤ 1048576) (h : ∀ x ∈ l, ∀ S tk k, cL Tryz.prog f [.agg (exprC x)] S tk k = some (.bool (p x), S, tk, k)) : ∀ S tk k, cL Tryz.prog 74 [.frz (exprsC l) c, .fn f []] S tk k = some (.int (idxF p 0 l), S, tk, k) := by
  intro S tk k
  refine opP Tryz.func74 Tryz.ntmps74 ?_
  simp (maxSteps := 10^6) +contextual (disch := try exact dqd) only [ev0, simprocAttr, AV.int, AV.bool, AV.str, Tryz.results74, exprsC_len]
  refine loop1 (P := Tryz.prog) (fun x st => st.T.length = 19 ∧ (x ≤ l.length) ∧ (idxF p 0 l = idxF p x (l.drop x)) ∧ getT st.T 0 = .frz (exprsC l) .unk ∧ getT st.T 1 = .fn f [] ∧ getT st.T 7 = .int (l.length : Nat) ∧ getT st.T 8 = .int (x : Nat) ∧ st.S = []) (fun x => l.length - x) (fun x => .int (idxF p 0 l)) (0) ?_ ?_
  case refine_2 => exact ⟨rfl, Nat.zero_le _, rfl, rfl, rfl, rfl, rfl, rfl⟩
  rintro i ⟨T, S', tk', n'⟩ ⟨hl, hi, hA, e0, e1, e7, e8, eS⟩ IH
  subst eS
  obtain ⟨g, hg, hT⟩ := tab_of hl
  rw [hg] at e0 e1 e7 e8
  subst hT
  clear hg hl
  by_cases la : i < l.length
  · have d1 : decide ((i : Int) < (l.length : Int)) = true := by simpa using la
    obtain ⟨x, hx⟩ := nth_some la
    have hx' := nth_exprs hx
    have hw := wrap_add (i := i) (by omega)
    have hc := h x (nth_memU hx)
    rw [nth_drop hx] at hA
    simp only [idxF] at hA
    obtain ⟨o, s, n, ks, ps, al, ts⟩ := x
    simp only [exprC] at hx' hc
    generalize p (.node o s n ks ps al ts) = b at *
    cases b
    · simp (maxSteps := 10^6) +contextual (disch := try exact dqd) only [ev0, simprocAttr, AV.int, AV.bool, AV.str, Tryz.results74, e0, e1, e7, e8, d1, hx', hw, hc]
      exact IH ((i + 1)) _ (by first | omega | (simp only; omega)) ⟨rfl, la, by simpa using hA, rfl, rfl, rfl, rfl, rfl⟩
    · simp (maxSteps := 10^6) +contextual (disch := try exact dqd) only [ev0, simprocAttr, AV.int, AV.bool, AV.str, Tryz.results74, e0, e1, e7, e8, d1, hx', hw, hc]
      simpa using hA.symm
  · have d1 : decide ((i : Int) < (l.length : Int)) = false := by simpa using la
    rw [List.drop_eq_nil_of_le (by omega)] at hA
    simp (maxSteps := 10^6) +contextual (disch := try exact dqd) only [ev0, simprocAttr, AV.int, AV.bool, AV.str, Tryz.results74, e0, e1, e7, e8, d1]
    rw [hA]; rfl
theorem ContainsX (l : List XT) (c : Cap) (p : XT → Bool) (f : FuncId) (hlen : l.length ≤ 1048576) (h : ∀ x ∈ l, ∀ S tk k, cL Tryz.prog f [.agg (exprC x)] S tk k = some (.bool (p x), S, tk, k)) : ∀ S tk k, cL Tryz.prog 49 [.frz (exprsC l) c, .fn f []] S tk k = some (.bool (l.any p), S, tk, k) := by
  intro S tk k
  have hi := IndexFuncX l .unk p f hlen h
  refine opP Tryz.func49 Tryz.ntmps49 ?_
  simp (maxSteps := 10^6) +contextual (disch := try exact dqd) only [ev0, simprocAttr, AV.int, AV.bool, AV.str, Tryz.results49, hi]
  rw [idxF_nn]
theorem deep_step (t : TT) (hb : bkT t ≤ 1048576) (ih : ∀ q ∈ t.args, ∀ S tk k, cL Tryz.prog 28 [.agg (typeC q)] S tk k = some (.bool (deepT q), S, tk, k)) : ∀ S tk k, cL Tryz.prog 28 [.agg (typeC t)] S tk k = some (.bool (deepT t), S, tk, k) := by
  intro S tk k
  have hc := fun S tk k => unique_cell S tk k t
  obtain ⟨o, s, al, ns, ⟨po, ps, pn, pk⟩, pp⟩ := t
  simp only [bkT] at hb
  have hl := bkTs_len al
  have hC := ContainsT al .unk deepT 28 (by omega) ih
  rw [← deepTs_any] at hC
  have hR : deepT (.node o s al ns (.node po ps pn pk) pp) = (isCell (.node o s al ns (.node po ps pn pk) pp) || deepTs al) := by simp only [deepT, isCell, TT.op]
  rw [hR]
  generalize isCell (.node o s al ns (.node po ps pn pk) pp) = b at *
  generalize deepTs al = b2 at *
  simp only [typeC, predC, strsA, List.cons_append, List.nil_append] at hc
  refine opP Tryz.func28 Tryz.ntmps28 ?_
  cases b
  · simp (maxSteps := 10^6) +contextual (disch := try exact dqd) only [ev0, simprocAttr, AV.int, AV.bool, AV.str, Tryz.results28, typeC, predC, strsA, List.cons_append, List.nil_append, hc, hC]
    try rfl
  · simp (maxSteps := 10^6) +contextual (disch := try exact dqd) only [ev0, simprocAttr, AV.int, AV.bool, AV.str, Tryz.results28, typeC, predC, strsA, List.cons_append, List.nil_append, hc, hC]
    try rfl
theorem unique_deepN : ∀ (b : Nat) (t : TT), bkT t ≤ b → bkT t ≤ 1048576 → ∀ S tk k, cL Tryz.prog 28 [.agg (typeC t)] S tk k = some (.bool (deepT t), S, tk, k)
  | 0, e, h, _ => by have := bkT_pos e; omega
  | b + 1, e, h, hb => deep_step e hb fun q hq => by
      obtain ⟨o, s, al, ns, p, pp⟩ := e
      simp only [TT.args] at hq
      have := bkTs_mem hq
      simp only [bkT] at h hb
      exact unique_deepN b q (by omega) (by omega)
theorem unique_deep (t : TT) (hb : bkT t ≤ 1048576) : ∀ S tk k, cL Tryz.prog 28 [.agg (typeC t)] S tk k = some (.bool (deepT t), S, tk, k) := unique_deepN _ t (Nat.le_refl _) hb
theorem deep_list (l : List TT) (c : Cap) (hb : bkTs l ≤ 1048576) : ∀ S tk k, cL Tryz.prog 27 [.frz (typesC l) c, .fn 28 []] S tk k = some (.bool (deepTs l), S, tk, k) := by
  have hl := bkTs_len l
  rw [deepTs_any]
  exact ContainsT l c deepT _ (by omega) fun x hx => unique_deep x (by have := bkTs_mem hx; omega)
set_option maxRecDepth 100000 in
set_option maxHeartbeats 2000000 in
theorem made_step (e : XT) (hb : bkX e ≤ 1048576) (ih : ∀ q ∈ bodiesX e, ∀ S tk k, cL Tryz.prog 29 [.agg (exprC q)] S tk k = some (.bool (madeX q), S, tk, k)) : ∀ S tk k, cL Tryz.prog 29 [.agg (exprC e)] S tk k = some (.bool (madeX e), S, tk, k) := by
  intro S tk k
  obtain ⟨o, s, n, ks, ps, al, ts⟩ := e
  simp only [bkX] at hb
  simp only [bodiesX, XT.kids, XT.alts, List.mem_append] at ih
  have hkl := bkXs_len ks
  have hpl := bkQs_len ps
  have hll := bkLs_len al
  have hT := deep_list ts .unk (by omega)
  have hK := ContainsX ks .unk madeX 29 (by omega) fun x hx => ih x (.inl hx)
  rw [← madeXs_any] at hK
  have hpn : (ps.map paramC).length = ps.length := List.length_map ..
  have hR : madeX (.node o s n ks ps al ts) = ((decide (o = 22 ∨ o = 23 ∨ o = 24) || deepTs ts) || (ps.any (fun p => deepT p.2) || (madeLs al || madeXs ks))) := by rw [madeX]
  generalize madeX (.node o s n ks ps al ts) = R at *
  generalize deepTs ts = bt at *
  generalize madeXs ks = bk at *
  refine opP Tryz.func29 Tryz.ntmps29 ?_
  by_cases h22 : o = 22
  · subst h22
    simp (maxSteps := 10^6) +contextual (disch := try exact dqd) only [ev0, simprocAttr, AV.int, AV.bool, AV.str, Tryz.results29, exprC, hT]
    rw [hR]; rfl
  by_cases h23 : o = 23
  · subst h23
    simp (maxSteps := 10^6) +contextual (disch := try exact dqd) only [ev0, simprocAttr, AV.int, AV.bool, AV.str, Tryz.results29, exprC, hT]
    rw [hR]; rfl
  by_cases h24 : o = 24
  · subst h24
    simp (maxSteps := 10^6) +contextual (disch := try exact dqd) only [ev0, simprocAttr, AV.int, AV.bool, AV.str, Tryz.results29, exprC, hT]
    rw [hR]; rfl
  have d22 : (o == 22) = false := by simpa using h22
  have d23 : (o == 23) = false := by simpa using h23
  have d24 : (o == 24) = false := by simpa using h24
  have dd : decide (o = 22 ∨ o = 23 ∨ o = 24) = false := decide_eq_false (by omega)
  rw [dd, Bool.false_or] at hR
  cases bt
  case true =>
    simp (maxSteps := 10^6) +contextual (disch := try exact dqd) only [ev0, simprocAttr, AV.int, AV.bool, AV.str, Tryz.results29, exprC, hT, d22, d23, d24]
    rw [hR]; rfl
  rw [Bool.false_or] at hR
  simp (maxSteps := 10^6) +contextual (disch := try exact dqd) only [ev0, simprocAttr, AV.int, AV.bool, AV.str, Tryz.results29, exprC, hT, d22, d23, d24, hpn]
  have hR0 : R = ((ps.drop 0).any (fun p => deepT p.2) || (madeLs al || bk)) := hR
  clear hR
  refine loop1 (P := Tryz.prog) (fun x st => st.T.length = 50 ∧ (x ≤ ps.length) ∧ (R = ((ps.drop x).any (fun p => deepT p.2) || (madeLs al || bk))) ∧ getT st.T 1 = .ref 0 0 0 ∧ getT st.T 26 = .frz (ps.map paramC) .unk ∧ getT st.T 27 = .int (ps.length : Nat) ∧ getT st.T 28 = .int (x : Nat) ∧ st.S = [⟨0, [.prim (.int .i64 o), .prim (.string s), .prim (.int .i64 n), .frz (exprsC ks) .unk, .frz (ps.map paramC) .unk, .frz (altsC al) .unk, .frz (typesC ts) .unk]⟩]) (fun x => ps.length - x) (fun x => .bool R) (0) ?_ ?_
  case refine_2 => exact ⟨rfl, Nat.zero_le _, hR0, rfl, rfl, rfl, rfl, rfl⟩
  rintro i ⟨T, S', tk', n'⟩ ⟨hl, hi, hA, e1, e26, e27, e28, eS⟩ IH
  subst eS
  obtain ⟨g, hg, hT⟩ := tab_of hl
  rw [hg] at e1 e26 e27 e28
  subst hT
  clear hg hl
  by_cases la : i < ps.length
  · have d1 : decide ((i : Int) < (ps.length : Int)) = true := by simpa using la
    obtain ⟨p, hp⟩ := nth_some la
    have hp' := nth_params hp
    have hw := wrap_add (i := i) (by omega)
    have hd := unique_deep p.2 (by have := bkQs_mem (nth_memU hp); omega)
    rw [nth_drop hp, List.any_cons] at hA
    obtain ⟨nm, o', s', a', ns', ⟨po, pn, pv, pk⟩, pp⟩ := p
    simp only [paramC, typeC, predC, strsA, List.cons_append, List.nil_append] at hp' hd
    simp only at hA
    generalize deepT (.node o' s' a' ns' (.node po pn pv pk) pp) = b at *
    cases b
    · simp (maxSteps := 10^6) +contextual (disch := try exact dqd) only [ev0, simprocAttr, AV.int, AV.bool, AV.str, Tryz.results29, e1, e26, e27, e28, d1, hp', hw, hd]
      exact IH ((i + 1)) _ (by first | omega | (simp only; omega)) ⟨rfl, la, by simpa using hA, rfl, rfl, rfl, rfl, rfl⟩
    · simp (maxSteps := 10^6) +contextual (disch := try exact dqd) only [ev0, simprocAttr, AV.int, AV.bool, AV.str, Tryz.results29, e1, e26, e27, e28, d1, hp', hw, hd]
      simpa using hA.symm
  · have d1 : decide ((i : Int) < (ps.length : Int)) = false := by simpa using la
    rw [List.drop_eq_nil_of_le (by omega)] at hA
    simp (maxSteps := 10^6) +contextual (disch := try exact dqd) only [ev0, simprocAttr, AV.int, AV.bool, AV.str, Tryz.results29, e1, e26, e27, e28, d1, altsC_len]
    clear e1 e26 e27 e28 IH d1 la hi
    have hR0 : R = (madeLs (al.drop 0) || bk) := by rw [hA]; rfl
    clear hA
    refine loop1 (P := Tryz.prog) (fun x st => st.T.length = 50 ∧ (x ≤ al.length) ∧ (R = (madeLs (al.drop x) || bk)) ∧ getT st.T 1 = .ref 0 0 0 ∧ getT st.T 37 = .frz (altsC al) .unk ∧ getT st.T 38 = .int (al.length : Nat) ∧ getT st.T 39 = .int (x : Nat) ∧ st.S = [⟨0, [.prim (.int .i64 o), .prim (.string s), .prim (.int .i64 n), .frz (exprsC ks) .unk, .frz (ps.map paramC) .unk, .frz (altsC al) .unk, .frz (typesC ts) .unk]⟩]) (fun x => al.length - x) (fun x => .bool R) (0) ?_ ?_
    case refine_2 => exact ⟨rfl, Nat.zero_le _, hR0, rfl, rfl, rfl, rfl, rfl⟩
    rintro i ⟨T, S', tk', n'⟩ ⟨hl, hi, hA, e1, e37, e38, e39, eS⟩ IH
    subst eS
    obtain ⟨g, hg, hT⟩ := tab_of hl
    rw [hg] at e1 e37 e38 e39
    subst hT
    clear hg hl
    by_cases la : i < al.length
    · have d1 : decide ((i : Int) < (al.length : Int)) = true := by simpa using la
      obtain ⟨a, ha⟩ := nth_some la
      have ha' := nth_alts ha
      have hw := wrap_add (i := i) (by omega)
      have hd := ih a.body (.inr (List.mem_map.2 ⟨a, nth_memU ha, rfl⟩))
      rw [nth_drop ha] at hA
      obtain ⟨con, ns, ⟨qo, qs, qn, qk, qp, qa, qt⟩⟩ := a
      simp only [altC, exprC, strsA, LT.body] at ha' hd
      simp only [madeLs] at hA
      generalize madeX (.node qo qs qn qk qp qa qt) = b at *
      cases b
      · simp (maxSteps := 10^6) +contextual (disch := try exact dqd) only [ev0, simprocAttr, AV.int, AV.bool, AV.str, Tryz.results29, e1, e37, e38, e39, d1, ha', hw, hd]
        exact IH ((i + 1)) _ (by first | omega | (simp only; omega)) ⟨rfl, la, by simpa using hA, rfl, rfl, rfl, rfl, rfl⟩
      · simp (maxSteps := 10^6) +contextual (disch := try exact dqd) only [ev0, simprocAttr, AV.int, AV.bool, AV.str, Tryz.results29, e1, e37, e38, e39, d1, ha', hw, hd]
        simpa using hA.symm
    · have d1 : decide ((i : Int) < (al.length : Int)) = false := by simpa using la
      rw [List.drop_eq_nil_of_le (by omega)] at hA
      simp (maxSteps := 10^6) +contextual (disch := try exact dqd) only [ev0, simprocAttr, AV.int, AV.bool, AV.str, Tryz.results29, e1, e37, e38, e39, d1, hK]
      rw [hA]; rfl
theorem unique_madeN : ∀ (b : Nat) (e : XT), bkX e ≤ b → bkX e ≤ 1048576 → ∀ S tk k, cL Tryz.prog 29 [.agg (exprC e)] S tk k = some (.bool (madeX e), S, tk, k)
  | 0, e, h, _ => by have := bkX_pos e; omega
  | b + 1, e, h, hb => made_step e hb fun q hq => unique_madeN b q (by have := bodies_mem hq; omega) (by have := bodies_mem hq; omega)
theorem unique_made (e : XT) (hb : bkX e ≤ 1048576) : ∀ S tk k, cL Tryz.prog 29 [.agg (exprC e)] S tk k = some (.bool (madeX e), S, tk, k) := unique_madeN _ e (Nat.le_refl _) hb
end
end Go.Proofs.YtmkoiandfojgmaaGreat
namespace Go.Proofs.YtmkoiandfojgmaaGreat
open Go
def declsF (m : MT) : Bool := (m.datas.any fun d => d.cons.any fun c => deepTs c.fields) || ((m.classes.any fun c => c.methods.any fun p => deepT p.2) || (m.insts.any fun x => deepT x.ty))
def defsF (l : List DT) : Bool := l.any fun d => deepT d.ty || madeX d.body
def freeF (m : MT) : Bool := !(declsF m || defsF (allDefs m))
structure SmallM (m : MT) : Prop where
  datas : m.datas.length ≤ 1048576
  conss : ∀ d ∈ m.datas, d.cons.length ≤ 1048576 ∧ ∀ c ∈ d.cons, bkTs c.fields ≤ 1048576
  classes : m.classes.length ≤ 1048576
  meths : ∀ c ∈ m.classes, c.methods.length ≤ 1048576 ∧ ∀ p ∈ c.methods, bkT p.2 ≤ 1048576
  insts : m.insts.length ≤ 1048576
  ityps : ∀ x ∈ m.insts, bkT x.ty ≤ 1048576
  all : (allDefs m).length ≤ 1048576
  defs : ∀ d ∈ allDefs m, bkX d.body ≤ 1048576 ∧ bkT d.ty ≤ 1048576 ∧ d.params.length ≤ 1048576
section
variable [Depth]
set_option maxRecDepth 100000 in
set_option maxHeartbeats 4000000 in
theorem Free_caps (c1 c2 c3 c4 c5 c6 : Cap) (m : MT) (h : SmallM m) (S : List Ent) (tk : List Nat) (k : Nat) : cL Tryz.prog 9 [.agg [.frz (m.datas.map dataC) c1, .frz (m.classes.map classC) c2, .frz (m.insts.map instC) c3, .frz m.measures c4, .frz m.quals c5, .frz (m.defs.map defC) c6]] S tk k = some (.bool (freeF m), S, tk, k) := by
  obtain ⟨datas, classes, insts, measures, quals, defs⟩ := m
  simp only
  have hall := h.all
  have hdf := h.defs
  simp only [allDefs, List.length_append] at hall
  have hcl := fun S tk k => slices_CloneD S tk k (defs.map defC) .unk (rowsOk_defs defs) (by simp; omega)
  have hR : freeF ⟨datas, classes, insts, measures, quals, defs⟩ = !((datas.any fun d => d.cons.any fun c => deepTs c.fields) || ((classes.any fun c => c.methods.any fun p => deepT p.2) || ((insts.any fun x => deepT x.ty) || defsF (defs ++ insts.flatMap NT.defs)))) := by
    simp only [freeF, declsF, allDefs, Bool.or_assoc]
  generalize freeF ⟨datas, classes, insts, measures, quals, defs⟩ = R at *
  have h1 := h.datas
  have h2 := h.conss
  have h3 := h.classes
  have h4 := h.meths
  have h5 := h.insts
  have h6 := h.ityps
  simp only at h1 h2 h3 h4 h5 h6
  simp only [allDefs] at hdf
  clear h
  refine opP Tryz.func9 Tryz.ntmps9 ?_
  simp (maxSteps := 10^6) +contextual (disch := try exact dqd) only [ev0, simprocAttr, AV.int, AV.bool, AV.str, Tryz.results9, modC, hcl, List.length_map]
  generalize hMC : [AV.frz (datas.map dataC) .unk, .frz (classes.map classC) .unk, .frz (insts.map instC) .unk, .frz measures .unk, .frz quals .unk, .frz (defs.map defC) .unk] = MC
  obtain ⟨B3, hB3⟩ : ∃ B3, B3 = defsF (defs ++ insts.flatMap NT.defs) := ⟨_, rfl⟩
  obtain ⟨B2, hB2⟩ : ∃ B2, B2 = insts.any fun x => deepT x.ty := ⟨_, rfl⟩
  obtain ⟨B1, hB1⟩ : ∃ B1, B1 = classes.any fun c => c.methods.any fun p => deepT p.2 := ⟨_, rfl⟩
  rw [← hB1, ← hB2, ← hB3] at hR
  have hR0 : R = !(((datas.drop 0).any fun d => d.cons.any fun c => deepTs c.fields) || (B1 || (B2 || B3))) := hR
  clear hR hcl
  refine loop1 (P := Tryz.prog) (fun x st => st.T.length = 88 ∧ (x ≤ datas.length) ∧ (okCap st.tk (.tok 0 0 25) 25 = true) ∧ (R = !(((datas.drop x).any fun d => d.cons.any fun c => deepTs c.fields) || (B1 || (B2 || B3)))) ∧ getT st.T 1 = .ref 0 0 0 ∧ getT st.T 3 = .frz (defs.map defC) (.tok 0 0 25) ∧ getT st.T 20 = .frz (datas.map dataC) .unk ∧ getT st.T 21 = .int (datas.length : Nat) ∧ getT st.T 22 = .int (x : Nat) ∧ st.S = [⟨0, MC⟩]) (fun x => datas.length - x) (fun x => .bool R) (0) ?_ ?_
  case refine_2 => exact ⟨rfl, Nat.zero_le _, rfl, hR0, rfl, rfl, rfl, rfl, rfl, rfl⟩
  rintro i ⟨T, S', tk', n'⟩ ⟨hl, hi, htk, hA, e1, e3, e20, e21, e22, eS⟩ IH
  subst eS
  obtain ⟨g, hg, hT⟩ := tab_of hl
  rw [hg] at e1 e3 e20 e21 e22
  subst hT
  clear hg hl
  by_cases la : i < datas.length
  · have d1 : decide ((i : Int) < (datas.length : Int)) = true := by simpa using la
    obtain ⟨d, hd⟩ := nth_some la
    have hd' := nth_mapC (f := dataC) hd
    have hw := wrap_add (i := i) (by omega)
    obtain ⟨hcn, hcf⟩ := h2 d (nth_memU hd)
    rw [nth_drop hd, List.any_cons] at hA
    obtain ⟨dn, dv, dp, dc⟩ := d
    simp only [dataC] at hd'
    simp only at hA hcn hcf
    simp (maxSteps := 10^6) +contextual (disch := try exact dqd) only [ev0, simprocAttr, AV.int, AV.bool, AV.str, Tryz.results9, e1, e3, e20, e21, e22, d1, hd', List.length_map]
    obtain ⟨B0, hB0⟩ : ∃ B0, B0 = ((datas.drop (i + 1)).any fun d => d.cons.any fun c => deepTs c.fields) := ⟨_, rfl⟩
    rw [← hB0] at hA
    have hA0 : R = !(((dc.drop 0).any fun c => deepTs c.fields) || B0 || (B1 || (B2 || B3))) := hA
    generalize n' = nn
    have IH0 := IH
    clear IH hA
    refine loop1 (P := Tryz.prog) (fun x st => st.T.length = 88 ∧ (x ≤ dc.length) ∧ (okCap st.tk (.tok 0 0 25) 25 = true) ∧ (R = !(((dc.drop x).any fun c => deepTs c.fields) || B0 || (B1 || (B2 || B3)))) ∧ getT st.T 1 = .ref 0 0 0 ∧ getT st.T 3 = .frz (defs.map defC) (.tok 0 0 25) ∧ getT st.T 20 = .frz (datas.map dataC) .unk ∧ getT st.T 21 = .int (datas.length : Nat) ∧ getT st.T 22 = .int (i : Nat) ∧ getT st.T 27 = .frz (dc.map conC) .unk ∧ getT st.T 28 = .int (dc.length : Nat) ∧ getT st.T 29 = .int (x : Nat) ∧ st.S = [⟨0, MC⟩, ⟨nn, [.prim (.string dn), .frz dv .unk, .frz dp .unk, .frz (dc.map conC) .unk]⟩]) (fun x => dc.length - x) (fun x => .bool R) (0) ?_ ?_
    case refine_2 => exact ⟨rfl, Nat.zero_le _, htk, hA0, rfl, rfl, rfl, rfl, rfl, rfl, rfl, rfl, rfl⟩
    rintro j ⟨T, S', tk', n'⟩ ⟨hl, hj, htk, hA, e1, e3, e20, e21, e22, e27, e28, e29, eS⟩ IH
    subst eS
    obtain ⟨g, hg, hT⟩ := tab_of hl
    rw [hg] at e1 e3 e20 e21 e22 e27 e28 e29
    subst hT
    clear hg hl
    by_cases lb : j < dc.length
    · have d2 : decide ((j : Int) < (dc.length : Int)) = true := by simpa using lb
      obtain ⟨c, hc⟩ := nth_some lb
      have hc' := nth_mapC (f := conC) hc
      have hw2 := wrap_add (i := j) (by omega)
      have hdl := deep_list c.fields .unk (hcf c (nth_memU hc))
      rw [nth_drop hc, List.any_cons] at hA
      obtain ⟨cn, cns, cf⟩ := c
      simp only [conC, strsA] at hc'
      simp only at hA hdl
      generalize deepTs cf = b at *
      cases b
      · simp (maxSteps := 10^6) +contextual (disch := try exact dqd) only [ev0, simprocAttr, AV.int, AV.bool, AV.str, Tryz.results9, e1, e3, e20, e21, e22, e27, e28, e29, d2, hc', hw2, hdl]
        exact IH ((j + 1)) _ (by first | omega | (simp only; omega)) ⟨rfl, lb, htk, by simpa using hA, rfl, rfl, rfl, rfl, rfl, rfl, rfl, rfl, rfl⟩
      · simp (maxSteps := 10^6) +contextual (disch := try exact dqd) only [ev0, simprocAttr, AV.int, AV.bool, AV.str, Tryz.results9, e1, e3, e20, e21, e22, e27, e28, e29, d2, hc', hw2, hdl]
        simpa using hA.symm
    · have d2 : decide ((j : Int) < (dc.length : Int)) = false := by simpa using lb
      rw [List.drop_eq_nil_of_le (by omega)] at hA
      simp (maxSteps := 10^6) +contextual (disch := try exact dqd) only [ev0, simprocAttr, AV.int, AV.bool, AV.str, Tryz.results9, e1, e3, e20, e21, e22, e27, e28, e29, d2, hw]
      exact IH0 (i + 1) _ (by omega) ⟨rfl, la, htk, by rw [← hB0]; simpa using hA, rfl, rfl, rfl, rfl, rfl, rfl⟩
  have d1 : decide ((i : Int) < (datas.length : Int)) = false := by simpa using la
  rw [List.drop_eq_nil_of_le (by omega)] at hA
  subst hMC
  simp (maxSteps := 10^6) +contextual (disch := try exact dqd) only [ev0, simprocAttr, AV.int, AV.bool, AV.str, Tryz.results9, e1, e3, e20, e21, e22, d1, List.length_map]
  generalize hMC : [AV.frz (datas.map dataC) .unk, .frz (classes.map classC) .unk, .frz (insts.map instC) .unk, .frz measures .unk, .frz quals .unk, .frz (defs.map defC) .unk] = MC
  have hR0 : R = !(((classes.drop 0).any fun c => c.methods.any fun p => deepT p.2) || (B2 || B3)) := by rw [hA, hB1]; rfl
  clear hA e1 e3 e20 e21 e22 IH d1 la hi hB1
  refine loop1 (P := Tryz.prog) (fun x st => st.T.length = 88 ∧ (x ≤ classes.length) ∧ (okCap st.tk (.tok 0 0 25) 25 = true) ∧ (R = !(((classes.drop x).any fun c => c.methods.any fun p => deepT p.2) || (B2 || B3))) ∧ getT st.T 1 = .ref 0 0 0 ∧ getT st.T 3 = .frz (defs.map defC) (.tok 0 0 25) ∧ getT st.T 39 = .frz (classes.map classC) .unk ∧ getT st.T 40 = .int (classes.length : Nat) ∧ getT st.T 41 = .int (x : Nat) ∧ st.S = [⟨0, MC⟩]) (fun x => classes.length - x) (fun x => .bool R) (0) ?_ ?_
  case refine_2 => exact ⟨rfl, Nat.zero_le _, htk, hR0, rfl, rfl, rfl, rfl, rfl, rfl⟩
  rintro i ⟨T, S', tk', n'⟩ ⟨hl, hi, htk, hA, e1, e3, e39, e40, e41, eS⟩ IH
  subst eS
  obtain ⟨g, hg, hT⟩ := tab_of hl
  rw [hg] at e1 e3 e39 e40 e41
  subst hT
  clear hg hl
  by_cases la : i < classes.length
  · have d1 : decide ((i : Int) < (classes.length : Int)) = true := by simpa using la
    obtain ⟨d, hd⟩ := nth_some la
    have hd' := nth_mapC (f := classC) hd
    have hw := wrap_add (i := i) (by omega)
    obtain ⟨hcn, hcf⟩ := h4 d (nth_memU hd)
    rw [nth_drop hd, List.any_cons] at hA
    obtain ⟨dn, dv, dc⟩ := d
    simp only [classC] at hd'
    simp only at hA hcn hcf
    simp (maxSteps := 10^6) +contextual (disch := try exact dqd) only [ev0, simprocAttr, AV.int, AV.bool, AV.str, Tryz.results9, e1, e3, e39, e40, e41, d1, hd', List.length_map]
    obtain ⟨B0, hB0⟩ : ∃ B0, B0 = ((classes.drop (i + 1)).any fun c => c.methods.any fun p => deepT p.2) := ⟨_, rfl⟩
    rw [← hB0] at hA
    have hA0 : R = !(((dc.drop 0).any fun p => deepT p.2) || B0 || (B2 || B3)) := hA
    generalize n' = nn
    have IH0 := IH
    clear IH hA
    refine loop1 (P := Tryz.prog) (fun x st => st.T.length = 88 ∧ (x ≤ dc.length) ∧ (okCap st.tk (.tok 0 0 25) 25 = true) ∧ (R = !(((dc.drop x).any fun p => deepT p.2) || B0 || (B2 || B3))) ∧ getT st.T 1 = .ref 0 0 0 ∧ getT st.T 3 = .frz (defs.map defC) (.tok 0 0 25) ∧ getT st.T 39 = .frz (classes.map classC) .unk ∧ getT st.T 40 = .int (classes.length : Nat) ∧ getT st.T 41 = .int (i : Nat) ∧ getT st.T 46 = .frz (dc.map paramC) .unk ∧ getT st.T 47 = .int (dc.length : Nat) ∧ getT st.T 48 = .int (x : Nat) ∧ st.S = [⟨0, MC⟩, ⟨nn, [.prim (.string dn), .prim (.string dv), .frz (dc.map paramC) .unk]⟩]) (fun x => dc.length - x) (fun x => .bool R) (0) ?_ ?_
    case refine_2 => exact ⟨rfl, Nat.zero_le _, htk, hA0, rfl, rfl, rfl, rfl, rfl, rfl, rfl, rfl, rfl⟩
    rintro j ⟨T, S', tk', n'⟩ ⟨hl, hj, htk, hA, e1, e3, e39, e40, e41, e46, e47, e48, eS⟩ IH
    subst eS
    obtain ⟨g, hg, hT⟩ := tab_of hl
    rw [hg] at e1 e3 e39 e40 e41 e46 e47 e48
    subst hT
    clear hg hl
    by_cases lb : j < dc.length
    · have d2 : decide ((j : Int) < (dc.length : Int)) = true := by simpa using lb
      obtain ⟨c, hc⟩ := nth_some lb
      have hc' := nth_params hc
      have hw2 := wrap_add (i := j) (by omega)
      have hdl := unique_deep c.2 (hcf c (nth_memU hc))
      rw [nth_drop hc, List.any_cons] at hA
      obtain ⟨nm, o', s', a', ns', ⟨po, pn, pv, pk⟩, pp⟩ := c
      simp only [paramC, typeC, predC, strsA, List.cons_append, List.nil_append] at hc' hdl
      simp only at hA
      generalize deepT (.node o' s' a' ns' (.node po pn pv pk) pp) = b at *
      cases b
      · simp (maxSteps := 10^6) +contextual (disch := try exact dqd) only [ev0, simprocAttr, AV.int, AV.bool, AV.str, Tryz.results9, e1, e3, e39, e40, e41, e46, e47, e48, d2, hc', hw2, hdl]
        exact IH ((j + 1)) _ (by first | omega | (simp only; omega)) ⟨rfl, lb, htk, by simpa using hA, rfl, rfl, rfl, rfl, rfl, rfl, rfl, rfl, rfl⟩
      · simp (maxSteps := 10^6) +contextual (disch := try exact dqd) only [ev0, simprocAttr, AV.int, AV.bool, AV.str, Tryz.results9, e1, e3, e39, e40, e41, e46, e47, e48, d2, hc', hw2, hdl]
        simpa using hA.symm
    · have d2 : decide ((j : Int) < (dc.length : Int)) = false := by simpa using lb
      rw [List.drop_eq_nil_of_le (by omega)] at hA
      simp (maxSteps := 10^6) +contextual (disch := try exact dqd) only [ev0, simprocAttr, AV.int, AV.bool, AV.str, Tryz.results9, e1, e3, e39, e40, e41, e46, e47, e48, d2, hw]
      exact IH0 (i + 1) _ (by omega) ⟨rfl, la, htk, by rw [← hB0]; simpa using hA, rfl, rfl, rfl, rfl, rfl, rfl⟩
  have d1 : decide ((i : Int) < (classes.length : Int)) = false := by simpa using la
  rw [List.drop_eq_nil_of_le (by omega)] at hA
  subst hMC
  simp (maxSteps := 10^6) +contextual (disch := try exact dqd) only [ev0, simprocAttr, AV.int, AV.bool, AV.str, Tryz.results9, e1, e3, e39, e40, e41, d1, List.length_map]
  generalize hMC : [AV.frz (datas.map dataC) .unk, .frz (classes.map classC) .unk, .frz (insts.map instC) .unk, .frz measures .unk, .frz quals .unk, .frz (defs.map defC) .unk] = MC
  have hR0 : R = !(((insts.drop 0).any fun x => deepT x.ty) || B3) := by rw [hA, hB2]; rfl
  clear hA e1 e3 e39 e40 e41 IH d1 la hi hB2
  have hfl := flat_le insts
  refine loop1 (P := Tryz.prog) (fun x st => st.T.length = 88 ∧ (x.1 ≤ insts.length) ∧ (okCap st.tk x.2.1 25 = true) ∧ (x.2.2 = (defs ++ (insts.take x.1).flatMap NT.defs).map defC) ∧ (R = !(((insts.drop x.1).any fun x => deepT x.ty) || B3)) ∧ getT st.T 1 = .ref 0 0 0 ∧ getT st.T 3 = .frz x.2.2 x.2.1 ∧ getT st.T 58 = .frz (insts.map instC) .unk ∧ getT st.T 59 = .int (insts.length : Nat) ∧ getT st.T 60 = .int (x.1 : Nat) ∧ st.S = [⟨0, MC⟩]) (fun x => insts.length - x.1) (fun x => .bool R) (0, Cap.tok 0 0 25, defs.map defC) ?_ ?_
  case refine_2 => exact ⟨rfl, Nat.zero_le _, htk, by simp, hR0, rfl, rfl, rfl, rfl, rfl, rfl⟩
  rintro ⟨i, c, L⟩ ⟨T, S', tk', n'⟩ ⟨hl, hi, hok, hL, hA, e1, e3, e58, e59, e60, eS⟩ IH
  simp only at hi hok hL hA e1 e3 e58 e59 e60 eS
  subst eS
  obtain ⟨g, hg, hT⟩ := tab_of hl
  rw [hg] at e1 e3 e58 e59 e60
  subst hT
  clear hg hl
  by_cases la : i < insts.length
  · have d1 : decide ((i : Int) < (insts.length : Int)) = true := by simpa using la
    obtain ⟨x, hx⟩ := nth_some la
    have hx' := nth_mapC (f := instC) hx
    have hw := wrap_add (i := i) (by omega)
    have hr : rowsOk 25 L = true := by rw [hL]; exact rowsOk_defs _
    have hft := flat_take hx
    have hf1 := hfl (i + 1)
    have hdp := unique_deep x.ty (h6 x (nth_memU hx))
    have hap := apB_all (ys := x.defs.map defC) hok hr (rowsOk_defs _) (by rw [hL]; rw [hft] at hf1; simp only [List.length_map, List.length_append] at hf1 ⊢; omega)
    have hL2 : L ++ x.defs.map defC = (defs ++ (insts.take (i + 1)).flatMap NT.defs).map defC := by rw [hft, hL]; simp
    rw [nth_drop hx, List.any_cons] at hA
    obtain ⟨nm, ⟨to, tn, ta, tns, ⟨po, pn, pv, pk⟩, pp⟩, nds, dfs⟩ := x
    simp only [instC, typeC, predC, strsA, List.cons_append, List.nil_append] at hx' hap hL2 hdp
    simp only at hA
    generalize deepT (.node to tn ta tns (.node po pn pv pk) pp) = b at *
    cases b
    · simp (maxSteps := 10^6) +contextual (disch := try exact dqd) only [ev0, simprocAttr, AV.int, AV.bool, AV.str, Tryz.results9, e1, e3, e58, e59, e60, d1, hx', hw, hap, hdp]
      exact IH ((i + 1, _, _)) _ (by first | omega | (simp only; omega)) ⟨rfl, la, okCap_new hok, hL2, by simpa using hA, rfl, rfl, rfl, rfl, rfl, rfl⟩
    · simp (maxSteps := 10^6) +contextual (disch := try exact dqd) only [ev0, simprocAttr, AV.int, AV.bool, AV.str, Tryz.results9, e1, e3, e58, e59, e60, d1, hx', hw, hap, hdp]
      simpa using hA.symm
  have d1 : decide ((i : Int) < (insts.length : Int)) = false := by simpa using la
  rw [List.drop_eq_nil_of_le (by omega)] at hA
  rw [List.take_of_length_le (by omega)] at hL
  subst hL
  simp (maxSteps := 10^6) +contextual (disch := try exact dqd) only [ev0, simprocAttr, AV.int, AV.bool, AV.str, Tryz.results9, e1, e3, e58, e59, e60, d1, List.length_map]
  have hR0 : R = !((defs ++ insts.flatMap NT.defs).drop 0).any fun d => deepT d.ty || madeX d.body := by rw [hA, hB3]; rfl
  have hall2 : (defs ++ insts.flatMap NT.defs).length ≤ 1048576 := by simpa using hall
  generalize defs ++ insts.flatMap NT.defs = D at *
  clear hA e1 e3 e58 e59 e60 IH d1 la hi hB3 hok
  refine loop1 (P := Tryz.prog) (fun x st => st.T.length = 88 ∧ (x ≤ D.length) ∧ (R = !((D.drop x).any fun d => deepT d.ty || madeX d.body)) ∧ getT st.T 1 = .ref 0 0 0 ∧ getT st.T 72 = .frz (D.map defC) c ∧ getT st.T 73 = .int (D.length : Nat) ∧ getT st.T 74 = .int (x : Nat) ∧ st.S = [⟨0, MC⟩]) (fun x => D.length - x) (fun x => .bool R) (0) ?_ ?_
  case refine_2 => exact ⟨rfl, Nat.zero_le _, hR0, rfl, rfl, rfl, rfl, rfl⟩
  rintro i ⟨T, S', tk', n'⟩ ⟨hl, hi, hA, e1, e72, e73, e74, eS⟩ IH
  subst eS
  obtain ⟨g, hg, hT⟩ := tab_of hl
  rw [hg] at e1 e72 e73 e74
  subst hT
  clear hg hl
  by_cases la : i < D.length
  · have d1 : decide ((i : Int) < (D.length : Int)) = true := by simpa using la
    obtain ⟨d, hd⟩ := nth_some la
    have hd' := nth_mapC (f := defC) hd
    have hw := wrap_add (i := i) (by omega)
    obtain ⟨q1, q2, -⟩ := hdf d (nth_memU hd)
    have hdp := unique_deep d.ty q2
    have hmd := unique_made d.body q1
    rw [nth_drop hd, List.any_cons] at hA
    generalize hb1 : deepT d.ty = b1 at *
    generalize hb2 : madeX d.body = b2 at *
    clear hb1 hb2 q1 q2 hd
    obtain ⟨name, params, ⟨o, s, n, ks, ps, al, ts⟩, mode, typed, vars, needs, abs, bounds, ⟨to, tn, ta, tns, ⟨po, pn, pv, pk⟩, pp⟩, metric⟩ := d
    simp only [defC, exprC, typeC, predC, strsA, List.cons_append, List.nil_append] at hd' hdp hmd
    cases b1
    · cases b2
      · simp (maxSteps := 10^6) +contextual (disch := try exact dqd) only [ev0, simprocAttr, AV.int, AV.bool, AV.str, Tryz.results9, e1, e72, e73, e74, d1, hd', hw, hdp, hmd]
        exact IH ((i + 1)) _ (by first | omega | (simp only; omega)) ⟨rfl, la, by simpa using hA, rfl, rfl, rfl, rfl, rfl⟩
      · simp (maxSteps := 10^6) +contextual (disch := try exact dqd) only [ev0, simprocAttr, AV.int, AV.bool, AV.str, Tryz.results9, e1, e72, e73, e74, d1, hd', hw, hdp, hmd]
        simpa using hA.symm
    · simp (maxSteps := 10^6) +contextual (disch := try exact dqd) only [ev0, simprocAttr, AV.int, AV.bool, AV.str, Tryz.results9, e1, e72, e73, e74, d1, hd', hw, hdp, hmd]
      simpa using hA.symm
  · have d1 : decide ((i : Int) < (D.length : Int)) = false := by simpa using la
    rw [List.drop_eq_nil_of_le (by omega)] at hA
    simp (maxSteps := 10^6) +contextual (disch := try exact dqd) only [ev0, simprocAttr, AV.int, AV.bool, AV.str, Tryz.results9, e1, e72, e73, e74, d1]
    rw [hA]; rfl
theorem unique_Free (m : MT) (h : SmallM m) (S : List Ent) (tk : List Nat) (k : Nat) : cL Tryz.prog 9 [.agg (modC m)] S tk k = some (.bool (freeF m), S, tk, k) := Free_caps .unk .unk .unk .unk .unk .unk m h S tk k
end
end Go.Proofs.YtmkoiandfojgmaaGreat
