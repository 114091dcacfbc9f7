/-
  Texts laid together: LDel, LDel2.
-/
import Derived.Test.YtkghgdkkholieaaZL11
import Derived.Laws.AppendOwn
import Derived.Laws.IdiomCopy
import Derived.Lib.SliceRun
import Derived.Lib.Hide
import Derived.ArgAppend
import Derived.Deep.RegionLaw
/-
  A copy of a list of coefficients as one's own block; what is left of it when one element is taken out.
-/








namespace Go.Proofs.Ytkghgdkkholieaa
open Go Go.RowKit
variable {A : Nat → Nat → Prop}
theorem Try.info37 : (Try.prog.info? 37).map (fun i => (i.zero, i.size, i.bytes)) = some (some (.agg #[.string ⟨#[]⟩, .int .i64 0]), 2, 24) := by kernel_rfl
theorem owns_empty (w : World) (e : TypeId) (size : Nat) : (w.alloc (Obj.cells #[] e)).ownsRow w.heap.size e size (.slice (some ⟨w.heap.size, 0, none⟩) 0 0) 0 [] := by
  refine ⟨by simp, .inr ⟨w.heap.size, 0, #[], rfl, Nat.le_refl _, ?_, Nat.le_refl _, by unfold maxLen; omega, by simp, by simp⟩⟩
  show (w.heap.push _)[w.heap.size]? = _
  simp
theorem grown_ext {w w' : World} {v : Value} {n : Nat} {xs : List Value} {e : TypeId} {size base : Nat} (h : w.ownsRow base e size v n xs) (hg : w.grownBy w' v.ownBlock) {W : World} (hb : Below W.heap.size W w) (hB : W.heap.size ≤ base) : Below W.heap.size W w' := by
  refine hb.grown hg hb.size fun k hk => ?_
  obtain ⟨_, h⟩ := h
  rcases h with ⟨hv, _⟩ | ⟨g, cap, cur, hv, hgb, _⟩
  · rw [hv] at hk; simp [Value.ownBlock] at hk
  · rw [hv] at hk; simp [Value.ownBlock] at hk; omega
/-- a list of coefficients in a block of its own -/
def Mine (w : World) (B b n cap : Nat) (cs : Pt) : Prop := ∃ cur : Array Value, B ≤ b ∧ w.heap[b]? = some (.cells cur 37 (0, 0)) ∧ n = cs.length ∧ n ≤ cap ∧ cap ≤ maxLen ∧ cur.size = cap * 2 ∧ cur.toList.take (n * 2) = flatP cs
theorem Mine.later {w w' : World} {B b n cap : Nat} {cs : Pt} (h : Mine w B b n cap cs) (hb : Below w.heap.size w w') : Mine w' B b n cap cs := by
  obtain ⟨cur, h1, h2, h3⟩ := h
  exact ⟨cur, h1, by rw [hb.block b (Array.getElem?_eq_some_iff.1 h2).1]; exact h2, h3⟩
theorem Mine.cell {w : World} {B b n cap : Nat} {cs : Pt} (h : Mine w B b n cap cs) : ∀ j u, (flatP cs)[j]? = some u → w.cell? ⟨b, j, none⟩ = some u := by
  obtain ⟨cur, -, h2, h3, -, -, h6, h7⟩ := h
  intro j u hj
  have hlt := (List.getElem?_eq_some_iff.1 hj).1
  rw [flatP_len] at hlt
  rw [← h7, List.getElem?_take, if_pos (by omega), Array.getElem?_toList] at hj
  simp only [World.cell?, h2]
  exact hj
theorem add_off (b o j : Nat) : Addr.add ⟨b, o, none⟩ j = ⟨b, o + j, none⟩ := by
  unfold Addr.add; split
  · rename_i h0; rw [h0]; rfl
  · rfl
set_option maxHeartbeats 1000000 in
theorem Clone_own {w : World} {cs : Pt} {v : Value} (hv : VR (Cq A w) (coefsA cs) v) (hne : cs ≠ []) (hm : cs.length ≤ 1000000) :
    Calls Try.prog 58 #[v] w fun e w' => ∃ b cap, e = .returned (.slice (some ⟨b, 0, none⟩) cs.length cap) ∧ Mine w' w.heap.size b cs.length cap cs ∧ Below w.heap.size w w' := by
  obtain ⟨i0, hi, hz0, hz1, hz2⟩ := info_parts Try.info37
  obtain ⟨a, cap, rfl, hcap, hpt⟩ := point_at hv
  obtain ⟨b, o, rfl, hcell⟩ := hpt.resolve_left hne
  have heq := fun (w : World) => Lib.run_eql_slice_nil (P := Try.prog) w 22 37 (some ⟨b, o, none⟩) cs.length cap 0 0 Try.underlying22
  have C1 : Hid (∀ j u, (flatP cs)[j]? = some u → (w.alloc (Obj.cells #[] 37)).cell? (Addr.add ⟨b, o, none⟩ j) = some u) := Lib.hid fun j u hj => by
    have h1 := (hcell j u hj).1
    rw [add_off]
    exact ((Below.refl w.heap.size w).alloc (Nat.le_refl _) _).cell (p := ⟨b, o + j, none⟩) (cell_lt h1) ▸ h1
  have HL2 := Lib.hid (show (flatP cs).length = cs.length * 2 by rw [flatP_len]; omega)
  have HP : Hid (0 < cs.length) := Lib.hid (List.length_pos_iff.2 hne)
  clear hv hcell hpt hne
  have C2 := Lib.hid (show 0 + cs.length ≤ maxLen by unfold maxLen; omega)
  have C3 := Lib.hid (show (0 + cs.length) * 24 ≤ 140737488355328 by omega)
  have C4 := Lib.hid (show w.heap.size ≤ (w.alloc (Obj.cells #[] 37)).heap.size by simp)
  go_enter Try.func58, Try.ntmps58
  go_wp2_with (at_builtin; refine wpList_append_own _ rfl _ _ 22 rfl w.heap.size 37 i0 _ 2 24 Try.underlying22 hi hz0 hz1 hz2 rfl (by decide) _ 0 [] rfl (owns_empty w _ 2) ⟨b, o, none⟩ cs.length cap (flatP cs) rfl HL2.out C1.out (flatP_one cs) C2.out C3.out C4.out ?_; intro v' w1 hown hgrow hnil)
  go_ret
  rw [Nat.zero_add, List.nil_append] at hown
  have hbel := grown_ext (owns_empty w _ 2) hgrow ((Below.refl w.heap.size w).alloc (Nat.le_refl _) _) (Nat.le_refl _)
  obtain ⟨hl, hown⟩ := hown
  rcases hown with ⟨-, h0⟩ | ⟨g, cap', cur, rfl, hb, hh, hn, hc, hs, ht⟩
  · have := HP.out; omega
  · exact ⟨g, cap', rfl, ⟨cur, hb, hh, rfl, hn, hc, hs, ht⟩, hbel⟩
/-- append where there is room, in a region's tail -/
theorem wpList_append_room {P : Program} {ops : Array Oper} {rest : List Oper} {o : Oper} {a : Act} {w : World} {Q : Exit → Act → World → Prop} (hg : o.guard = none) (s x : Operand) (t : TypeId) (hop : o.op = Op.call { callee := Callee.builtin Builtin.append, args := #[s, x], argTypes := #[t, t] })
    (e : TypeId) (i : TypeInfo) (size : Nat) (h1 : P.underlying t = some (.slice e)) (h2 : P.info? e = some i) (h4 : i.size = size)
    (b off n cap : Nat) (hs : a.eval s = .slice (some ⟨b, off, none⟩) n cap)
    (ad : Addr) (m c : Nat) (news : List Value) (hx : a.eval x = .slice (some ad) m c) (hn : news.length = m * size) (hc : ∀ j u, news[j]? = some u → w.cell? (ad.add j) = some u) (h1c : ∀ u ∈ news, u.oneCell' = true)
    (hroom : n + m ≤ cap) (hspare : ∀ j, j < news.length → (w.cell? ⟨b, off + n * size + j, none⟩).isSome = true ∧ w.frozen? ⟨b, off + n * size + j, none⟩ = false)
    (h : wpList P ops Q rest (a.put o.dst (.slice (some ⟨b, off, none⟩) (n + m) cap)) (w.setCells b (off + n * size) news)) : wpList P ops Q (o :: rest) a w := by
  refine wpList_plain hg fun K hK => ?_
  have h3 := step_append_room (P := P) (ops := ops) (K := K) (Q := Q) (E := True) hg s x t hop e i size h1 h2 h4 b off n cap hs ad m c news hx hn hc h1c hroom hspare (hK _ _ h)
  rwa [if_pos (by simp [Region.wanted, hg])] at h3
theorem zero_coef (w : World) : (zeroValue 37).run Try.prog w = .ok (.agg #[.string ⟨#[]⟩, .int .i64 0]) w := by
  obtain ⟨i0, hi, hz0, -, -⟩ := info_parts Try.info37
  simp [zeroValue, typeInfo, hi, hz0]
theorem run_clear_one (w : World) (ty : TypeId) (b o c : Nat) (h0 : (w.cell? ⟨b, o, none⟩).isSome = true) (h1 : (w.cell? ⟨b, o + 1, none⟩).isSome = true) (f0 : w.frozen? ⟨b, o, none⟩ = false) (f1 : w.frozen? ⟨b, o + 1, none⟩ = false) :
    (Builtin.clear_ #[22] ty #[.slice (some ⟨b, o, none⟩) 1 c]).run Try.prog w = .ok (.tuple #[]) (w.setCells b o [.string ⟨#[]⟩, .int .i64 0]) := by
  have hst := run_storeCells_cells (P := Try.prog) b o [.string ⟨#[]⟩, .int .i64 0] 0 w (by intro j hj; match j, hj with | 0, _ => exact h0 | 1, _ => exact h1) (by intro j hj; match j, hj with | 0, _ => exact f0 | 1, _ => exact f1) (by intro v hv; simp at hv; rcases hv with rfl | rfl <;> rfl)
  simp only [Nat.add_zero] at hst
  have hz : (Builtin.zeroCells (Value.agg #[.string ⟨#[]⟩, .int .i64 0]).cells 1).toList = [.string ⟨#[]⟩, .int .i64 0] := by simp [Builtin.zeroCells, Value.cells]; rfl
  simp [Builtin.clear_, run_underlying Try.underlying22, zero_coef, hz, hst]
end Go.Proofs.Ytkghgdkkholieaa
/-
  One element is taken out of one's own list, in place.
-/

namespace Go.Proofs.Ytkghgdkkholieaa
open Go Go.RowKit
variable {A : Nat → Nat → Prop}
theorem wpList_clear_one {ops : Array Oper} {rest : List Oper} {o : Oper} {a : Act} {Q : Exit → Act → World → Prop} {w : World} (hg : o.guard = none) (x : Operand) (hop : o.op = .call { callee := .builtin .clear, args := #[x], argTypes := #[22] })
    (b off k c : Nat) (hk : k = 1) (hx : a.eval x = .slice (some ⟨b, off, none⟩) k c) (h0 : (w.cell? ⟨b, off, none⟩).isSome = true) (h1 : (w.cell? ⟨b, off + 1, none⟩).isSome = true) (f0 : w.frozen? ⟨b, off, none⟩ = false) (f1 : w.frozen? ⟨b, off + 1, none⟩ = false)
    (h : wpList Try.prog ops Q rest (a.put o.dst (.tuple #[])) (w.setCells b off [.string ⟨#[]⟩, .int .i64 0])) : wpList Try.prog ops Q (o :: rest) a w := by
  subst hk
  have he : (execOp a.eval o).run Try.prog w = .ok (.value (.tuple #[])) (w.setCells b off [.string ⟨#[]⟩, .int .i64 0]) := by
    simp [execOp, hop, resolve, invoke, builtin, hx, run_clear_one w o.type b off c h0 h1 f0 f1]
  exact wpList_plain hg fun K hK => wp_value he (hK _ _ h)
theorem flatP_drop : ∀ (k : Nat) (cs : Pt), flatP (cs.drop k) = (flatP cs).drop (k * 2)
  | 0, cs => by simp
  | k + 1, [] => by simp [flatP]
  | k + 1, c :: cs => by
    rw [List.drop_succ_cons, flatP_drop k cs, show (k + 1) * 2 = k * 2 + 1 + 1 by omega]; rfl
theorem flatP_take : ∀ (k : Nat) (cs : Pt), flatP (cs.take k) = (flatP cs).take (k * 2)
  | 0, cs => by simp [flatP]
  | k + 1, [] => by simp [flatP]
  | k + 1, c :: cs => by
    rw [List.take_succ_cons, flatP, flatP_take k cs, show (k + 1) * 2 = k * 2 + 1 + 1 by omega]; rfl
theorem setCells_below {b : Nat} : ∀ (vs : List Value) (o : Nat) (w : World), Below b w (w.setCells b o vs)
  | [], o, w => Below.refl _ _
  | v :: vs, o, w => by
    rw [World.setCells]
    exact (Below.setCell (Below.refl b w) (p := ⟨b, o, none⟩) (Nat.le_refl _) v).trans (setCells_below vs (o + 1) _)
/-- what is left lies there, and no more is known of where -/
def Kd (b j m : Nat) : Iv.Know := ⟨fun _ v => ∃ ad c, v = .slice (some ad) m c ∧ (m = 0 ∨ ad = ⟨b, j * 2, none⟩), fun _ _ _ _ h => h⟩
set_option maxRecDepth 100000 in
set_option maxHeartbeats 1000000 in
theorem Delete_own {w : World} {B b n cap i : Nat} {cs : Pt} (h : Mine w B b n cap cs) (hi : i < n) (hm : n ≤ 1000000) :
    Calls Try.prog 57 #[.slice (some ⟨b, 0, none⟩) n cap, .int .i64 (i : Nat), .int .i64 ((i + 1 : Nat) : Int)] w fun e w' => e = .returned (.slice (some ⟨b, 0, none⟩) (i + (n - (i + 1))) cap) ∧ Below b w w' ∧
      ∀ j u, (flatP (cs.take i ++ cs.drop (i + 1)))[j]? = some u → w'.cell? ⟨b, j, none⟩ = some u := by
  have HM := Lib.hid h
  have hcap : n ≤ cap := by obtain ⟨cur, -, -, -, h1, -⟩ := h; exact h1
  have hmx : cap ≤ 9223372036854775807 := by obtain ⟨cur, -, -, -, -, h1, -⟩ := h; unfold maxLen at h1; omega
  clear h
  have e0 : (0 : Int) ≤ (i : Int) := by omega
  have e1 : (i : Int) ≤ ((i + 1 : Nat) : Int) := by omega
  have e2 : ((i + 1 : Nat) : Int) ≤ (n : Int) := by omega
  have e3 : (n : Int) ≤ (cap : Int) := by omega
  have e4 : (((i : Nat) : Int) == ((i + 1 : Nat) : Int)) = false := by simp; omega
  go_enter Try.func57, Try.ntmps57
  go_wp2_with fail
  refine Iv.wp_region_ext [some 20, some 21, some 22, some 23, some 24, some 25, some 26, some 0] 8 6 [Iv.Is (.slice (some ⟨b, 0, none⟩) n cap), Iv.Is (.int .i64 (i : Nat)), Iv.Is (.slice (some ⟨b, 0, none⟩) i cap), Iv.Is (.slice (some ⟨b, 0, none⟩) n cap), Iv.Is (.int .i64 ((i + 1 : Nat) : Int)), Kd b (i + 1) (n - (i + 1))] mixed rfl rfl (by decide) (by kernel_rfl) ?hop ?hend
  case hop =>
    refine Iv.allOps_cons ?o0 (Iv.allOps_cons ?o1 (Iv.allOps_cons ?o2 (Iv.allOps_cons ?o3 (Iv.allOps_cons ?o4 (Iv.allOps_cons ?o5 Iv.allOps_nil)))))
    case o0 =>
      refine Iv.opGoal_plain rfl rfl (by simp) fun f w' hr hk => ?_
      have HR := Lib.hid hr
      clear hr
      simp [Iv.putD, Iv.depsO, Iv.depsL, Iv.phi, Iv.Is, Iv.KnowAll, Region.binds, Iv.put_some, Iv.put_none, Kd] at hk ⊢
      try simp only [hk]
      go_wp2
      exact Iv.onePost_is _ rfl rfl ⟨Iv.Ext.refl _, rfl⟩
    case o1 =>
      refine Iv.opGoal_plain rfl rfl (by simp) fun f w' hr hk => ?_
      have HR := Lib.hid hr
      clear hr
      simp [Iv.putD, Iv.depsO, Iv.depsL, Iv.phi, Iv.Is, Iv.KnowAll, Region.binds, Iv.put_some, Iv.put_none, Kd] at hk ⊢
      try simp only [hk]
      go_wp2
      exact Iv.onePost_is _ rfl rfl ⟨Iv.Ext.refl _, rfl⟩
    case o2 =>
      refine Iv.opGoal_plain rfl rfl (by simp) fun f w' hr hk => ?_
      have HR := Lib.hid hr
      clear hr
      simp [Iv.putD, Iv.depsO, Iv.depsL, Iv.phi, Iv.Is, Iv.KnowAll, Region.binds, Iv.put_some, Iv.put_none, Kd] at hk ⊢
      have e5 : (i : Int) ≤ (cap : Int) := by omega
      have e6 : i ≤ cap := by omega
      rw [hk.1, hk.2]
      go_wp2
      exact Iv.onePost_is _ rfl rfl ⟨Iv.Ext.refl _, rfl⟩
    case o3 =>
      refine Iv.opGoal_plain rfl rfl (by simp) fun f w' hr hk => ?_
      have HR := Lib.hid hr
      clear hr
      simp [Iv.putD, Iv.depsO, Iv.depsL, Iv.phi, Iv.Is, Iv.KnowAll, Region.binds, Iv.put_some, Iv.put_none, Kd] at hk ⊢
      try simp only [hk]
      go_wp2
      exact Iv.onePost_is _ rfl rfl ⟨Iv.Ext.refl _, rfl⟩
    case o4 =>
      refine Iv.opGoal_plain rfl rfl (by simp) fun f w' hr hk => ?_
      have HR := Lib.hid hr
      clear hr
      simp [Iv.putD, Iv.depsO, Iv.depsL, Iv.phi, Iv.Is, Iv.KnowAll, Region.binds, Iv.put_some, Iv.put_none, Kd] at hk ⊢
      try simp only [hk]
      go_wp2
      exact Iv.onePost_is _ rfl rfl ⟨Iv.Ext.refl _, rfl⟩
    case o5 =>
      refine Iv.opGoal_plain rfl rfl (by simp) fun f w' hr hk => ?_
      have HR := Lib.hid hr
      clear hr
      simp [Iv.putD, Iv.depsO, Iv.depsL, Iv.phi, Iv.Is, Iv.KnowAll, Region.binds, Iv.put_some, Iv.put_none, Kd] at hk ⊢
      have e5 : ((i + 1 : Nat) : Int) ≤ (n : Int) := by omega
      have e6 : (0 : Int) ≤ ((i + 1 : Nat) : Int) := by omega
      have e7 : i + 1 ≤ cap := by omega
      rw [hk.1, hk.2]
      go_wp2
      all_goals exact Iv.onePost_is _ rfl rfl ⟨Iv.Ext.refl _, _, ⟨_, rfl⟩, by first | (left; omega) | (right; rfl)⟩
  case hend =>
    intro f w' hr hk
    simp [Iv.putD, Iv.phi, Iv.Is, Iv.KnowAll, List.range, List.range.loop, Iv.put_some, Iv.put_none, Kd] at hk ⊢
    obtain ⟨k0, k1, k2, k3, k4, k5⟩ := hk
    obtain ⟨ad, ⟨c, k5⟩, hor⟩ := k5
    obtain ⟨i0, hi0, -, hz1, -⟩ := info_parts Try.info37
    simp only [k0, k1, k2, k3, k4, k5]
    have HB := HM.out.later hr
    have hcell := HB.cell
    have hfz : ∀ j, w'.frozen? ⟨b, j, none⟩ = false := fun j => by
      obtain ⟨cur, -, h2, -⟩ := HB
      simp [World.frozen?, h2]
    have hlen : cs.length = n := by obtain ⟨cur, -, -, h3, -⟩ := HB; exact h3.symm
    have hsome : ∀ j, j < n * 2 → (w'.cell? ⟨b, j, none⟩).isSome = true := fun j hj => by
      have : (flatP cs)[j]? = some ((flatP cs)[j]'(by rw [flatP_len]; omega)) := List.getElem?_eq_getElem _
      rw [hcell j _ this]; rfl
    refine wpList_append_room rfl (.tmp 22) (.tmp 25) 22 rfl 37 i0 2 Try.underlying22 hi0 hz1 b 0 i cap rfl ad (n - (i + 1)) c (flatP (cs.drop (i + 1))) rfl ?_ ?_ (flatP_one _) (by omega) ?_ ?_
    · rw [flatP_len, List.length_drop]; omega
    · intro j u hj
      rcases hor with h0 | rfl
      · have := (List.getElem?_eq_some_iff.1 hj).1
        rw [flatP_len, List.length_drop] at this; omega
      · rw [add_off]
        rw [flatP_drop, List.getElem?_drop] at hj
        exact hcell _ u hj
    · intro j hj
      rw [flatP_len, List.length_drop] at hj
      exact ⟨hsome _ (by omega), hfz _⟩
    obtain ⟨W1, hW1⟩ : ∃ W1, W1 = w'.setCells b (0 + i * 2) (flatP (cs.drop (i + 1))) := ⟨_, rfl⟩
    have q1 : ∀ j u, j < (i + (n - (i + 1))) * 2 → (flatP (cs.take i ++ cs.drop (i + 1)))[j]? = some u → W1.cell? ⟨b, j, none⟩ = some u := by
      intro j u hj hu
      rw [flatP_app] at hu
      have hl1 : (flatP (cs.take i)).length = i * 2 := by rw [flatP_len, List.length_take]; omega
      have hl2 : (flatP (cs.drop (i + 1))).length = (n - (i + 1)) * 2 := by rw [flatP_len, List.length_drop]; omega
      by_cases hji : j < i * 2
      · rw [List.getElem?_append_left (by omega), flatP_take, List.getElem?_take, if_pos hji] at hu
        rw [hW1, World.cell?_setCells_out b _ _ _ _ (fun _ _ => .inl (by show j < 0 + i * 2; omega))]
        exact hcell j u hu
      · rw [List.getElem?_append_right (by omega), hl1] at hu
        obtain ⟨hlt, he⟩ := List.getElem?_eq_some_iff.1 hu
        have := World.cell?_setCells_in b (flatP (cs.drop (i + 1))) (0 + i * 2) w' (fun j hj => hsome _ (by omega)) (j - i * 2) hlt
        rw [show 0 + i * 2 + (j - i * 2) = j by omega, he] at this
        rw [hW1]; exact this
    have q2 : ∀ j, j < n * 2 → (W1.cell? ⟨b, j, none⟩).isSome = true := by
      intro j hj
      have hl2 : (flatP (cs.drop (i + 1))).length = (n - (i + 1)) * 2 := by rw [flatP_len, List.length_drop]; omega
      by_cases hji : j < i * 2 ∨ i * 2 + (n - (i + 1)) * 2 ≤ j
      · rw [hW1, World.cell?_setCells_out b _ _ _ _ (fun _ _ => by show j < 0 + i * 2 ∨ 0 + i * 2 + (flatP (cs.drop (i + 1))).length ≤ j; omega)]
        exact hsome j hj
      · have := World.cell?_setCells_in b (flatP (cs.drop (i + 1))) (0 + i * 2) w' (fun j hj => hsome _ (by omega)) (j - i * 2) (by omega)
        rw [show 0 + i * 2 + (j - i * 2) = j by omega] at this
        rw [hW1, this]; rfl
    have q3 : ∀ j, W1.frozen? ⟨b, j, none⟩ = false := fun j => by rw [hW1, World.frozen?_setCells]; exact hfz j
    have q4 : Below b w W1 := by
      rw [hW1]
      have hbw : b ≤ w.heap.size := by
        obtain ⟨cur, -, h2, -⟩ := HM.out
        exact Nat.le_of_lt (Array.getElem?_eq_some_iff.1 h2).1
      exact (Below.mono hr hbw).trans (setCells_below _ _ _)
    rw [← hW1]
    have Q1 := Lib.hid q1
    have Q2 := Lib.hid q2
    have Q3 := Lib.hid q3
    have Q4 := Lib.hid q4
    clear q1 q2 q3 q4 hW1 hcell hfz hsome HB hr
    have e8 : ((i + (n - (i + 1)) : Nat) : Int) ≤ (n : Int) := by omega
    have e9 : (0 : Int) ≤ ((i + (n - (i + 1)) : Nat) : Int) := by omega
    have hcl : ∀ ty, (Builtin.clear_ #[22] ty #[.slice (some ⟨b, (i + (n - (i + 1))) * 2, none⟩) (n - (i + (n - (i + 1)))) (cap - (i + (n - (i + 1))))]).run Try.prog W1 = .ok (.tuple #[]) (W1.setCells b ((i + (n - (i + 1))) * 2) [.string ⟨#[]⟩, .int .i64 0]) := fun ty => by
      have h1 : n - (i + (n - (i + 1))) = 1 := by omega
      rw [h1]
      exact run_clear_one W1 ty b _ _ (Q2.out _ (by omega)) (Q2.out _ (by omega)) (Q3.out _) (Q3.out _)
    go_wp2
    go_ret
    refine ⟨rfl, Q4.out.trans (setCells_below _ _ _), fun j u hj => ?_⟩
    have hjl := (List.getElem?_eq_some_iff.1 hj).1
    rw [flatP_len, List.length_append, List.length_take, List.length_drop] at hjl
    rw [World.cell?_setCells_out b _ _ _ _ (fun _ _ => .inl (by show j < (i + (n - (i + 1))) * 2; omega))]
    exact Q1.out j u (by omega) hj
end Go.Proofs.Ytkghgdkkholieaa
