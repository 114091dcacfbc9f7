/-
  Proved: whatever row it is given, the law LinearRows returns true, and the row reads afterwards as it did before.
  Conditions: none.
-/
import Derived.Test.YtkghgdkkholieaaLawRows
import Derived.Test.YtkghgdkkholieaaRows
import Derived.ProofKit
import Derived.Deep.SlicePairs
import Derived.Below
import Derived.Carry
import Derived.ChangeSame
import Derived.Lib.SmallJoins
namespace Go.Proofs.Ytkghgdkkholieaa
open Go.ChangeShapes Go.WideShapes Go.ChangeAt Go.RowKit Go.Deep

def strOf : Value → ByteArray | .string s => s | _ => ⟨#[]⟩
theorem spot_none {w : World} {a : Addr} {v : Value} (h : w.cell? a = some v) : a.spot = none ∧ a.block < w.heap.size := by
  unfold World.cell? at h
  split at h
  · rename_i hh
    refine ⟨?_, (Array.getElem?_eq_some_iff.1 hh).1⟩
    split at h
    · cases h
    · rename_i hs; simpa using hs
  · cases h
theorem open_Coefs {H : Type} {enc : TypeId × Value → H} {w : World} {sp : Nat → Bool} {held : Bool} {fuel : Nat} {v : Value} {x : DataW H × List MemPlace} (h : DataW.trod enc Try.prog w 0 sp held fuel 22 [v] = some x) :
    ∃ a len cap cs, v = .slice a len cap ∧ IsCoefs [] w a len cap cs ∧ len ≤ maxLen := by
  rcases Go.Deep.open_slice_pairs Try.underlying22 Try.underlying37 (by kernel_rfl) rfl rfl (by kernel_rfl) (by kernel_rfl) h with ⟨hv, -⟩ | ⟨a, len, cap, m, n, V0, V1, D0, D1, P0, P1, hv, -, hl, hcap, hm, -, hi⟩
  · exact ⟨none, 0, 0, [], by simpa using hv, coefs_nil _ _, Nat.zero_le _⟩
  · refine ⟨some a, len, cap, (List.range len).map fun i => (strOf (V0 i), intOf (V1 i)), by simpa using hv, ⟨by simp, hl, by simp, fun i hlt => ?_⟩, Nat.le_trans hl hcap⟩
    have hlt' : i < len := by simpa using hlt
    have hmm : len ≤ m := by rw [hm]; split <;> omega
    obtain ⟨z0, -, -, -⟩ := hi 0 (by omega)
    obtain ⟨s0, s1⟩ := spot_none z0
    obtain ⟨c0, c1, t0, t1⟩ := hi i (by omega)
    obtain ⟨s, hs, -⟩ := DataW.trod_string Try.underlying9 t0
    obtain ⟨q, hq, -, -⟩ := DataW.trod_int Try.underlying3 t1
    obtain ⟨b, off, sp'⟩ := a
    have e0 : sp' = none := by simpa [Addr.add] using s0
    subst e0
    have ea : ∀ k, Addr.add ⟨b, off, none⟩ k = ⟨b, off + k, none⟩ := by
      intro k; unfold Addr.add; split
      · rename_i hk; rw [hk]; rfl
      · rfl
    rw [ea] at c0 c1
    have hs' : V0 i = .string s := by simpa using hs
    have hq' : V1 i = .int .i64 q := by simpa using hq
    refine ⟨b, off, rfl, ⟨by simpa [Addr.add] using s1, by simp⟩, ?_, ?_⟩
    · rw [c0]; simp [hs', strOf]
    · rw [show off + i * 2 + 1 = off + (i * 2 + 1) by omega, c1]; simp [hq', intOf]

theorem open_Row {H : Type} {enc : TypeId × Value → H} {w : World} {r : Reach} {b0 : Nat} {sp : Nat → Bool} {held : Bool} {v : Value} {d : DataW H} {p : List MemPlace} (hv : Value.okWide Try.prog w r b0 26 v) (h : DataW.Trod enc Try.prog w 0 sp held 26 v d p) :
    ∃ a len cap k eq cs, v = .agg #[.slice a len cap, .int .i64 k, .bool eq] ∧ IsCoefs [] w a len cap cs ∧ len ≤ maxLen := by
  obtain ⟨xs, rfl, hsz⟩ := okWide_struct Try.underlying26 hv
  obtain ⟨c0, c1, c2, rfl⟩ := Go.Joins.array3 (hsz.trans (by kernel_rfl : Try.prog.cellsOf 26 = 3))
  obtain ⟨fuel, hf⟩ := h
  obtain ⟨y0, y1, n, -, -, h0, h1⟩ := trod_struct2 Try.underlying26 hf
  have k24 : Try.prog.cellsOf 24 = 2 := by kernel_rfl
  have k22 : Try.prog.cellsOf 22 = 1 := by kernel_rfl
  have k3 : Try.prog.cellsOf 3 = 1 := by kernel_rfl
  have k4 : Try.prog.cellsOf 4 = 1 := by kernel_rfl
  have h0' : DataW.trod enc Try.prog w 0 sp held n 24 [c0, c1] = some y0 := by simpa [k24, Value.cells] using h0
  have h1' : DataW.trod enc Try.prog w 0 sp held n 4 [c2] = some y1 := by simpa [k4, Value.cells] using h1
  obtain ⟨z0, z1, n', -, -, g0, g1⟩ := trod_struct2 Try.underlying24 h0'
  have g0' : DataW.trod enc Try.prog w 0 sp held n' 22 [c0] = some z0 := by simpa [k22] using g0
  have g1' : DataW.trod enc Try.prog w 0 sp held n' 3 [c1] = some z1 := by simpa [k3] using g1
  obtain ⟨a, len, cap, cs, rfl, hc, hm⟩ := open_Coefs g0'
  obtain ⟨k, hk, -, -⟩ := DataW.trod_int Try.underlying3 g1'
  obtain ⟨q, hq, -⟩ := DataW.trod_bool Try.underlying4 h1'
  have hk' : c1 = .int .i64 k := by simpa using hk
  have hq' : c2 = .bool q := by simpa using hq
  exact ⟨a, len, cap, k, q, cs, by rw [hk', hq'], hc, hm⟩

section
variable {H : Type} {enc : TypeId × Value → H} {P : Program}
theorem post_of_below {f : Func} {s : ChangeSpec} {apart fresh handsOn again : Bool} {W W' : World} {args : Array Value} {v : Value} {ds gs : List (DataW H)} {before pa pv : List MemPlace}
    (hW : DataW.Whole enc P f.params.toList s.vars apart W args.toList ds gs before)
    (hres : ∀ (b : Nat) (sp : Nat → Bool) (hd : Bool), DataW.TrodAll enc P W' b sp hd f.resultTypes.toList (v.resultList f.resultTypes.size) (s.fn H (ds ++ gs)).results [])
    (hargs : ∀ sp : Nat → Bool, (∀ p ∈ before, sp p.block = true) → DataW.TrodAll enc P W' 0 sp true f.params.toList args.toList (s.fn H (ds ++ gs)).args pa)
    (hvars : ∀ sp : Nat → Bool, (∀ p ∈ before, sp p.block = true) → DataW.TrodVars enc P W' sp s.vars (s.fn H (ds ++ gs)).vars pv)
    (hps : before = pa ++ pv) (hb : Below W.heap.size W W')
    (hok : ∀ (j : Nat) (t : TypeId) (r : Value), f.resultTypes[j]? = some t → (v.resultList f.resultTypes.size)[j]? = some r → Value.okWide P W' .any 0 t r) :
    s.post enc P f apart fresh handsOn again W args v W' := by
  have hlt : ∀ p ∈ before, p.block < W.heap.size := fun p hp => hW.lt p hp
  have hold : ∀ p ∈ before, (fun b => decide (b < W.heap.size)) p.block = true := fun p hp => by simpa using hlt p hp
  refine ⟨ds, gs, before, [], pa, pv, hW, hres _ _ _, hargs _ hold, hvars _ hold, World.keptBut_mono (fun p hp => ⟨hp, ?_⟩) (hb.frame (· ∈ before)), fun _ => ?_⟩
  · rw [hps, List.mem_append] at hp
    exact Or.inr hp
  · obtain ⟨_, _, _, _, _, hz, hn⟩ := hW
    refine ⟨hok, _, _, ([] ++ pa) ++ pv, ⟨[] ++ pa, pv, trodAll_append (hargs _ (fun _ _ => rfl)) (hres _ _ _), hvars _ (fun _ _ => rfl), rfl, ?_, ?_⟩, ?_⟩
    · intro b off hp
      have hin : MemPlace.cell b off ∈ before := by rw [hps]; simpa using hp
      rw [hb.frozen (hlt _ hin)]
      exact hz b off hin
    · intro ha
      have := hn ha
      rw [hps] at this
      simpa using this
    · intro p hp _
      rw [hps]
      simpa using hp
end

theorem shut_Bool {H : Type} {enc : TypeId × Value → H} {W : World} {base : Nat} {sp : Nat → Bool} {held : Bool} (b : Bool) : DataW.Trod enc Try.prog W base sp held 4 (.bool b) (.lit (.bool b)) [] := ⟨1, by simp [DataW.trod, Value.cells, Try.underlying4]⟩
theorem okWide_Bool {W : World} (c : Bool) : Value.okWide Try.prog W .any 0 4 (.bool c) := by simp [Value.okWide, Try.underlying4, Cell.okWide, Cell.ok]

theorem Try.own : ownKnob Try.prog.godebug = none := by kernel_rfl
theorem Try.laidOut : laidOutB Try.prog = true := by kernel_rfl

set_option maxRecDepth 100000 in
theorem linearRows_lifted (os : Os) (started : os.Started) (H : Type) (enc : TypeId × Value → H) :
    ReturnsInHanded {} Try.checked os 3 .any (Rows.linearRowsSpec.pre6 enc Try.prog Try.f3 Rows.linearRowsRow.domain false) (Rows.linearRowsSpec.post enc Try.prog Try.f3 false true false false) := by
  refine returnsInHanded_of_change (C := Try.checked) Try.own started (by kernel_rfl) Try.func3
    (ChangeSpec.witness6 (enc := enc) (C := Try.checked) false ⟨#[], #[.agg #[.slice none 0 0, .int .i64 0, .bool false]], []⟩ 8 (by kernel_rfl) (by kernel_rfl) (by kernel_rfl) (by kernel_rfl)) ?_
  intro W base args ds gs before hval0 hW hcnd _
  have hval : ∀ (j : Nat) t v, Try.f3.params[j]? = some t → args[j]? = some v → Value.okWide Try.prog W .any base t v := hval0
  have hW' := hW
  obtain ⟨p, q, hA0, hV, rfl, hfz, hnd⟩ := hW
  have hA : DataW.TrodAll enc Try.prog W 0 (fun _ => true) true Try.f3.params.toList args.toList ds p := hA0
  rw [Try.params3] at hA hval
  obtain ⟨v0, d0, rfl, rfl, h0⟩ := trodAll_one hA
  obtain ⟨rfl, rfl⟩ := trodVars_none hV
  obtain ⟨a, len, cap, k, eq, cs, rfl, hc, hm⟩ := open_Row (hval 0 26 v0 rfl rfl) h0
  clear hA0 hval0
  simp only [List.append_nil] at hW'
  refine (L11_LinearRows W a len cap k eq cs hc (under_nil _) hm).mono fun e W' ⟨he, hw⟩ => ?_
  subst he
  have hlt : ∀ x ∈ p, x.block < W.heap.size := fun x hx => hW'.lt x hx
  exact ⟨_, rfl, post_of_below (pa := p) (pv := []) hW' (fun _ _ _ => trodAll_mk1 (shut_Bool true)) (fun sp hs => trodAll_mk1 (WideElems.Trod_stays Try.laidOut (by kernel_rfl) (by decide) h0 (fun x hx => hw.same (hlt x hx)) hs)) (fun _ _ => rfl) (by simp)
    hw (ok_one (by kernel_rfl) rfl (okWide_Bool true))⟩

theorem linearRows_holds : Rows.LinearRowsSaid :=
  OpenClaim.holds_of_wide 3 Try.f3 rfl rfl rfl rfl rfl rfl rfl ⟨rfl, rfl, rfl, rfl, rfl⟩ rfl rfl rfl rfl rfl (by kernel_rfl) Try.func3 (by kernel_rfl)
    (of_decide_eq_true (by kernel_rfl)) (by unfold Func.isWrapper; first | (rw [if_pos (by decide +kernel)]; kernel_rfl) | (rw [if_neg (by decide +kernel)]; exact ⟨rfl, rfl⟩))
    (fun os started H enc _ => linearRows_lifted os started H enc)

end Go.Proofs.Ytkghgdkkholieaa
