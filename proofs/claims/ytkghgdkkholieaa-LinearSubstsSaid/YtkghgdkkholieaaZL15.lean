/-
  Texts laid together: LLift.
-/
import Derived.Test.YtkghgdkkholieaaZL13
import Derived.Test.YtkghgdkkholieaaZL14
import Derived.Test.YtkghgdkkholieaaRows
import Derived.ProofKit
import Derived.Below
import Derived.Carry
import Derived.ChangeSame
import Derived.Lib.SmallJoins
/-
  From the evaluator to the statements: what the arguments hold is read as lists.
-/








namespace Go.Proofs.Ytkghgdkkholieaa
open Go Go.ChangeShapes Go.WideShapes Go.ChangeAt Go.RowKit

/-- nothing is to be left alone -/
abbrev A0 : Nat → Nat → Prop := fun _ _ => False
abbrev C0 (W : World) : Cx := Cq A0 W
theorem C0_avoid {W : World} {b o : Nat} : ¬ (C0 W).Avoid b o := Cq_avoid (A := A0) fun h => h
theorem C0_SR (W : World) : SR (C0 W) := Cq_SR (A := A0) fun _ _ h => h.elim
theorem law_of {f : FuncId} {args : List AV} {W : World} {vs : Array Value} (h : cL Try.prog f args [] [] 0 = some (.bool true, [], [], 0)) (hv : VRs (C0 W) args vs.toList) :
    Calls Try.prog f vs W fun e w' => e = .returned (.bool true) ∧ Below W.heap.size W w' := by
  refine (calls_of mixed h (C := C0 W) rfl rfl rfl (C0_SR W) hv).mono ?_
  rintro e w' ⟨v, C', rfl, rfl, hle, -, -, -, -, hr⟩
  simp only [VR] at hr
  refine ⟨by rw [hr], ⟨hle.os, hle.tape, hle.output, hle.size, fun b hb => hle.keep b hb fun o hm => C0_avoid (.inr hm)⟩⟩


def types : List TypeId := [4, 3, 9, 37, 22, 24]
set_option maxRecDepth 100000 in
theorem closed : closedT Try.prog types = true := by kernel_rfl
theorem wf_i64 {n : Int} (h : (Lit.int .i64 n).wf = true) : i64 n := by
  simp only [Lit.wf, Bool.and_eq_true, decide_eq_true_eq] at h
  exact ⟨h.1, h.2⟩
set_option maxRecDepth 100000 in
theorem sh_coef {avs : List AV} (h : Sh Try.prog 37 avs) : ∃ c : ByteArray × Int, avs = coefC c ∧ i64 c.2 := by
  obtain ⟨p0, p1, rfl, h0, h1⟩ := sh_struct2 Try.underlying37 h
  obtain ⟨s, rfl, -⟩ := sh_str Try.underlying9 h0
  obtain ⟨n, rfl, hn⟩ := sh_int Try.underlying3 h1
  exact ⟨(s, n), rfl, wf_i64 hn⟩
set_option maxRecDepth 100000 in
theorem sh_coefs {avs : List AV} (h : Sh Try.prog 22 avs) : ∃ cs : List (ByteArray × Int), avs = [coefsA cs] ∧ ∀ c ∈ cs, i64 c.2 := by
  obtain ⟨es, rfl, h1, -⟩ := sh_slice Try.underlying22 h
  obtain ⟨cs, rfl, h2⟩ := map_of (f := coefC) (Q := fun c => i64 c.2) fun x hx => sh_coef (h1 x hx)
  exact ⟨cs, rfl, h2⟩
section
variable {H : Type} {enc : TypeId × Value → H} {w : World} {r : Reach} {b0 : Nat} {sp : Nat → Bool} {held : Bool} {v : Value} {d : DataW H} {p : List MemPlace}
set_option maxRecDepth 100000 in
theorem read {t : TypeId} (ht : t ∈ types) (h : DataW.Trod enc Try.prog w 0 sp held t v d p) : ∃ avs, Sh Try.prog t avs ∧ PRs w (C0 w).Avoid avs v.cells.toList :=
  open_Rd closed (fun b o v h => absurd h C0_avoid) ht h
set_option maxRecDepth 100000 in
theorem open_lin (hv : Value.okWide Try.prog w r b0 24 v) (h : DataW.Trod enc Try.prog w 0 sp held 24 v d p) : ∃ (cs : Pt) (k : Int), VR (C0 w) (linA cs k) v := by
  obtain ⟨avs, h1, h2⟩ := read (by simp [types]) h
  obtain ⟨p0, p1, rfl, h3, h4⟩ := sh_struct2 Try.underlying24 h1
  obtain ⟨cs, rfl, -⟩ := sh_coefs h3
  obtain ⟨n, rfl, -⟩ := sh_int Try.underlying3 h4
  obtain ⟨xs, rfl, hsz⟩ := okWide_struct Try.underlying24 hv
  refine ⟨cs, n, ?_⟩
  simp only [linA, VR]
  exact ⟨xs, rfl, VRs_of_PRs h2⟩
set_option maxRecDepth 100000 in
theorem open_str (hv : Value.okWide Try.prog w r b0 9 v) (_h : DataW.Trod enc Try.prog w 0 sp held 9 v d p) : ∃ s : ByteArray, VR (C0 w) (.prim (.string s)) v := by
  obtain ⟨s, rfl⟩ := okWide_string Try.underlying9 hv
  exact ⟨s, by simp only [VR]⟩
end
section
variable {H : Type} {enc : TypeId × Value → H} {P : Program}
theorem post_of_below {f : Func} {s : ChangeSpec} {apart fresh handsOn again : Bool} {W W' : World} {args : Array Value} {v : Value} {ds gs : List (DataW H)} {before pa pv : List MemPlace}
    (hW : DataW.Whole enc P f.params.toList s.vars apart W args.toList ds gs before)
    (hres : ∀ (b : Nat) (sp : Nat → Bool) (hd : Bool), DataW.TrodAll enc P W' b sp hd f.resultTypes.toList (v.resultList f.resultTypes.size) (s.fn H (ds ++ gs)).results [])
    (hargs : ∀ sp : Nat → Bool, (∀ p ∈ before, sp p.block = true) → DataW.TrodAll enc P W' 0 sp true f.params.toList args.toList (s.fn H (ds ++ gs)).args pa)
    (hvars : ∀ sp : Nat → Bool, (∀ p ∈ before, sp p.block = true) → DataW.TrodVars enc P W' sp s.vars (s.fn H (ds ++ gs)).vars pv)
    (hps : before = pa ++ pv) (hb : Below W.heap.size W W')
    (hok : ∀ (j : Nat) (t : TypeId) (r : Value), f.resultTypes[j]? = some t → (v.resultList f.resultTypes.size)[j]? = some r → Value.okWide P W' .any 0 t r) :
    s.post enc P f apart fresh handsOn again W args v W' := by
  have hlt : ∀ p ∈ before, p.block < W.heap.size := fun p hp => hW.lt p hp
  have hold : ∀ p ∈ before, (fun b => decide (b < W.heap.size)) p.block = true := fun p hp => by simpa using hlt p hp
  refine ⟨ds, gs, before, [], pa, pv, hW, hres _ _ _, hargs _ hold, hvars _ hold, World.keptBut_mono (fun p hp => ⟨hp, ?_⟩) (hb.frame (· ∈ before)), fun _ => ?_⟩
  · rw [hps, List.mem_append] at hp
    exact Or.inr hp
  · obtain ⟨_, _, _, _, _, hz, hn⟩ := hW
    refine ⟨hok, _, _, ([] ++ pa) ++ pv, ⟨[] ++ pa, pv, trodAll_append (hargs _ (fun _ _ => rfl)) (hres _ _ _), hvars _ (fun _ _ => rfl), rfl, ?_, ?_⟩, ?_⟩
    · intro b off hp
      have hin : MemPlace.cell b off ∈ before := by rw [hps]; simpa using hp
      rw [hb.frozen (hlt _ hin)]
      exact hz b off hin
    · intro ha
      have := hn ha
      rw [hps] at this
      simpa using this
    · intro p hp _
      rw [hps]
      simpa using hp
end
set_option maxRecDepth 100000 in
theorem shut_Bool {H : Type} {enc : TypeId × Value → H} {W : World} {base : Nat} {sp : Nat → Bool} {held : Bool} (b : Bool) : DataW.Trod enc Try.prog W base sp held 4 (.bool b) (.lit (.bool b)) [] := ⟨1, by simp [DataW.trod, Value.cells, Try.underlying4]⟩
set_option maxRecDepth 100000 in
theorem okWide_Bool {W : World} (c : Bool) : Value.okWide Try.prog W .any 0 4 (.bool c) := by simp [Value.okWide, Try.underlying4, Cell.okWide, Cell.ok]
theorem Try.own : ownKnob Try.prog.godebug = none := by kernel_rfl
theorem Try.laidOut : laidOutB Try.prog = true := by kernel_rfl
end Go.Proofs.Ytkghgdkkholieaa
