/-
  Texts laid together: UOk3.
-/
import Derived.Test.YtmkoiandfojgmaaGreatZM23
import Derived.Shelf.SlMaps.Clone
namespace Go.Proofs.YtmkoiandfojgmaaGreat
open Go Go.RowKit
set_option maxRecDepth 100000 in
set_option maxHeartbeats 2000000 in
theorem mclone_raw (mixed : Tryz.prog.follows .mixedOrders = true) {w : World} {b : Nat} {es : Array MapEntry} {clock : Nat} (hb : w.heap[b]? = some (.map es clock)) :
    Calls Tryz.prog 61 #[.map (some b)] w fun e w' => e = .returned (.map (some w.heap.size)) ∧ w' = w.alloc (.map es clock) := by
  have hq := fun w => run_eql_map_nil_sl (P := Tryz.prog) w 95 _ _ (some b) Tryz.underlying95
  go_enter Tryz.func61, Tryz.ntmps61
  go_wp2
  rw [run_callFunc_extern Tryz.func85 (by kernel_rfl) (by kernel_rfl) (by kernel_rfl) (e := Extern.MapsClone.clone) (by kernel_rfl), run_maps_clone_sl w 95 hb]
  simp only [Result.andThen]
  rw [Oper.upon_value]
  go_wp2
  rw [run_typeAssert_map_sl _ 95 _ _ _ _ Tryz.underlying95]
  simp only [Result.andThen]
  rw [Oper.upon_value]
  go_wp2
  go_ret
  exact ⟨rfl, rfl⟩
theorem mclone_calls (hmx : Tryz.prog.follows .mixedOrders = true) {C : Cx} {vs : Array Value} (hsr : SR C) {i e : Nat} {s : Sn} (hs : mapAt C.S i e = some s) (hv : VRs C [.mref i e] vs.toList) :
    Calls Tryz.prog 61 vs C.w (ToldR C (C.S ++ [⟨C.n, [.mset s]⟩]) C.tk (C.n + 1) (.mref C.S.length C.n)) := by
  obtain ⟨vl⟩ := vs
  match vl, hv with
  | [x], hv =>
  simp only [VRs, and_true] at hv
  obtain rfl := VR_mref hv hs
  obtain ⟨es, clock, hb, hok⟩ := mapAt_ent hsr hs
  refine Calls.mono (mclone_raw hmx hb) ?_
  rintro e' w' ⟨rfl, rfl⟩
  exact ⟨_, C.moreM es clock s, rfl, rfl, Le.moreM hsr _ _ _, SR.moreM hsr hok, rfl, rfl, rfl, VR_mnew⟩
end Go.Proofs.YtmkoiandfojgmaaGreat
