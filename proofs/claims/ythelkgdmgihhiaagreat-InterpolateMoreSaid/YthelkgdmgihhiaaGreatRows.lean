/-
  No cell of these rows narrows 'for every input' (looked for: loops, veiled, ifaces, maps, wideKeys, modest, calm, conditions, laid).
  DERIVED. THE GIVEN ROWS OF THIS SEAT. 4 by the template 'for every input the law returns true; each argument reads behind the call as it read before'; 0 by the template 'total and deterministic' (their statements: YthelkgdmgihhiaaGreatTotals.lean).
  GIVEN WITH THE SEED: the statements are not yours to turn. If you find one false, say at which input.
  Laid BY PROGRAM, IN A SANDBOX (cutbox-rows.mjs): the forced cells as the released guide's own fill.sh prints them over the translation 321d9b0f6b333709… (all of the seat's roots in one cut). By AI agents, Wed Nov 11 2026. No macro, syntax, notation, axiom, sorry.
-/
import Derived.Test.YthelkgdmgihhiaaGreatChecked
import GoSem.Claim
import GoSem.ClaimJoined
import GoSem.ClaimMapViews
import Derived.JoinedTies
import Derived.KernelRfl
namespace Go.Proofs.YthelkgdmgihhiaaGreat
/- THE CELL 'sum', in the pinned program and in every row, IS THE sha256 OF THE DUMP (.gsa) THAT YthelkgdmgihhiaaGreatProg.lean LOADS. Nothing in Lean hashes anything: it is a label: what it is worth is what the hold of that sum in a sandbox is worth. -/
noncomputable def Tryz.pinned : Pinned := { name := "ythelkgdmgihhiaagreat", sum := "321d9b0f6b33370910ae2af04dd8c7997ffd0fe6256ea3fb37d58958960f090d", checked := Tryz.checked }
namespace Rows
def none {H : Type} : Left H := { results := [], args := [] }

/-- 'liquidchecklaw18.InterpolateBetween': WHATEVER THE INPUT: true; the input reads as it did. -/
def interpolateBetweenSpec : ChangeSpec := { name := "interpolateBetween", fn := fun _ => fun
  | [d1, d2, d3] => { results := [.lit (.bool true)], args := [d1, d2, d3] }
  | _ => none }
def interpolateBetweenRow : OpenClaim := { program := "ythelkgdmgihhiaagreat", sum := "321d9b0f6b33370910ae2af04dd8c7997ffd0fe6256ea3fb37d58958960f090d", func := "liquidcheck/liquidchecklaw18.InterpolateBetween", spec := "interpolateBetween", unfollowed := true, recurses := true, apart := false }
def InterpolateBetweenSaid : Prop := interpolateBetweenRow.holds Tryz.pinned (OpenSpec.ofChange interpolateBetweenSpec)

/-- ITS FALSE NEIGHBOUR: 'it returns false'. Refute it at one input. -/
def interpolateBetweenWrong : ChangeSpec := { name := "interpolateBetween", fn := fun _ => fun
  | [d1, d2, d3] => { results := [.lit (.bool false)], args := [d1, d2, d3] }
  | _ => none }
def InterpolateBetweenWrongFalsely : Prop := interpolateBetweenRow.holds Tryz.pinned (OpenSpec.ofChange interpolateBetweenWrong)

/-- 'liquidchecklaw18.InterpolateFollows': WHATEVER THE INPUT: true; the input reads as it did. -/
def interpolateFollowsSpec : ChangeSpec := { name := "interpolateFollows", fn := fun _ => fun
  | [d1, d2, d3] => { results := [.lit (.bool true)], args := [d1, d2, d3] }
  | _ => none }
def interpolateFollowsRow : OpenClaim := { program := "ythelkgdmgihhiaagreat", sum := "321d9b0f6b33370910ae2af04dd8c7997ffd0fe6256ea3fb37d58958960f090d", func := "liquidcheck/liquidchecklaw18.InterpolateFollows", spec := "interpolateFollows", unfollowed := true, recurses := true, apart := false }
def InterpolateFollowsSaid : Prop := interpolateFollowsRow.holds Tryz.pinned (OpenSpec.ofChange interpolateFollowsSpec)

/-- ITS FALSE NEIGHBOUR: 'it returns false'. Refute it at one input. -/
def interpolateFollowsWrong : ChangeSpec := { name := "interpolateFollows", fn := fun _ => fun
  | [d1, d2, d3] => { results := [.lit (.bool false)], args := [d1, d2, d3] }
  | _ => none }
def InterpolateFollowsWrongFalsely : Prop := interpolateFollowsRow.holds Tryz.pinned (OpenSpec.ofChange interpolateFollowsWrong)

/-- 'liquidchecklaw18.InterpolateWrites': WHATEVER THE INPUT: true; the input reads as it did. -/
def interpolateWritesSpec : ChangeSpec := { name := "interpolateWrites", fn := fun _ => fun
  | [d] => { results := [.lit (.bool true)], args := [d] }
  | _ => none }
def interpolateWritesRow : OpenClaim := { program := "ythelkgdmgihhiaagreat", sum := "321d9b0f6b33370910ae2af04dd8c7997ffd0fe6256ea3fb37d58958960f090d", func := "liquidcheck/liquidchecklaw18.InterpolateWrites", spec := "interpolateWrites", unfollowed := true, recurses := true, apart := false }
def InterpolateWritesSaid : Prop := interpolateWritesRow.holds Tryz.pinned (OpenSpec.ofChange interpolateWritesSpec)

/-- ITS FALSE NEIGHBOUR: 'it returns false'. Refute it at one input. -/
def interpolateWritesWrong : ChangeSpec := { name := "interpolateWrites", fn := fun _ => fun
  | [d] => { results := [.lit (.bool false)], args := [d] }
  | _ => none }
def InterpolateWritesWrongFalsely : Prop := interpolateWritesRow.holds Tryz.pinned (OpenSpec.ofChange interpolateWritesWrong)

/-- 'liquidchecklaw18.InterpolateMore': WHATEVER THE INPUT: true; the input reads as it did. -/
def interpolateMoreSpec : ChangeSpec := { name := "interpolateMore", fn := fun _ => fun
  | [d1, d2, d3] => { results := [.lit (.bool true)], args := [d1, d2, d3] }
  | _ => none }
def interpolateMoreRow : OpenClaim := { program := "ythelkgdmgihhiaagreat", sum := "321d9b0f6b33370910ae2af04dd8c7997ffd0fe6256ea3fb37d58958960f090d", func := "liquidcheck/liquidchecklaw18.InterpolateMore", spec := "interpolateMore", unfollowed := true, recurses := true, apart := false }
def InterpolateMoreSaid : Prop := interpolateMoreRow.holds Tryz.pinned (OpenSpec.ofChange interpolateMoreSpec)

/-- ITS FALSE NEIGHBOUR: 'it returns false'. Refute it at one input. -/
def interpolateMoreWrong : ChangeSpec := { name := "interpolateMore", fn := fun _ => fun
  | [d1, d2, d3] => { results := [.lit (.bool false)], args := [d1, d2, d3] }
  | _ => none }
def InterpolateMoreWrongFalsely : Prop := interpolateMoreRow.holds Tryz.pinned (OpenSpec.ofChange interpolateMoreWrong)

/- THE SECOND FORM. 'bulk': how many values and letters a reading holds, each counted each time it is reached (what is shared counts as often as it is met; a slice's spare places count too). A statement '..UptoSaid' is the law's where the arguments, and the package variables that the reading takes, are together of bulk at most 1048576: NARROWER than '..Said'. Prove '..Said' where nothing that the law and all that it calls make is longer than what came in: it says more and counts as full. Else prove '..UptoSaid'. A law counts once. -/
mutual
def uptoBulk {H : Type} : DataW H → Nat
  | .lit (.string bytes) => bytes.length + 1
  | .lit _ => 1
  | .nil => 1
  | .ptr d => uptoBulk d + 1
  | .slice elems spare => uptoBulkAll elems + uptoBulkAll spare + 1
  | .agg parts => uptoBulkAll parts + 1
  | .iface _ d => uptoBulk d + 1
  | .map entries => uptoBulkEntries entries + 1
  | .held _ => 1
def uptoBulkAll {H : Type} : List (DataW H) → Nat
  | [] => 0
  | d :: r => uptoBulk d + uptoBulkAll r
def uptoBulkEntries {H : Type} : List (Lit × DataW H) → Nat
  | [] => 0
  | x :: r => uptoBulkEntry x + uptoBulkEntries r
def uptoBulkEntry {H : Type} : Lit × DataW H → Nat
  | (.string bytes, d) => bytes.length + uptoBulk d + 1
  | (_, d) => uptoBulk d + 1
 end
def uptoSmall : (H : Type) → List (DataW H) → Bool := fun _ ds => decide (uptoBulkAll ds ≤ 1048576)
def OpenSpec.upto (s : _root_.Go.ChangeSpec) : _root_.Go.OpenSpec := { _root_.Go.OpenSpec.ofChange s with cond := some uptoSmall }

/-- 'liquidchecklaw18.InterpolateBetween', WHERE WHAT IT READS IS OF BULK AT MOST 1048576: true; the input reads as it did. -/
def interpolateBetweenUptoRow : OpenClaim := { program := "ythelkgdmgihhiaagreat", sum := "321d9b0f6b33370910ae2af04dd8c7997ffd0fe6256ea3fb37d58958960f090d", func := "liquidcheck/liquidchecklaw18.InterpolateBetween", spec := "interpolateBetween", unfollowed := true, recurses := true, apart := false, narrowed := true }
def InterpolateBetweenUptoSaid : Prop := interpolateBetweenUptoRow.holds Tryz.pinned (OpenSpec.upto interpolateBetweenSpec)

/-- 'liquidchecklaw18.InterpolateFollows', WHERE WHAT IT READS IS OF BULK AT MOST 1048576: true; the input reads as it did. -/
def interpolateFollowsUptoRow : OpenClaim := { program := "ythelkgdmgihhiaagreat", sum := "321d9b0f6b33370910ae2af04dd8c7997ffd0fe6256ea3fb37d58958960f090d", func := "liquidcheck/liquidchecklaw18.InterpolateFollows", spec := "interpolateFollows", unfollowed := true, recurses := true, apart := false, narrowed := true }
def InterpolateFollowsUptoSaid : Prop := interpolateFollowsUptoRow.holds Tryz.pinned (OpenSpec.upto interpolateFollowsSpec)

/-- 'liquidchecklaw18.InterpolateWrites', WHERE WHAT IT READS IS OF BULK AT MOST 1048576: true; the input reads as it did. -/
def interpolateWritesUptoRow : OpenClaim := { program := "ythelkgdmgihhiaagreat", sum := "321d9b0f6b33370910ae2af04dd8c7997ffd0fe6256ea3fb37d58958960f090d", func := "liquidcheck/liquidchecklaw18.InterpolateWrites", spec := "interpolateWrites", unfollowed := true, recurses := true, apart := false, narrowed := true }
def InterpolateWritesUptoSaid : Prop := interpolateWritesUptoRow.holds Tryz.pinned (OpenSpec.upto interpolateWritesSpec)

/-- 'liquidchecklaw18.InterpolateMore', WHERE WHAT IT READS IS OF BULK AT MOST 1048576: true; the input reads as it did. -/
def interpolateMoreUptoRow : OpenClaim := { program := "ythelkgdmgihhiaagreat", sum := "321d9b0f6b33370910ae2af04dd8c7997ffd0fe6256ea3fb37d58958960f090d", func := "liquidcheck/liquidchecklaw18.InterpolateMore", spec := "interpolateMore", unfollowed := true, recurses := true, apart := false, narrowed := true }
def InterpolateMoreUptoSaid : Prop := interpolateMoreUptoRow.holds Tryz.pinned (OpenSpec.upto interpolateMoreSpec)

end Rows
end Go.Proofs.YthelkgdmgihhiaaGreat
