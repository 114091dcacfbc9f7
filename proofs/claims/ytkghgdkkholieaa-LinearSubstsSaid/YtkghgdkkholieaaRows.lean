/-
  No cell of these rows narrows 'for every input' (looked for: loops, veiled, ifaces, maps, wideKeys, modest, calm, conditions, laid).
  DERIVED. THE GIVEN ROWS OF THIS SEAT. 5 by the template 'for every input the law returns true; each argument reads behind the call as it read before'; 0 by the template 'total and deterministic' (their statements: YtkghgdkkholieaaTotals.lean).
  GIVEN WITH THE SEED: the statements are not yours to turn. If you find one false, say at which input.
  Laid BY PROGRAM, IN A SANDBOX (cutbox-rows.mjs): the forced cells as the released guide's own fill.sh prints them over the translation 6327a978c9caf0c4… (all of the seat's roots in one cut). By AI agents, Wed Nov 11 2026. No macro, syntax, notation, axiom, sorry.
-/
import Derived.Test.YtkghgdkkholieaaChecked
import GoSem.Claim
import GoSem.ClaimJoined
import GoSem.ClaimMapViews
import Derived.JoinedTies
import Derived.KernelRfl
namespace Go.Proofs.Ytkghgdkkholieaa
/- THE CELL 'sum', in the pinned program and in every row, IS THE sha256 OF THE DUMP (.gsa) THAT YtkghgdkkholieaaProg.lean LOADS. Nothing in Lean hashes anything: it is a label: what it is worth is what the hold of that sum in a sandbox is worth. -/
noncomputable def Try.pinned : Pinned := { name := "ytkghgdkkholieaa", sum := "6327a978c9caf0c4d38d6c51b779f133fff0812527be80460acb7a33c850c800", checked := Try.checked }
namespace Rows
def none {H : Type} : Left H := { results := [], args := [] }

/-- 'liquidchecklaw11.LinearRows': WHATEVER THE INPUT: true; the input reads as it did. -/
def linearRowsSpec : ChangeSpec := { name := "linearRows", fn := fun _ => fun
  | [d] => { results := [.lit (.bool true)], args := [d] }
  | _ => none }
def linearRowsRow : OpenClaim := { program := "ytkghgdkkholieaa", sum := "6327a978c9caf0c4d38d6c51b779f133fff0812527be80460acb7a33c850c800", func := "liquidcheck/liquidchecklaw11.LinearRows", spec := "linearRows", unfollowed := true, recurses := true, apart := false }
def LinearRowsSaid : Prop := linearRowsRow.holds Try.pinned (OpenSpec.ofChange linearRowsSpec)

/-- ITS FALSE NEIGHBOUR: 'it returns false'. Refute it at one input. -/
def linearRowsWrong : ChangeSpec := { name := "linearRows", fn := fun _ => fun
  | [d] => { results := [.lit (.bool false)], args := [d] }
  | _ => none }
def LinearRowsWrongFalsely : Prop := linearRowsRow.holds Try.pinned (OpenSpec.ofChange linearRowsWrong)

/-- 'liquidchecklaw11.LinearValues': WHATEVER THE INPUT: true; the input reads as it did. -/
def linearValuesSpec : ChangeSpec := { name := "linearValues", fn := fun _ => fun
  | [d1, d2] => { results := [.lit (.bool true)], args := [d1, d2] }
  | _ => none }
def linearValuesRow : OpenClaim := { program := "ytkghgdkkholieaa", sum := "6327a978c9caf0c4d38d6c51b779f133fff0812527be80460acb7a33c850c800", func := "liquidcheck/liquidchecklaw11.LinearValues", spec := "linearValues", unfollowed := true, recurses := true, apart := false }
def LinearValuesSaid : Prop := linearValuesRow.holds Try.pinned (OpenSpec.ofChange linearValuesSpec)

/-- ITS FALSE NEIGHBOUR: 'it returns false'. Refute it at one input. -/
def linearValuesWrong : ChangeSpec := { name := "linearValues", fn := fun _ => fun
  | [d1, d2] => { results := [.lit (.bool false)], args := [d1, d2] }
  | _ => none }
def LinearValuesWrongFalsely : Prop := linearValuesRow.holds Try.pinned (OpenSpec.ofChange linearValuesWrong)

/-- 'liquidchecklaw11.LinearSolutions': WHATEVER THE INPUT: true; the input reads as it did. -/
def linearSolutionsSpec : ChangeSpec := { name := "linearSolutions", fn := fun _ => fun
  | [d1, d2, d3] => { results := [.lit (.bool true)], args := [d1, d2, d3] }
  | _ => none }
def linearSolutionsRow : OpenClaim := { program := "ytkghgdkkholieaa", sum := "6327a978c9caf0c4d38d6c51b779f133fff0812527be80460acb7a33c850c800", func := "liquidcheck/liquidchecklaw11.LinearSolutions", spec := "linearSolutions", unfollowed := true, recurses := true, apart := false }
def LinearSolutionsSaid : Prop := linearSolutionsRow.holds Try.pinned (OpenSpec.ofChange linearSolutionsSpec)

/-- ITS FALSE NEIGHBOUR: 'it returns false'. Refute it at one input. -/
def linearSolutionsWrong : ChangeSpec := { name := "linearSolutions", fn := fun _ => fun
  | [d1, d2, d3] => { results := [.lit (.bool false)], args := [d1, d2, d3] }
  | _ => none }
def LinearSolutionsWrongFalsely : Prop := linearSolutionsRow.holds Try.pinned (OpenSpec.ofChange linearSolutionsWrong)

/-- 'liquidchecklaw11.LinearSums': WHATEVER THE INPUT: true; the input reads as it did. -/
def linearSumsSpec : ChangeSpec := { name := "linearSums", fn := fun _ => fun
  | [d1, d2, d3] => { results := [.lit (.bool true)], args := [d1, d2, d3] }
  | _ => none }
def linearSumsRow : OpenClaim := { program := "ytkghgdkkholieaa", sum := "6327a978c9caf0c4d38d6c51b779f133fff0812527be80460acb7a33c850c800", func := "liquidcheck/liquidchecklaw11.LinearSums", spec := "linearSums", unfollowed := true, recurses := true, apart := false }
def LinearSumsSaid : Prop := linearSumsRow.holds Try.pinned (OpenSpec.ofChange linearSumsSpec)

/-- ITS FALSE NEIGHBOUR: 'it returns false'. Refute it at one input. -/
def linearSumsWrong : ChangeSpec := { name := "linearSums", fn := fun _ => fun
  | [d1, d2, d3] => { results := [.lit (.bool false)], args := [d1, d2, d3] }
  | _ => none }
def LinearSumsWrongFalsely : Prop := linearSumsRow.holds Try.pinned (OpenSpec.ofChange linearSumsWrong)

/-- 'liquidchecklaw11.LinearSubsts': WHATEVER THE INPUT: true; the input reads as it did. -/
def linearSubstsSpec : ChangeSpec := { name := "linearSubsts", fn := fun _ => fun
  | [d1, d2, d3] => { results := [.lit (.bool true)], args := [d1, d2, d3] }
  | _ => none }
def linearSubstsRow : OpenClaim := { program := "ytkghgdkkholieaa", sum := "6327a978c9caf0c4d38d6c51b779f133fff0812527be80460acb7a33c850c800", func := "liquidcheck/liquidchecklaw11.LinearSubsts", spec := "linearSubsts", unfollowed := true, recurses := true, apart := false }
def LinearSubstsSaid : Prop := linearSubstsRow.holds Try.pinned (OpenSpec.ofChange linearSubstsSpec)

/-- ITS FALSE NEIGHBOUR: 'it returns false'. Refute it at one input. -/
def linearSubstsWrong : ChangeSpec := { name := "linearSubsts", fn := fun _ => fun
  | [d1, d2, d3] => { results := [.lit (.bool false)], args := [d1, d2, d3] }
  | _ => none }
def LinearSubstsWrongFalsely : Prop := linearSubstsRow.holds Try.pinned (OpenSpec.ofChange linearSubstsWrong)

/- THE SECOND FORM. 'bulk': how many values and letters a reading holds, each counted each time it is reached (what is shared counts as often as it is met; a slice's spare places count too). A statement '..UptoSaid' is the law's where the arguments, and the package variables that the reading takes, are together of bulk at most 1048576: NARROWER than '..Said'. Prove '..Said' where nothing that the law and all that it calls make is longer than what came in: it says more and counts as full. Else prove '..UptoSaid'. A law counts once. -/
mutual
def uptoBulk {H : Type} : DataW H → Nat
  | .lit (.string bytes) => bytes.length + 1
  | .lit _ => 1
  | .nil => 1
  | .ptr d => uptoBulk d + 1
  | .slice elems spare => uptoBulkAll elems + uptoBulkAll spare + 1
  | .agg parts => uptoBulkAll parts + 1
  | .iface _ d => uptoBulk d + 1
  | .map entries => uptoBulkEntries entries + 1
  | .held _ => 1
def uptoBulkAll {H : Type} : List (DataW H) → Nat
  | [] => 0
  | d :: r => uptoBulk d + uptoBulkAll r
def uptoBulkEntries {H : Type} : List (Lit × DataW H) → Nat
  | [] => 0
  | x :: r => uptoBulkEntry x + uptoBulkEntries r
def uptoBulkEntry {H : Type} : Lit × DataW H → Nat
  | (.string bytes, d) => bytes.length + uptoBulk d + 1
  | (_, d) => uptoBulk d + 1
 end
def uptoSmall : (H : Type) → List (DataW H) → Bool := fun _ ds => decide (uptoBulkAll ds ≤ 1048576)
def OpenSpec.upto (s : _root_.Go.ChangeSpec) : _root_.Go.OpenSpec := { _root_.Go.OpenSpec.ofChange s with cond := some uptoSmall }

/-- 'liquidchecklaw11.LinearRows', WHERE WHAT IT READS IS OF BULK AT MOST 1048576: true; the input reads as it did. -/
def linearRowsUptoRow : OpenClaim := { program := "ytkghgdkkholieaa", sum := "6327a978c9caf0c4d38d6c51b779f133fff0812527be80460acb7a33c850c800", func := "liquidcheck/liquidchecklaw11.LinearRows", spec := "linearRows", unfollowed := true, recurses := true, apart := false, narrowed := true }
def LinearRowsUptoSaid : Prop := linearRowsUptoRow.holds Try.pinned (OpenSpec.upto linearRowsSpec)

/-- 'liquidchecklaw11.LinearValues', WHERE WHAT IT READS IS OF BULK AT MOST 1048576: true; the input reads as it did. -/
def linearValuesUptoRow : OpenClaim := { program := "ytkghgdkkholieaa", sum := "6327a978c9caf0c4d38d6c51b779f133fff0812527be80460acb7a33c850c800", func := "liquidcheck/liquidchecklaw11.LinearValues", spec := "linearValues", unfollowed := true, recurses := true, apart := false, narrowed := true }
def LinearValuesUptoSaid : Prop := linearValuesUptoRow.holds Try.pinned (OpenSpec.upto linearValuesSpec)

/-- 'liquidchecklaw11.LinearSolutions', WHERE WHAT IT READS IS OF BULK AT MOST 1048576: true; the input reads as it did. -/
def linearSolutionsUptoRow : OpenClaim := { program := "ytkghgdkkholieaa", sum := "6327a978c9caf0c4d38d6c51b779f133fff0812527be80460acb7a33c850c800", func := "liquidcheck/liquidchecklaw11.LinearSolutions", spec := "linearSolutions", unfollowed := true, recurses := true, apart := false, narrowed := true }
def LinearSolutionsUptoSaid : Prop := linearSolutionsUptoRow.holds Try.pinned (OpenSpec.upto linearSolutionsSpec)

/-- 'liquidchecklaw11.LinearSums', WHERE WHAT IT READS IS OF BULK AT MOST 1048576: true; the input reads as it did. -/
def linearSumsUptoRow : OpenClaim := { program := "ytkghgdkkholieaa", sum := "6327a978c9caf0c4d38d6c51b779f133fff0812527be80460acb7a33c850c800", func := "liquidcheck/liquidchecklaw11.LinearSums", spec := "linearSums", unfollowed := true, recurses := true, apart := false, narrowed := true }
def LinearSumsUptoSaid : Prop := linearSumsUptoRow.holds Try.pinned (OpenSpec.upto linearSumsSpec)

/-- 'liquidchecklaw11.LinearSubsts', WHERE WHAT IT READS IS OF BULK AT MOST 1048576: true; the input reads as it did. -/
def linearSubstsUptoRow : OpenClaim := { program := "ytkghgdkkholieaa", sum := "6327a978c9caf0c4d38d6c51b779f133fff0812527be80460acb7a33c850c800", func := "liquidcheck/liquidchecklaw11.LinearSubsts", spec := "linearSubsts", unfollowed := true, recurses := true, apart := false, narrowed := true }
def LinearSubstsUptoSaid : Prop := linearSubstsUptoRow.holds Try.pinned (OpenSpec.upto linearSubstsSpec)

end Rows
end Go.Proofs.Ytkghgdkkholieaa
