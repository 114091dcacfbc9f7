/-
  No cell of these rows narrows 'for every input' (looked for: loops, veiled, ifaces, maps, wideKeys, modest, calm, conditions, laid).
  DERIVED. THE GIVEN ROWS OF THIS SEAT. 4 by the template 'for every input the law returns true; each argument reads behind the call as it read before'; 0 by the template 'total and deterministic' (their statements: YtcandeobhlfkbaaTotals.lean).
  GIVEN WITH THE SEED: the statements are not yours to turn. If you find one false, say at which input.
  Laid BY PROGRAM, IN A SANDBOX (cutbox-rows.mjs): the forced cells as the released guide's own fill.sh prints them over the translation 1ef124ed541bba60… (all of the seat's roots in one cut). By AI agents, Wed Nov 11 2026. No macro, syntax, notation, axiom, sorry.
-/
import Derived.Test.YtcandeobhlfkbaaChecked
import GoSem.Claim
import GoSem.ClaimJoined
import GoSem.ClaimMapViews
import Derived.JoinedTies
import Derived.KernelRfl
namespace Go.Proofs.Ytcandeobhlfkbaa
/- THE CELL 'sum', in the pinned program and in every row, IS THE sha256 OF THE DUMP (.gsa) THAT YtcandeobhlfkbaaProg.lean LOADS. Nothing in Lean hashes anything: it is a label: what it is worth is what the hold of that sum in a sandbox is worth. -/
noncomputable def Try.pinned : Pinned := { name := "ytcandeobhlfkbaa", sum := "1ef124ed541bba603941bd1ff507bdefb7451775b33af394cfe125538f26e45a", checked := Try.checked }
namespace Rows
def none {H : Type} : Left H := { results := [], args := [] }

/-- 'liquidchecklaw15.ModelsSatisfies': WHATEVER THE INPUT: true; the input reads as it did. -/
def modelsSatisfiesSpec : ChangeSpec := { name := "modelsSatisfies", fn := fun _ => fun
  | [d1, d2] => { results := [.lit (.bool true)], args := [d1, d2] }
  | _ => none }
def modelsSatisfiesRow : OpenClaim := { program := "ytcandeobhlfkbaa", sum := "1ef124ed541bba603941bd1ff507bdefb7451775b33af394cfe125538f26e45a", func := "liquidcheck/liquidchecklaw15.ModelsSatisfies", spec := "modelsSatisfies", unfollowed := true, recurses := true, apart := false }
def ModelsSatisfiesSaid : Prop := modelsSatisfiesRow.holds Try.pinned (OpenSpec.ofChange modelsSatisfiesSpec)

/-- ITS FALSE NEIGHBOUR: 'it returns false'. Refute it at one input. -/
def modelsSatisfiesWrong : ChangeSpec := { name := "modelsSatisfies", fn := fun _ => fun
  | [d1, d2] => { results := [.lit (.bool false)], args := [d1, d2] }
  | _ => none }
def ModelsSatisfiesWrongFalsely : Prop := modelsSatisfiesRow.holds Try.pinned (OpenSpec.ofChange modelsSatisfiesWrong)

/-- 'liquidchecklaw15.ModelsValues': WHATEVER THE INPUT: true; the input reads as it did. -/
def modelsValuesSpec : ChangeSpec := { name := "modelsValues", fn := fun _ => fun
  | [d1, d2, d3] => { results := [.lit (.bool true)], args := [d1, d2, d3] }
  | _ => none }
def modelsValuesRow : OpenClaim := { program := "ytcandeobhlfkbaa", sum := "1ef124ed541bba603941bd1ff507bdefb7451775b33af394cfe125538f26e45a", func := "liquidcheck/liquidchecklaw15.ModelsValues", spec := "modelsValues", unfollowed := true, recurses := true, apart := false }
def ModelsValuesSaid : Prop := modelsValuesRow.holds Try.pinned (OpenSpec.ofChange modelsValuesSpec)

/-- ITS FALSE NEIGHBOUR: 'it returns false'. Refute it at one input. -/
def modelsValuesWrong : ChangeSpec := { name := "modelsValues", fn := fun _ => fun
  | [d1, d2, d3] => { results := [.lit (.bool false)], args := [d1, d2, d3] }
  | _ => none }
def ModelsValuesWrongFalsely : Prop := modelsValuesRow.holds Try.pinned (OpenSpec.ofChange modelsValuesWrong)

/-- 'liquidchecklaw15.ModelsFirst': WHATEVER THE INPUT: true; the input reads as it did. -/
def modelsFirstSpec : ChangeSpec := { name := "modelsFirst", fn := fun _ => fun
  | [d1, d2, d3] => { results := [.lit (.bool true)], args := [d1, d2, d3] }
  | _ => none }
def modelsFirstRow : OpenClaim := { program := "ytcandeobhlfkbaa", sum := "1ef124ed541bba603941bd1ff507bdefb7451775b33af394cfe125538f26e45a", func := "liquidcheck/liquidchecklaw15.ModelsFirst", spec := "modelsFirst", unfollowed := true, recurses := true, apart := false }
def ModelsFirstSaid : Prop := modelsFirstRow.holds Try.pinned (OpenSpec.ofChange modelsFirstSpec)

/-- ITS FALSE NEIGHBOUR: 'it returns false'. Refute it at one input. -/
def modelsFirstWrong : ChangeSpec := { name := "modelsFirst", fn := fun _ => fun
  | [d1, d2, d3] => { results := [.lit (.bool false)], args := [d1, d2, d3] }
  | _ => none }
def ModelsFirstWrongFalsely : Prop := modelsFirstRow.holds Try.pinned (OpenSpec.ofChange modelsFirstWrong)

/-- 'liquidchecklaw15.ModelsOrders': WHATEVER THE INPUT: true; the input reads as it did. -/
def modelsOrdersSpec : ChangeSpec := { name := "modelsOrders", fn := fun _ => fun
  | [d1, d2, d3] => { results := [.lit (.bool true)], args := [d1, d2, d3] }
  | _ => none }
def modelsOrdersRow : OpenClaim := { program := "ytcandeobhlfkbaa", sum := "1ef124ed541bba603941bd1ff507bdefb7451775b33af394cfe125538f26e45a", func := "liquidcheck/liquidchecklaw15.ModelsOrders", spec := "modelsOrders", unfollowed := true, recurses := true, apart := false }
def ModelsOrdersSaid : Prop := modelsOrdersRow.holds Try.pinned (OpenSpec.ofChange modelsOrdersSpec)

/-- ITS FALSE NEIGHBOUR: 'it returns false'. Refute it at one input. -/
def modelsOrdersWrong : ChangeSpec := { name := "modelsOrders", fn := fun _ => fun
  | [d1, d2, d3] => { results := [.lit (.bool false)], args := [d1, d2, d3] }
  | _ => none }
def ModelsOrdersWrongFalsely : Prop := modelsOrdersRow.holds Try.pinned (OpenSpec.ofChange modelsOrdersWrong)

/- THE SECOND FORM. 'bulk': how many values and letters a reading holds, each counted each time it is reached (what is shared counts as often as it is met; a slice's spare places count too). A statement '..UptoSaid' is the law's where the arguments, and the package variables that the reading takes, are together of bulk at most 1048576: NARROWER than '..Said'. Prove '..Said' where nothing that the law and all that it calls make is longer than what came in: it says more and counts as full. Else prove '..UptoSaid'. A law counts once. -/
mutual
def uptoBulk {H : Type} : DataW H → Nat
  | .lit (.string bytes) => bytes.length + 1
  | .lit _ => 1
  | .nil => 1
  | .ptr d => uptoBulk d + 1
  | .slice elems spare => uptoBulkAll elems + uptoBulkAll spare + 1
  | .agg parts => uptoBulkAll parts + 1
  | .iface _ d => uptoBulk d + 1
  | .map entries => uptoBulkEntries entries + 1
  | .held _ => 1
def uptoBulkAll {H : Type} : List (DataW H) → Nat
  | [] => 0
  | d :: r => uptoBulk d + uptoBulkAll r
def uptoBulkEntries {H : Type} : List (Lit × DataW H) → Nat
  | [] => 0
  | x :: r => uptoBulkEntry x + uptoBulkEntries r
def uptoBulkEntry {H : Type} : Lit × DataW H → Nat
  | (.string bytes, d) => bytes.length + uptoBulk d + 1
  | (_, d) => uptoBulk d + 1
 end
def uptoSmall : (H : Type) → List (DataW H) → Bool := fun _ ds => decide (uptoBulkAll ds ≤ 1048576)
def OpenSpec.upto (s : _root_.Go.ChangeSpec) : _root_.Go.OpenSpec := { _root_.Go.OpenSpec.ofChange s with cond := some uptoSmall }

/-- 'liquidchecklaw15.ModelsSatisfies', WHERE WHAT IT READS IS OF BULK AT MOST 1048576: true; the input reads as it did. -/
def modelsSatisfiesUptoRow : OpenClaim := { program := "ytcandeobhlfkbaa", sum := "1ef124ed541bba603941bd1ff507bdefb7451775b33af394cfe125538f26e45a", func := "liquidcheck/liquidchecklaw15.ModelsSatisfies", spec := "modelsSatisfies", unfollowed := true, recurses := true, apart := false, narrowed := true }
def ModelsSatisfiesUptoSaid : Prop := modelsSatisfiesUptoRow.holds Try.pinned (OpenSpec.upto modelsSatisfiesSpec)

/-- 'liquidchecklaw15.ModelsValues', WHERE WHAT IT READS IS OF BULK AT MOST 1048576: true; the input reads as it did. -/
def modelsValuesUptoRow : OpenClaim := { program := "ytcandeobhlfkbaa", sum := "1ef124ed541bba603941bd1ff507bdefb7451775b33af394cfe125538f26e45a", func := "liquidcheck/liquidchecklaw15.ModelsValues", spec := "modelsValues", unfollowed := true, recurses := true, apart := false, narrowed := true }
def ModelsValuesUptoSaid : Prop := modelsValuesUptoRow.holds Try.pinned (OpenSpec.upto modelsValuesSpec)

/-- 'liquidchecklaw15.ModelsFirst', WHERE WHAT IT READS IS OF BULK AT MOST 1048576: true; the input reads as it did. -/
def modelsFirstUptoRow : OpenClaim := { program := "ytcandeobhlfkbaa", sum := "1ef124ed541bba603941bd1ff507bdefb7451775b33af394cfe125538f26e45a", func := "liquidcheck/liquidchecklaw15.ModelsFirst", spec := "modelsFirst", unfollowed := true, recurses := true, apart := false, narrowed := true }
def ModelsFirstUptoSaid : Prop := modelsFirstUptoRow.holds Try.pinned (OpenSpec.upto modelsFirstSpec)

/-- 'liquidchecklaw15.ModelsOrders', WHERE WHAT IT READS IS OF BULK AT MOST 1048576: true; the input reads as it did. -/
def modelsOrdersUptoRow : OpenClaim := { program := "ytcandeobhlfkbaa", sum := "1ef124ed541bba603941bd1ff507bdefb7451775b33af394cfe125538f26e45a", func := "liquidcheck/liquidchecklaw15.ModelsOrders", spec := "modelsOrders", unfollowed := true, recurses := true, apart := false, narrowed := true }
def ModelsOrdersUptoSaid : Prop := modelsOrdersUptoRow.holds Try.pinned (OpenSpec.upto modelsOrdersSpec)

end Rows
end Go.Proofs.Ytcandeobhlfkbaa
