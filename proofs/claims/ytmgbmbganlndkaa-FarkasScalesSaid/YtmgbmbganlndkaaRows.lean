/-
  No cell of these rows narrows 'for every input' (looked for: loops, veiled, ifaces, maps, wideKeys, modest, calm, conditions, laid).
  DERIVED. THE GIVEN ROWS OF THIS SEAT. 4 by the template 'for every input the law returns true; each argument reads behind the call as it read before'; 0 by the template 'total and deterministic' (their statements: YtmgbmbganlndkaaTotals.lean).
  GIVEN WITH THE SEED: the statements are not yours to turn. If you find one false, say at which input.
  Laid BY PROGRAM, IN A SANDBOX (cutbox-rows.mjs): the forced cells as the released guide's own fill.sh prints them over the translation a67feba00621905d… (all of the seat's roots in one cut). By AI agents, Wed Nov 11 2026. No macro, syntax, notation, axiom, sorry.
-/
import Derived.Test.YtmgbmbganlndkaaChecked
import GoSem.Claim
import GoSem.ClaimJoined
import GoSem.ClaimMapViews
import Derived.JoinedTies
import Derived.KernelRfl
namespace Go.Proofs.Ytmgbmbganlndkaa
/- THE CELL 'sum', in the pinned program and in every row, IS THE sha256 OF THE DUMP (.gsa) THAT YtmgbmbganlndkaaProg.lean LOADS. Nothing in Lean hashes anything: it is a label: what it is worth is what the hold of that sum in a sandbox is worth. -/
noncomputable def Try.pinned : Pinned := { name := "ytmgbmbganlndkaa", sum := "a67feba00621905d058a85f4c006f7d6e1069b45d04aa72427bdc03986a0f750", checked := Try.checked }
namespace Rows
def none {H : Type} : Left H := { results := [], args := [] }

/-- 'liquidchecklaw14.FarkasCombines': WHATEVER THE INPUT: true; the input reads as it did. -/
def farkasCombinesSpec : ChangeSpec := { name := "farkasCombines", fn := fun _ => fun
  | [d1, d2] => { results := [.lit (.bool true)], args := [d1, d2] }
  | _ => none }
def farkasCombinesRow : OpenClaim := { program := "ytmgbmbganlndkaa", sum := "a67feba00621905d058a85f4c006f7d6e1069b45d04aa72427bdc03986a0f750", func := "liquidcheck/liquidchecklaw14.FarkasCombines", spec := "farkasCombines", unfollowed := true, recurses := true, apart := false }
def FarkasCombinesSaid : Prop := farkasCombinesRow.holds Try.pinned (OpenSpec.ofChange farkasCombinesSpec)

/-- ITS FALSE NEIGHBOUR: 'it returns false'. Refute it at one input. -/
def farkasCombinesWrong : ChangeSpec := { name := "farkasCombines", fn := fun _ => fun
  | [d1, d2] => { results := [.lit (.bool false)], args := [d1, d2] }
  | _ => none }
def FarkasCombinesWrongFalsely : Prop := farkasCombinesRow.holds Try.pinned (OpenSpec.ofChange farkasCombinesWrong)

/-- 'liquidchecklaw14.FarkasTrims': WHATEVER THE INPUT: true; the input reads as it did. -/
def farkasTrimsSpec : ChangeSpec := { name := "farkasTrims", fn := fun _ => fun
  | [d1, d2] => { results := [.lit (.bool true)], args := [d1, d2] }
  | _ => none }
def farkasTrimsRow : OpenClaim := { program := "ytmgbmbganlndkaa", sum := "a67feba00621905d058a85f4c006f7d6e1069b45d04aa72427bdc03986a0f750", func := "liquidcheck/liquidchecklaw14.FarkasTrims", spec := "farkasTrims", unfollowed := true, recurses := true, apart := false }
def FarkasTrimsSaid : Prop := farkasTrimsRow.holds Try.pinned (OpenSpec.ofChange farkasTrimsSpec)

/-- ITS FALSE NEIGHBOUR: 'it returns false'. Refute it at one input. -/
def farkasTrimsWrong : ChangeSpec := { name := "farkasTrims", fn := fun _ => fun
  | [d1, d2] => { results := [.lit (.bool false)], args := [d1, d2] }
  | _ => none }
def FarkasTrimsWrongFalsely : Prop := farkasTrimsRow.holds Try.pinned (OpenSpec.ofChange farkasTrimsWrong)

/-- 'liquidchecklaw14.FarkasSound': WHATEVER THE INPUT: true; the input reads as it did. -/
def farkasSoundSpec : ChangeSpec := { name := "farkasSound", fn := fun _ => fun
  | [d1, d2, d3] => { results := [.lit (.bool true)], args := [d1, d2, d3] }
  | _ => none }
def farkasSoundRow : OpenClaim := { program := "ytmgbmbganlndkaa", sum := "a67feba00621905d058a85f4c006f7d6e1069b45d04aa72427bdc03986a0f750", func := "liquidcheck/liquidchecklaw14.FarkasSound", spec := "farkasSound", unfollowed := true, recurses := true, apart := false }
def FarkasSoundSaid : Prop := farkasSoundRow.holds Try.pinned (OpenSpec.ofChange farkasSoundSpec)

/-- ITS FALSE NEIGHBOUR: 'it returns false'. Refute it at one input. -/
def farkasSoundWrong : ChangeSpec := { name := "farkasSound", fn := fun _ => fun
  | [d1, d2, d3] => { results := [.lit (.bool false)], args := [d1, d2, d3] }
  | _ => none }
def FarkasSoundWrongFalsely : Prop := farkasSoundRow.holds Try.pinned (OpenSpec.ofChange farkasSoundWrong)

/-- 'liquidchecklaw14.FarkasScales': WHATEVER THE INPUT: true; the input reads as it did. -/
def farkasScalesSpec : ChangeSpec := { name := "farkasScales", fn := fun _ => fun
  | [d1, d2, d3] => { results := [.lit (.bool true)], args := [d1, d2, d3] }
  | _ => none }
def farkasScalesRow : OpenClaim := { program := "ytmgbmbganlndkaa", sum := "a67feba00621905d058a85f4c006f7d6e1069b45d04aa72427bdc03986a0f750", func := "liquidcheck/liquidchecklaw14.FarkasScales", spec := "farkasScales", unfollowed := true, recurses := true, apart := false }
def FarkasScalesSaid : Prop := farkasScalesRow.holds Try.pinned (OpenSpec.ofChange farkasScalesSpec)

/-- ITS FALSE NEIGHBOUR: 'it returns false'. Refute it at one input. -/
def farkasScalesWrong : ChangeSpec := { name := "farkasScales", fn := fun _ => fun
  | [d1, d2, d3] => { results := [.lit (.bool false)], args := [d1, d2, d3] }
  | _ => none }
def FarkasScalesWrongFalsely : Prop := farkasScalesRow.holds Try.pinned (OpenSpec.ofChange farkasScalesWrong)

/- THE SECOND FORM. 'bulk': how many values and letters a reading holds, each counted each time it is reached (what is shared counts as often as it is met; a slice's spare places count too). A statement '..UptoSaid' is the law's where the arguments, and the package variables that the reading takes, are together of bulk at most 1048576: NARROWER than '..Said'. Prove '..Said' where nothing that the law and all that it calls make is longer than what came in: it says more and counts as full. Else prove '..UptoSaid'. A law counts once. -/
mutual
def uptoBulk {H : Type} : DataW H → Nat
  | .lit (.string bytes) => bytes.length + 1
  | .lit _ => 1
  | .nil => 1
  | .ptr d => uptoBulk d + 1
  | .slice elems spare => uptoBulkAll elems + uptoBulkAll spare + 1
  | .agg parts => uptoBulkAll parts + 1
  | .iface _ d => uptoBulk d + 1
  | .map entries => uptoBulkEntries entries + 1
  | .held _ => 1
def uptoBulkAll {H : Type} : List (DataW H) → Nat
  | [] => 0
  | d :: r => uptoBulk d + uptoBulkAll r
def uptoBulkEntries {H : Type} : List (Lit × DataW H) → Nat
  | [] => 0
  | x :: r => uptoBulkEntry x + uptoBulkEntries r
def uptoBulkEntry {H : Type} : Lit × DataW H → Nat
  | (.string bytes, d) => bytes.length + uptoBulk d + 1
  | (_, d) => uptoBulk d + 1
 end
def uptoSmall : (H : Type) → List (DataW H) → Bool := fun _ ds => decide (uptoBulkAll ds ≤ 1048576)
def OpenSpec.upto (s : _root_.Go.ChangeSpec) : _root_.Go.OpenSpec := { _root_.Go.OpenSpec.ofChange s with cond := some uptoSmall }

/-- 'liquidchecklaw14.FarkasCombines', WHERE WHAT IT READS IS OF BULK AT MOST 1048576: true; the input reads as it did. -/
def farkasCombinesUptoRow : OpenClaim := { program := "ytmgbmbganlndkaa", sum := "a67feba00621905d058a85f4c006f7d6e1069b45d04aa72427bdc03986a0f750", func := "liquidcheck/liquidchecklaw14.FarkasCombines", spec := "farkasCombines", unfollowed := true, recurses := true, apart := false, narrowed := true }
def FarkasCombinesUptoSaid : Prop := farkasCombinesUptoRow.holds Try.pinned (OpenSpec.upto farkasCombinesSpec)

/-- 'liquidchecklaw14.FarkasTrims', WHERE WHAT IT READS IS OF BULK AT MOST 1048576: true; the input reads as it did. -/
def farkasTrimsUptoRow : OpenClaim := { program := "ytmgbmbganlndkaa", sum := "a67feba00621905d058a85f4c006f7d6e1069b45d04aa72427bdc03986a0f750", func := "liquidcheck/liquidchecklaw14.FarkasTrims", spec := "farkasTrims", unfollowed := true, recurses := true, apart := false, narrowed := true }
def FarkasTrimsUptoSaid : Prop := farkasTrimsUptoRow.holds Try.pinned (OpenSpec.upto farkasTrimsSpec)

/-- 'liquidchecklaw14.FarkasSound', WHERE WHAT IT READS IS OF BULK AT MOST 1048576: true; the input reads as it did. -/
def farkasSoundUptoRow : OpenClaim := { program := "ytmgbmbganlndkaa", sum := "a67feba00621905d058a85f4c006f7d6e1069b45d04aa72427bdc03986a0f750", func := "liquidcheck/liquidchecklaw14.FarkasSound", spec := "farkasSound", unfollowed := true, recurses := true, apart := false, narrowed := true }
def FarkasSoundUptoSaid : Prop := farkasSoundUptoRow.holds Try.pinned (OpenSpec.upto farkasSoundSpec)

/-- 'liquidchecklaw14.FarkasScales', WHERE WHAT IT READS IS OF BULK AT MOST 1048576: true; the input reads as it did. -/
def farkasScalesUptoRow : OpenClaim := { program := "ytmgbmbganlndkaa", sum := "a67feba00621905d058a85f4c006f7d6e1069b45d04aa72427bdc03986a0f750", func := "liquidcheck/liquidchecklaw14.FarkasScales", spec := "farkasScales", unfollowed := true, recurses := true, apart := false, narrowed := true }
def FarkasScalesUptoSaid : Prop := farkasScalesUptoRow.holds Try.pinned (OpenSpec.upto farkasScalesSpec)

end Rows
end Go.Proofs.Ytmgbmbganlndkaa
