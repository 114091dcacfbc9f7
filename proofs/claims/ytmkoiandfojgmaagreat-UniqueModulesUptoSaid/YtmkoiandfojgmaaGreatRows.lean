/-
  NARROWER THAN 'FOR EVERY INPUT', by the rows' own cells (each row's printed sentence says how): UniqueModules: loops · UniqueUsed: loops.
  DERIVED. THE GIVEN ROWS OF THIS SEAT. 2 by the template 'for every input the law returns true; each argument reads behind the call as it read before'; 0 by the template 'total and deterministic' (their statements: YtmkoiandfojgmaaGreatTotals.lean).
  GIVEN WITH THE SEED: the statements are not yours to turn. If you find one false, say at which input.
  Laid BY PROGRAM, IN A SANDBOX (cutbox-rows.mjs): the forced cells as the released guide's own fill.sh prints them over the translation 0d5213745978452f… (all of the seat's roots in one cut). By AI agents, Wed Nov 11 2026. No macro, syntax, notation, axiom, sorry.
-/
import Derived.Test.YtmkoiandfojgmaaGreatChecked
import GoSem.Claim
import GoSem.ClaimJoined
import GoSem.ClaimMapViews
import Derived.JoinedTies
import Derived.KernelRfl
namespace Go.Proofs.YtmkoiandfojgmaaGreat
/- THE CELL 'sum', in the pinned program and in every row, IS THE sha256 OF THE DUMP (.gsa) THAT YtmkoiandfojgmaaGreatProg.lean LOADS. Nothing in Lean hashes anything: it is a label: what it is worth is what the hold of that sum in a sandbox is worth. -/
noncomputable def Tryz.pinned : Pinned := { name := "ytmkoiandfojgmaagreat", sum := "0d5213745978452fd7f6e11767924cc36df94ac50761a176d2cf52d45cc5c169", checked := Tryz.checked }
namespace Rows
def none {H : Type} : Left H := { results := [], args := [] }

/-- 'liquidchecklaw28.UniqueModules': WHATEVER THE INPUT: true; the input reads as it did. -/
def uniqueModulesSpec : ChangeSpec := { name := "uniqueModules", fn := fun _ => fun
  | [d] => { results := [.lit (.bool true)], args := [d] }
  | _ => none }
def uniqueModulesRow : OpenClaim := { program := "ytmkoiandfojgmaagreat", sum := "0d5213745978452fd7f6e11767924cc36df94ac50761a176d2cf52d45cc5c169", func := "liquidcheck/liquidchecklaw28.UniqueModules", spec := "uniqueModules", inPlace := ["maps.clone"], unfollowed := true, recurses := true, loops := true, apart := false }
def UniqueModulesSaid : Prop := uniqueModulesRow.holds Tryz.pinned (OpenSpec.ofChange uniqueModulesSpec)

/-- ITS FALSE NEIGHBOUR: 'it returns false'. Refute it at one input. -/
def uniqueModulesWrong : ChangeSpec := { name := "uniqueModules", fn := fun _ => fun
  | [d] => { results := [.lit (.bool false)], args := [d] }
  | _ => none }
def UniqueModulesWrongFalsely : Prop := uniqueModulesRow.holds Tryz.pinned (OpenSpec.ofChange uniqueModulesWrong)

/-- 'liquidchecklaw28.UniqueUsed': WHATEVER THE INPUT: true; the input reads as it did. -/
def uniqueUsedSpec : ChangeSpec := { name := "uniqueUsed", fn := fun _ => fun
  | [d] => { results := [.lit (.bool true)], args := [d] }
  | _ => none }
def uniqueUsedRow : OpenClaim := { program := "ytmkoiandfojgmaagreat", sum := "0d5213745978452fd7f6e11767924cc36df94ac50761a176d2cf52d45cc5c169", func := "liquidcheck/liquidchecklaw28.UniqueUsed", spec := "uniqueUsed", inPlace := ["maps.clone"], unfollowed := true, recurses := true, loops := true, apart := false }
def UniqueUsedSaid : Prop := uniqueUsedRow.holds Tryz.pinned (OpenSpec.ofChange uniqueUsedSpec)

/-- ITS FALSE NEIGHBOUR: 'it returns false'. Refute it at one input. -/
def uniqueUsedWrong : ChangeSpec := { name := "uniqueUsed", fn := fun _ => fun
  | [d] => { results := [.lit (.bool false)], args := [d] }
  | _ => none }
def UniqueUsedWrongFalsely : Prop := uniqueUsedRow.holds Tryz.pinned (OpenSpec.ofChange uniqueUsedWrong)

/- THE SECOND FORM. 'bulk': how many values and letters a reading holds, each counted each time it is reached (what is shared counts as often as it is met; a slice's spare places count too). A statement '..UptoSaid' is the law's where the arguments, and the package variables that the reading takes, are together of bulk at most 1048576: NARROWER than '..Said'. Prove '..Said' where nothing that the law and all that it calls make is longer than what came in: it says more and counts as full. Else prove '..UptoSaid'. A law counts once. -/
mutual
def uptoBulk {H : Type} : DataW H → Nat
  | .lit (.string bytes) => bytes.length + 1
  | .lit _ => 1
  | .nil => 1
  | .ptr d => uptoBulk d + 1
  | .slice elems spare => uptoBulkAll elems + uptoBulkAll spare + 1
  | .agg parts => uptoBulkAll parts + 1
  | .iface _ d => uptoBulk d + 1
  | .map entries => uptoBulkEntries entries + 1
  | .held _ => 1
def uptoBulkAll {H : Type} : List (DataW H) → Nat
  | [] => 0
  | d :: r => uptoBulk d + uptoBulkAll r
def uptoBulkEntries {H : Type} : List (Lit × DataW H) → Nat
  | [] => 0
  | x :: r => uptoBulkEntry x + uptoBulkEntries r
def uptoBulkEntry {H : Type} : Lit × DataW H → Nat
  | (.string bytes, d) => bytes.length + uptoBulk d + 1
  | (_, d) => uptoBulk d + 1
 end
def uptoSmall : (H : Type) → List (DataW H) → Bool := fun _ ds => decide (uptoBulkAll ds ≤ 1048576)
def OpenSpec.upto (s : _root_.Go.ChangeSpec) : _root_.Go.OpenSpec := { _root_.Go.OpenSpec.ofChange s with cond := some uptoSmall }

/-- 'liquidchecklaw28.UniqueModules', WHERE WHAT IT READS IS OF BULK AT MOST 1048576: true; the input reads as it did. -/
def uniqueModulesUptoRow : OpenClaim := { program := "ytmkoiandfojgmaagreat", sum := "0d5213745978452fd7f6e11767924cc36df94ac50761a176d2cf52d45cc5c169", func := "liquidcheck/liquidchecklaw28.UniqueModules", spec := "uniqueModules", inPlace := ["maps.clone"], unfollowed := true, recurses := true, loops := true, apart := false, narrowed := true }
def UniqueModulesUptoSaid : Prop := uniqueModulesUptoRow.holds Tryz.pinned (OpenSpec.upto uniqueModulesSpec)

/-- 'liquidchecklaw28.UniqueUsed', WHERE WHAT IT READS IS OF BULK AT MOST 1048576: true; the input reads as it did. -/
def uniqueUsedUptoRow : OpenClaim := { program := "ytmkoiandfojgmaagreat", sum := "0d5213745978452fd7f6e11767924cc36df94ac50761a176d2cf52d45cc5c169", func := "liquidcheck/liquidchecklaw28.UniqueUsed", spec := "uniqueUsed", inPlace := ["maps.clone"], unfollowed := true, recurses := true, loops := true, apart := false, narrowed := true }
def UniqueUsedUptoSaid : Prop := uniqueUsedUptoRow.holds Tryz.pinned (OpenSpec.upto uniqueUsedSpec)

end Rows
end Go.Proofs.YtmkoiandfojgmaaGreat
