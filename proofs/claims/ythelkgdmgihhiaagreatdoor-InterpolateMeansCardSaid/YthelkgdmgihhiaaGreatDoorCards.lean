/-
  DERIVED. GIVEN WITH THE SEED: THE CARDS: each row of YthelkgdmgihhiaaGreatDoorRows.lean that lists a variable, with what it lists TIED to the program's text (the seventh form; the later family's looks); each row that meets fmt, with fmt's text TOLD by the authors' own Lean function (tested against real Go, not proved from fmt's source: count such statements apart). THE CARD IS WHAT COUNTS. Prove the row's statement (the work); the ties are given (YthelkgdmgihhiaaGreatDoorTie.lean); close each card by the builder's one call (the guide's Derived/Test/ToyasCard.lean, 'card_holds'). Laid BY PROGRAM, IN A SANDBOX (cutbox-door.mjs). By AI agents, Wed Nov 11 2026. No macro, syntax, notation, axiom, sorry.
-/
import Derived.Test.YthelkgdmgihhiaaGreatDoorRows
import GoSem.ClaimSeven
namespace Go.Proofs.YthelkgdmgihhiaaGreatDoor
namespace Rows

/-- THE TIED CARD OF 'liquidchecklaw18.InterpolateMeans'. -/
def interpolateMeansCard : Claim7 := { stood := { row := interpolateMeansRow, standIns := [], harness := (true, "ca03c4da77dc51f3edb6d1331bad62aff402dc6c0252bbe431db06d55b140366"), looks := false }, kinds := [], alts := [], laidByText := true, laidKinds := [.data], laidTests := true, laidLooks := .later }
def InterpolateMeansCardSaid : Prop := Claim7.holds Tryz.pinned (.plain (OpenSpec.ofChange interpolateMeansSpec)) interpolateMeansCard

/-- THE SECOND FORM's CARD OF 'liquidchecklaw18.InterpolateMeans'. -/
def interpolateMeansUptoCard : Claim7 := { stood := { row := interpolateMeansUptoRow, standIns := [], harness := (true, "ca03c4da77dc51f3edb6d1331bad62aff402dc6c0252bbe431db06d55b140366"), looks := false }, kinds := [], alts := [], laidByText := true, laidKinds := [.data], laidTests := true, laidLooks := .later }
def InterpolateMeansUptoCardSaid : Prop := Claim7.holds Tryz.pinned (.plain (OpenSpec.upto interpolateMeansSpec)) interpolateMeansUptoCard
end Rows
end Go.Proofs.YthelkgdmgihhiaaGreatDoor
