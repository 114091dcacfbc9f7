/-
  DERIVED. GIVEN WITH THE SEED: THE CARDS: each row of YtkghgdkkholieaaDoorRows.lean that lists a variable, with what it lists TIED to the program's text (the seventh form; the later family's looks); each row that meets fmt, with fmt's text TOLD by the authors' own Lean function (tested against real Go, not proved from fmt's source: count such statements apart). THE CARD IS WHAT COUNTS. Prove the row's statement (the work); the ties are given (YtkghgdkkholieaaDoorTie.lean); close each card by the builder's one call (the guide's Derived/Test/ToyasCard.lean, 'card_holds'). Laid BY PROGRAM, IN A SANDBOX (cutbox-door.mjs). By AI agents, Wed Nov 11 2026. No macro, syntax, notation, axiom, sorry.
-/
import Derived.Test.YtkghgdkkholieaaDoorRows
import GoSem.ClaimSeven
namespace Go.Proofs.YtkghgdkkholieaaDoor
namespace Rows

/-- THE TIED CARD OF 'liquidchecklaw11.LinearTerms'. -/
def linearTermsCard : Claim7 := { stood := { row := linearTermsRow, standIns := [], harness := (true, "aac419b7e6fa456af13715f3d3fae08f1df811207de217740f2bf1089576d5c4"), looks := false }, kinds := [], alts := [], laidByText := true, laidKinds := [.data], laidTests := true, laidLooks := .later }
def LinearTermsCardSaid : Prop := Claim7.holds Tryd.pinned (.plain (OpenSpec.ofChange linearTermsSpec)) linearTermsCard

/-- THE TIED CARD OF 'liquidchecklaw11.LinearAgrees'. -/
def linearAgreesCard : Claim7 := { stood := { row := linearAgreesRow, standIns := [], harness := (true, "aac419b7e6fa456af13715f3d3fae08f1df811207de217740f2bf1089576d5c4"), looks := false }, kinds := [], alts := [], laidByText := true, laidKinds := [.data], laidTests := true, laidLooks := .later }
def LinearAgreesCardSaid : Prop := Claim7.holds Tryd.pinned (.plain (OpenSpec.ofChange linearAgreesSpec)) linearAgreesCard

/-- THE SECOND FORM's CARD OF 'liquidchecklaw11.LinearTerms'. -/
def linearTermsUptoCard : Claim7 := { stood := { row := linearTermsUptoRow, standIns := [], harness := (true, "aac419b7e6fa456af13715f3d3fae08f1df811207de217740f2bf1089576d5c4"), looks := false }, kinds := [], alts := [], laidByText := true, laidKinds := [.data], laidTests := true, laidLooks := .later }
def LinearTermsUptoCardSaid : Prop := Claim7.holds Tryd.pinned (.plain (OpenSpec.upto linearTermsSpec)) linearTermsUptoCard

/-- THE SECOND FORM's CARD OF 'liquidchecklaw11.LinearAgrees'. -/
def linearAgreesUptoCard : Claim7 := { stood := { row := linearAgreesUptoRow, standIns := [], harness := (true, "aac419b7e6fa456af13715f3d3fae08f1df811207de217740f2bf1089576d5c4"), looks := false }, kinds := [], alts := [], laidByText := true, laidKinds := [.data], laidTests := true, laidLooks := .later }
def LinearAgreesUptoCardSaid : Prop := Claim7.holds Tryd.pinned (.plain (OpenSpec.upto linearAgreesSpec)) linearAgreesUptoCard
end Rows
end Go.Proofs.YtkghgdkkholieaaDoor
