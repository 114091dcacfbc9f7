/-
  DERIVED. GIVEN WITH THE SEED: THE CARDS: each row of YtokncdoejnchfaaDoorRows.lean that lists a variable, with what it lists TIED to the program's text (the seventh form; the later family's looks); each row that meets fmt, with fmt's text TOLD by the authors' own Lean function (tested against real Go, not proved from fmt's source: count such statements apart). THE CARD IS WHAT COUNTS. Prove the row's statement (the work); the ties are given (YtokncdoejnchfaaDoorTie.lean); close each card by the builder's one call (the guide's Derived/Test/ToyasCard.lean, 'card_holds'). Laid BY PROGRAM, IN A SANDBOX (cutbox-door.mjs). By AI agents, Wed Nov 11 2026. No macro, syntax, notation, axiom, sorry.
-/
import Derived.Test.YtokncdoejnchfaaDoorRows
import GoSem.ClaimSeven
namespace Go.Proofs.YtokncdoejnchfaaDoor
namespace Rows

/-- THE TIED CARD OF 'liquidchecklaw02.BigProducts'. -/
def bigProductsCard : Claim7 := { stood := { row := bigProductsRow, standIns := [], harness := (true, "3f1bab7b06047115efad80a53703d0be300d88371a0caaeb7506c778f88a33ce"), looks := false }, kinds := [], alts := [], laidByText := true, laidKinds := [.data, .data, .data], laidTests := true, laidLooks := .later }
def BigProductsCardSaid : Prop := Claim7.holds Tryd.pinned (.plain (OpenSpec.ofChange bigProductsSpec)) bigProductsCard

/-- THE TIED CARD OF 'liquidchecklaw02.BigDivides'. -/
def bigDividesCard : Claim7 := { stood := { row := bigDividesRow, standIns := [], harness := (true, "3f1bab7b06047115efad80a53703d0be300d88371a0caaeb7506c778f88a33ce"), looks := false }, kinds := [], alts := [], laidByText := true, laidKinds := [.data, .data, .data], laidTests := true, laidLooks := .later }
def BigDividesCardSaid : Prop := Claim7.holds Tryd.pinned (.plain (OpenSpec.ofChange bigDividesSpec)) bigDividesCard

/-- THE TIED CARD OF 'liquidchecklaw02.BigTexts'. -/
def bigTextsCard : Claim7 := { stood := { row := bigTextsRow, standIns := [], harness := (true, "3f1bab7b06047115efad80a53703d0be300d88371a0caaeb7506c778f88a33ce"), looks := false }, kinds := [], alts := [], laidByText := true, laidKinds := [.data, .data, .data], laidTests := true, laidLooks := .later }
def BigTextsCardSaid : Prop := Claim7.holds Tryd.pinned (.plain (OpenSpec.ofChange bigTextsSpec)) bigTextsCard

/-- THE TIED CARD OF 'liquidchecklaw02.BigReads'. -/
def bigReadsCard : Claim7 := { stood := { row := bigReadsRow, standIns := [], harness := (true, "3f1bab7b06047115efad80a53703d0be300d88371a0caaeb7506c778f88a33ce"), looks := false }, kinds := [], alts := [], laidByText := true, laidKinds := [.data, .data, .data], laidTests := true, laidLooks := .later }
def BigReadsCardSaid : Prop := Claim7.holds Tryd.pinned (.plain (OpenSpec.ofChange bigReadsSpec)) bigReadsCard

/-- THE TIED CARD OF 'liquidchecklaw02.BigMakes'. -/
def bigMakesCard : Claim7 := { stood := { row := bigMakesRow, standIns := [], harness := (true, "3f1bab7b06047115efad80a53703d0be300d88371a0caaeb7506c778f88a33ce"), looks := false }, kinds := [], alts := [], laidByText := true, laidKinds := [.data, .data, .data], laidTests := true, laidLooks := .later }
def BigMakesCardSaid : Prop := Claim7.holds Tryd.pinned (.plain (OpenSpec.ofChange bigMakesSpec)) bigMakesCard

/-- THE TIED CARD OF 'liquidchecklaw02.BigQuotients'. -/
def bigQuotientsCard : Claim7 := { stood := { row := bigQuotientsRow, standIns := [], harness := (true, "3f1bab7b06047115efad80a53703d0be300d88371a0caaeb7506c778f88a33ce"), looks := false }, kinds := [], alts := [], laidByText := true, laidKinds := [.data, .data, .data], laidTests := true, laidLooks := .later }
def BigQuotientsCardSaid : Prop := Claim7.holds Tryd.pinned (.plain (OpenSpec.ofChange bigQuotientsSpec)) bigQuotientsCard

/-- THE TIED CARD OF 'liquidchecklaw02.BigSums'. -/
def bigSumsCard : Claim7 := { stood := { row := bigSumsRow, standIns := [], harness := (true, "3f1bab7b06047115efad80a53703d0be300d88371a0caaeb7506c778f88a33ce"), looks := false }, kinds := [], alts := [], laidByText := true, laidKinds := [.data, .data, .data], laidTests := true, laidLooks := .later }
def BigSumsCardSaid : Prop := Claim7.holds Tryd.pinned (.plain (OpenSpec.ofChange bigSumsSpec)) bigSumsCard

/-- THE TIED CARD OF 'liquidchecklaw02.BigRings'. -/
def bigRingsCard : Claim7 := { stood := { row := bigRingsRow, standIns := [], harness := (true, "3f1bab7b06047115efad80a53703d0be300d88371a0caaeb7506c778f88a33ce"), looks := false }, kinds := [], alts := [], laidByText := true, laidKinds := [.data, .data, .data], laidTests := true, laidLooks := .later }
def BigRingsCardSaid : Prop := Claim7.holds Tryd.pinned (.plain (OpenSpec.ofChange bigRingsSpec)) bigRingsCard

/-- THE SECOND FORM's CARD OF 'liquidchecklaw02.BigProducts'. -/
def bigProductsUptoCard : Claim7 := { stood := { row := bigProductsUptoRow, standIns := [], harness := (true, "3f1bab7b06047115efad80a53703d0be300d88371a0caaeb7506c778f88a33ce"), looks := false }, kinds := [], alts := [], laidByText := true, laidKinds := [.data, .data, .data], laidTests := true, laidLooks := .later }
def BigProductsUptoCardSaid : Prop := Claim7.holds Tryd.pinned (.plain (OpenSpec.upto bigProductsSpec)) bigProductsUptoCard

/-- THE SECOND FORM's CARD OF 'liquidchecklaw02.BigDivides'. -/
def bigDividesUptoCard : Claim7 := { stood := { row := bigDividesUptoRow, standIns := [], harness := (true, "3f1bab7b06047115efad80a53703d0be300d88371a0caaeb7506c778f88a33ce"), looks := false }, kinds := [], alts := [], laidByText := true, laidKinds := [.data, .data, .data], laidTests := true, laidLooks := .later }
def BigDividesUptoCardSaid : Prop := Claim7.holds Tryd.pinned (.plain (OpenSpec.upto bigDividesSpec)) bigDividesUptoCard

/-- THE SECOND FORM's CARD OF 'liquidchecklaw02.BigTexts'. -/
def bigTextsUptoCard : Claim7 := { stood := { row := bigTextsUptoRow, standIns := [], harness := (true, "3f1bab7b06047115efad80a53703d0be300d88371a0caaeb7506c778f88a33ce"), looks := false }, kinds := [], alts := [], laidByText := true, laidKinds := [.data, .data, .data], laidTests := true, laidLooks := .later }
def BigTextsUptoCardSaid : Prop := Claim7.holds Tryd.pinned (.plain (OpenSpec.upto bigTextsSpec)) bigTextsUptoCard

/-- THE SECOND FORM's CARD OF 'liquidchecklaw02.BigReads'. -/
def bigReadsUptoCard : Claim7 := { stood := { row := bigReadsUptoRow, standIns := [], harness := (true, "3f1bab7b06047115efad80a53703d0be300d88371a0caaeb7506c778f88a33ce"), looks := false }, kinds := [], alts := [], laidByText := true, laidKinds := [.data, .data, .data], laidTests := true, laidLooks := .later }
def BigReadsUptoCardSaid : Prop := Claim7.holds Tryd.pinned (.plain (OpenSpec.upto bigReadsSpec)) bigReadsUptoCard

/-- THE SECOND FORM's CARD OF 'liquidchecklaw02.BigMakes'. -/
def bigMakesUptoCard : Claim7 := { stood := { row := bigMakesUptoRow, standIns := [], harness := (true, "3f1bab7b06047115efad80a53703d0be300d88371a0caaeb7506c778f88a33ce"), looks := false }, kinds := [], alts := [], laidByText := true, laidKinds := [.data, .data, .data], laidTests := true, laidLooks := .later }
def BigMakesUptoCardSaid : Prop := Claim7.holds Tryd.pinned (.plain (OpenSpec.upto bigMakesSpec)) bigMakesUptoCard

/-- THE SECOND FORM's CARD OF 'liquidchecklaw02.BigQuotients'. -/
def bigQuotientsUptoCard : Claim7 := { stood := { row := bigQuotientsUptoRow, standIns := [], harness := (true, "3f1bab7b06047115efad80a53703d0be300d88371a0caaeb7506c778f88a33ce"), looks := false }, kinds := [], alts := [], laidByText := true, laidKinds := [.data, .data, .data], laidTests := true, laidLooks := .later }
def BigQuotientsUptoCardSaid : Prop := Claim7.holds Tryd.pinned (.plain (OpenSpec.upto bigQuotientsSpec)) bigQuotientsUptoCard

/-- THE SECOND FORM's CARD OF 'liquidchecklaw02.BigSums'. -/
def bigSumsUptoCard : Claim7 := { stood := { row := bigSumsUptoRow, standIns := [], harness := (true, "3f1bab7b06047115efad80a53703d0be300d88371a0caaeb7506c778f88a33ce"), looks := false }, kinds := [], alts := [], laidByText := true, laidKinds := [.data, .data, .data], laidTests := true, laidLooks := .later }
def BigSumsUptoCardSaid : Prop := Claim7.holds Tryd.pinned (.plain (OpenSpec.upto bigSumsSpec)) bigSumsUptoCard

/-- THE SECOND FORM's CARD OF 'liquidchecklaw02.BigRings'. -/
def bigRingsUptoCard : Claim7 := { stood := { row := bigRingsUptoRow, standIns := [], harness := (true, "3f1bab7b06047115efad80a53703d0be300d88371a0caaeb7506c778f88a33ce"), looks := false }, kinds := [], alts := [], laidByText := true, laidKinds := [.data, .data, .data], laidTests := true, laidLooks := .later }
def BigRingsUptoCardSaid : Prop := Claim7.holds Tryd.pinned (.plain (OpenSpec.upto bigRingsSpec)) bigRingsUptoCard
end Rows
end Go.Proofs.YtokncdoejnchfaaDoor
