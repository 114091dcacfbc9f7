/-
  DERIVED. GIVEN WITH THE SEED: THE CARDS: each row of YtgadegdhfjnoaaaDoorRows.lean that lists a variable, with what it lists TIED to the program's text (the seventh form; the later family's looks); each row that meets fmt, with fmt's text TOLD by the authors' own Lean function (tested against real Go, not proved from fmt's source: count such statements apart). THE CARD IS WHAT COUNTS. Prove the row's statement (the work); the ties are given (YtgadegdhfjnoaaaDoorTie.lean); close each card by the builder's one call (the guide's Derived/Test/ToyasCard.lean, 'card_holds'). Laid BY PROGRAM, IN A SANDBOX (cutbox-door.mjs). By AI agents, Wed Nov 11 2026. No macro, syntax, notation, axiom, sorry.
-/
import Derived.Test.YtgadegdhfjnoaaaDoorRows
import GoSem.ClaimSeven
namespace Go.Proofs.YtgadegdhfjnoaaaDoor
namespace Rows

/-- THE TIED CARD OF 'liquidchecklaw03.RatMakes'. -/
def ratMakesCard : Claim7 := { stood := { row := ratMakesRow, standIns := [], harness := (true, "53339b8346d7f272879e781abac8b55ab417a0cebcc698cc9b91a95f4bd6c8c8"), looks := false }, kinds := [], alts := [], laidByText := true, laidKinds := [.data, .data, .data], laidTests := true, laidLooks := .later }
def RatMakesCardSaid : Prop := Claim7.holds Tryd.pinned (.plain (OpenSpec.ofChange ratMakesSpec)) ratMakesCard

/-- THE TIED CARD OF 'liquidchecklaw03.RatCompares'. -/
def ratComparesCard : Claim7 := { stood := { row := ratComparesRow, standIns := [], harness := (true, "53339b8346d7f272879e781abac8b55ab417a0cebcc698cc9b91a95f4bd6c8c8"), looks := false }, kinds := [], alts := [], laidByText := true, laidKinds := [.data, .data, .data], laidTests := true, laidLooks := .later }
def RatComparesCardSaid : Prop := Claim7.holds Tryd.pinned (.plain (OpenSpec.ofChange ratComparesSpec)) ratComparesCard

/-- THE TIED CARD OF 'liquidchecklaw03.RatOrders'. -/
def ratOrdersCard : Claim7 := { stood := { row := ratOrdersRow, standIns := [], harness := (true, "53339b8346d7f272879e781abac8b55ab417a0cebcc698cc9b91a95f4bd6c8c8"), looks := false }, kinds := [], alts := [], laidByText := true, laidKinds := [.data, .data, .data], laidTests := true, laidLooks := .later }
def RatOrdersCardSaid : Prop := Claim7.holds Tryd.pinned (.plain (OpenSpec.ofChange ratOrdersSpec)) ratOrdersCard

/-- THE TIED CARD OF 'liquidchecklaw03.RatAdds'. -/
def ratAddsCard : Claim7 := { stood := { row := ratAddsRow, standIns := [], harness := (true, "53339b8346d7f272879e781abac8b55ab417a0cebcc698cc9b91a95f4bd6c8c8"), looks := false }, kinds := [], alts := [], laidByText := true, laidKinds := [.data, .data, .data], laidTests := true, laidLooks := .later }
def RatAddsCardSaid : Prop := Claim7.holds Tryd.pinned (.plain (OpenSpec.ofChange ratAddsSpec)) ratAddsCard

/-- THE TIED CARD OF 'liquidchecklaw03.RatMuls'. -/
def ratMulsCard : Claim7 := { stood := { row := ratMulsRow, standIns := [], harness := (true, "53339b8346d7f272879e781abac8b55ab417a0cebcc698cc9b91a95f4bd6c8c8"), looks := false }, kinds := [], alts := [], laidByText := true, laidKinds := [.data, .data, .data], laidTests := true, laidLooks := .later }
def RatMulsCardSaid : Prop := Claim7.holds Tryd.pinned (.plain (OpenSpec.ofChange ratMulsSpec)) ratMulsCard

/-- THE TIED CARD OF 'liquidchecklaw03.RatField'. -/
def ratFieldCard : Claim7 := { stood := { row := ratFieldRow, standIns := [], harness := (true, "53339b8346d7f272879e781abac8b55ab417a0cebcc698cc9b91a95f4bd6c8c8"), looks := false }, kinds := [], alts := [], laidByText := true, laidKinds := [.data, .data, .data], laidTests := true, laidLooks := .later }
def RatFieldCardSaid : Prop := Claim7.holds Tryd.pinned (.plain (OpenSpec.ofChange ratFieldSpec)) ratFieldCard

/-- THE TIED CARD OF 'liquidchecklaw03.RatWhole'. -/
def ratWholeCard : Claim7 := { stood := { row := ratWholeRow, standIns := [], harness := (true, "53339b8346d7f272879e781abac8b55ab417a0cebcc698cc9b91a95f4bd6c8c8"), looks := false }, kinds := [], alts := [], laidByText := true, laidKinds := [.data, .data, .data], laidTests := true, laidLooks := .later }
def RatWholeCardSaid : Prop := Claim7.holds Tryd.pinned (.plain (OpenSpec.ofChange ratWholeSpec)) ratWholeCard

/-- THE SECOND FORM's CARD OF 'liquidchecklaw03.RatMakes'. -/
def ratMakesUptoCard : Claim7 := { stood := { row := ratMakesUptoRow, standIns := [], harness := (true, "53339b8346d7f272879e781abac8b55ab417a0cebcc698cc9b91a95f4bd6c8c8"), looks := false }, kinds := [], alts := [], laidByText := true, laidKinds := [.data, .data, .data], laidTests := true, laidLooks := .later }
def RatMakesUptoCardSaid : Prop := Claim7.holds Tryd.pinned (.plain (OpenSpec.upto ratMakesSpec)) ratMakesUptoCard

/-- THE SECOND FORM's CARD OF 'liquidchecklaw03.RatCompares'. -/
def ratComparesUptoCard : Claim7 := { stood := { row := ratComparesUptoRow, standIns := [], harness := (true, "53339b8346d7f272879e781abac8b55ab417a0cebcc698cc9b91a95f4bd6c8c8"), looks := false }, kinds := [], alts := [], laidByText := true, laidKinds := [.data, .data, .data], laidTests := true, laidLooks := .later }
def RatComparesUptoCardSaid : Prop := Claim7.holds Tryd.pinned (.plain (OpenSpec.upto ratComparesSpec)) ratComparesUptoCard

/-- THE SECOND FORM's CARD OF 'liquidchecklaw03.RatOrders'. -/
def ratOrdersUptoCard : Claim7 := { stood := { row := ratOrdersUptoRow, standIns := [], harness := (true, "53339b8346d7f272879e781abac8b55ab417a0cebcc698cc9b91a95f4bd6c8c8"), looks := false }, kinds := [], alts := [], laidByText := true, laidKinds := [.data, .data, .data], laidTests := true, laidLooks := .later }
def RatOrdersUptoCardSaid : Prop := Claim7.holds Tryd.pinned (.plain (OpenSpec.upto ratOrdersSpec)) ratOrdersUptoCard

/-- THE SECOND FORM's CARD OF 'liquidchecklaw03.RatAdds'. -/
def ratAddsUptoCard : Claim7 := { stood := { row := ratAddsUptoRow, standIns := [], harness := (true, "53339b8346d7f272879e781abac8b55ab417a0cebcc698cc9b91a95f4bd6c8c8"), looks := false }, kinds := [], alts := [], laidByText := true, laidKinds := [.data, .data, .data], laidTests := true, laidLooks := .later }
def RatAddsUptoCardSaid : Prop := Claim7.holds Tryd.pinned (.plain (OpenSpec.upto ratAddsSpec)) ratAddsUptoCard

/-- THE SECOND FORM's CARD OF 'liquidchecklaw03.RatMuls'. -/
def ratMulsUptoCard : Claim7 := { stood := { row := ratMulsUptoRow, standIns := [], harness := (true, "53339b8346d7f272879e781abac8b55ab417a0cebcc698cc9b91a95f4bd6c8c8"), looks := false }, kinds := [], alts := [], laidByText := true, laidKinds := [.data, .data, .data], laidTests := true, laidLooks := .later }
def RatMulsUptoCardSaid : Prop := Claim7.holds Tryd.pinned (.plain (OpenSpec.upto ratMulsSpec)) ratMulsUptoCard

/-- THE SECOND FORM's CARD OF 'liquidchecklaw03.RatField'. -/
def ratFieldUptoCard : Claim7 := { stood := { row := ratFieldUptoRow, standIns := [], harness := (true, "53339b8346d7f272879e781abac8b55ab417a0cebcc698cc9b91a95f4bd6c8c8"), looks := false }, kinds := [], alts := [], laidByText := true, laidKinds := [.data, .data, .data], laidTests := true, laidLooks := .later }
def RatFieldUptoCardSaid : Prop := Claim7.holds Tryd.pinned (.plain (OpenSpec.upto ratFieldSpec)) ratFieldUptoCard

/-- THE SECOND FORM's CARD OF 'liquidchecklaw03.RatWhole'. -/
def ratWholeUptoCard : Claim7 := { stood := { row := ratWholeUptoRow, standIns := [], harness := (true, "53339b8346d7f272879e781abac8b55ab417a0cebcc698cc9b91a95f4bd6c8c8"), looks := false }, kinds := [], alts := [], laidByText := true, laidKinds := [.data, .data, .data], laidTests := true, laidLooks := .later }
def RatWholeUptoCardSaid : Prop := Claim7.holds Tryd.pinned (.plain (OpenSpec.upto ratWholeSpec)) ratWholeUptoCard
end Rows
end Go.Proofs.YtgadegdhfjnoaaaDoor
