/-
  What the given statements ask beside the walks: the tables that the rows list.
-/
import Derived.Test.YtokncdoejnchfaaDoorBLift
namespace Go.Proofs.YtokncdoejnchfaaDoor
open Go Go.ChangeShapes Go.WideShapes Go.ChangeAt Go.RowKit Go.Deep

abbrev laid3 : List (String × DataW Unit) := [("math/bits.deBruijn32tab", Rows.laid_math_bits_deBruijn32tab), ("math/bits.deBruijn64tab", Rows.laid_math_bits_deBruijn64tab), ("internal/strconv.uint64pow10", Rows.laid_internal_strconv_uint64pow10)]
theorem g0Type : (Tryd.prog.globals[0]?).map (·.type) = some 82 := by kernel_rfl
theorem tab_of_laid {W : World} (h : laidMet Tryd.prog laid3 W) : Tab W :=
  Lib.tabIs_of_head (rest := []) g0 g0Type Tryd.underlying82 Tryd.underlying65 (by kernel_rfl) (by kernel_rfl) h.tail.tail
def cellD : DataW Unit → Value | .lit (.int k n) => .int k n | _ => undef
def cellsD : DataW Unit → Array Value | .agg ds => (ds.map cellD).toArray | _ => #[]
def putCells (cs : Array Value) : Obj → Obj | .cells _ t fz => .cells cs t fz | o => o
noncomputable def laidWorld (os : Os) : World :=
  { World.holding Tryd.prog os ⟨#[], #[], []⟩ with heap := (((World.holding Tryd.prog os ⟨#[], #[], []⟩).heap.modify 0 (putCells (cellsD Rows.laid_internal_strconv_uint64pow10))).modify 1 (putCells (cellsD Rows.laid_math_bits_deBruijn32tab))).modify 2 (putCells (cellsD Rows.laid_math_bits_deBruijn64tab)) }
theorem laid_met (os : Os) (args : Array Value) : laidMet Tryd.prog laid3 ((laidWorld os).forCall (fun _ _ => 0) ⟨#[], args, []⟩).memory :=
  laidMet_of_run' 8 (by kernel_rfl) (by kernel_rfl)
end Go.Proofs.YtokncdoejnchfaaDoor
