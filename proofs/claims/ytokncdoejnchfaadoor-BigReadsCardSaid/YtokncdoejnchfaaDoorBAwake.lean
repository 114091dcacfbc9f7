/-
  The examples that the laws of the numbers check: all as said.
-/
import Derived.Test.YtokncdoejnchfaaDoorBExt
namespace Go.Proofs.YtokncdoejnchfaaDoor
open Go
theorem awake_run : evF Tryd.prog drawOk 200 12 [] [] [] 0 = some (.prim (.bool true), [], [], 0) := by kernel_rfl
end Go.Proofs.YtokncdoejnchfaaDoor
