/-
  The examples that the laws of the linear forms check: all as said.
-/
import Derived.Test.YtkghgdkkholieaaTy
namespace Go.Proofs.Ytkghgdkkholieaa
open Go
theorem awake_run : evF Try.prog drawOk 60 9 [] [] [] 0 = some (.prim (.bool true), [], [], 0) := by kernel_rfl
theorem L11_awake (S : List Ent) (tk : List Nat) (k : Nat) : cL Try.prog 9 [] S tk k = some (.bool true, S, tk, k) := cL_closed awake_run S tk k
end Go.Proofs.Ytkghgdkkholieaa
