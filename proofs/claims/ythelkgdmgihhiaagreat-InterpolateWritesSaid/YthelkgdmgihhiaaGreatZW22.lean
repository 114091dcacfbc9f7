/- Part 22. -/
import Derived.Test.YthelkgdmgihhiaaGreatZW21
namespace Go.Proofs.YthelkgdmgihhiaaGreat
section
open Go Tryz
theorem R1 (S:List Ent) (tk:List Nat) (k:Nat):cL prog 8 [] S tk k=some (.bool true,S,tk,k) :=
 cL_T (Z0 (Z1 (Z2 (Z3 (Z4 (Z5 H7)))))) rfl (by kernel_rfl) S tk k
end
end Go.Proofs.YthelkgdmgihhiaaGreat
