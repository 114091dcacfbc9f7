/- Part 24. -/
import Derived.Test.YthelkgdmgihhiaaGreatZF23
namespace Go.Proofs.YthelkgdmgihhiaaGreat
section
open Go Tryz
theorem Aip (S:List Ent) (tk:List Nat) (k:Nat):cL prog 8 [] S tk k=some (.bool true,S,tk,k) :=
 cL_T (Avz (Av0 (Av1 (Av2 (Av3 (Av4 R1)))))) rfl aM S tk k
end
end Go.Proofs.YthelkgdmgihhiaaGreat
