/- Part 26. -/
import Derived.Test.YthelkgdmgihhiaaGreatZM25
namespace Go.Proofs.YthelkgdmgihhiaaGreat
section
open Go Tryz
theorem Aep (S:List Ent) (tk:List Nat) (k:Nat):cL prog 8 [] S tk k=some (.bool true,S,tk,k) :=
 cL_T (Aq1 (Aq2 (Aq3 (Aq4 (Aq5 (Aq6 Pk)))))) rfl aK S tk k
end
end Go.Proofs.YthelkgdmgihhiaaGreat
