/- Part 24. -/
import Derived.Test.YthelkgdmgihhiaaGreatZB23
namespace Go.Proofs.YthelkgdmgihhiaaGreat
section
open Go Tryz
theorem Ajn (S:List Ent) (tk:List Nat) (k:Nat):cL prog 8 [] S tk k=some (.bool true,S,tk,k) :=
 cL_T (Ayl (Aym (Ayn (Ayo (Ayp (Ayq Rc)))))) rfl aJ S tk k
end
end Go.Proofs.YthelkgdmgihhiaaGreat
