/- Part 20. -/
import Derived.Test.YtcjffhadclngmaaGreatZC19
namespace Go.Proofs.YtcjffhadclngmaaGreat
section
open Go Tryz
section
variable (S:List Ent) (tk:List Nat) (k:Nat)
theorem Aud:cL prog 24 [zA 1,zA 2] S tk k=some (.tup [.agg (ceW (1,2)),.bool true],S,tk,k):=Me func24 rfl rfl rfl rfl rfl 60 aI S tk k
end
end
end Go.Proofs.YtcjffhadclngmaaGreat
