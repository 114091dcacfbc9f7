/- C0b -/
import Derived.Test.YtcjffhadclngmaaGreatZC18
namespace Go.Proofs.YtcjffhadclngmaaGreat
open Go
section
variable (S:List Ent) (tk:List Nat) (k:Nat)
theorem Aff:cL Tryz.prog 24 [zA 1,zA 2] S tk k=some (.tup [.agg (ceW (1,2)),.bool true],S,tk,k):=Jn Tryz.func24 rfl rfl rfl rfl rfl 60 (by kernel_rfl) S tk k
end
end Go.Proofs.YtcjffhadclngmaaGreat
