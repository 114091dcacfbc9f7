/- C0c CF0 -/
import Derived.Test.YtcjffhadclngmaaGreatZC19
import Derived.Test.YtcjffhadclngmaaGreatZC16
namespace Go.Proofs.YtcjffhadclngmaaGreat
open Go
section
variable (S:List Ent) (tk:List Nat) (k:Nat)
theorem Aao:cL Tryz.prog 18 [.agg (ceW (1,2)),.agg (ceW (1,2))] S tk k=some (.int 0,S,tk,k):=Jn Tryz.func18 rfl rfl rfl rfl rfl 60 (by kernel_rfl) S tk k
theorem Aad:cL Tryz.prog 18 [.agg (ceW (-5,1)),.agg (ceW (-5,1))] S tk k=some (.int 0,S,tk,k):=Jn Tryz.func18 rfl rfl rfl rfl rfl 60 (by kernel_rfl) S tk k
end
end Go.Proofs.YtcjffhadclngmaaGreat
namespace Go.Proofs.YtcjffhadclngmaaGreat
open Go
end Go.Proofs.YtcjffhadclngmaaGreat
