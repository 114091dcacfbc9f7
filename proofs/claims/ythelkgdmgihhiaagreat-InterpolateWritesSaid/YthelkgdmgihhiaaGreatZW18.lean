/- Part 18. -/
import Derived.Test.YthelkgdmgihhiaaGreatZW17
namespace Go.Proofs.YthelkgdmgihhiaaGreat
section
open Go Tryz
def tb3:TabL:=[(24,[([Kh (lA++lB)],.tup [kzA [1,1,1],.bool true])])]
theorem Z2 {t:TabL} (h:Tab prog (tbT t)):Tab prog (tbT (tb3++t)):=Km H7 h (by kernel_rfl)
end
end Go.Proofs.YthelkgdmgihhiaaGreat
