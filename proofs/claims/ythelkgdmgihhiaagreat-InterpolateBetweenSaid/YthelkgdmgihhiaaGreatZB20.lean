/- Part 20. -/
import Derived.Test.YthelkgdmgihhiaaGreatZB19
namespace Go.Proofs.YthelkgdmgihhiaaGreat
section
open Go Tryz
def tb3:TabL:=[(24,[([An (lA++lB)],.tup [kzA [1,1,1],.bool true])])]
theorem Ayn {t:TabL} (h:Tab prog (tbT t)):Tab prog (tbT (tb3++t)):=V3 Rc h aJ
end
end Go.Proofs.YthelkgdmgihhiaaGreat
