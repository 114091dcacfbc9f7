/- Part 22. -/
import Derived.Test.YthelkgdmgihhiaaGreatZM21
namespace Go.Proofs.YthelkgdmgihhiaaGreat
section
open Go Tryz
def tb3:TabL:=[(24,[([Au (lA++lB)],.tup [kzA [1,1,1],.bool true])])]
theorem Aq3 {t:TabL} (h:Tab prog (tbT t)):Tab prog (tbT (tb3++t)):=R6 Pk h aK
end
end Go.Proofs.YthelkgdmgihhiaaGreat
