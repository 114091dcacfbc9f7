/- Part 20. -/
import Derived.Test.YthelkgdmgihhiaaGreatZF19
namespace Go.Proofs.YthelkgdmgihhiaaGreat
section
open Go Tryz
def tb3:TabL:=[(24,[([Au (lA++lB)],.tup [kzA [1,1,1],.bool true])])]
theorem Av1 {t:TabL} (h:Tab prog (tbT t)):Tab prog (tbT (tb3++t)):=Vv R1 h aM
end
end Go.Proofs.YthelkgdmgihhiaaGreat
