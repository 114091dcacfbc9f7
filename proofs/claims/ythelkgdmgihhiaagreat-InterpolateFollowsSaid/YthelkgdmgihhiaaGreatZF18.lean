/- Part 18. -/
import Derived.Test.YthelkgdmgihhiaaGreatZF17
namespace Go.Proofs.YthelkgdmgihhiaaGreat
section
open Go Tryz
def tb1:TabL:=[(83,[([Au (lB++[rIt])],rI false),([Au (lA++lB)],rI false)])]
theorem Avz {t:TabL} (h:Tab prog (tbT t)):Tab prog (tbT (tb1++t)):=Vv Atd h aM
end
end Go.Proofs.YthelkgdmgihhiaaGreat
