/- Part 21. -/
import Derived.Test.YthelkgdmgihhiaaGreatZM20
namespace Go.Proofs.YthelkgdmgihhiaaGreat
section
open Go Tryz
def tb2:TabL:=[(23,[([Au (lA++lB)],rI false)])]
theorem Aq2 {t:TabL} (h:Tab prog (tbT t)):Tab prog (tbT (tb2++t)):=R6 Pk h aK
end
end Go.Proofs.YthelkgdmgihhiaaGreat
