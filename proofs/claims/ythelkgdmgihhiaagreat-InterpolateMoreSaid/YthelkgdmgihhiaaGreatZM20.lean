/- Part 20. -/
import Derived.Test.YthelkgdmgihhiaaGreatZM19
namespace Go.Proofs.YthelkgdmgihhiaaGreat
section
open Go Tryz
def tb1:TabL:=[(83,[([Au (lB++[rIt])],rI false),([Au (lA++lB)],rI false)])]
theorem Aq1 {t:TabL} (h:Tab prog (tbT t)):Tab prog (tbT (tb1++t)):=R6 Aoj h aK
end
end Go.Proofs.YthelkgdmgihhiaaGreat
