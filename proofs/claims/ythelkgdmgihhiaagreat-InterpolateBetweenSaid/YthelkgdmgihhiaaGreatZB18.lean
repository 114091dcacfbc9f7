/- Part 18. -/
import Derived.Test.YthelkgdmgihhiaaGreatZB17
namespace Go.Proofs.YthelkgdmgihhiaaGreat
section
open Go Tryz
def tb1:TabL:=[(83,[([An (lB++[rIt])],rI false),([An (lA++lB)],rI false)])]
theorem Ayl {t:TabL} (h:Tab prog (tbT t)):Tab prog (tbT (tb1++t)):=V3 Avr h aJ
end
end Go.Proofs.YthelkgdmgihhiaaGreat
