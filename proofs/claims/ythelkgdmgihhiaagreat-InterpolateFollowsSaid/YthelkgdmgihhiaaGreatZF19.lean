/- Part 19. -/
import Derived.Test.YthelkgdmgihhiaaGreatZF18
namespace Go.Proofs.YthelkgdmgihhiaaGreat
section
open Go Tryz
def tb2:TabL:=[(23,[([Au (lA++lB)],rI false)])]
theorem Av0 {t:TabL} (h:Tab prog (tbT t)):Tab prog (tbT (tb2++t)):=Vv R1 h aM
end
end Go.Proofs.YthelkgdmgihhiaaGreat
