/- Part 19. -/
import Derived.Test.YthelkgdmgihhiaaGreatZB18
namespace Go.Proofs.YthelkgdmgihhiaaGreat
section
open Go Tryz
def tb2:TabL:=[(23,[([An (lA++lB)],rI false)])]
theorem Aym {t:TabL} (h:Tab prog (tbT t)):Tab prog (tbT (tb2++t)):=V3 Rc h aJ
end
end Go.Proofs.YthelkgdmgihhiaaGreat
