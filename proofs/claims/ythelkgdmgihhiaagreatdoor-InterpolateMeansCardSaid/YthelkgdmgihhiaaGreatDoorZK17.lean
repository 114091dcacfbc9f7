/- Part 17. -/
import Derived.Test.YthelkgdmgihhiaaGreatDoorZK16
namespace Go.Proofs.YthelkgdmgihhiaaGreatDoor
section
open Go Tryz
def tb2:TabL:=[(28,[([D4 (lA++lB)],rI false)])]
theorem Ags {t:TabL} (h:Tab prog (tbT t)):Tab prog (tbT (tb2++t)):=My K4 h (by kernel_rfl)
end
end Go.Proofs.YthelkgdmgihhiaaGreatDoor
