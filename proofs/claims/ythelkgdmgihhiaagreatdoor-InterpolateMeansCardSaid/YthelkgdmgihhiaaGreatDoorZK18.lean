/- Part 18. -/
import Derived.Test.YthelkgdmgihhiaaGreatDoorZK17
namespace Go.Proofs.YthelkgdmgihhiaaGreatDoor
section
open Go Tryz
def tb3:TabL:=[(29,[([D4 (lA++lB)],.tup [kzA [1,1,1],.bool true])])]
theorem Agt {t:TabL} (h:Tab prog (tbT t)):Tab prog (tbT (tb3++t)):=My K4 h (by kernel_rfl)
end
end Go.Proofs.YthelkgdmgihhiaaGreatDoor
