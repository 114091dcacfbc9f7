/- Part 16. -/
import Derived.Test.YthelkgdmgihhiaaGreatDoorZK15
namespace Go.Proofs.YthelkgdmgihhiaaGreatDoor
section
open Go Tryz
def tb1:TabL:=[(78,[([D4 (lB++[rIt])],rI false),([D4 (lA++lB)],rI false)])]
theorem Agr {t:TabL} (h:Tab prog (tbT t)):Tab prog (tbT (tb1++t)):=My Afc h (by kernel_rfl)
end
end Go.Proofs.YthelkgdmgihhiaaGreatDoor
