/- Part 21. -/
import Derived.Test.YthelkgdmgihhiaaGreatDoorZK20
namespace Go.Proofs.YthelkgdmgihhiaaGreatDoor
section
open Go Tryz
def tb6:TabL:=[(30,[([D4 (lA++lB),kzA [1,1,1]],kzA [1,1,1])]),(31,[([D4 lA,kzA [1,1]],.tup [kzA [0,-1],.agg (kzB 1),.int 0])])]
theorem Agw {t:TabL} (h:Tab prog (tbT t)):Tab prog (tbT (tb6++t)):=My K4 h (by kernel_rfl)
end
end Go.Proofs.YthelkgdmgihhiaaGreatDoor
