/- Part 19. -/
import Derived.Test.YthelkgdmgihhiaaGreatDoorZK18
namespace Go.Proofs.YthelkgdmgihhiaaGreatDoor
section
open Go Tryz
def tb4:TabL:=[(28,[([D4 lA],rI true)]),(29,[([D4 lA],.tup [.frz [] .unk,.bool false])])]
theorem Agu {t:TabL} (h:Tab prog (tbT t)):Tab prog (tbT (tb4++t)):=My K4 h (by kernel_rfl)
end
end Go.Proofs.YthelkgdmgihhiaaGreatDoor
