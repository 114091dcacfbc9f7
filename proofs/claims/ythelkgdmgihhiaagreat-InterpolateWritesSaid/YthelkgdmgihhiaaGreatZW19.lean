/- Part 19. -/
import Derived.Test.YthelkgdmgihhiaaGreatZW18
namespace Go.Proofs.YthelkgdmgihhiaaGreat
section
open Go Tryz
def tb4:TabL:=[(23,[([Kh lA],rI true)]),(24,[([Kh lA],.tup [.frz [] .unk,.bool false])])]
theorem Z3 {t:TabL} (h:Tab prog (tbT t)):Tab prog (tbT (tb4++t)):=Km H7 h (by kernel_rfl)
end
end Go.Proofs.YthelkgdmgihhiaaGreat
