/- Part 23. -/
import Derived.Test.YthelkgdmgihhiaaGreatZM22
namespace Go.Proofs.YthelkgdmgihhiaaGreat
section
open Go Tryz
def tb4:TabL:=[(23,[([Au lA],rI true)]),(24,[([Au lA],.tup [.frz [] .unk,.bool false])])]
theorem Aq4 {t:TabL} (h:Tab prog (tbT t)):Tab prog (tbT (tb4++t)):=R6 Pk h aK
end
end Go.Proofs.YthelkgdmgihhiaaGreat
