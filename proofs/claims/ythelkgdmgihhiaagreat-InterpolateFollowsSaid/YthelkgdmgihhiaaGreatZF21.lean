/- Part 21. -/
import Derived.Test.YthelkgdmgihhiaaGreatZF20
namespace Go.Proofs.YthelkgdmgihhiaaGreat
section
open Go Tryz
def tb4:TabL:=[(23,[([Au lA],rI true)]),(24,[([Au lA],.tup [.frz [] .unk,.bool false])])]
theorem Av2 {t:TabL} (h:Tab prog (tbT t)):Tab prog (tbT (tb4++t)):=Vv R1 h aM
end
end Go.Proofs.YthelkgdmgihhiaaGreat
