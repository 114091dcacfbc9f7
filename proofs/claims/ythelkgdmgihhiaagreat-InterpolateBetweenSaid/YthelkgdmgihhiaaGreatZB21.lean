/- Part 21. -/
import Derived.Test.YthelkgdmgihhiaaGreatZB20
namespace Go.Proofs.YthelkgdmgihhiaaGreat
section
open Go Tryz
def tb4:TabL:=[(23,[([An lA],rI true)]),(24,[([An lA],.tup [.frz [] .unk,.bool false])])]
theorem Ayo {t:TabL} (h:Tab prog (tbT t)):Tab prog (tbT (tb4++t)):=V3 Rc h aJ
end
end Go.Proofs.YthelkgdmgihhiaaGreat
