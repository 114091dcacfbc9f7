/- Part 17. -/
import Derived.Test.YthelkgdmgihhiaaGreatZW16
namespace Go.Proofs.YthelkgdmgihhiaaGreat
section
open Go Tryz
def tb2:TabL:=[(23,[([Kh (lA++lB)],rI false)])]
theorem Z1 {t:TabL} (h:Tab prog (tbT t)):Tab prog (tbT (tb2++t)):=Km H7 h (by kernel_rfl)
end
end Go.Proofs.YthelkgdmgihhiaaGreat
