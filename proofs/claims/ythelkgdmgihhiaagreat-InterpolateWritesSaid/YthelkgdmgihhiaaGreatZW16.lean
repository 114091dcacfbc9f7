/- Part 16. -/
import Derived.Test.YthelkgdmgihhiaaGreatZW15
namespace Go.Proofs.YthelkgdmgihhiaaGreat
section
open Go Tryz
def tb1:TabL:=[(83,[([Kh (lB++[rIt])],rI false),([Kh (lA++lB)],rI false)])]
theorem Z0 {t:TabL} (h:Tab prog (tbT t)):Tab prog (tbT (tb1++t)):=Km Yt h (by kernel_rfl)
end
end Go.Proofs.YthelkgdmgihhiaaGreat
