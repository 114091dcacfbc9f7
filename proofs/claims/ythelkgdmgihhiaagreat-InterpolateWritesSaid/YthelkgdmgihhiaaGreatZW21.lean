/- Part 21. -/
import Derived.Test.YthelkgdmgihhiaaGreatZW20
namespace Go.Proofs.YthelkgdmgihhiaaGreat
section
open Go Tryz
def tb6:TabL:=[(25,[([Kh (lA++lB),kzA [1,1,1]],kzA [1,1,1])]),(26,[([Kh lA,kzA [1,1]],.tup [kzA [0,-1],.agg (kzB 1),.int 0])])]
theorem Z5 {t:TabL} (h:Tab prog (tbT t)):Tab prog (tbT (tb6++t)):=Km H7 h (by kernel_rfl)
end
end Go.Proofs.YthelkgdmgihhiaaGreat
