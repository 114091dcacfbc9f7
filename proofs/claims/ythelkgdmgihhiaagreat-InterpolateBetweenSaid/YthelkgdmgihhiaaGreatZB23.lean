/- Part 23. -/
import Derived.Test.YthelkgdmgihhiaaGreatZB22
namespace Go.Proofs.YthelkgdmgihhiaaGreat
section
open Go Tryz
def tb6:TabL:=[(25,[([An (lA++lB),kzA [1,1,1]],kzA [1,1,1])]),(26,[([An lA,kzA [1,1]],.tup [kzA [0,-1],.agg (kzB 1),.int 0])])]
theorem Ayq {t:TabL} (h:Tab prog (tbT t)):Tab prog (tbT (tb6++t)):=V3 Rc h aJ
end
end Go.Proofs.YthelkgdmgihhiaaGreat
