/- Part 23. -/
import Derived.Test.YthelkgdmgihhiaaGreatZF22
namespace Go.Proofs.YthelkgdmgihhiaaGreat
section
open Go Tryz
def tb6:TabL:=[(25,[([Au (lA++lB),kzA [1,1,1]],kzA [1,1,1])]),(26,[([Au lA,kzA [1,1]],.tup [kzA [0,-1],.agg (kzB 1),.int 0])])]
theorem Av4 {t:TabL} (h:Tab prog (tbT t)):Tab prog (tbT (tb6++t)):=Vv R1 h aM
end
end Go.Proofs.YthelkgdmgihhiaaGreat
