/- Part 25. -/
import Derived.Test.YthelkgdmgihhiaaGreatZM24
namespace Go.Proofs.YthelkgdmgihhiaaGreat
section
open Go Tryz
def tb6:TabL:=[(25,[([Au (lA++lB),kzA [1,1,1]],kzA [1,1,1])]),(26,[([Au lA,kzA [1,1]],.tup [kzA [0,-1],.agg (kzB 1),.int 0])])]
theorem Aq6 {t:TabL} (h:Tab prog (tbT t)):Tab prog (tbT (tb6++t)):=R6 Pk h aK
end
end Go.Proofs.YthelkgdmgihhiaaGreat
