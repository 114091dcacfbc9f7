/- Part 24. -/
import Derived.Test.YthelkgdmgihhiaaGreatZM23
namespace Go.Proofs.YthelkgdmgihhiaaGreat
section
open Go Tryz
def rX (a c:Int):RowT:=([(nX,a)],c,false)
def tb5:TabL:=[(23,[([Au [rX 1 (-1),rX (-1) 3]],rI false),([Au [rX 1 (-1),rX (-1) 1]],rI true),([Au [rX 2 (-1),rX (-1) 1]],rI false)])]
theorem Aq5 {t:TabL} (h:Tab prog (tbT t)):Tab prog (tbT (tb5++t)):=R6 Pk h aK
end
end Go.Proofs.YthelkgdmgihhiaaGreat
