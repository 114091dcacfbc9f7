/- Part 22. -/
import Derived.Test.YthelkgdmgihhiaaGreatZF21
namespace Go.Proofs.YthelkgdmgihhiaaGreat
section
open Go Tryz
def rX (a c:Int):RowT:=([(nX,a)],c,false)
def tb5:TabL:=[(23,[([Au [rX 1 (-1),rX (-1) 3]],rI false),([Au [rX 1 (-1),rX (-1) 1]],rI true),([Au [rX 2 (-1),rX (-1) 1]],rI false)])]
theorem Av3 {t:TabL} (h:Tab prog (tbT t)):Tab prog (tbT (tb5++t)):=Vv R1 h aM
end
end Go.Proofs.YthelkgdmgihhiaaGreat
