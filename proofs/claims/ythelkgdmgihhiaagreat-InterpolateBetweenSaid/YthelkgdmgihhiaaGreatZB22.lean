/- Part 22. -/
import Derived.Test.YthelkgdmgihhiaaGreatZB21
namespace Go.Proofs.YthelkgdmgihhiaaGreat
section
open Go Tryz
def rX (a c:Int):RowT:=([(nX,a)],c,false)
def tb5:TabL:=[(23,[([An [rX 1 (-1),rX (-1) 3]],rI false),([An [rX 1 (-1),rX (-1) 1]],rI true),([An [rX 2 (-1),rX (-1) 1]],rI false)])]
theorem Ayp {t:TabL} (h:Tab prog (tbT t)):Tab prog (tbT (tb5++t)):=V3 Rc h aJ
end
end Go.Proofs.YthelkgdmgihhiaaGreat
