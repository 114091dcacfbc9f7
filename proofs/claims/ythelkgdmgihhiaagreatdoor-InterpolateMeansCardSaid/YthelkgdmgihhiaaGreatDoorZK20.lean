/- Part 20. -/
import Derived.Test.YthelkgdmgihhiaaGreatDoorZK19
namespace Go.Proofs.YthelkgdmgihhiaaGreatDoor
section
open Go Tryz
def rX (a c:Int):RowT:=([(nX,a)],c,false)
def tb5:TabL:=[(28,[([D4 [rX 1 (-1),rX (-1) 3]],rI false),([D4 [rX 1 (-1),rX (-1) 1]],rI true),([D4 [rX 2 (-1),rX (-1) 1]],rI false)])]
theorem Agv {t:TabL} (h:Tab prog (tbT t)):Tab prog (tbT (tb5++t)):=My K4 h (by kernel_rfl)
end
end Go.Proofs.YthelkgdmgihhiaaGreatDoor
