/- Part 20. -/
import Derived.Test.YthelkgdmgihhiaaGreatZW19
namespace Go.Proofs.YthelkgdmgihhiaaGreat
section
open Go Tryz
def rX (a c:Int):RowT:=([(nX,a)],c,false)
def tb5:TabL:=[(23,[([Kh [rX 1 (-1),rX (-1) 3]],rI false),([Kh [rX 1 (-1),rX (-1) 1]],rI true),([Kh [rX 2 (-1),rX (-1) 1]],rI false)])]
theorem Z4 {t:TabL} (h:Tab prog (tbT t)):Tab prog (tbT (tb5++t)):=Km H7 h (by kernel_rfl)
end
end Go.Proofs.YthelkgdmgihhiaaGreat
