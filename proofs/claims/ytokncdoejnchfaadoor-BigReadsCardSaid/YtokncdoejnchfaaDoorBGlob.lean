/-
  How the numbers lie in memory; the one table that the program reads; the functions that may be called with slices of one's own.
-/
import Derived.Test.YtokncdoejnchfaaDoorTy
import Derived.Test.YtokncdoejnchfaaDoorBNum
import Derived.Lib.ItoaNum
namespace Go.Proofs.YtokncdoejnchfaaDoor
open Go

def digC (x : Int) : List AV := [.prim (.int .i64 x)]
def digA (l : List Int) : AV := .frz (l.map digC) .unk
def bigA (neg : Bool) (l : List Int) : AV := .agg [.prim (.bool neg), digA l]
def zA (z : Int) : AV := bigA (decide (z < 0)) (dig z.natAbs)
instance : Globs := ⟨[(0, (Lib.pow10Tab.map fun z => Value.int .u64 z).toArray)], fun f => f == 40 || f == 39, true⟩
end Go.Proofs.YtokncdoejnchfaaDoor
