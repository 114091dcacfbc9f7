/-
  Texts laid together: Ty, Plain, EvTold, EvSub, LGlob, E1, E2, E3, E5.
-/
import Derived.Test.YtkghgdkkholieaaZL8
import Derived.Test.YtkghgdkkholieaaChecked
import Derived.IntWalk
/-
  What the evaluator asks of the program's types.
-/


namespace Go.Proofs.Ytkghgdkkholieaa
theorem mixed : Try.prog.follows .mixedOrders = true := by kernel_rfl
set_option maxRecDepth 100000 in
theorem tys :
    szOf Try.prog 1 = some 1 ∧
    aggT Try.prog 1 = some false ∧
    zeroOf Try.prog 1 = some [.prim .nilFunc] ∧
    isStr Try.prog 1 = false ∧
    szOf Try.prog 2 = some 1 ∧
    aggT Try.prog 2 = some false ∧
    zeroOf Try.prog 2 = some [.prim (.int .i64 0)] ∧
    intOfT Try.prog 2 = some .i64 ∧
    isStr Try.prog 2 = false ∧
    szOf Try.prog 3 = some 1 ∧
    aggT Try.prog 3 = some false ∧
    zeroOf Try.prog 3 = some [.prim (.int .i64 0)] ∧
    intOfT Try.prog 3 = some .i64 ∧
    isStr Try.prog 3 = false ∧
    szOf Try.prog 4 = some 1 ∧
    aggT Try.prog 4 = some false ∧
    zeroOf Try.prog 4 = some [.prim (.bool false)] ∧
    isStr Try.prog 4 = false ∧
    isBool Try.prog 4 = true ∧
    szOf Try.prog 5 = some 1 ∧
    aggT Try.prog 5 = some false ∧
    zeroOf Try.prog 5 = some [.prim (.int .u8 0)] ∧
    intOfT Try.prog 5 = some .u8 ∧
    isStr Try.prog 5 = false ∧
    szOf Try.prog 9 = some 1 ∧
    aggT Try.prog 9 = some false ∧
    zeroOf Try.prog 9 = some [.prim (.string ⟨#[]⟩)] ∧
    isStr Try.prog 9 = true ∧
    szOf Try.prog 12 = some 1 ∧
    aggT Try.prog 12 = some false ∧
    zeroOf Try.prog 12 = some [.prim (.int .u64 0)] ∧
    intOfT Try.prog 12 = some .u64 ∧
    isStr Try.prog 12 = false ∧
    szOf Try.prog 20 = some 1 ∧
    aggT Try.prog 20 = some false ∧
    zeroOf Try.prog 20 = some [.prim .nilIface] ∧
    isStr Try.prog 20 = false ∧
    szOf Try.prog 21 = some 1 ∧
    aggT Try.prog 21 = some false ∧
    zeroOf Try.prog 21 = some [.prim (.int .i32 0)] ∧
    intOfT Try.prog 21 = some .i32 ∧
    isStr Try.prog 21 = false ∧
    szOf Try.prog 22 = some 1 ∧
    aggT Try.prog 22 = some false ∧
    zeroOf Try.prog 22 = some [.frz [] .nilc] ∧
    elemOf Try.prog 22 = some 37 ∧
    apT Try.prog 22 = some 2 ∧
    isStr Try.prog 22 = false ∧
    szOf Try.prog 23 = some 2 ∧
    aggT Try.prog 23 = some true ∧
    zeroOf Try.prog 23 = some [.frz [] .nilc, .prim (.int .i64 0)] ∧
    isStr Try.prog 23 = false ∧
    fieldOf Try.prog 23 0 = some (0, 1, false) ∧
    fieldOf Try.prog 23 1 = some (1, 1, false) ∧
    fieldsOf Try.prog 23 = some [(0, 1), (1, 1)] ∧
    szOf Try.prog 24 = some 2 ∧
    aggT Try.prog 24 = some true ∧
    zeroOf Try.prog 24 = some [.frz [] .nilc, .prim (.int .i64 0)] ∧
    isStr Try.prog 24 = false ∧
    fieldOf Try.prog 24 0 = some (0, 1, false) ∧
    fieldOf Try.prog 24 1 = some (1, 1, false) ∧
    fieldsOf Try.prog 24 = some [(0, 1), (1, 1)] ∧
    szOf Try.prog 25 = some 3 ∧
    aggT Try.prog 25 = some true ∧
    zeroOf Try.prog 25 = some [.frz [] .nilc, .prim (.int .i64 0), .prim (.bool false)] ∧
    isStr Try.prog 25 = false ∧
    fieldOf Try.prog 25 0 = some (0, 2, true) ∧
    fieldOf Try.prog 25 1 = some (2, 1, false) ∧
    fieldsOf Try.prog 25 = some [(0, 2), (2, 1)] ∧
    szOf Try.prog 26 = some 3 ∧
    aggT Try.prog 26 = some true ∧
    zeroOf Try.prog 26 = some [.frz [] .nilc, .prim (.int .i64 0), .prim (.bool false)] ∧
    isStr Try.prog 26 = false ∧
    fieldOf Try.prog 26 0 = some (0, 2, true) ∧
    fieldOf Try.prog 26 1 = some (2, 1, false) ∧
    fieldsOf Try.prog 26 = some [(0, 2), (2, 1)] ∧
    szOf Try.prog 27 = some 1 ∧
    aggT Try.prog 27 = some false ∧
    zeroOf Try.prog 27 = some [.prim .nilFunc] ∧
    isStr Try.prog 27 = false ∧
    szOf Try.prog 28 = some 1 ∧
    aggT Try.prog 28 = some false ∧
    zeroOf Try.prog 28 = some [.prim .nilFunc] ∧
    isStr Try.prog 28 = false ∧
    szOf Try.prog 30 = some 1 ∧
    aggT Try.prog 30 = some false ∧
    zeroOf Try.prog 30 = some [.prim .nilFunc] ∧
    isStr Try.prog 30 = false ∧
    szOf Try.prog 31 = some 1 ∧
    aggT Try.prog 31 = some false ∧
    zeroOf Try.prog 31 = some [.prim .nilFunc] ∧
    isStr Try.prog 31 = false ∧
    szOf Try.prog 32 = some 1 ∧
    aggT Try.prog 32 = some false ∧
    zeroOf Try.prog 32 = some [.prim .nilFunc] ∧
    isStr Try.prog 32 = false ∧
    szOf Try.prog 33 = some 1 ∧
    aggT Try.prog 33 = some false ∧
    zeroOf Try.prog 33 = some [.prim .nilFunc] ∧
    isStr Try.prog 33 = false ∧
    szOf Try.prog 34 = some 1 ∧
    aggT Try.prog 34 = some false ∧
    zeroOf Try.prog 34 = some [.prim .nilFunc] ∧
    isStr Try.prog 34 = false ∧
    szOf Try.prog 35 = some 1 ∧
    aggT Try.prog 35 = some false ∧
    zeroOf Try.prog 35 = some [.frz [] .nilc] ∧
    elemOf Try.prog 35 = some 37 ∧
    apT Try.prog 35 = some 2 ∧
    isStr Try.prog 35 = false ∧
    szOf Try.prog 36 = some 2 ∧
    aggT Try.prog 36 = some true ∧
    zeroOf Try.prog 36 = some [.prim (.string ⟨#[]⟩), .prim (.int .i64 0)] ∧
    isStr Try.prog 36 = false ∧
    fieldOf Try.prog 36 0 = some (0, 1, false) ∧
    fieldOf Try.prog 36 1 = some (1, 1, false) ∧
    fieldsOf Try.prog 36 = some [(0, 1), (1, 1)] ∧
    flatK Try.prog 36 = some [2, 1] ∧
    szOf Try.prog 37 = some 2 ∧
    aggT Try.prog 37 = some true ∧
    zeroOf Try.prog 37 = some [.prim (.string ⟨#[]⟩), .prim (.int .i64 0)] ∧
    isStr Try.prog 37 = false ∧
    fieldOf Try.prog 37 0 = some (0, 1, false) ∧
    fieldOf Try.prog 37 1 = some (1, 1, false) ∧
    fieldsOf Try.prog 37 = some [(0, 1), (1, 1)] ∧
    flatK Try.prog 37 = some [2, 1] ∧
    szOf Try.prog 39 = some 1 ∧
    aggT Try.prog 39 = some false ∧
    zeroOf Try.prog 39 = some [.prim .nilFunc] ∧
    isStr Try.prog 39 = false ∧
    szOf Try.prog 40 = some 1 ∧
    aggT Try.prog 40 = some false ∧
    zeroOf Try.prog 40 = some [.prim .nilFunc] ∧
    isStr Try.prog 40 = false ∧
    szOf Try.prog 41 = some 1 ∧
    aggT Try.prog 41 = some false ∧
    zeroOf Try.prog 41 = some [.prim (.int .i8 0)] ∧
    intOfT Try.prog 41 = some .i8 ∧
    isStr Try.prog 41 = false ∧
    szOf Try.prog 42 = some 1 ∧
    aggT Try.prog 42 = some false ∧
    zeroOf Try.prog 42 = some [.prim .nilFunc] ∧
    isStr Try.prog 42 = false ∧
    szOf Try.prog 44 = some 1 ∧
    aggT Try.prog 44 = some false ∧
    zeroOf Try.prog 44 = some [.prim .nilFunc] ∧
    isStr Try.prog 44 = false ∧
    szOf Try.prog 45 = some 1 ∧
    aggT Try.prog 45 = some false ∧
    zeroOf Try.prog 45 = some [.prim .nilFunc] ∧
    isStr Try.prog 45 = false ∧
    szOf Try.prog 46 = some 1 ∧
    aggT Try.prog 46 = some false ∧
    zeroOf Try.prog 46 = some [.prim (.int .i64 0)] ∧
    intOfT Try.prog 46 = some .i64 ∧
    isStr Try.prog 46 = false ∧
    szOf Try.prog 47 = some 1 ∧
    aggT Try.prog 47 = some false ∧
    zeroOf Try.prog 47 = some [.prim .nilFunc] ∧
    isStr Try.prog 47 = false ∧
    szOf Try.prog 48 = some 1 ∧
    aggT Try.prog 48 = some false ∧
    zeroOf Try.prog 48 = some [.prim .nilFunc] ∧
    isStr Try.prog 48 = false ∧
    szOf Try.prog 49 = some 1 ∧
    aggT Try.prog 49 = some false ∧
    zeroOf Try.prog 49 = some [.prim .nilFunc] ∧
    isStr Try.prog 49 = false ∧
    szOf Try.prog 50 = some 1 ∧
    aggT Try.prog 50 = some false ∧
    zeroOf Try.prog 50 = some [.prim .nilFunc] ∧
    isStr Try.prog 50 = false ∧
    szOf Try.prog 51 = some 1 ∧
    aggT Try.prog 51 = some false ∧
    zeroOf Try.prog 51 = some [.prim .nilFunc] ∧
    isStr Try.prog 51 = false ∧
    szOf Try.prog 52 = some 1 ∧
    aggT Try.prog 52 = some false ∧
    zeroOf Try.prog 52 = some [.prim .nilFunc] ∧
    isStr Try.prog 52 = false ∧
    szOf Try.prog 53 = some 1 ∧
    aggT Try.prog 53 = some false ∧
    zeroOf Try.prog 53 = some [.prim .nilFunc] ∧
    isStr Try.prog 53 = false ∧
    szOf Try.prog 54 = some 1 ∧
    aggT Try.prog 54 = some false ∧
    zeroOf Try.prog 54 = some [.prim .nilFunc] ∧
    isStr Try.prog 54 = false ∧
    szOf Try.prog 55 = some 1 ∧
    aggT Try.prog 55 = some false ∧
    zeroOf Try.prog 55 = some [.prim .nilFunc] ∧
    isStr Try.prog 55 = false ∧
    szOf Try.prog 56 = some 1 ∧
    aggT Try.prog 56 = some false ∧
    zeroOf Try.prog 56 = some [.prim .nilFunc] ∧
    isStr Try.prog 56 = false ∧
    szOf Try.prog 57 = some 1 ∧
    aggT Try.prog 57 = some false ∧
    zeroOf Try.prog 57 = some [.prim .nilFunc] ∧
    isStr Try.prog 57 = false ∧
    szOf Try.prog 58 = some 1 ∧
    aggT Try.prog 58 = some false ∧
    zeroOf Try.prog 58 = some [.prim .nilFunc] ∧
    isStr Try.prog 58 = false ∧
    szOf Try.prog 59 = some 1 ∧
    aggT Try.prog 59 = some false ∧
    zeroOf Try.prog 59 = some [.prim .nilFunc] ∧
    isStr Try.prog 59 = false ∧
    szOf Try.prog 60 = some 1 ∧
    aggT Try.prog 60 = some false ∧
    zeroOf Try.prog 60 = some [.prim .nilFunc] ∧
    isStr Try.prog 60 = false ∧
    szOf Try.prog 61 = some 1 ∧
    aggT Try.prog 61 = some false ∧
    zeroOf Try.prog 61 = some [.prim .nilFunc] ∧
    isStr Try.prog 61 = false ∧
    szOf Try.prog 62 = some 1 ∧
    aggT Try.prog 62 = some false ∧
    zeroOf Try.prog 62 = some [.prim .nilFunc] ∧
    isStr Try.prog 62 = false ∧
    szOf Try.prog 63 = some 1 ∧
    aggT Try.prog 63 = some false ∧
    zeroOf Try.prog 63 = some [.prim .nilFunc] ∧
    isStr Try.prog 63 = false ∧
    szOf Try.prog 64 = some 1 ∧
    aggT Try.prog 64 = some false ∧
    zeroOf Try.prog 64 = some [.prim .nilFunc] ∧
    isStr Try.prog 64 = false ∧
    szOf Try.prog 66 = some 1 ∧
    aggT Try.prog 66 = some false ∧
    zeroOf Try.prog 66 = some [.prim .nilFunc] ∧
    isStr Try.prog 66 = false ∧
    szOf Try.prog 67 = some 1 ∧
    aggT Try.prog 67 = some false ∧
    zeroOf Try.prog 67 = some [.prim .nilFunc] ∧
    isStr Try.prog 67 = false ∧
    szOf Try.prog 68 = some 1 ∧
    aggT Try.prog 68 = some false ∧
    zeroOf Try.prog 68 = some [.prim .nilFunc] ∧
    isStr Try.prog 68 = false ∧
    szOf Try.prog 69 = some 1 ∧
    aggT Try.prog 69 = some false ∧
    zeroOf Try.prog 69 = some [.prim .nilFunc] ∧
    isStr Try.prog 69 = false ∧
    szOf Try.prog 70 = some 1 ∧
    aggT Try.prog 70 = some false ∧
    zeroOf Try.prog 70 = some [.prim .nilFunc] ∧
    isStr Try.prog 70 = false ∧
    szOf Try.prog 71 = some 1 ∧
    aggT Try.prog 71 = some false ∧
    zeroOf Try.prog 71 = some [.prim .nilFunc] ∧
    isStr Try.prog 71 = false ∧
    szOf Try.prog 72 = some 1 ∧
    aggT Try.prog 72 = some false ∧
    zeroOf Try.prog 72 = some [.prim .nilFunc] ∧
    isStr Try.prog 72 = false ∧
    szOf Try.prog 73 = some 1 ∧
    aggT Try.prog 73 = some false ∧
    zeroOf Try.prog 73 = some [.prim .nilFunc] ∧
    isStr Try.prog 73 = false ∧
    szOf Try.prog 74 = some 1 ∧
    aggT Try.prog 74 = some false ∧
    zeroOf Try.prog 74 = some [.prim .nilFunc] ∧
    isStr Try.prog 74 = false ∧
    szOf Try.prog 75 = some 1 ∧
    aggT Try.prog 75 = some false ∧
    zeroOf Try.prog 75 = some [.prim .nilFunc] ∧
    isStr Try.prog 75 = false ∧
    szOf Try.prog 77 = some 1 ∧
    aggT Try.prog 77 = some false ∧
    zeroOf Try.prog 77 = some [.prim .nilFunc] ∧
    isStr Try.prog 77 = false ∧
    szOf Try.prog 78 = some 1 ∧
    aggT Try.prog 78 = some false ∧
    zeroOf Try.prog 78 = some [.prim .nilFunc] ∧
    isStr Try.prog 78 = false ∧
    szOf Try.prog 80 = some 1 ∧
    aggT Try.prog 80 = some false ∧
    zeroOf Try.prog 80 = some [.prim (.int .u64 0)] ∧
    intOfT Try.prog 80 = some .u64 ∧
    isStr Try.prog 80 = false ∧
    szOf Try.prog 81 = some 1 ∧
    aggT Try.prog 81 = some false ∧
    zeroOf Try.prog 81 = some [.prim .nilFunc] ∧
    isStr Try.prog 81 = false ∧
    szOf Try.prog 82 = some 1 ∧
    aggT Try.prog 82 = some false ∧
    zeroOf Try.prog 82 = some [.prim .nilFunc] ∧
    isStr Try.prog 82 = false ∧
    szOf Try.prog 88 = some 1 ∧
    aggT Try.prog 88 = some false ∧
    zeroOf Try.prog 88 = some [.prim .nilFunc] ∧
    isStr Try.prog 88 = false ∧
    szOf Try.prog 89 = some 1 ∧
    aggT Try.prog 89 = some false ∧
    zeroOf Try.prog 89 = some [.prim (.int .u32 0)] ∧
    intOfT Try.prog 89 = some .u32 ∧
    isStr Try.prog 89 = false ∧
    szOf Try.prog 92 = some 1 ∧
    aggT Try.prog 92 = some false ∧
    zeroOf Try.prog 92 = some [.prim .nilFunc] ∧
    isStr Try.prog 92 = false ∧
    szOf Try.prog 93 = some 1 ∧
    aggT Try.prog 93 = some false ∧
    zeroOf Try.prog 93 = some [.prim (.pointer none)] ∧
    isStr Try.prog 93 = false :=
  ⟨by kernel_rfl, by kernel_rfl, by kernel_rfl, by kernel_rfl, by kernel_rfl, by kernel_rfl, by kernel_rfl, by kernel_rfl, by kernel_rfl, by kernel_rfl, by kernel_rfl, by kernel_rfl, by kernel_rfl, by kernel_rfl, by kernel_rfl, by kernel_rfl, by kernel_rfl, by kernel_rfl, by kernel_rfl, by kernel_rfl, by kernel_rfl, by kernel_rfl, by kernel_rfl, by kernel_rfl, by kernel_rfl, by kernel_rfl, by kernel_rfl, by kernel_rfl, by kernel_rfl, by kernel_rfl, by kernel_rfl, by kernel_rfl, by kernel_rfl, by kernel_rfl, by kernel_rfl, by kernel_rfl, by kernel_rfl, by kernel_rfl, by kernel_rfl, by kernel_rfl, by kernel_rfl, by kernel_rfl, by kernel_rfl, by kernel_rfl, by kernel_rfl, by kernel_rfl, by kernel_rfl, by kernel_rfl, by kernel_rfl, by kernel_rfl, by kernel_rfl, by kernel_rfl, by kernel_rfl, by kernel_rfl, by kernel_rfl, by kernel_rfl, by kernel_rfl, by kernel_rfl, by kernel_rfl, by kernel_rfl, by kernel_rfl, by kernel_rfl, by kernel_rfl, by kernel_rfl, by kernel_rfl, by kernel_rfl, by kernel_rfl, by kernel_rfl, by kernel_rfl, by kernel_rfl, by kernel_rfl, by kernel_rfl, by kernel_rfl, by kernel_rfl, by kernel_rfl, by kernel_rfl, by kernel_rfl, by kernel_rfl, by kernel_rfl, by kernel_rfl, by kernel_rfl, by kernel_rfl, by kernel_rfl, by kernel_rfl, by kernel_rfl, by kernel_rfl, by kernel_rfl, by kernel_rfl, by kernel_rfl, by kernel_rfl, by kernel_rfl, by kernel_rfl, by kernel_rfl, by kernel_rfl, by kernel_rfl, by kernel_rfl, by kernel_rfl, by kernel_rfl, by kernel_rfl, by kernel_rfl, by kernel_rfl, by kernel_rfl, by kernel_rfl, by kernel_rfl, by kernel_rfl, by kernel_rfl, by kernel_rfl, by kernel_rfl, by kernel_rfl, by kernel_rfl, by kernel_rfl, by kernel_rfl, by kernel_rfl, by kernel_rfl, by kernel_rfl, by kernel_rfl, by kernel_rfl, by kernel_rfl, by kernel_rfl, by kernel_rfl, by kernel_rfl, by kernel_rfl, by kernel_rfl, by kernel_rfl, by kernel_rfl, by kernel_rfl, by kernel_rfl, by kernel_rfl, by kernel_rfl, by kernel_rfl, by kernel_rfl, by kernel_rfl, by kernel_rfl, by kernel_rfl, by kernel_rfl, by kernel_rfl, by kernel_rfl, by kernel_rfl, by kernel_rfl, by kernel_rfl, by kernel_rfl, by kernel_rfl, by kernel_rfl, by kernel_rfl, by kernel_rfl, by kernel_rfl, by kernel_rfl, by kernel_rfl, by kernel_rfl, by kernel_rfl, by kernel_rfl, by kernel_rfl, by kernel_rfl, by kernel_rfl, by kernel_rfl, by kernel_rfl, by kernel_rfl, by kernel_rfl, by kernel_rfl, by kernel_rfl, by kernel_rfl, by kernel_rfl, by kernel_rfl, by kernel_rfl, by kernel_rfl, by kernel_rfl, by kernel_rfl, by kernel_rfl, by kernel_rfl, by kernel_rfl, by kernel_rfl, by kernel_rfl, by kernel_rfl, by kernel_rfl, by kernel_rfl, by kernel_rfl, by kernel_rfl, by kernel_rfl, by kernel_rfl, by kernel_rfl, by kernel_rfl, by kernel_rfl, by kernel_rfl, by kernel_rfl, by kernel_rfl, by kernel_rfl, by kernel_rfl, by kernel_rfl, by kernel_rfl, by kernel_rfl, by kernel_rfl, by kernel_rfl, by kernel_rfl, by kernel_rfl, by kernel_rfl, by kernel_rfl, by kernel_rfl, by kernel_rfl, by kernel_rfl, by kernel_rfl, by kernel_rfl, by kernel_rfl, by kernel_rfl, by kernel_rfl, by kernel_rfl, by kernel_rfl, by kernel_rfl, by kernel_rfl, by kernel_rfl, by kernel_rfl, by kernel_rfl, by kernel_rfl, by kernel_rfl, by kernel_rfl, by kernel_rfl, by kernel_rfl, by kernel_rfl, by kernel_rfl, by kernel_rfl, by kernel_rfl, by kernel_rfl, by kernel_rfl, by kernel_rfl, by kernel_rfl, by kernel_rfl, by kernel_rfl, by kernel_rfl, by kernel_rfl, by kernel_rfl, by kernel_rfl, by kernel_rfl, by kernel_rfl, by kernel_rfl, by kernel_rfl, by kernel_rfl, by kernel_rfl, by kernel_rfl, by kernel_rfl, by kernel_rfl, by kernel_rfl, by kernel_rfl, by kernel_rfl, by kernel_rfl, by kernel_rfl, by kernel_rfl, by kernel_rfl, by kernel_rfl, by kernel_rfl, by kernel_rfl, by kernel_rfl, by kernel_rfl, by kernel_rfl, by kernel_rfl, by kernel_rfl, by kernel_rfl, by kernel_rfl, by kernel_rfl, by kernel_rfl, by kernel_rfl, by kernel_rfl, by kernel_rfl, by kernel_rfl, by kernel_rfl, by kernel_rfl, by kernel_rfl, by kernel_rfl, by kernel_rfl, by kernel_rfl, by kernel_rfl, by kernel_rfl, by kernel_rfl, by kernel_rfl, by kernel_rfl, by kernel_rfl, by kernel_rfl, by kernel_rfl, by kernel_rfl, by kernel_rfl, by kernel_rfl, by kernel_rfl, by kernel_rfl, by kernel_rfl, by kernel_rfl, by kernel_rfl, by kernel_rfl, by kernel_rfl, by kernel_rfl, by kernel_rfl, by kernel_rfl, by kernel_rfl, by kernel_rfl, by kernel_rfl, by kernel_rfl, by kernel_rfl, by kernel_rfl, by kernel_rfl, by kernel_rfl, by kernel_rfl, by kernel_rfl, by kernel_rfl, by kernel_rfl, by kernel_rfl, by kernel_rfl, by kernel_rfl, by kernel_rfl, by kernel_rfl⟩
end Go.Proofs.Ytkghgdkkholieaa
/-
  Plain functions and laws on integers: no program in sight.
-/
namespace Go.Proofs.Ytkghgdkkholieaa

/-- in bounds -/
def inB (n : Int) : Bool := decide (-1000000000000 ≤ n ∧ n ≤ 1000000000000)
theorem inB_true {n : Int} : inB n = true ↔ -1000000000000 ≤ n ∧ n ≤ 1000000000000 := by simp [inB]
theorem inB_false {n : Int} : inB n = false ↔ ¬ (-1000000000000 ≤ n ∧ n ≤ 1000000000000) := by simp [inB]

/-- the value of a checked operation -/
def chk (ok : Bool) (n : Int) : Int × Bool := if ok && inB n then (n, true) else (0, false)
def addS (a b : Int) : Int × Bool := chk (inB a && inB b) (a + b)
def subS (a b : Int) : Int × Bool := chk (inB a && inB b) (a - b)
def mulS (a b : Int) : Int × Bool := chk (inB a && inB b) (a * b)
/-- the quotient rounded down, of a number by one that is not 0 -/
def divS (a b : Int) : Int × Bool := if inB a && inB b && !(b == 0) then (a.fdiv b, true) else (0, false)
def absS (n : Int) : Int := if n = -9223372036854775808 then 1000000000000 else if 0 ≤ n then n else -n
def gcdS (a b : Int) : Int := (Int.gcd (absS a) (absS b) : Int)

theorem absS_in {n : Int} (h : inB n = true) : absS n = n.natAbs := by
  rw [inB_true] at h; unfold absS; split
  · omega
  · split <;> omega

theorem mul_test (a b : Int) (h : a ≠ 0) :
    (decide (1000000000000 / (a.natAbs : Int) < (b.natAbs : Int)) = false ∧ -1000000000000 ≤ a * b ∧ a * b ≤ 1000000000000 ∧ inB (a * b) = true) ∨
    (decide (1000000000000 / (a.natAbs : Int) < (b.natAbs : Int)) = true ∧ inB (a * b) = false) := by
  have hp : 0 < (a.natAbs : Int) := by omega
  have hab : ((a * b).natAbs : Int) = (b.natAbs : Int) * a.natAbs := by rw [Int.natAbs_mul]; push_cast; rw [Int.mul_comm]
  by_cases hc : 1000000000000 / (a.natAbs : Int) < (b.natAbs : Int)
  · right
    refine ⟨by simpa using hc, ?_⟩
    rw [Int.ediv_lt_iff_lt_mul hp] at hc
    rw [inB_false]
    omega
  · left
    have hd := hc
    rw [Int.ediv_lt_iff_lt_mul hp] at hc
    rw [inB_true]
    refine ⟨by simpa using hd, ?_⟩
    omega

/-- at most 40 coefficients with names of at most 500 bytes -/
def smallS (cs : List (ByteArray × Int)) : Bool := decide (cs.length ≤ 40 ∧ ∀ c ∈ cs, ¬ 500 < c.1.size)
theorem smallS_long {cs : List (ByteArray × Int)} {len : Nat} (hl : cs.length = len) (h : 40 < len) : false = smallS cs := by
  symm; unfold smallS; rw [decide_eq_false_iff_not]; omega
theorem smallS_name {cs : List (ByteArray × Int)} {n : Nat} {c : ByteArray × Int} (hn : cs[n]? = some c) (h : 500 < c.1.size) : false = smallS cs := by
  symm; unfold smallS; rw [decide_eq_false_iff_not]; intro hh
  exact hh.2 c (List.mem_of_getElem? hn) h
theorem smallS_true {cs : List (ByteArray × Int)} {len n : Nat} (hl : cs.length = len) (hn : len ≤ n) (h4 : n ≤ 40) (h : ∀ j, j < n → ∀ c, cs[j]? = some c → ¬ 500 < c.1.size) : true = smallS cs := by
  symm; unfold smallS; rw [decide_eq_true_iff]
  refine ⟨by omega, fun c hc => ?_⟩
  obtain ⟨j, hj⟩ := List.getElem?_of_mem hc
  exact h j (by have := (List.getElem?_eq_some_iff.1 hj).1; omega) c hj
theorem smallS_iff {cs : List (ByteArray × Int)} : smallS cs = true ↔ cs.length ≤ 40 ∧ ∀ c ∈ cs, ¬ 500 < c.1.size := by simp [smallS]

def sameS (x : List (ByteArray × Int)) (k : Int) (y : List (ByteArray × Int)) (l : Int) : Bool := decide (x = y ∧ k = l)
theorem sameS_len {x y : List (ByteArray × Int)} {k l : Int} (h : x.length ≠ y.length) : false = sameS x k y l := by
  symm; unfold sameS; rw [decide_eq_false_iff_not]; rintro ⟨rfl, _⟩; exact h rfl
theorem sameS_const {x y : List (ByteArray × Int)} {k l : Int} (h : k ≠ l) : false = sameS x k y l := by
  symm; unfold sameS; rw [decide_eq_false_iff_not]; rintro ⟨_, e⟩; exact h e
theorem sameS_at {x y : List (ByteArray × Int)} {k l : Int} {n : Nat} {c d : ByteArray × Int} (h : x[n]? = some c) (h' : y[n]? = some d) (hne : c ≠ d) : false = sameS x k y l := by
  symm; unfold sameS; rw [decide_eq_false_iff_not]; rintro ⟨rfl, _⟩; rw [h] at h'; exact hne (by simpa using h')
theorem sameS_true {x y : List (ByteArray × Int)} {k : Int} {len n : Nat} (hx : x.length = len) (hy : y.length = len) (hn : len ≤ n) (h : ∀ j, j < n → x[j]? = y[j]?) : true = sameS x k y k := by
  symm; unfold sameS; rw [decide_eq_true_iff]; refine ⟨List.ext_getElem? fun j => ?_, rfl⟩
  rcases Nat.lt_or_ge j n with hj | hj
  · exact h j hj
  · rw [List.getElem?_eq_none (by omega), List.getElem?_eq_none (by omega)]
theorem sameS_refl (x : List (ByteArray × Int)) (k : Int) : sameS x k x k = true := by simp [sameS]

/-- the sum of two lists of coefficients by increasing names; less compares names -/
def addF (less : ByteArray → ByteArray → Bool) : Nat → List (ByteArray × Int) → List (ByteArray × Int) → List (ByteArray × Int)
  | 0, _, _ => []
  | _ + 1, [], [] => []
  | n + 1, x :: xs, [] => x :: addF less n xs []
  | n + 1, [], y :: ys => y :: addF less n [] ys
  | n + 1, x :: xs, y :: ys =>
    if less x.1 y.1 then x :: addF less n xs (y :: ys)
    else if less y.1 x.1 then y :: addF less n (x :: xs) ys
    else if x.2 + y.2 = 0 then addF less n xs ys else (x.1, x.2 + y.2) :: addF less n xs ys
theorem addF_more (less : ByteArray → ByteArray → Bool) : ∀ (n m : Nat) (xs ys : List (ByteArray × Int)), xs.length + ys.length ≤ n → xs.length + ys.length ≤ m → addF less n xs ys = addF less m xs ys
  | 0, m, xs, ys, h, _ => by
    have h1 : xs = [] := List.eq_nil_of_length_eq_zero (by omega)
    have h2 : ys = [] := List.eq_nil_of_length_eq_zero (by omega)
    subst h1 h2
    cases m <;> rfl
  | n + 1, 0, xs, ys, _, h => by
    have h1 : xs = [] := List.eq_nil_of_length_eq_zero (by omega)
    have h2 : ys = [] := List.eq_nil_of_length_eq_zero (by omega)
    subst h1 h2
    rfl
  | n + 1, m + 1, [], [], _, _ => rfl
  | n + 1, m + 1, x :: xs, [], h, h' => by simp only [addF]; rw [addF_more less n m xs [] (by simp at h ⊢; omega) (by simp at h' ⊢; omega)]
  | n + 1, m + 1, [], y :: ys, h, h' => by simp only [addF]; rw [addF_more less n m [] ys (by simp at h ⊢; omega) (by simp at h' ⊢; omega)]
  | n + 1, m + 1, x :: xs, y :: ys, h, h' => by
    simp only [addF]
    rw [addF_more less n m xs (y :: ys) (by simp at h ⊢; omega) (by simp at h' ⊢; omega), addF_more less n m (x :: xs) ys (by simp at h ⊢; omega) (by simp at h' ⊢; omega), addF_more less n m xs ys (by simp at h ⊢; omega) (by simp at h' ⊢; omega)]
def addC (less : ByteArray → ByteArray → Bool) (xs ys : List (ByteArray × Int)) : List (ByteArray × Int) := addF less (xs.length + ys.length) xs ys
section
variable {less : ByteArray → ByteArray → Bool} {x y : ByteArray × Int} {xs ys : List (ByteArray × Int)}
theorem addC_nil : addC less [] [] = [] := rfl
theorem addC_left0 : addC less (x :: xs) [] = x :: addC less xs [] := rfl
theorem addC_right0 : addC less [] (y :: ys) = y :: addC less [] ys := by
  unfold addC
  rw [addF_more less (([] : List (ByteArray × Int)).length + (y :: ys).length) (ys.length + 1) _ _ (by simp) (by simp)]
  simp only [addF]
  rw [addF_more less ys.length (([] : List (ByteArray × Int)).length + ys.length) _ _ (by simp) (by simp)]
theorem addC_left (h : less x.1 y.1 = true) : addC less (x :: xs) (y :: ys) = x :: addC less xs (y :: ys) := by
  unfold addC
  rw [addF_more less ((x :: xs).length + (y :: ys).length) (xs.length + (y :: ys).length + 1) _ _ (by simp) (by simp only [List.length_cons]; omega)]
  simp only [addF, h, if_true]
theorem addC_right (h : less x.1 y.1 = false) (h' : less y.1 x.1 = true) : addC less (x :: xs) (y :: ys) = y :: addC less (x :: xs) ys := by
  unfold addC
  rw [addF_more less ((x :: xs).length + (y :: ys).length) ((x :: xs).length + ys.length + 1) _ _ (by simp) (by simp only [List.length_cons]; omega)]
  simp [addF, h, h']
theorem addC_both (h : less x.1 y.1 = false) (h' : less y.1 x.1 = false) : addC less (x :: xs) (y :: ys) = if x.2 + y.2 = 0 then addC less xs ys else (x.1, x.2 + y.2) :: addC less xs ys := by
  have e := addF_more less (xs.length + ys.length + 1) (xs.length + ys.length) xs ys (by omega) (by omega)
  unfold addC
  rw [addF_more less ((x :: xs).length + (y :: ys).length) (xs.length + ys.length + 1 + 1) _ _ (by simp) (by simp only [List.length_cons]; omega)]
  simp only [addF, h, h', e]
  simp
end
theorem drop_cons {α : Type} {l : List α} {n : Nat} {x : α} (h : l[n]? = some x) : l.drop n = x :: l.drop (n + 1) := by
  obtain ⟨hlt, hx⟩ := List.getElem?_eq_some_iff.1 h
  rw [List.drop_eq_getElem_cons hlt, hx]
theorem drop_nil {α : Type} {l : List α} {n : Nat} (h : l.length ≤ n) : l.drop n = [] := List.drop_eq_nil_of_le h

end Go.Proofs.Ytkghgdkkholieaa
/-
  Functions told from outside: what holds while nothing is known of them holds when they are told.
-/

namespace Go.Proofs.Ytkghgdkkholieaa
open Go
variable {P : Program}
/-- the same functions are told from outside, but nothing is told of them yet -/
@[reducible] def Ext.quiet (E : Ext P) : Ext P := { on := E.on, mv := E.mv, call := fun _ _ _ _ _ => none }
theorem evC_quiet [Globs] (E : Ext P) {call : CallA} {ok : St → List Oper → Bool} {n : Nat} : ∀ (c : Code) (st : St), @evC _ P (Ext.quiet E) call ok n c st = @evC _ P E call ok n c st
  | .skip, _ => by simp only [evC]
  | .region _ ops draw, st => by simp only [evC]; rfl
  | .seq a b, st => by
    simp only [evC, evC_quiet E a]
    split <;> first | exact evC_quiet E b _ | rfl
  | .cond c a b, st => by simp only [evC, evC_quiet E a, evC_quiet E b]
  | .block _ c, st => by simp only [evC, evC_quiet E c]
  | .loop c, st => by
    simp only [evC]
    congr 1
    funext s
    exact evC_quiet E c s
  | .exit _, _ => by simp only [evC]
  | .ret, _ => by simp only [evC]
  | .scope c, st => by simp only [evC]; exact evC_quiet E c st
  | .label _, _ => by simp only [evC]
  | .goto _, _ => by simp only [evC]
  | .rangeFunc _ _ _ _, _ => by simp only [evC]
  | .refuse _, _ => by simp only [evC]
theorem evF_quiet [Globs] (E : Ext P) {ok : St → List Oper → Bool} : ∀ k, CLe (@evF _ P (Ext.quiet E) ok k) (@evF _ P E ok k)
  | 0 => by intro f args S tk n r he; simp [evF] at he
  | k + 1 => by
    have ih := evF_quiet E (ok := ok) k
    intro f args S tk n r he
    simp only [evF] at he ⊢
    split at he
    · simp at he
    rename_i hon
    rw [if_neg (show ¬ @Ext.on P E f = true from hon)]
    split at he
    · rename_i fn hf
      split at he
      · rename_i c hb
        split at he
        · simp at he
        · rename_i hname
          rw [if_neg hname]
          have out : ∀ {st0 : St} {r0 : AV × St}, outA P fn (@evC _ P (Ext.quiet E) (@evF _ P (Ext.quiet E) ok k) ok k c st0) = some r0 → outA P fn (@evC _ P E (@evF _ P E ok k) ok k c st0) = some r0 := by
            intro st0 r0 h
            rw [evC_quiet E] at h
            exact outA_mono (fun z hz => evC_mono ih (Nat.le_refl _) c _ z hz) h
          split at he
          · rename_i hmv
            rw [if_pos (show @Ext.mv P E f = true from hmv)]
            split at he
            · rename_i r' s1 ho
              rw [out ho]
              exact he
            · simp at he
          rename_i hmv
          rw [if_neg (show ¬ @Ext.mv P E f = true from hmv)]
          split at he
          · rename_i hp
            rw [if_pos hp]
            have one : ∀ {xs0 : List AV} {r0 : AV}, @runP _ P (Ext.quiet E) ok (@evF _ P (Ext.quiet E) ok k) k fn c xs0 = some r0 → @runP _ P E ok (@evF _ P E ok k) k fn c xs0 = some r0 := by
              intro xs0 r0 hrun
              unfold runP at hrun ⊢
              split at hrun
              · rename_i r' s1 ho
                rw [out ho]
                exact hrun
              · simp at hrun
            split at he
            · rename_i r' ho
              have : (if nilCmp c = true then runN (@runP _ P E ok (@evF _ P E ok k) k fn c) (args.map w2) else @runP _ P E ok (@evF _ P E ok k) k fn c (args.map w2)) = some r' := by
                split at ho
                · rename_i hn
                  rw [if_pos hn]
                  unfold runN at ho ⊢
                  split at ho
                  · split at ho
                    · rename_i q1 q2
                      rw [one q1, one q2]; exact ho
                    · simp at ho
                  · exact one ho
                · rename_i hn
                  rw [if_neg hn]
                  exact one ho
              rw [this]; exact he
            · simp at he
          · rename_i hp
            rw [if_neg hp]
            split at he
            · rename_i r' s1 ho
              rw [out ho]
              exact he
            · simp at he
      · simp at he
    · simp at he
theorem told [Globs] {E : Ext P} {f : FuncId} {args : List AV} {S : List Ent} {tk : List Nat} {n : Nat} {r : AV × List Ent × List Nat × Nat} (h : @cL _ P (Ext.quiet E) f args S tk n = some r) : @cL _ P E f args S tk n = some r := by
  obtain ⟨k, hk⟩ := (@cL_iff P _ (Ext.quiet E) _ _ _ _ _ _).1 h
  exact (@cL_iff P _ E _ _ _ _ _ _).2 ⟨k, evF_quiet E k _ _ _ _ _ _ hk⟩
theorem quiet_ok [Globs] (E : Ext P) : @ExtOk _ P (Ext.quiet E) := by
  letI := Ext.quiet E
  refine ⟨fun f args S tk n r S' tk' n' h => ?_, fun M f args S tk n r S' tk' n' h => ?_⟩
  · unfold extC at h; split at h <;> simp at h
  · unfold callP at h; split at h
    · unfold extC at h; split at h <;> simp at h
    · simp at h
end Go.Proofs.Ytkghgdkkholieaa
/-
  Functions told from outside: what holds while less is told of them holds when more is told.
-/

namespace Go.Proofs.Ytkghgdkkholieaa
open Go
section
variable {P : Program}
/-- the same functions are told from outside, but less is told of them -/
@[reducible] def Ext.sub (E : Ext P) (c0 : CallA) : Ext P := { on := E.on, mv := E.mv, call := c0 }
theorem evC_sub [Globs] (E : Ext P) {c0 : CallA} {call : CallA} {ok : St → List Oper → Bool} {n : Nat} : ∀ (c : Code) (st : St), @evC _ P (Ext.sub E c0) call ok n c st = @evC _ P E call ok n c st
  | .skip, _ => by simp only [evC]
  | .region _ ops draw, st => by simp only [evC]; rfl
  | .seq a b, st => by
    simp only [evC, evC_sub E a]
    split <;> first | exact evC_sub E b _ | rfl
  | .cond c a b, st => by simp only [evC, evC_sub E a, evC_sub E b]
  | .block _ c, st => by simp only [evC, evC_sub E c]
  | .loop c, st => by
    simp only [evC]
    congr 1
    funext s
    exact evC_sub E c s
  | .exit _, _ => by simp only [evC]
  | .ret, _ => by simp only [evC]
  | .scope c, st => by simp only [evC]; exact evC_sub E c st
  | .label _, _ => by simp only [evC]
  | .goto _, _ => by simp only [evC]
  | .rangeFunc _ _ _ _, _ => by simp only [evC]
  | .refuse _, _ => by simp only [evC]
theorem evF_sub [Globs] (E : Ext P) {c0 : CallA} (h0 : CLe c0 E.call) {ok : St → List Oper → Bool} : ∀ k, CLe (@evF _ P (Ext.sub E c0) ok k) (@evF _ P E ok k)
  | 0 => by intro f args S tk n r he; simp [evF] at he
  | k + 1 => by
    have ih := evF_sub E h0 (ok := ok) k
    intro f args S tk n r he
    simp only [evF] at he ⊢
    split at he
    · rename_i hon
      rw [if_pos (show @Ext.on P E f = true from hon)]
      exact h0 _ _ _ _ _ _ he
    rename_i hon
    rw [if_neg (show ¬ @Ext.on P E f = true from hon)]
    split at he
    · rename_i fn hf
      split at he
      · rename_i c hb
        split at he
        · simp at he
        · rename_i hname
          rw [if_neg hname]
          have out : ∀ {st0 : St} {r0 : AV × St}, outA P fn (@evC _ P (Ext.sub E c0) (@evF _ P (Ext.sub E c0) ok k) ok k c st0) = some r0 → outA P fn (@evC _ P E (@evF _ P E ok k) ok k c st0) = some r0 := by
            intro st0 r0 h
            rw [evC_sub E] at h
            exact outA_mono (fun z hz => evC_mono ih (Nat.le_refl _) c _ z hz) h
          split at he
          · rename_i hmv
            rw [if_pos (show @Ext.mv P E f = true from hmv)]
            split at he
            · rename_i r' s1 ho
              rw [out ho]
              exact he
            · simp at he
          rename_i hmv
          rw [if_neg (show ¬ @Ext.mv P E f = true from hmv)]
          split at he
          · rename_i hp
            rw [if_pos hp]
            have one : ∀ {xs0 : List AV} {r0 : AV}, @runP _ P (Ext.sub E c0) ok (@evF _ P (Ext.sub E c0) ok k) k fn c xs0 = some r0 → @runP _ P E ok (@evF _ P E ok k) k fn c xs0 = some r0 := by
              intro xs0 r0 hrun
              unfold runP at hrun ⊢
              split at hrun
              · rename_i r' s1 ho
                rw [out ho]
                exact hrun
              · simp at hrun
            split at he
            · rename_i r' ho
              have : (if nilCmp c = true then runN (@runP _ P E ok (@evF _ P E ok k) k fn c) (args.map w2) else @runP _ P E ok (@evF _ P E ok k) k fn c (args.map w2)) = some r' := by
                split at ho
                · rename_i hn
                  rw [if_pos hn]
                  unfold runN at ho ⊢
                  split at ho
                  · split at ho
                    · rename_i q1 q2
                      rw [one q1, one q2]; exact ho
                    · simp at ho
                  · exact one ho
                · rename_i hn
                  rw [if_neg hn]
                  exact one ho
              rw [this]; exact he
            · simp at he
          · rename_i hp
            rw [if_neg hp]
            split at he
            · rename_i r' s1 ho
              rw [out ho]
              exact he
            · simp at he
      · simp at he
    · simp at he
theorem told_sub [Globs] {E : Ext P} {c0 : CallA} (h0 : CLe c0 E.call) {f : FuncId} {args : List AV} {S : List Ent} {tk : List Nat} {n : Nat} {r : AV × List Ent × List Nat × Nat} (h : @cL _ P (Ext.sub E c0) f args S tk n = some r) : @cL _ P E f args S tk n = some r := by
  obtain ⟨k, hk⟩ := (@cL_iff P _ (Ext.sub E c0) _ _ _ _ _ _).1 h
  exact (@cL_iff P _ E _ _ _ _ _ _).2 ⟨k, evF_sub E h0 k _ _ _ _ _ _ hk⟩
end
end Go.Proofs.Ytkghgdkkholieaa
/-
  No table is read; the substitution of forms is told from outside, behind all else.
-/



namespace Go.Proofs.Ytkghgdkkholieaa
open Go
instance : Globs := ⟨[], fun _ => false, false⟩
/-- at first, nothing is told -/
@[reducible] instance E0 : Ext Try.prog where
  on := fun f => f == 26
  mv := fun _ => false
  call := fun _ _ _ _ _ => none
instance ok0 : ExtOk Try.prog := {
  ok := fun f args S tk n r S' tk' n' h => by unfold extC at h; split at h <;> simp at h
  indep := fun M f args S tk n r S' tk' n' h => by
    unfold callP at h; split at h
    · unfold extC at h; split at h <;> simp at h
    · simp at h }
theorem ext_mv (f : FuncId) : Ext.mv Try.prog f = false := rfl
end Go.Proofs.Ytkghgdkkholieaa
/-
  What the functions of the bounded numbers compute.
-/



namespace Go.Proofs.Ytkghgdkkholieaa
open Go

/-- numbers of 64 bits -/
def i64 (n : Int) : Prop := -9223372036854775808 ≤ n ∧ n ≤ 9223372036854775807
theorem wrap_of {n : Int} (h : i64 n) : IntKind.i64.wrap n = n := Go.IntWalk.i64_in n h
theorem inB_i64 {n : Int} (h : inB n = true) : i64 n := by rw [inB_true] at h; unfold i64; omega

section
variable (S : List Ent) (tk : List Nat) (k : Nat)
theorem num_In (n : Int) : cL Try.prog 48 [.int n] S tk k = some (.bool (inB n), S, tk, k) := by
  refine call_pure Try.func48 rfl rfl (by decide +kernel) (by decide +kernel) Try.ntmps48 rfl rfl _ _ _ rfl ?_; rw [RK_KX]
  simp +contextual only [evs, ext_mv, nth, put, putT, getT, binInt, binStr, binBool, aUn, outA, resA, mapO, resA1, oneOf, w1, w2, w3, bots, cond_true, cond_false, if_true, if_false, ite_true, ite_false, reduceIte, reduceCtorEq, implies_true, Nat.reduceAdd, Nat.reduceSub, AV.int, AV.bool, AV.str, Nat.reduceBEq, Nat.reduceEqDiff, Nat.reduceMul, Nat.reduceLT, Nat.reduceLeDiff, Int.reduceNeg, BEq.rfl, beq_self_eq_true, tabl, cellsOf, fldA, ldA, stA, entAt, partA, takeN, over, leafOk, Value.oneCell', idxA, nilA, cellsEq, fillA, elemsA, pure1, pure2, reps, chkA, tys, Try.results48]
  unfold inB
  exact ⟨fun h => by simp at h ⊢; omega, fun h => by simp at h ⊢; omega⟩
theorem R01_In (n : Int) : cL Try.prog 51 [.int n] S tk k = some (.bool (inB n), S, tk, k) := by
  refine call_pure Try.func51 rfl rfl (by decide +kernel) (by decide +kernel) Try.ntmps51 rfl rfl _ _ _ rfl ?_; rw [RK_KX]
  simp +contextual only [evs, ext_mv, nth, put, putT, getT, binInt, binStr, binBool, aUn, outA, resA, mapO, resA1, oneOf, w1, w2, w3, bots, cond_true, cond_false, if_true, if_false, ite_true, ite_false, reduceIte, reduceCtorEq, implies_true, Nat.reduceAdd, Nat.reduceSub, AV.int, AV.bool, AV.str, Nat.reduceBEq, Nat.reduceEqDiff, Nat.reduceMul, Nat.reduceLT, Nat.reduceLeDiff, Int.reduceNeg, BEq.rfl, beq_self_eq_true, tabl, cellsOf, fldA, ldA, stA, entAt, partA, takeN, over, leafOk, Value.oneCell', idxA, nilA, cellsEq, fillA, elemsA, pure1, pure2, reps, chkA, tys, Try.results51]
  unfold inB
  exact ⟨fun h => by simp at h ⊢; omega, fun h => by simp at h ⊢; omega⟩
theorem num_checked (n : Int) (ok : Bool) : cL Try.prog 63 [.int n, .bool ok] S tk k = some (.tup [.int (chk ok n).1, .bool (chk ok n).2], S, tk, k) := by
  refine call_pure Try.func63 rfl rfl (by decide +kernel) (by decide +kernel) Try.ntmps63 rfl rfl _ _ _ rfl ?_; rw [RK_KX]
  simp +contextual only [evs, ext_mv, nth, put, putT, getT, binInt, binStr, binBool, aUn, outA, resA, mapO, resA1, oneOf, w1, w2, w3, bots, cond_true, cond_false, if_true, if_false, ite_true, ite_false, reduceIte, reduceCtorEq, implies_true, Nat.reduceAdd, Nat.reduceSub, AV.int, AV.bool, AV.str, Nat.reduceBEq, Nat.reduceEqDiff, Nat.reduceMul, Nat.reduceLT, Nat.reduceLeDiff, Int.reduceNeg, BEq.rfl, beq_self_eq_true, tabl, cellsOf, fldA, ldA, stA, entAt, partA, takeN, over, leafOk, Value.oneCell', idxA, nilA, cellsEq, fillA, elemsA, pure1, pure2, reps, chkA, tys, Try.results63, num_In]
  simp +contextual [chk]
theorem R01_result (n : Int) (ok : Bool) : cL Try.prog 64 [.int n, .bool ok] S tk k = some (.tup [.int (chk ok n).1, .bool (chk ok n).2], S, tk, k) := by
  refine call_pure Try.func64 rfl rfl (by decide +kernel) (by decide +kernel) Try.ntmps64 rfl rfl _ _ _ rfl ?_; rw [RK_KX]
  simp +contextual only [evs, ext_mv, nth, put, putT, getT, binInt, binStr, binBool, aUn, outA, resA, mapO, resA1, oneOf, w1, w2, w3, bots, cond_true, cond_false, if_true, if_false, ite_true, ite_false, reduceIte, reduceCtorEq, implies_true, Nat.reduceAdd, Nat.reduceSub, AV.int, AV.bool, AV.str, Nat.reduceBEq, Nat.reduceEqDiff, Nat.reduceMul, Nat.reduceLT, Nat.reduceLeDiff, Int.reduceNeg, BEq.rfl, beq_self_eq_true, tabl, cellsOf, fldA, ldA, stA, entAt, partA, takeN, over, leafOk, Value.oneCell', idxA, nilA, cellsEq, fillA, elemsA, pure1, pure2, reps, chkA, tys, Try.results64, R01_In]
  simp +contextual [chk]
theorem add_wrap {a b : Int} (ha : inB a = true) (hb : inB b = true) : IntKind.i64.wrap (a + b) = a + b := by
  rw [inB_true] at ha hb; exact wrap_of (by unfold i64; omega)
theorem num_Add (a b : Int) : cL Try.prog 42 [.int a, .int b] S tk k = some (.tup [.int (addS a b).1, .bool (addS a b).2], S, tk, k) := by
  refine call_pure Try.func42 rfl rfl (by decide +kernel) (by decide +kernel) Try.ntmps42 rfl rfl _ _ _ rfl ?_; rw [RK_KX]
  simp +contextual only [evs, ext_mv, nth, put, putT, getT, binInt, binStr, binBool, aUn, outA, resA, mapO, resA1, oneOf, w1, w2, w3, bots, cond_true, cond_false, if_true, if_false, ite_true, ite_false, reduceIte, reduceCtorEq, implies_true, Nat.reduceAdd, Nat.reduceSub, AV.int, AV.bool, AV.str, Nat.reduceBEq, Nat.reduceEqDiff, Nat.reduceMul, Nat.reduceLT, Nat.reduceLeDiff, Int.reduceNeg, BEq.rfl, beq_self_eq_true, tabl, cellsOf, fldA, ldA, stA, entAt, partA, takeN, over, leafOk, Value.oneCell', idxA, nilA, cellsEq, fillA, elemsA, pure1, pure2, reps, chkA, tys, Try.results42, num_In, num_checked, add_wrap]
  simp +contextual [addS, chk]
theorem R01_Add (a b : Int) : cL Try.prog 45 [.int a, .int b] S tk k = some (.tup [.int (addS a b).1, .bool (addS a b).2], S, tk, k) := by
  refine call_pure Try.func45 rfl rfl (by decide +kernel) (by decide +kernel) Try.ntmps45 rfl rfl _ _ _ rfl ?_; rw [RK_KX]
  simp +contextual only [evs, ext_mv, nth, put, putT, getT, binInt, binStr, binBool, aUn, outA, resA, mapO, resA1, oneOf, w1, w2, w3, bots, cond_true, cond_false, if_true, if_false, ite_true, ite_false, reduceIte, reduceCtorEq, implies_true, Nat.reduceAdd, Nat.reduceSub, AV.int, AV.bool, AV.str, Nat.reduceBEq, Nat.reduceEqDiff, Nat.reduceMul, Nat.reduceLT, Nat.reduceLeDiff, Int.reduceNeg, BEq.rfl, beq_self_eq_true, tabl, cellsOf, fldA, ldA, stA, entAt, partA, takeN, over, leafOk, Value.oneCell', idxA, nilA, cellsEq, fillA, elemsA, pure1, pure2, reps, chkA, tys, Try.results45, R01_In, R01_result]
  refine ⟨fun h => ?_, fun h => ?_⟩
  · cases hb : inB b with
    | true => simp [addS, chk, h, hb, add_wrap]
    | false => simp [addS, chk, h, hb]
  · simp [addS, chk, h]
theorem num_abs (n : Int) (h : i64 n) : cL Try.prog 59 [.int n] S tk k = some (.int (absS n), S, tk, k) := by
  refine call_pure Try.func59 rfl rfl (by decide +kernel) (by decide +kernel) Try.ntmps59 rfl rfl _ _ _ rfl ?_; rw [RK_KX]
  simp +contextual only [evs, ext_mv, nth, put, putT, getT, binInt, binStr, binBool, aUn, outA, resA, mapO, resA1, oneOf, w1, w2, w3, bots, cond_true, cond_false, if_true, if_false, ite_true, ite_false, reduceIte, reduceCtorEq, implies_true, Nat.reduceAdd, Nat.reduceSub, AV.int, AV.bool, AV.str, Nat.reduceBEq, Nat.reduceEqDiff, Nat.reduceMul, Nat.reduceLT, Nat.reduceLeDiff, Int.reduceNeg, BEq.rfl, beq_self_eq_true, tabl, cellsOf, fldA, ldA, stA, entAt, partA, takeN, over, leafOk, Value.oneCell', idxA, nilA, cellsEq, fillA, elemsA, pure1, pure2, reps, chkA, tys, Try.results59]
  simp only [IntKind.wrap_i64, absS, AV.prim.injEq, Value.int.injEq, Option.some.injEq, true_and, decide_eq_true_eq, decide_eq_false_iff_not]
  unfold i64 at h
  refine ⟨fun h1 => ?_, fun h1 => ⟨fun h2 => ?_, fun h2 => ?_⟩⟩ <;> (split <;> try split) <;> omega
theorem R01_size (n : Int) (h : i64 n) : cL Try.prog 61 [.int n] S tk k = some (.int (absS n), S, tk, k) := by
  refine call_pure Try.func61 rfl rfl (by decide +kernel) (by decide +kernel) Try.ntmps61 rfl rfl _ _ _ rfl ?_; rw [RK_KX]
  simp +contextual only [evs, ext_mv, nth, put, putT, getT, binInt, binStr, binBool, aUn, outA, resA, mapO, resA1, oneOf, w1, w2, w3, bots, cond_true, cond_false, if_true, if_false, ite_true, ite_false, reduceIte, reduceCtorEq, implies_true, Nat.reduceAdd, Nat.reduceSub, AV.int, AV.bool, AV.str, Nat.reduceBEq, Nat.reduceEqDiff, Nat.reduceMul, Nat.reduceLT, Nat.reduceLeDiff, Int.reduceNeg, BEq.rfl, beq_self_eq_true, tabl, cellsOf, fldA, ldA, stA, entAt, partA, takeN, over, leafOk, Value.oneCell', idxA, nilA, cellsEq, fillA, elemsA, pure1, pure2, reps, chkA, tys, Try.results61]
  simp only [IntKind.wrap_i64, absS, AV.prim.injEq, Value.int.injEq, Option.some.injEq, true_and, decide_eq_true_eq, decide_eq_false_iff_not, beq_iff_eq, beq_eq_false_iff_ne]
  unfold i64 at h
  refine ⟨fun h1 => ?_, fun h1 => ⟨fun h2 => ?_, fun h2 => ?_⟩⟩ <;> (split <;> try split) <;> omega
theorem num_abs' {n : Int} (h : inB n = true) : cL Try.prog 59 [.int n] S tk k = some (.int n.natAbs, S, tk, k) := by rw [num_abs S tk k n (inB_i64 h), absS_in h]
theorem mul_case {a b : Int} (ha : inB a = true) (hb : inB b = true) (h0 : ¬ a = 0) (v : Int) (hv : v = (a.natAbs : Int)) :
    (decide ((b.natAbs : Int) > IntKind.i64.wrap (Int.tdiv 1000000000000 v)) = false → IntKind.i64.wrap (a * b) = a * b ∧ inB (a * b) = true) ∧ (decide ((b.natAbs : Int) > IntKind.i64.wrap (Int.tdiv 1000000000000 v)) = true → inB (a * b) = false) := by
  subst hv
  have hp : 0 < (a.natAbs : Int) := by omega
  have e : Int.tdiv 1000000000000 (a.natAbs : Int) = 1000000000000 / (a.natAbs : Int) := Int.tdiv_eq_ediv_of_nonneg (by omega)
  have h1 : 0 ≤ 1000000000000 / (a.natAbs : Int) := Int.ediv_nonneg (by omega) (by omega)
  have h2 : 1000000000000 / (a.natAbs : Int) ≤ 1000000000000 := Int.ediv_le_self _ (by omega)
  rw [e, wrap_of (by unfold i64; omega)]
  rcases mul_test a b h0 with ⟨h3, h4, h5, h6⟩ | ⟨h3, h4⟩
  · exact ⟨fun _ => ⟨wrap_of (by unfold i64; omega), h6⟩, fun h => by simp only [gt_iff_lt] at h; rw [h3] at h; simp at h⟩
  · exact ⟨fun h => by simp only [gt_iff_lt] at h; rw [h3] at h; simp at h, fun _ => h4⟩
theorem num_Mul (a b : Int) : cL Try.prog 41 [.int a, .int b] S tk k = some (.tup [.int (mulS a b).1, .bool (mulS a b).2], S, tk, k) := by
  refine call_pure Try.func41 rfl rfl (by decide +kernel) (by decide +kernel) Try.ntmps41 rfl rfl _ _ _ rfl ?_; rw [RK_KX]
  simp (maxSteps := 1000000) +contextual only [evs, ext_mv, nth, put, putT, getT, binInt, binStr, binBool, aUn, outA, resA, mapO, resA1, oneOf, w1, w2, w3, bots, cond_true, cond_false, if_true, if_false, ite_true, ite_false, reduceIte, reduceCtorEq, implies_true, Nat.reduceAdd, Nat.reduceSub, AV.int, AV.bool, AV.str, Nat.reduceBEq, Nat.reduceEqDiff, Nat.reduceMul, Nat.reduceLT, Nat.reduceLeDiff, Int.reduceNeg, BEq.rfl, beq_self_eq_true, tabl, cellsOf, fldA, ldA, stA, entAt, partA, takeN, over, leafOk, Value.oneCell', idxA, nilA, cellsEq, fillA, elemsA, pure1, pure2, reps, chkA, tys, Try.results41, num_In, num_checked, num_abs']
  refine ⟨fun ha => ⟨fun hb => ⟨fun h0 => ?_, fun h0 => ⟨fun h1 => ?_, fun h1 => ?_⟩⟩, fun hb => ?_⟩, fun ha => ?_⟩
  · simp at h0; subst h0; simp [mulS, chk, hb]; decide
  · simp at h1; subst h1; simp [mulS, chk, ha]; decide
  · have h0' : ¬ a = 0 := by simpa using h0
    obtain ⟨c1, c2⟩ := mul_case ha hb h0' _ rfl
    refine ⟨by omega, fun h => ?_, fun h => ?_⟩
    · simp [mulS, chk, ha, hb, c2 h]
    · simp [mulS, chk, ha, hb, (c1 h).1, (c1 h).2]
  · simp [mulS, chk, hb]
  · simp [mulS, chk, ha]
theorem R01_Mul (a b : Int) : cL Try.prog 43 [.int a, .int b] S tk k = some (.tup [.int (mulS a b).1, .bool (mulS a b).2], S, tk, k) := by
  refine call_pure Try.func43 rfl rfl (by decide +kernel) (by decide +kernel) Try.ntmps43 rfl rfl _ _ _ rfl ?_; rw [RK_KX]
  simp (maxSteps := 1000000) +contextual only [evs, ext_mv, nth, put, putT, getT, binInt, binStr, binBool, aUn, outA, resA, mapO, resA1, oneOf, w1, w2, w3, bots, cond_true, cond_false, if_true, if_false, ite_true, ite_false, reduceIte, reduceCtorEq, implies_true, Nat.reduceAdd, Nat.reduceSub, AV.int, AV.bool, AV.str, Nat.reduceBEq, Nat.reduceEqDiff, Nat.reduceMul, Nat.reduceLT, Nat.reduceLeDiff, Int.reduceNeg, BEq.rfl, beq_self_eq_true, tabl, cellsOf, fldA, ldA, stA, entAt, partA, takeN, over, leafOk, Value.oneCell', idxA, nilA, cellsEq, fillA, elemsA, pure1, pure2, reps, chkA, tys, Try.results43, R01_In]
  have wn : ∀ {x : Int}, inB x = true → IntKind.i64.wrap (0 - x) = 0 - x := fun h => wrap_of (by rw [inB_true] at h; unfold i64; omega)
  have comm : ∀ x y : Int, mulS x y = mulS y x := fun x y => by simp [mulS, Int.mul_comm, Bool.and_comm]
  refine ⟨fun ha => ⟨fun hb => ⟨fun h0 => ?_, fun h0 => ⟨fun h1 => ?_, fun h1 => ?_⟩⟩, fun hb => ?_⟩, fun ha => ?_⟩
  · simp at h0; subst h0; simp [mulS, chk, hb]; decide
  · simp at h1; subst h1; simp [mulS, chk, ha]; decide
  · have h0' : ¬ a = 0 := by simpa using h0
    have h1' : ¬ b = 0 := by simpa using h1
    rw [wn ha, wn hb, comm a b]
    obtain ⟨c1, c2⟩ := mul_case hb ha h1' _ rfl
    rw [Int.mul_comm] at c1 c2
    simp only [decide_eq_true_eq, decide_eq_false_iff_not] at c1 c2 ⊢
    have fin1 : ∀ x y : Int, x = (a.natAbs : Int) → y = (b.natAbs : Int) → ¬ y = 0 ∧ (x > IntKind.i64.wrap (Int.tdiv 1000000000000 y) → 0 = (mulS b a).1 ∧ false = (mulS b a).2) ∧ (¬ x > IntKind.i64.wrap (Int.tdiv 1000000000000 y) → IntKind.i64.wrap (a * b) = (mulS b a).1 ∧ true = (mulS b a).2) := by
      intro x y hx hy
      subst hx hy
      refine ⟨by omega, fun h => ?_, fun h => ?_⟩
      · rw [Int.mul_comm] at c2; simp [mulS, chk, ha, hb, c2 h]
      · rw [Int.mul_comm] at c1; simp [mulS, chk, ha, hb, (c1 h).2]; rw [Int.mul_comm]; exact (c1 h).1
    refine ⟨fun ha0 => ⟨fun hb0 => ?_, fun hb0 => ?_⟩, fun ha0 => ⟨fun hb0 => ?_, fun hb0 => ?_⟩⟩
    all_goals exact fin1 _ _ (by omega) (by omega)
  · simp [mulS, chk, hb]
  · simp [mulS, chk, ha]

theorem absS_nn {n : Int} (h : i64 n) : 0 ≤ absS n ∧ i64 (absS n) := by
  unfold absS; unfold i64 at *; split
  · omega
  · split <;> omega
theorem gcd_stepZ (x y : Int) : Int.gcd y (x % y) = Int.gcd x y := by
  rw [Int.emod_def, Int.sub_eq_add_neg, ← Int.mul_neg, Int.gcd_add_mul_left_right, Int.gcd_comm]
theorem lit16 {T : List AV} (h : T.length = 16) : ∃ t0 t1 t2 t3 t4 t5 t6 t7 t8 t9 t10 t11 t12 t13 t14 t15, T = [t0, t1, t2, t3, t4, t5, t6, t7, t8, t9, t10, t11, t12, t13, t14, t15] := by
  match T, h with
  | [t0, t1, t2, t3, t4, t5, t6, t7, t8, t9, t10, t11, t12, t13, t14, t15], _ => exact ⟨t0, t1, t2, t3, t4, t5, t6, t7, t8, t9, t10, t11, t12, t13, t14, t15, rfl⟩
theorem lit18 {T : List AV} (h : T.length = 18) : ∃ t0 t1 t2 t3 t4 t5 t6 t7 t8 t9 t10 t11 t12 t13 t14 t15 t16 t17, T = [t0, t1, t2, t3, t4, t5, t6, t7, t8, t9, t10, t11, t12, t13, t14, t15, t16, t17] := by
  match T, h with
  | [t0, t1, t2, t3, t4, t5, t6, t7, t8, t9, t10, t11, t12, t13, t14, t15, t16, t17], _ => exact ⟨t0, t1, t2, t3, t4, t5, t6, t7, t8, t9, t10, t11, t12, t13, t14, t15, t16, t17, rfl⟩
theorem num_Gcd (a b : Int) (ha : i64 a) (hb : i64 b) : cL Try.prog 30 [.int a, .int b] S tk k = some (.int (gcdS a b), S, tk, k) := by
  refine call_pure Try.func30 rfl rfl (by decide +kernel) (by decide +kernel) Try.ntmps30 rfl rfl _ _ _ rfl ?_; rw [RK_KX]
  have h1 := num_abs (h := ha)
  have h2 := num_abs (h := hb)
  simp (maxSteps := 1000000) +contextual (disch := first | with_reducible assumption | exact ⟨rfl⟩ | exact ⟨rfl, rfl⟩ | (refine _root_.id ?_; kernel_rfl) | omega) only [evs, ext_mv, nth, put, putT, getT, binInt, binStr, binBool, aUn, outA, resA, mapO, resA1, oneOf, w1, w2, w3, bots, cond_true, cond_false, if_true, if_false, ite_true, ite_false, reduceIte, reduceCtorEq, implies_true, Nat.reduceAdd, Nat.reduceSub, AV.int, AV.bool, AV.str, Nat.reduceBEq, Nat.reduceEqDiff, Nat.reduceMul, Nat.reduceLT, Nat.reduceLeDiff, Int.reduceNeg, BEq.rfl, beq_self_eq_true, tabl, cellsOf, fldA, ldA, stA, entAt, partA, takeN, over, leafOk, Value.oneCell', idxA, nilA, cellsEq, fillA, elemsA, pure1, pure2, reps, chkA, tys, Try.results30, KX_draw, KX_drawQ, KX_tail, lastO_one, lastO_more, dropL_one, dropL_more, callP_eq, callM_true, h1, h2]
  refine loop1 (P := Try.prog) (fun x st => st.T.length = 16 ∧ getT st.T 0 = .int x.1 ∧ getT st.T 1 = .int x.2 ∧ st.S = [] ∧ 0 ≤ x.1 ∧ 0 ≤ x.2) (fun x => x.2.toNat) (fun x => .int (Int.gcd x.1 x.2)) (absS a, absS b) ?_ ?_
  case refine_2 => exact ⟨rfl, rfl, rfl, rfl, (absS_nn ha).1, (absS_nn hb).1⟩
  rintro ⟨x, y⟩ ⟨T, S', tk', n'⟩ ⟨hl, e0, e1, rfl, hx, hy⟩ IH
  obtain ⟨t0, t1, t2, t3, t4, t5, t6, t7, t8, t9, t10, t11, t12, t13, t14, t15, rfl⟩ := lit16 hl
  simp only [getT] at e0 e1
  subst e0 e1
  clear hl
  simp (maxSteps := 1000000) +contextual (disch := first | with_reducible assumption | exact ⟨rfl⟩ | exact ⟨rfl, rfl⟩ | (refine _root_.id ?_; kernel_rfl) | omega) only [evs, ext_mv, nth, put, putT, getT, binInt, binStr, binBool, aUn, outA, resA, mapO, resA1, oneOf, w1, w2, w3, bots, cond_true, cond_false, if_true, if_false, ite_true, ite_false, reduceIte, reduceCtorEq, implies_true, Nat.reduceAdd, Nat.reduceSub, AV.int, AV.bool, AV.str, Nat.reduceBEq, Nat.reduceEqDiff, Nat.reduceMul, Nat.reduceLT, Nat.reduceLeDiff, Int.reduceNeg, BEq.rfl, beq_self_eq_true, tabl, cellsOf, fldA, ldA, stA, entAt, partA, takeN, over, leafOk, Value.oneCell', idxA, nilA, cellsEq, fillA, elemsA, pure1, pure2, reps, chkA, tys, Try.results30, KX_draw, KX_drawQ, KX_tail, lastO_one, lastO_more, dropL_one, dropL_more, callP_eq, callM_true]
  refine ⟨fun h => ⟨by simpa using h, ?_⟩, fun h => ?_⟩
  · have h0 : y ≠ 0 := by simpa using h
    simp only at hx hy
    have e : x.tmod y = x % y := Int.tmod_eq_emod_of_nonneg hx
    have e1 := Int.emod_nonneg x h0
    have e2 := Int.emod_lt_of_pos x (show 0 < y by omega)
    rw [IH (y, x.tmod y) _ (by simp only; omega) ⟨rfl, rfl, rfl, rfl, hy, by simp only; omega⟩]
    simp only [e]
    rw [gcd_stepZ]
  · have h0 : y = 0 := by simpa using h
    subst h0
    simp only at hx
    simp; omega
theorem R01_Gcd (a b : Int) (ha : i64 a) (hb : i64 b) : cL Try.prog 32 [.int a, .int b] S tk k = some (.int (gcdS a b), S, tk, k) := by
  refine call_pure Try.func32 rfl rfl (by decide +kernel) (by decide +kernel) Try.ntmps32 rfl rfl _ _ _ rfl ?_; rw [RK_KX]
  have h1 := R01_size (h := ha)
  have h2 := R01_size (h := hb)
  simp (maxSteps := 1000000) +contextual (disch := first | with_reducible assumption | exact ⟨rfl⟩ | exact ⟨rfl, rfl⟩ | (refine _root_.id ?_; kernel_rfl) | omega) only [evs, ext_mv, nth, put, putT, getT, binInt, binStr, binBool, aUn, outA, resA, mapO, resA1, oneOf, w1, w2, w3, bots, cond_true, cond_false, if_true, if_false, ite_true, ite_false, reduceIte, reduceCtorEq, implies_true, Nat.reduceAdd, Nat.reduceSub, AV.int, AV.bool, AV.str, Nat.reduceBEq, Nat.reduceEqDiff, Nat.reduceMul, Nat.reduceLT, Nat.reduceLeDiff, Int.reduceNeg, BEq.rfl, beq_self_eq_true, tabl, cellsOf, fldA, ldA, stA, entAt, partA, takeN, over, leafOk, Value.oneCell', idxA, nilA, cellsEq, fillA, elemsA, pure1, pure2, reps, chkA, tys, Try.results32, KX_draw, KX_drawQ, KX_tail, lastO_one, lastO_more, dropL_one, dropL_more, callP_eq, callM_true, h1, h2]
  refine loop1 (P := Try.prog) (fun x st => st.T.length = 18 ∧ getT st.T 0 = .int x.1 ∧ getT st.T 1 = .int x.2 ∧ st.S = [] ∧ 0 ≤ x.1 ∧ 0 ≤ x.2) (fun x => x.2.toNat) (fun x => .int (Int.gcd x.1 x.2)) (absS a, absS b) ?_ ?_
  case refine_2 => exact ⟨rfl, rfl, rfl, rfl, (absS_nn ha).1, (absS_nn hb).1⟩
  rintro ⟨x, y⟩ ⟨T, S', tk', n'⟩ ⟨hl, e0, e1, rfl, hx, hy⟩ IH
  obtain ⟨t0, t1, t2, t3, t4, t5, t6, t7, t8, t9, t10, t11, t12, t13, t14, t15, t16, t17, rfl⟩ := lit18 hl
  simp only [getT] at e0 e1
  subst e0 e1
  clear hl
  simp (maxSteps := 1000000) +contextual (disch := first | with_reducible assumption | exact ⟨rfl⟩ | exact ⟨rfl, rfl⟩ | (refine _root_.id ?_; kernel_rfl) | omega) only [evs, ext_mv, nth, put, putT, getT, binInt, binStr, binBool, aUn, outA, resA, mapO, resA1, oneOf, w1, w2, w3, bots, cond_true, cond_false, if_true, if_false, ite_true, ite_false, reduceIte, reduceCtorEq, implies_true, Nat.reduceAdd, Nat.reduceSub, AV.int, AV.bool, AV.str, Nat.reduceBEq, Nat.reduceEqDiff, Nat.reduceMul, Nat.reduceLT, Nat.reduceLeDiff, Int.reduceNeg, BEq.rfl, beq_self_eq_true, tabl, cellsOf, fldA, ldA, stA, entAt, partA, takeN, over, leafOk, Value.oneCell', idxA, nilA, cellsEq, fillA, elemsA, pure1, pure2, reps, chkA, tys, Try.results32, KX_draw, KX_drawQ, KX_tail, lastO_one, lastO_more, dropL_one, dropL_more, callP_eq, callM_true]
  refine ⟨fun h => ⟨by simp at h; omega, ?_⟩, fun h => ?_⟩
  · have h0 : 0 < y := by simpa using h
    simp only at hx hy
    have e : x.tmod y = x % y := Int.tmod_eq_emod_of_nonneg hx
    have e1 := Int.emod_nonneg x (show y ≠ 0 by omega)
    have e2 := Int.emod_lt_of_pos x (show 0 < y by omega)
    rw [IH (y, x.tmod y) _ (by simp only; omega) ⟨rfl, rfl, rfl, rfl, hy, by simp only; omega⟩]
    simp only [e]
    rw [gcd_stepZ]
  · have h0 : y = 0 := by simp at h; simp only at hy; omega
    subst h0
    simp only at hx
    simp; omega
theorem tmod_case {a b : Int} (hb : 0 < b) : (a.tmod b = 0 ∧ a.tdiv b = a / b) ∨ (0 < a.tmod b ∧ a.tdiv b = a / b) ∨ (a.tmod b < 0 ∧ a.tdiv b - 1 = a / b) := by
  have e1 := @Int.tmod_eq_emod a b
  have e2 := @Int.tdiv_eq_ediv a b
  have h1 := Int.emod_nonneg a (show b ≠ 0 by omega)
  have h2 := Int.emod_lt_of_pos a hb
  have hs : b.sign = 1 := Int.sign_eq_one_of_pos hb
  by_cases hd : 0 ≤ a ∨ b ∣ a
  · rw [if_pos hd] at e1 e2
    rcases Int.lt_or_le 0 (a.tmod b) with h | h
    · exact .inr (.inl ⟨h, by omega⟩)
    · exact .inl ⟨by omega, by omega⟩
  · rw [if_neg hd] at e1 e2
    exact .inr (.inr ⟨by omega, by omega⟩)
theorem tdiv_bound {a b : Int} (a0 : -1000000000000 ≤ a) (a1 : a ≤ 1000000000000) : -1000000000000 ≤ a.tdiv b ∧ a.tdiv b ≤ 1000000000000 := by
  have := Int.natAbs_tdiv a b
  have h2 : (a.tdiv b).natAbs ≤ a.natAbs := by rw [this]; exact Nat.div_le_self _ _
  omega
theorem tmod_bound {a b : Int} (a0 : -1000000000000 ≤ a) (a1 : a ≤ 1000000000000) : -1000000000000 ≤ a.tmod b ∧ a.tmod b ≤ 1000000000000 := by
  have h2 : (a.tmod b).natAbs ≤ a.natAbs := by rw [Int.natAbs_tmod]; exact Nat.mod_le _ _
  omega

/-- the quotient, rounded down, by a positive number -/
theorem div_case {a b : Int} (ha : inB a = true) (hb : 0 < b) : IntKind.i64.wrap (a.tdiv b) = a.tdiv b ∧ IntKind.i64.wrap (a.tdiv b - 1) = a.tdiv b - 1 ∧ (divS a b).1 = (if inB b then a / b else 0) ∧ (divS a b).2 = inB b := by
  rw [inB_true] at ha
  have := tdiv_bound ha.1 ha.2 (b := b)
  refine ⟨wrap_of (by unfold i64; omega), wrap_of (by unfold i64; omega), ?_, ?_⟩
  · unfold divS
    rw [inB_true.2 ha, Int.fdiv_eq_ediv_of_nonneg a (by omega)]
    have : (b == 0) = false := by simp; omega
    rw [this]; cases inB b <;> simp
  · unfold divS
    rw [inB_true.2 ha]
    have : (b == 0) = false := by simp; omega
    rw [this]; cases inB b <;> simp
theorem num_divide (a b : Int) (ha : inB a = true) (hb : 0 < b) (hb' : inB b = true) : cL Try.prog 62 [.int a, .int b] S tk k = some (.tup [.int (a / b), .int (a % b), .bool true], S, tk, k) := by
  refine call_pure Try.func62 rfl rfl (by decide +kernel) (by decide +kernel) Try.ntmps62 rfl rfl _ _ _ rfl ?_; rw [RK_KX]
  simp (maxSteps := 1000000) +contextual (disch := first | with_reducible assumption | exact ⟨rfl⟩ | exact ⟨rfl, rfl⟩ | (refine _root_.id ?_; kernel_rfl) | omega) only [evs, ext_mv, nth, put, putT, getT, binInt, binStr, binBool, aUn, outA, resA, mapO, resA1, oneOf, w1, w2, w3, bots, cond_true, cond_false, if_true, if_false, ite_true, ite_false, reduceIte, reduceCtorEq, implies_true, Nat.reduceAdd, Nat.reduceSub, AV.int, AV.bool, AV.str, Nat.reduceBEq, Nat.reduceEqDiff, Nat.reduceMul, Nat.reduceLT, Nat.reduceLeDiff, Int.reduceNeg, BEq.rfl, beq_self_eq_true, tabl, cellsOf, fldA, ldA, stA, entAt, partA, takeN, over, leafOk, Value.oneCell', idxA, nilA, cellsEq, fillA, elemsA, pure1, pure2, reps, chkA, tys, Try.results62, KX_draw, KX_drawQ, KX_tail, lastO_one, lastO_more, dropL_one, dropL_more, callP_eq, callM_true, num_In, ha, hb']
  obtain ⟨w1, w2, -, -⟩ := div_case ha hb
  have hm := Int.tmod_def a b
  have he := Int.emod_def a b
  have hbd : a.tmod b < b ∧ -b < a.tmod b := ⟨Int.tmod_lt_of_pos a hb, by have := Int.lt_tmod_of_pos a hb; omega⟩
  have hb2 := hb'
  rw [inB_true] at ha hb2
  rw [w1, w2, wrap_of (n := a.tmod b + b) (by unfold i64; omega)]
  refine ⟨fun h => by simp at h; omega, fun _ => ⟨by omega, by omega, fun h1 => ⟨fun h2 => ?_, fun h2 => ?_⟩, fun h1 => ?_⟩⟩
  · have h2' : a.tmod b < 0 ↔ b < 0 := by simpa using h2
    rcases tmod_case (a := a) hb with ⟨c1, c2⟩ | ⟨c1, c2⟩ | ⟨c1, c2⟩
    · rw [← c2] at he ⊢; exact ⟨rfl, by omega⟩
    · rw [← c2] at he ⊢; exact ⟨rfl, by omega⟩
    · omega
  · have h2' : ¬ (a.tmod b < 0 ↔ b < 0) := by simpa using h2
    have h1' : a.tmod b ≠ 0 := by simpa using h1
    rcases tmod_case (a := a) hb with ⟨c1, c2⟩ | ⟨c1, c2⟩ | ⟨c1, c2⟩
    · omega
    · omega
    · rw [← c2] at he ⊢
      rw [Int.mul_sub] at he
      exact ⟨rfl, by omega⟩
  · have h1' : a.tmod b = 0 := by simpa using h1
    rcases tmod_case (a := a) hb with ⟨c1, c2⟩ | ⟨c1, c2⟩ | ⟨c1, c2⟩
    · rw [← c2] at he ⊢; exact ⟨rfl, by omega⟩
    · omega
    · omega
theorem num_Div (a b : Int) (ha : inB a = true) (hb : 0 < b) (hb' : inB b = true) : cL Try.prog 37 [.int a, .int b] S tk k = some (.tup [.int (a / b), .bool true], S, tk, k) := by
  refine call_pure Try.func37 rfl rfl (by decide +kernel) (by decide +kernel) Try.ntmps37 rfl rfl _ _ _ rfl ?_; rw [RK_KX]
  have h := fun S tk k => num_divide S tk k a b ha hb hb'
  simp (maxSteps := 1000000) +contextual (disch := first | with_reducible assumption | exact ⟨rfl⟩ | exact ⟨rfl, rfl⟩ | (refine _root_.id ?_; kernel_rfl) | omega) only [evs, ext_mv, nth, put, putT, getT, binInt, binStr, binBool, aUn, outA, resA, mapO, resA1, oneOf, w1, w2, w3, bots, cond_true, cond_false, if_true, if_false, ite_true, ite_false, reduceIte, reduceCtorEq, implies_true, Nat.reduceAdd, Nat.reduceSub, AV.int, AV.bool, AV.str, Nat.reduceBEq, Nat.reduceEqDiff, Nat.reduceMul, Nat.reduceLT, Nat.reduceLeDiff, Int.reduceNeg, BEq.rfl, beq_self_eq_true, tabl, cellsOf, fldA, ldA, stA, entAt, partA, takeN, over, leafOk, Value.oneCell', idxA, nilA, cellsEq, fillA, elemsA, pure1, pure2, reps, chkA, tys, Try.results37, KX_draw, KX_drawQ, KX_tail, lastO_one, lastO_more, dropL_one, dropL_more, callP_eq, callM_true, h]
theorem R01_Div (a b : Int) (ha : inB a = true) (hb : 0 < b) (hb' : inB b = true) : cL Try.prog 38 [.int a, .int b] S tk k = some (.tup [.int (a / b), .bool true], S, tk, k) := by
  refine call_pure Try.func38 rfl rfl (by decide +kernel) (by decide +kernel) Try.ntmps38 rfl rfl _ _ _ rfl ?_; rw [RK_KX]
  simp (maxSteps := 1000000) +contextual (disch := first | with_reducible assumption | exact ⟨rfl⟩ | exact ⟨rfl, rfl⟩ | (refine _root_.id ?_; kernel_rfl) | omega) only [evs, ext_mv, nth, put, putT, getT, binInt, binStr, binBool, aUn, outA, resA, mapO, resA1, oneOf, w1, w2, w3, bots, cond_true, cond_false, if_true, if_false, ite_true, ite_false, reduceIte, reduceCtorEq, implies_true, Nat.reduceAdd, Nat.reduceSub, AV.int, AV.bool, AV.str, Nat.reduceBEq, Nat.reduceEqDiff, Nat.reduceMul, Nat.reduceLT, Nat.reduceLeDiff, Int.reduceNeg, BEq.rfl, beq_self_eq_true, tabl, cellsOf, fldA, ldA, stA, entAt, partA, takeN, over, leafOk, Value.oneCell', idxA, nilA, cellsEq, fillA, elemsA, pure1, pure2, reps, chkA, tys, Try.results38, KX_draw, KX_drawQ, KX_tail, lastO_one, lastO_more, dropL_one, dropL_more, callP_eq, callM_true, R01_In, ha, hb']
  obtain ⟨w1, w2, -, -⟩ := div_case ha hb
  have hm := Int.tmod_def a b
  have e : b * a.tdiv b = a.tdiv b * b := Int.mul_comm _ _
  have hbd : a.tmod b < b ∧ -b < a.tmod b := ⟨Int.tmod_lt_of_pos a hb, by have := Int.lt_tmod_of_pos a hb; omega⟩
  have hb2 := hb'
  rw [inB_true] at ha hb2
  rw [w1, w2, wrap_of (n := a.tdiv b * b) (by unfold i64; omega)]
  have hs : 0 ≤ a → 0 ≤ a.tmod b := fun h => Int.tmod_nonneg b h
  refine ⟨fun h => by simp at h; omega, fun _ => ⟨by omega, fun h1 => ⟨fun h2 => ?_, fun h2 => ?_⟩, fun h1 => ?_⟩⟩
  · have h2' : a < 0 ↔ b < 0 := by simpa using h2
    rcases tmod_case (a := a) hb with ⟨c1, c2⟩ | ⟨c1, c2⟩ | ⟨c1, c2⟩ <;> omega
  · have h2' : ¬ (a < 0 ↔ b < 0) := by simpa using h2
    have h1' : a.tdiv b * b ≠ a := by simpa using h1
    have hs2 : a ≤ 0 → a.tmod b ≤ 0 := fun h => by
      have := Int.tmod_nonneg b (show 0 ≤ -a by omega)
      rw [Int.neg_tmod] at this; omega
    rcases tmod_case (a := a) hb with ⟨c1, c2⟩ | ⟨c1, c2⟩ | ⟨c1, c2⟩ <;> omega
  · have h1' : a.tdiv b * b = a := by simpa using h1
    rcases tmod_case (a := a) hb with ⟨c1, c2⟩ | ⟨c1, c2⟩ | ⟨c1, c2⟩ <;> omega
end
end Go.Proofs.Ytkghgdkkholieaa
/-
  What the checks of forms compute.
-/

namespace Go.Proofs.Ytkghgdkkholieaa
open Go

/-- a coefficient, a list of them, a form, a row, as the evaluator sees them -/
def coefC (c : ByteArray × Int) : List AV := [.prim (.string c.1), .prim (.int .i64 c.2)]
def coefsA (cs : List (ByteArray × Int)) : AV := .frz (cs.map coefC) .unk
def linA (cs : List (ByteArray × Int)) (n : Int) : AV := .agg [coefsA cs, .prim (.int .i64 n)]
def rowA (cs : List (ByteArray × Int)) (n : Int) (eq : Bool) : AV := .agg [coefsA cs, .prim (.int .i64 n), .prim (.bool eq)]
theorem coefC_len (c : ByteArray × Int) : (coefC c).length = 2 := rfl
theorem nth_map {α β : Type} (f : α → β) : ∀ (l : List α) (i : Nat), nth (l.map f) i = (nth l i).map f
  | [], _ => rfl
  | _ :: _, 0 => rfl
  | _ :: l, i + 1 => nth_map f l i
theorem nth_drop {α : Type} : ∀ {l : List α} {i : Nat} {x : α}, nth l i = some x → l.drop i = x :: l.drop (i + 1)
  | y :: l, 0, x, h => by simp only [nth, Option.some.injEq] at h; subst h; rfl
  | _ :: l, i + 1, x, h => nth_drop (l := l) (i := i) h
  | [], _, _, h => by simp [nth] at h
theorem wrap_add {i m : Nat} (h : i ≤ 1048576) : IntKind.i64.wrap ((i : Int) + 1) = ((i + 1 : Nat) : Int) := by rw [wrap_of (by unfold i64; omega)]; omega
theorem wrap_pred {j : Nat} (h : j ≤ 1048576) : IntKind.i64.wrap (((j + 1 : Nat) : Int) - 1) = (j : Int) := by rw [wrap_of (by unfold i64; omega)]; omega

def badName (s : ByteArray) : Bool := sEq s ⟨#[]⟩ || decide ((s.size : Int) > 400)
def notAbove : Option ByteArray → ByteArray → Bool
  | none, _ => false
  | some p, s => sLt s p || sEq s p
def chkFrom (n : Int) : Option ByteArray → List (ByteArray × Int) → Int
  | _, [] => if inB n then 0 else 2
  | p, c :: cs => if badName c.1 then 3 else if c.2 == 0 || !inB c.2 then 2 else if notAbove p c.1 then 9 else chkFrom n (some c.1) cs
def checkF (cs : List (ByteArray × Int)) (n : Int) : Int := if 24 < cs.length then 7 else chkFrom n none cs
def prevName (cs : List (ByteArray × Int)) : Nat → Option ByteArray
  | 0 => none
  | j + 1 => (nth cs j).map (·.1)

section
variable (S : List Ent) (tk : List Nat) (k : Nat)
theorem linear_Check (cs : List (ByteArray × Int)) (n : Int) (hlen : cs.length ≤ 1048576) : cL Try.prog 23 [linA cs n] S tk k = some (.int (checkF cs n), S, tk, k) := by
  refine call_pure Try.func23 rfl rfl (by decide +kernel) (by decide +kernel) Try.ntmps23 rfl rfl _ _ _ rfl ?_; rw [RK_KX]
  simp (maxSteps := 1000000) +contextual (disch := first | with_reducible assumption | exact ⟨rfl⟩ | exact ⟨rfl, rfl⟩ | (refine _root_.id ?_; kernel_rfl) | omega) only [evs, ext_mv, nth, put, putT, getT, binInt, binStr, binBool, aUn, outA, resA, mapO, resA1, oneOf, w1, w2, w3, bots, cond_true, cond_false, if_true, if_false, ite_true, ite_false, reduceIte, reduceCtorEq, implies_true, Nat.reduceAdd, Nat.reduceSub, AV.int, AV.bool, AV.str, Nat.reduceBEq, Nat.reduceEqDiff, Nat.reduceMul, Nat.reduceLT, Nat.reduceLeDiff, Int.reduceNeg, BEq.rfl, beq_self_eq_true, tabl, cellsOf, fldA, ldA, stA, entAt, partA, takeN, over, leafOk, Value.oneCell', idxA, nilA, cellsEq, fillA, elemsA, pure1, pure2, reps, chkA, tys, Try.results23, KX_draw, KX_drawQ, KX_tail, lastO_one, lastO_more, dropL_one, dropL_more, callP_eq, callM_true, linA, coefsA]
  refine ⟨fun h => ?_, fun h => ?_⟩
  · unfold checkF; rw [if_pos (by simp at h; omega)]
  have hc : checkF cs n = chkFrom n none cs := by unfold checkF; rw [if_neg (by simp at h; omega)]
  rw [hc]
  refine loop1 (P := Try.prog) (fun i st => st.T.length = 57 ∧ i ≤ cs.length ∧ getT st.T 1 = .ref 0 0 0 ∧ getT st.T 10 = coefsA cs ∧ getT st.T 11 = .int cs.length ∧ getT st.T 12 = .int (i : Nat) ∧ st.S = [⟨0, [coefsA cs, .int n]⟩]) (fun i => cs.length - i) (fun i => .int (chkFrom n (prevName cs i) (cs.drop i))) 0 ?_ ?_
  case refine_2 => exact ⟨rfl, Nat.zero_le _, rfl, rfl, rfl, rfl, rfl⟩
  rintro i ⟨T, S', tk', n'⟩ ⟨hl, hi, e1, e10, e11, e12, rfl⟩ IH
  obtain ⟨g, hg, hT⟩ := tab_of hl
  rw [hg] at e1 e10 e11 e12
  subst hT
  clear hg hl h hc
  by_cases hlt : i < cs.length
  · have d1 : decide ((i : Int) < (cs.length : Int)) = true := by simpa using hlt
    obtain ⟨c, hc⟩ := nth_some hlt
    have hc' : nth (cs.map coefC) i = some (coefC c) := by rw [nth_map, hc]; rfl
    have hw := wrap_add (i := i) (m := 0) (by omega)
    have hp : prevName cs (i + 1) = some c.1 := by simp [prevName, hc]
    rw [nth_drop hc]
    rcases i with _ | j
    · have d2 : decide (((0 : Nat) : Int) > 0) = false := rfl
      simp (maxSteps := 1000000) +contextual (disch := first | with_reducible assumption | exact ⟨rfl⟩ | exact ⟨rfl, rfl⟩ | (refine _root_.id ?_; kernel_rfl) | omega) only [evs, ext_mv, nth, put, putT, getT, binInt, binStr, binBool, aUn, outA, resA, mapO, resA1, oneOf, w1, w2, w3, bots, cond_true, cond_false, if_true, if_false, ite_true, ite_false, reduceIte, reduceCtorEq, implies_true, Nat.reduceAdd, Nat.reduceSub, AV.int, AV.bool, AV.str, Nat.reduceBEq, Nat.reduceEqDiff, Nat.reduceMul, Nat.reduceLT, Nat.reduceLeDiff, Int.reduceNeg, BEq.rfl, beq_self_eq_true, tabl, cellsOf, fldA, ldA, stA, entAt, partA, takeN, over, leafOk, Value.oneCell', idxA, nilA, cellsEq, fillA, elemsA, pure1, pure2, reps, chkA, tys, Try.results23, KX_draw, KX_drawQ, KX_tail, lastO_one, lastO_more, dropL_one, dropL_more, callP_eq, callM_true, e1, e10, e11, e12, d1, d2, coefsA, hc', hw, coefC, num_In]
      refine ⟨fun h1 => ?_, fun h1 => ⟨fun h2 => ?_, fun h2 => ⟨fun h3 => ?_, fun h3 => ⟨fun h4 => ?_, fun h4 => ?_⟩⟩⟩⟩
      · simp [chkFrom, badName, h1]
      · simp only [chkFrom, badName, h1, h2]; rfl
      · simp only [chkFrom, badName, h1, h2, h3]; rfl
      · rw [IH 1 _ (by omega) ⟨rfl, by omega, rfl, rfl, rfl, rfl, rfl⟩, hp]
        simp only [chkFrom, badName, h1, h2, h3, h4, prevName, notAbove]; rfl
      · simp only [chkFrom, badName, h1, h2, h3, h4]; rfl
    · have d2 : decide (((j + 1 : Nat) : Int) > 0) = true := decide_eq_true (by omega)
      obtain ⟨p, hpr⟩ := nth_some (show j < cs.length by omega)
      have hp' : nth (cs.map coefC) j = some (coefC p) := by rw [nth_map, hpr]; rfl
      have hw' := wrap_pred (j := j) (by omega)
      have hpp : prevName cs (j + 1) = some p.1 := by simp [prevName, hpr]
      simp (maxSteps := 1000000) +contextual (disch := first | with_reducible assumption | exact ⟨rfl⟩ | exact ⟨rfl, rfl⟩ | (refine _root_.id ?_; kernel_rfl) | omega) only [evs, ext_mv, nth, put, putT, getT, binInt, binStr, binBool, aUn, outA, resA, mapO, resA1, oneOf, w1, w2, w3, bots, cond_true, cond_false, if_true, if_false, ite_true, ite_false, reduceIte, reduceCtorEq, implies_true, Nat.reduceAdd, Nat.reduceSub, AV.int, AV.bool, AV.str, Nat.reduceBEq, Nat.reduceEqDiff, Nat.reduceMul, Nat.reduceLT, Nat.reduceLeDiff, Int.reduceNeg, BEq.rfl, beq_self_eq_true, tabl, cellsOf, fldA, ldA, stA, entAt, partA, takeN, over, leafOk, Value.oneCell', idxA, nilA, cellsEq, fillA, elemsA, pure1, pure2, reps, chkA, tys, Try.results23, KX_draw, KX_drawQ, KX_tail, lastO_one, lastO_more, dropL_one, dropL_more, callP_eq, callM_true, e1, e10, e11, e12, d1, d2, coefsA, hc', hw, coefC, num_In, hp', hw']
      refine ⟨fun h1 => ?_, fun h1 => ⟨fun h2 => ?_, fun h2 => ⟨fun h3 => ?_, fun h3 => ⟨fun h4 => ?_, fun h4 => ?_⟩⟩⟩⟩
      · simp [chkFrom, badName, h1]
      · simp only [chkFrom, badName, h1, h2]; rfl
      · simp only [chkFrom, badName, h1, h2, h3]; rfl
      · refine ⟨fun h5 => ?_, fun h5 => ?_⟩
        · simp only [chkFrom, badName, h1, h2, h3, h4, hpp, notAbove, h5]; rfl
        · rw [IH (j + 1 + 1) _ (by omega) ⟨rfl, by omega, rfl, rfl, rfl, rfl, rfl⟩, hp]
          simp only [chkFrom, badName, h1, h2, h3, h4, hpp, notAbove, h5]; rfl
      · simp only [chkFrom, badName, h1, h2, h3, h4]; rfl
  · have d1 : decide ((i : Int) < (cs.length : Int)) = false := by simpa using hlt
    have he : i = cs.length := by omega
    simp (maxSteps := 1000000) +contextual (disch := first | with_reducible assumption | exact ⟨rfl⟩ | exact ⟨rfl, rfl⟩ | (refine _root_.id ?_; kernel_rfl) | omega) only [evs, ext_mv, nth, put, putT, getT, binInt, binStr, binBool, aUn, outA, resA, mapO, resA1, oneOf, w1, w2, w3, bots, cond_true, cond_false, if_true, if_false, ite_true, ite_false, reduceIte, reduceCtorEq, implies_true, Nat.reduceAdd, Nat.reduceSub, AV.int, AV.bool, AV.str, Nat.reduceBEq, Nat.reduceEqDiff, Nat.reduceMul, Nat.reduceLT, Nat.reduceLeDiff, Int.reduceNeg, BEq.rfl, beq_self_eq_true, tabl, cellsOf, fldA, ldA, stA, entAt, partA, takeN, over, leafOk, Value.oneCell', idxA, nilA, cellsEq, fillA, elemsA, pure1, pure2, reps, chkA, tys, Try.results23, KX_draw, KX_drawQ, KX_tail, lastO_one, lastO_more, dropL_one, dropL_more, callP_eq, callM_true, e1, e10, e11, e12, d1, coefsA, num_In]
    rw [he, List.drop_length]
    exact ⟨fun h => by simp [chkFrom, h], fun h => by simp [chkFrom, h]⟩
theorem R11_Check (cs : List (ByteArray × Int)) (n : Int) (hlen : cs.length ≤ 1048576) : cL Try.prog 24 [linA cs n] S tk k = some (.int (checkF cs n), S, tk, k) := by
  refine call_pure Try.func24 rfl rfl (by decide +kernel) (by decide +kernel) Try.ntmps24 rfl rfl _ _ _ rfl ?_; rw [RK_KX]
  simp (maxSteps := 1000000) +contextual (disch := first | with_reducible assumption | exact ⟨rfl⟩ | exact ⟨rfl, rfl⟩ | (refine _root_.id ?_; kernel_rfl) | omega) only [evs, ext_mv, nth, put, putT, getT, binInt, binStr, binBool, aUn, outA, resA, mapO, resA1, oneOf, w1, w2, w3, bots, cond_true, cond_false, if_true, if_false, ite_true, ite_false, reduceIte, reduceCtorEq, implies_true, Nat.reduceAdd, Nat.reduceSub, AV.int, AV.bool, AV.str, Nat.reduceBEq, Nat.reduceEqDiff, Nat.reduceMul, Nat.reduceLT, Nat.reduceLeDiff, Int.reduceNeg, BEq.rfl, beq_self_eq_true, tabl, cellsOf, fldA, ldA, stA, entAt, partA, takeN, over, leafOk, Value.oneCell', idxA, nilA, cellsEq, fillA, elemsA, pure1, pure2, reps, chkA, tys, Try.results24, KX_draw, KX_drawQ, KX_tail, lastO_one, lastO_more, dropL_one, dropL_more, callP_eq, callM_true, linA, coefsA]
  refine ⟨fun h => ?_, fun h => ?_⟩
  · unfold checkF; rw [if_pos (by simp at h; omega)]
  have hc : checkF cs n = chkFrom n none cs := by unfold checkF; rw [if_neg (by simp at h; omega)]
  rw [hc]
  refine loop1 (P := Try.prog) (fun i st => st.T.length = 60 ∧ i ≤ cs.length ∧ getT st.T 1 = .ref 0 0 0 ∧ getT st.T 3 = .int (i : Nat) ∧ st.S = [⟨0, [coefsA cs, .int n]⟩]) (fun i => cs.length - i) (fun i => .int (chkFrom n (prevName cs i) (cs.drop i))) 0 ?_ ?_
  case refine_2 => exact ⟨rfl, Nat.zero_le _, rfl, rfl, rfl⟩
  rintro i ⟨T, S', tk', n'⟩ ⟨hl, hi, e1, e3, rfl⟩ IH
  obtain ⟨g, hg, hT⟩ := tab_of hl
  rw [hg] at e1 e3
  subst hT
  clear hg hl h hc
  by_cases hlt : i < cs.length
  · have d1 : decide ((i : Int) < (cs.length : Int)) = true := by simpa using hlt
    obtain ⟨c, hc⟩ := nth_some hlt
    have hc' : nth (cs.map coefC) i = some (coefC c) := by rw [nth_map, hc]; rfl
    have hw := wrap_add (i := i) (m := 0) (by omega)
    have hp : prevName cs (i + 1) = some c.1 := by simp [prevName, hc]
    rw [nth_drop hc]
    rcases i with _ | j
    · have d2 : decide (((0 : Nat) : Int) > 0) = false := rfl
      simp (maxSteps := 1000000) +contextual (disch := first | with_reducible assumption | exact ⟨rfl⟩ | exact ⟨rfl, rfl⟩ | (refine _root_.id ?_; kernel_rfl) | omega) only [evs, ext_mv, nth, put, putT, getT, binInt, binStr, binBool, aUn, outA, resA, mapO, resA1, oneOf, w1, w2, w3, bots, cond_true, cond_false, if_true, if_false, ite_true, ite_false, reduceIte, reduceCtorEq, implies_true, Nat.reduceAdd, Nat.reduceSub, AV.int, AV.bool, AV.str, Nat.reduceBEq, Nat.reduceEqDiff, Nat.reduceMul, Nat.reduceLT, Nat.reduceLeDiff, Int.reduceNeg, BEq.rfl, beq_self_eq_true, tabl, cellsOf, fldA, ldA, stA, entAt, partA, takeN, over, leafOk, Value.oneCell', idxA, nilA, cellsEq, fillA, elemsA, pure1, pure2, reps, chkA, tys, Try.results24, KX_draw, KX_drawQ, KX_tail, lastO_one, lastO_more, dropL_one, dropL_more, callP_eq, callM_true, e1, e3, d1, d2, coefsA, hc', hw, coefC, R01_In]
      refine ⟨fun h1 => ?_, fun h1 => ⟨fun h2 => ?_, fun h2 => ⟨fun h3 => ?_, fun h3 => ⟨fun h4 => ?_, fun h4 => ?_⟩⟩⟩⟩
      · simp [chkFrom, badName, h1]
      · simp only [chkFrom, badName, h1, h2]; rfl
      · simp only [chkFrom, badName, h1, h2, h3]; rfl
      · rw [IH 1 _ (by omega) ⟨rfl, by omega, rfl, rfl, rfl⟩, hp]
        simp only [chkFrom, badName, h1, h2, h3, h4, prevName, notAbove]; rfl
      · simp only [chkFrom, badName, h1, h2, h3, h4]; rfl
    · have d2 : decide (((j + 1 : Nat) : Int) > 0) = true := decide_eq_true (by omega)
      obtain ⟨p, hpr⟩ := nth_some (show j < cs.length by omega)
      have hp' : nth (cs.map coefC) j = some (coefC p) := by rw [nth_map, hpr]; rfl
      have hw' := wrap_pred (j := j) (by omega)
      have hpp : prevName cs (j + 1) = some p.1 := by simp [prevName, hpr]
      simp (maxSteps := 1000000) +contextual (disch := first | with_reducible assumption | exact ⟨rfl⟩ | exact ⟨rfl, rfl⟩ | (refine _root_.id ?_; kernel_rfl) | omega) only [evs, ext_mv, nth, put, putT, getT, binInt, binStr, binBool, aUn, outA, resA, mapO, resA1, oneOf, w1, w2, w3, bots, cond_true, cond_false, if_true, if_false, ite_true, ite_false, reduceIte, reduceCtorEq, implies_true, Nat.reduceAdd, Nat.reduceSub, AV.int, AV.bool, AV.str, Nat.reduceBEq, Nat.reduceEqDiff, Nat.reduceMul, Nat.reduceLT, Nat.reduceLeDiff, Int.reduceNeg, BEq.rfl, beq_self_eq_true, tabl, cellsOf, fldA, ldA, stA, entAt, partA, takeN, over, leafOk, Value.oneCell', idxA, nilA, cellsEq, fillA, elemsA, pure1, pure2, reps, chkA, tys, Try.results24, KX_draw, KX_drawQ, KX_tail, lastO_one, lastO_more, dropL_one, dropL_more, callP_eq, callM_true, e1, e3, d1, d2, coefsA, hc', hw, coefC, R01_In, hp', hw']
      refine ⟨fun h1 => ?_, fun h1 => ⟨fun h2 => ?_, fun h2 => ⟨fun h3 => ?_, fun h3 => ⟨fun h4 => ?_, fun h4 => ?_⟩⟩⟩⟩
      · simp [chkFrom, badName, h1]
      · simp only [chkFrom, badName, h1, h2]; rfl
      · simp only [chkFrom, badName, h1, h2, h3]; rfl
      · refine ⟨fun h5 => ?_, fun h5 => ?_⟩
        · simp only [chkFrom, badName, h1, h2, h3, h4, hpp, notAbove, h5]; rfl
        · rw [IH (j + 1 + 1) _ (by omega) ⟨rfl, by omega, rfl, rfl, rfl⟩, hp]
          simp only [chkFrom, badName, h1, h2, h3, h4, hpp, notAbove, h5]; rfl
      · simp only [chkFrom, badName, h1, h2, h3, h4]; rfl
  · have d1 : decide ((i : Int) < (cs.length : Int)) = false := by simpa using hlt
    have he : i = cs.length := by omega
    simp (maxSteps := 1000000) +contextual (disch := first | with_reducible assumption | exact ⟨rfl⟩ | exact ⟨rfl, rfl⟩ | (refine _root_.id ?_; kernel_rfl) | omega) only [evs, ext_mv, nth, put, putT, getT, binInt, binStr, binBool, aUn, outA, resA, mapO, resA1, oneOf, w1, w2, w3, bots, cond_true, cond_false, if_true, if_false, ite_true, ite_false, reduceIte, reduceCtorEq, implies_true, Nat.reduceAdd, Nat.reduceSub, AV.int, AV.bool, AV.str, Nat.reduceBEq, Nat.reduceEqDiff, Nat.reduceMul, Nat.reduceLT, Nat.reduceLeDiff, Int.reduceNeg, BEq.rfl, beq_self_eq_true, tabl, cellsOf, fldA, ldA, stA, entAt, partA, takeN, over, leafOk, Value.oneCell', idxA, nilA, cellsEq, fillA, elemsA, pure1, pure2, reps, chkA, tys, Try.results24, KX_draw, KX_drawQ, KX_tail, lastO_one, lastO_more, dropL_one, dropL_more, callP_eq, callM_true, e1, e3, d1, coefsA, R01_In]
    rw [he, List.drop_length]
    exact ⟨fun h => by simp [chkFrom, h], fun h => by simp [chkFrom, h]⟩
end
end Go.Proofs.Ytkghgdkkholieaa
/-
  What the values of forms at points are, by the program and by the reference; the law LinearValues' own parts.
-/

namespace Go.Proofs.Ytkghgdkkholieaa
open Go

def findS (name : ByteArray) : List (ByteArray × Int) → Int
  | [] => 0
  | p :: r => if sEq p.1 name then p.2 else findS name r
/-- the index, and how many were looked at -/
def idxGo (name : ByteArray) : List (ByteArray × Int) → Nat → Int × Nat
  | [], _ => (-1, 0)
  | p :: r, i => if sEq p.1 name then (i, 1) else ((idxGo name r (i + 1)).1, (idxGo name r (i + 1)).2 + 1)
def valFrom (pt : List (ByteArray × Int)) : Int → List (ByteArray × Int) → Int × Bool
  | s, [] => (s, true)
  | s, c :: r => if (mulS c.2 (findS c.1 pt)).2 then (if (addS s (mulS c.2 (findS c.1 pt)).1).2 then valFrom pt (addS s (mulS c.2 (findS c.1 pt)).1).1 r else (0, false)) else (0, false)
def valueF (cs : List (ByteArray × Int)) (n : Int) (pt : List (ByteArray × Int)) : Int × Bool := if checkF cs n = 0 then valFrom pt n cs else (0, false)

section
variable (S : List Ent) (tk : List Nat) (k : Nat)
theorem R11_find (pt : List (ByteArray × Int)) (name : ByteArray) (hlen : pt.length ≤ 1048576) : cL Try.prog 44 [coefsA pt, .str name] S tk k = some (.int (findS name pt), S, tk, k) := by
  refine call_pure Try.func44 rfl rfl (by decide +kernel) (by decide +kernel) Try.ntmps44 rfl rfl _ _ _ rfl ?_; rw [RK_KX]
  simp (maxSteps := 1000000) +contextual (disch := first | with_reducible assumption | exact ⟨rfl⟩ | exact ⟨rfl, rfl⟩ | (refine _root_.id ?_; kernel_rfl) | omega) only [evs, ext_mv, nth, put, putT, getT, binInt, binStr, binBool, aUn, outA, resA, mapO, resA1, oneOf, w1, w2, w3, bots, cond_true, cond_false, if_true, if_false, ite_true, ite_false, reduceIte, reduceCtorEq, implies_true, Nat.reduceAdd, Nat.reduceSub, AV.int, AV.bool, AV.str, Nat.reduceBEq, Nat.reduceEqDiff, Nat.reduceMul, Nat.reduceLT, Nat.reduceLeDiff, Int.reduceNeg, BEq.rfl, beq_self_eq_true, tabl, cellsOf, fldA, ldA, stA, entAt, partA, takeN, over, leafOk, Value.oneCell', idxA, nilA, cellsEq, fillA, elemsA, pure1, pure2, reps, chkA, tys, Try.results44, KX_draw, KX_drawQ, KX_tail, lastO_one, lastO_more, dropL_one, dropL_more, callP_eq, callM_true, coefsA]
  refine loop1 (P := Try.prog) (fun i st => st.T.length = 24 ∧ i ≤ pt.length ∧ getT st.T 0 = coefsA pt ∧ getT st.T 1 = .str name ∧ getT st.T 5 = .int (i : Nat) ∧ st.S = []) (fun i => pt.length - i) (fun i => .int (findS name (pt.drop i))) 0 ?_ ?_
  case refine_2 => exact ⟨rfl, Nat.zero_le _, rfl, rfl, rfl, rfl⟩
  rintro i ⟨T, S', tk', n'⟩ ⟨hl, hi, e0, e1, e5, rfl⟩ IH
  obtain ⟨g, hg, hT⟩ := tab_of hl
  rw [hg] at e0 e1 e5
  subst hT
  clear hg hl
  by_cases hlt : i < pt.length
  · have d1 : decide ((i : Int) < (pt.length : Int)) = true := by simpa using hlt
    obtain ⟨c, hc⟩ := nth_some hlt
    have hc' : nth (pt.map coefC) i = some (coefC c) := by rw [nth_map, hc]; rfl
    have hw := wrap_add (i := i) (m := 0) (by omega)
    rw [nth_drop hc]
    simp (maxSteps := 1000000) +contextual (disch := first | with_reducible assumption | exact ⟨rfl⟩ | exact ⟨rfl, rfl⟩ | (refine _root_.id ?_; kernel_rfl) | omega) only [evs, ext_mv, nth, put, putT, getT, binInt, binStr, binBool, aUn, outA, resA, mapO, resA1, oneOf, w1, w2, w3, bots, cond_true, cond_false, if_true, if_false, ite_true, ite_false, reduceIte, reduceCtorEq, implies_true, Nat.reduceAdd, Nat.reduceSub, AV.int, AV.bool, AV.str, Nat.reduceBEq, Nat.reduceEqDiff, Nat.reduceMul, Nat.reduceLT, Nat.reduceLeDiff, Int.reduceNeg, BEq.rfl, beq_self_eq_true, tabl, cellsOf, fldA, ldA, stA, entAt, partA, takeN, over, leafOk, Value.oneCell', idxA, nilA, cellsEq, fillA, elemsA, pure1, pure2, reps, chkA, tys, Try.results44, KX_draw, KX_drawQ, KX_tail, lastO_one, lastO_more, dropL_one, dropL_more, callP_eq, callM_true, e0, e1, e5, d1, coefsA, hc', hw, coefC]
    refine ⟨fun h1 => by simp [findS, h1], fun h1 => ?_⟩
    rw [IH (i + 1) _ (by omega) ⟨rfl, by omega, rfl, rfl, rfl, rfl⟩]
    simp [findS, h1]
  · have d1 : decide ((i : Int) < (pt.length : Int)) = false := by simpa using hlt
    have he : i = pt.length := by omega
    simp (maxSteps := 1000000) +contextual (disch := first | with_reducible assumption | exact ⟨rfl⟩ | exact ⟨rfl, rfl⟩ | (refine _root_.id ?_; kernel_rfl) | omega) only [evs, ext_mv, nth, put, putT, getT, binInt, binStr, binBool, aUn, outA, resA, mapO, resA1, oneOf, w1, w2, w3, bots, cond_true, cond_false, if_true, if_false, ite_true, ite_false, reduceIte, reduceCtorEq, implies_true, Nat.reduceAdd, Nat.reduceSub, AV.int, AV.bool, AV.str, Nat.reduceBEq, Nat.reduceEqDiff, Nat.reduceMul, Nat.reduceLT, Nat.reduceLeDiff, Int.reduceNeg, BEq.rfl, beq_self_eq_true, tabl, cellsOf, fldA, ldA, stA, entAt, partA, takeN, over, leafOk, Value.oneCell', idxA, nilA, cellsEq, fillA, elemsA, pure1, pure2, reps, chkA, tys, Try.results44, KX_draw, KX_drawQ, KX_tail, lastO_one, lastO_more, dropL_one, dropL_more, callP_eq, callM_true, e0, e1, e5, d1, coefsA]
    rw [he, List.drop_length]; rfl
theorem Value_fn (p c : ByteArray × Int) (id ep : Nat) (h : entAt S id ep = some (coefC c)) : cL Try.prog 40 [.agg (coefC p), .ref id ep 0] S tk k = some (.bool (sEq p.1 c.1), S, tk, k + 1) := by
  refine call_shared Try.func40 rfl rfl (by decide +kernel) Try.ntmps40 rfl ?_; rw [RK_KX]
  simp (maxSteps := 1000000) +contextual (disch := first | with_reducible assumption | exact ⟨rfl⟩ | exact ⟨rfl, rfl⟩ | (refine _root_.id ?_; kernel_rfl) | omega) only [evs, ext_mv, nth, put, putT, getT, binInt, binStr, binBool, aUn, outA, resA, mapO, resA1, oneOf, w1, w2, w3, bots, cond_true, cond_false, if_true, if_false, ite_true, ite_false, reduceIte, reduceCtorEq, implies_true, Nat.reduceAdd, Nat.reduceSub, AV.int, AV.bool, AV.str, Nat.reduceBEq, Nat.reduceEqDiff, Nat.reduceMul, Nat.reduceLT, Nat.reduceLeDiff, Int.reduceNeg, BEq.rfl, beq_self_eq_true, tabl, cellsOf, fldA, ldA, stA, entAt_new, entAt_old, entAt_old2, List.take_left, List.take_length, partA, takeN, over, leafOk, Value.oneCell', idxA, nilA, cellsEq, fillA, elemsA, pure1, pure2, reps, chkA, tys, Try.results40, KX_draw, KX_drawQ, KX_tail, lastO_one, lastO_more, dropL_one, dropL_more, callP_eq, callM_true, coefC, h]
theorem IndexFunc_Value (pt : List (ByteArray × Int)) (c : ByteArray × Int) (id ep : Nat) (hlen : pt.length ≤ 1048576) (h : entAt S id ep = some (coefC c)) :
    cL Try.prog 39 [coefsA pt, .fn 40 [.ref id ep 0]] S tk k = some (.int (idxGo c.1 pt 0).1, S, tk, k + (idxGo c.1 pt 0).2) := by
  refine call_shared Try.func39 rfl rfl (by decide +kernel) Try.ntmps39 rfl ?_; rw [RK_KX]
  simp (maxSteps := 1000000) +contextual (disch := first | with_reducible assumption | exact ⟨rfl⟩ | exact ⟨rfl, rfl⟩ | (refine _root_.id ?_; kernel_rfl) | omega) only [evs, ext_mv, nth, put, putT, getT, binInt, binStr, binBool, aUn, outA, resA, mapO, resA1, oneOf, w1, w2, w3, bots, cond_true, cond_false, if_true, if_false, ite_true, ite_false, reduceIte, reduceCtorEq, implies_true, Nat.reduceAdd, Nat.reduceSub, AV.int, AV.bool, AV.str, Nat.reduceBEq, Nat.reduceEqDiff, Nat.reduceMul, Nat.reduceLT, Nat.reduceLeDiff, Int.reduceNeg, BEq.rfl, beq_self_eq_true, tabl, cellsOf, fldA, ldA, stA, entAt_new, entAt_old, entAt_old2, List.take_left, List.take_length, partA, takeN, over, leafOk, Value.oneCell', idxA, nilA, cellsEq, fillA, elemsA, pure1, pure2, reps, chkA, tys, Try.results39, KX_draw, KX_drawQ, KX_tail, lastO_one, lastO_more, dropL_one, dropL_more, callP_eq, callM_true, coefsA]
  refine loopS (P := Try.prog) (fun x st => st.T.length = 19 ∧ x.1 ≤ pt.length ∧ getT st.T 0 = coefsA pt ∧ getT st.T 1 = .fn 40 [.ref id ep 0] ∧ getT st.T 7 = .int pt.length ∧ getT st.T 8 = .int (x.1 : Nat) ∧ st.S = S ∧ st.tk = tk ∧ st.n = x.2) (fun x => pt.length - x.1)
    (fun x => (.int (idxGo c.1 (pt.drop x.1) x.1).1, S, tk, x.2 + (idxGo c.1 (pt.drop x.1) x.1).2)) (0, k) ?_ ?_
  case refine_2 => exact ⟨rfl, Nat.zero_le _, rfl, rfl, rfl, rfl, rfl, rfl, rfl⟩
  rintro ⟨i, m⟩ ⟨T, S', tk', n'⟩ ⟨hl, hi, e0, e1, e7, e8, eS, eT, eN⟩ IH
  simp only at eS eT eN
  subst eS eT eN
  obtain ⟨g, hg, hT⟩ := tab_of hl
  rw [hg] at e0 e1 e7 e8
  subst hT
  clear hg hl
  simp only at hi e8
  by_cases hlt : i < pt.length
  · have d1 : decide ((i : Int) < (pt.length : Int)) = true := by simpa using hlt
    obtain ⟨p, hc⟩ := nth_some hlt
    have hc' : nth (pt.map coefC) i = some (coefC p) := by rw [nth_map, hc]; rfl
    have hw := wrap_add (i := i) (m := 0) (by omega)
    have hf := fun k => Value_fn S' tk' k p c id ep h
    simp only [coefC] at hf hc'
    rw [nth_drop hc]
    simp (maxSteps := 1000000) +contextual (disch := first | with_reducible assumption | exact ⟨rfl⟩ | exact ⟨rfl, rfl⟩ | (refine _root_.id ?_; kernel_rfl) | omega) only [evs, ext_mv, nth, put, putT, getT, binInt, binStr, binBool, aUn, outA, resA, mapO, resA1, oneOf, w1, w2, w3, bots, cond_true, cond_false, if_true, if_false, ite_true, ite_false, reduceIte, reduceCtorEq, implies_true, Nat.reduceAdd, Nat.reduceSub, AV.int, AV.bool, AV.str, Nat.reduceBEq, Nat.reduceEqDiff, Nat.reduceMul, Nat.reduceLT, Nat.reduceLeDiff, Int.reduceNeg, BEq.rfl, beq_self_eq_true, tabl, cellsOf, fldA, ldA, stA, entAt_new, entAt_old, entAt_old2, List.take_left, List.take_length, partA, takeN, over, leafOk, Value.oneCell', idxA, nilA, cellsEq, fillA, elemsA, pure1, pure2, reps, chkA, tys, Try.results39, KX_draw, KX_drawQ, KX_tail, lastO_one, lastO_more, dropL_one, dropL_more, callP_eq, callM_true, e0, e1, e7, e8, d1, coefsA, hc', hw, hf]
    refine ⟨fun h1 => by simp [idxGo, h1], fun h1 => ?_⟩
    rw [IH (i + 1, n' + 1) _ (by simp only; omega) ⟨rfl, hlt, rfl, rfl, rfl, rfl, rfl, rfl, rfl⟩]
    simp [idxGo, h1]; omega
  · have d1 : decide ((i : Int) < (pt.length : Int)) = false := by simpa using hlt
    have he : i = pt.length := by omega
    simp (maxSteps := 1000000) +contextual (disch := first | with_reducible assumption | exact ⟨rfl⟩ | exact ⟨rfl, rfl⟩ | (refine _root_.id ?_; kernel_rfl) | omega) only [evs, ext_mv, nth, put, putT, getT, binInt, binStr, binBool, aUn, outA, resA, mapO, resA1, oneOf, w1, w2, w3, bots, cond_true, cond_false, if_true, if_false, ite_true, ite_false, reduceIte, reduceCtorEq, implies_true, Nat.reduceAdd, Nat.reduceSub, AV.int, AV.bool, AV.str, Nat.reduceBEq, Nat.reduceEqDiff, Nat.reduceMul, Nat.reduceLT, Nat.reduceLeDiff, Int.reduceNeg, BEq.rfl, beq_self_eq_true, tabl, cellsOf, fldA, ldA, stA, entAt_new, entAt_old, entAt_old2, List.take_left, List.take_length, partA, takeN, over, leafOk, Value.oneCell', idxA, nilA, cellsEq, fillA, elemsA, pure1, pure2, reps, chkA, tys, Try.results39, KX_draw, KX_drawQ, KX_tail, lastO_one, lastO_more, dropL_one, dropL_more, callP_eq, callM_true, e0, e1, e7, e8, d1, coefsA]
    simp only [he, List.drop_length]; rfl
/-- what is found -/
theorem idx_find (name : ByteArray) : ∀ (l : List (ByteArray × Int)) (i : Nat), ((idxGo name l i).1 = -1 ∧ findS name l = 0) ∨ ∃ j p, (idxGo name l i).1 = ((i + j : Nat) : Int) ∧ nth l j = some p ∧ findS name l = p.2
  | [], _ => .inl ⟨rfl, rfl⟩
  | p :: r, i => by
    simp only [idxGo, findS]
    by_cases h : sEq p.1 name = true
    · rw [if_pos h, if_pos h]; exact .inr ⟨0, p, rfl, rfl, rfl⟩
    · rw [if_neg h, if_neg h]
      rcases idx_find name r (i + 1) with ⟨h1, h2⟩ | ⟨j, q, h1, h2, h3⟩
      · exact .inl ⟨h1, h2⟩
      · exact .inr ⟨j + 1, q, by rw [h1]; omega, h2, h3⟩
theorem R11_Value (cs : List (ByteArray × Int)) (n : Int) (pt : List (ByteArray × Int)) (hlen : cs.length ≤ 1048576) (hlen' : pt.length ≤ 1048576) : cL Try.prog 17 [linA cs n, coefsA pt] S tk k = some (.tup [.int (valueF cs n pt).1, .bool (valueF cs n pt).2], S, tk, k) := by
  refine call_pure Try.func17 rfl rfl (by decide +kernel) (by decide +kernel) Try.ntmps17 rfl rfl _ _ _ rfl ?_; rw [RK_KX]
  have hC := fun S tk k => R11_Check S tk k cs n hlen
  have hF := fun S tk k name => R11_find S tk k pt name hlen'
  simp only [linA, coefsA] at hC hF
  simp (maxSteps := 1000000) +contextual (disch := first | with_reducible assumption | exact ⟨rfl⟩ | exact ⟨rfl, rfl⟩ | (refine _root_.id ?_; kernel_rfl) | omega) only [evs, ext_mv, nth, put, putT, getT, binInt, binStr, binBool, aUn, outA, resA, mapO, resA1, oneOf, w1, w2, w3, bots, cond_true, cond_false, if_true, if_false, ite_true, ite_false, reduceIte, reduceCtorEq, implies_true, Nat.reduceAdd, Nat.reduceSub, AV.int, AV.bool, AV.str, Nat.reduceBEq, Nat.reduceEqDiff, Nat.reduceMul, Nat.reduceLT, Nat.reduceLeDiff, Int.reduceNeg, BEq.rfl, beq_self_eq_true, tabl, cellsOf, fldA, ldA, stA, entAt, partA, takeN, over, leafOk, Value.oneCell', idxA, nilA, cellsEq, fillA, elemsA, pure1, pure2, reps, chkA, tys, Try.results17, KX_draw, KX_drawQ, KX_tail, lastO_one, lastO_more, dropL_one, dropL_more, callP_eq, callM_true, linA, coefsA, hC]
  refine ⟨fun h => ?_, fun h => ?_⟩
  · have : ¬ checkF cs n = 0 := by simpa using h
    simp [valueF, this]
  have h0 : checkF cs n = 0 := by simpa using h
  have hv : valueF cs n pt = valFrom pt n cs := by simp [valueF, h0]
  rw [hv]
  refine loop1 (P := Try.prog) (fun x st => st.T.length = 51 ∧ x.1 ≤ cs.length ∧ getT st.T 1 = coefsA pt ∧ getT st.T 2 = .ref 0 0 0 ∧ getT st.T 6 = .int x.2 ∧ getT st.T 7 = .int (x.1 : Nat) ∧ st.S = [⟨0, [coefsA cs, .int n]⟩]) (fun x => cs.length - x.1)
    (fun x => .tup [.int (valFrom pt x.2 (cs.drop x.1)).1, .bool (valFrom pt x.2 (cs.drop x.1)).2]) (0, n) ?_ ?_
  case refine_2 => exact ⟨rfl, Nat.zero_le _, rfl, rfl, rfl, rfl, rfl⟩
  rintro ⟨i, s⟩ ⟨T, S', tk', n'⟩ ⟨hl, hi, e1, e2, e6, e7, rfl⟩ IH
  obtain ⟨g, hg, hT⟩ := tab_of hl
  rw [hg] at e1 e2 e6 e7
  subst hT
  clear hg hl h hv h0
  simp only at hi e6 e7
  by_cases hlt : i < cs.length
  · have d1 : decide ((i : Int) < (cs.length : Int)) = true := by simpa using hlt
    obtain ⟨c, hc⟩ := nth_some hlt
    have hc' : nth (cs.map coefC) i = some (coefC c) := by rw [nth_map, hc]; rfl
    have hw := wrap_add (i := i) (m := 0) (by omega)
    rw [nth_drop hc]
    simp (maxSteps := 1000000) +contextual (disch := first | with_reducible assumption | exact ⟨rfl⟩ | exact ⟨rfl, rfl⟩ | (refine _root_.id ?_; kernel_rfl) | omega) only [evs, ext_mv, nth, put, putT, getT, binInt, binStr, binBool, aUn, outA, resA, mapO, resA1, oneOf, w1, w2, w3, bots, cond_true, cond_false, if_true, if_false, ite_true, ite_false, reduceIte, reduceCtorEq, implies_true, Nat.reduceAdd, Nat.reduceSub, AV.int, AV.bool, AV.str, Nat.reduceBEq, Nat.reduceEqDiff, Nat.reduceMul, Nat.reduceLT, Nat.reduceLeDiff, Int.reduceNeg, BEq.rfl, beq_self_eq_true, tabl, cellsOf, fldA, ldA, stA, entAt, partA, takeN, over, leafOk, Value.oneCell', idxA, nilA, cellsEq, fillA, elemsA, pure1, pure2, reps, chkA, tys, Try.results17, KX_draw, KX_drawQ, KX_tail, lastO_one, lastO_more, dropL_one, dropL_more, callP_eq, callM_true, e1, e2, e6, e7, d1, coefsA, hc', hw, coefC, hF, R01_Mul, R01_Add, List.all_cons, pure1, pure2]
    refine ⟨fun h1 => ⟨fun h2 => ?_, fun h2 => ?_⟩, fun h1 => ?_⟩
    · rw [IH (i + 1, _) _ (by simp only; omega) ⟨rfl, hlt, rfl, rfl, rfl, rfl, rfl⟩]
      simp [valFrom, h1, h2]
    · simp [valFrom, h1, h2]
    · simp [valFrom, h1]
  · have d1 : decide ((i : Int) < (cs.length : Int)) = false := by simpa using hlt
    have he : i = cs.length := by omega
    simp (maxSteps := 1000000) +contextual (disch := first | with_reducible assumption | exact ⟨rfl⟩ | exact ⟨rfl, rfl⟩ | (refine _root_.id ?_; kernel_rfl) | omega) only [evs, ext_mv, nth, put, putT, getT, binInt, binStr, binBool, aUn, outA, resA, mapO, resA1, oneOf, w1, w2, w3, bots, cond_true, cond_false, if_true, if_false, ite_true, ite_false, reduceIte, reduceCtorEq, implies_true, Nat.reduceAdd, Nat.reduceSub, AV.int, AV.bool, AV.str, Nat.reduceBEq, Nat.reduceEqDiff, Nat.reduceMul, Nat.reduceLT, Nat.reduceLeDiff, Int.reduceNeg, BEq.rfl, beq_self_eq_true, tabl, cellsOf, fldA, ldA, stA, entAt, partA, takeN, over, leafOk, Value.oneCell', idxA, nilA, cellsEq, fillA, elemsA, pure1, pure2, reps, chkA, tys, Try.results17, KX_draw, KX_drawQ, KX_tail, lastO_one, lastO_more, dropL_one, dropL_more, callP_eq, callM_true, e1, e2, e6, e7, d1, coefsA]
    rw [he, List.drop_length]; exact ⟨rfl, rfl⟩
theorem linear_Value (cs : List (ByteArray × Int)) (n : Int) (pt : List (ByteArray × Int)) (hlen : cs.length ≤ 1048576) (hlen' : pt.length ≤ 1048576) : cL Try.prog 16 [linA cs n, coefsA pt] S tk k = some (.tup [.int (valueF cs n pt).1, .bool (valueF cs n pt).2], S, tk, k) := by
  refine call_pure Try.func16 rfl rfl (by decide +kernel) (by decide +kernel) Try.ntmps16 rfl rfl _ _ _ rfl ?_; rw [RK_KX]
  have hC := fun S tk k => linear_Check S tk k cs n hlen
  simp only [linA, coefsA] at hC
  simp (maxSteps := 1000000) +contextual (disch := first | with_reducible assumption | exact ⟨rfl⟩ | exact ⟨rfl, rfl⟩ | (refine _root_.id ?_; kernel_rfl) | omega) only [evs, ext_mv, nth, put, putT, getT, binInt, binStr, binBool, aUn, outA, resA, mapO, resA1, oneOf, w1, w2, w3, bots, cond_true, cond_false, if_true, if_false, ite_true, ite_false, reduceIte, reduceCtorEq, implies_true, Nat.reduceAdd, Nat.reduceSub, AV.int, AV.bool, AV.str, Nat.reduceBEq, Nat.reduceEqDiff, Nat.reduceMul, Nat.reduceLT, Nat.reduceLeDiff, Int.reduceNeg, BEq.rfl, beq_self_eq_true, tabl, cellsOf, fldA, ldA, stA, entAt, partA, takeN, over, leafOk, Value.oneCell', idxA, nilA, cellsEq, fillA, elemsA, pure1, pure2, reps, chkA, tys, Try.results16, KX_draw, KX_drawQ, KX_tail, lastO_one, lastO_more, dropL_one, dropL_more, callP_eq, callM_true, linA, coefsA, hC]
  refine ⟨fun h => ?_, fun h => ?_⟩
  · have : ¬ checkF cs n = 0 := by simpa using h
    simp [valueF, this]
  have h0 : checkF cs n = 0 := by simpa using h
  have hv : valueF cs n pt = valFrom pt n cs := by simp [valueF, h0]
  rw [hv]
  refine loop1 (P := Try.prog) (fun x st => st.T.length = 54 ∧ x.1 ≤ cs.length ∧ getT st.T 1 = coefsA pt ∧ getT st.T 2 = .ref 0 0 0 ∧ getT st.T 6 = .int x.2 ∧ getT st.T 19 = coefsA cs ∧ getT st.T 20 = .int cs.length ∧ getT st.T 21 = .int (x.1 : Nat) ∧ st.S = [⟨0, [coefsA cs, .int n]⟩]) (fun x => cs.length - x.1)
    (fun x => .tup [.int (valFrom pt x.2 (cs.drop x.1)).1, .bool (valFrom pt x.2 (cs.drop x.1)).2]) (0, n) ?_ ?_
  case refine_2 => exact ⟨rfl, Nat.zero_le _, rfl, rfl, rfl, rfl, rfl, rfl, rfl⟩
  rintro ⟨i, s⟩ ⟨T, S', tk', n'⟩ ⟨hl, hi, e1, e2, e6, e19, e20, e21, rfl⟩ IH
  obtain ⟨g, hg, hT⟩ := tab_of hl
  rw [hg] at e1 e2 e6 e19 e20 e21
  subst hT
  clear hg hl h hv h0
  simp only at hi e6 e21
  by_cases hlt : i < cs.length
  · have d1 : decide ((i : Int) < (cs.length : Int)) = true := by simpa using hlt
    obtain ⟨c, hc⟩ := nth_some hlt
    have hc' : nth (cs.map coefC) i = some (coefC c) := by rw [nth_map, hc]; rfl
    have hw := wrap_add (i := i) (m := 0) (by omega)
    rw [nth_drop hc]
    have hI := fun k => IndexFunc_Value [⟨0, [coefsA cs, .int n]⟩, ⟨n', coefC c⟩] tk' k pt c 1 n' hlen' (by simp [entAt, nth])
    simp only [coefsA, coefC] at hI hc'
    have step : ∀ v : Int, v = findS c.1 pt → True := fun _ _ => trivial
    rcases idx_find c.1 pt 0 with ⟨h1, h2⟩ | ⟨j, p, h1, h2, h3⟩
    · have d2 : decide ((-1 : Int) ≥ 0) = false := rfl
      rw [h1] at hI
      simp (maxSteps := 1000000) +contextual (disch := first | with_reducible assumption | exact ⟨rfl⟩ | exact ⟨rfl, rfl⟩ | (refine _root_.id ?_; kernel_rfl) | omega) only [evs, ext_mv, nth, put, putT, getT, binInt, binStr, binBool, aUn, outA, resA, mapO, resA1, oneOf, w1, w2, w3, bots, cond_true, cond_false, if_true, if_false, ite_true, ite_false, reduceIte, reduceCtorEq, implies_true, Nat.reduceAdd, Nat.reduceSub, AV.int, AV.bool, AV.str, Nat.reduceBEq, Nat.reduceEqDiff, Nat.reduceMul, Nat.reduceLT, Nat.reduceLeDiff, Int.reduceNeg, BEq.rfl, beq_self_eq_true, tabl, cellsOf, fldA, ldA, stA, entAt, partA, takeN, over, leafOk, Value.oneCell', idxA, nilA, cellsEq, fillA, elemsA, pure1, pure2, reps, chkA, tys, Try.results16, KX_draw, KX_drawQ, KX_tail, lastO_one, lastO_more, dropL_one, dropL_more, callP_eq, callM_true, e1, e2, e6, e19, e20, e21, d1, coefsA, hc', hw, hI, num_Mul, num_Add, capsOk, d2]
      refine ⟨fun h5 => ⟨fun h6 => ?_, fun h6 => ?_⟩, fun h5 => ?_⟩
      · rw [IH (i + 1, _) _ (by simp only; omega) ⟨rfl, hlt, rfl, rfl, rfl, rfl, rfl, rfl, rfl⟩]
        simp [valFrom, h2, h5, h6]
      · simp [valFrom, h2, h5, h6]
      · simp [valFrom, h2, h5]
    · have h2' : nth (pt.map coefC) j = some (coefC p) := by rw [nth_map, h2]; rfl
      rw [Nat.zero_add] at h1
      have d2 : decide ((j : Int) ≥ 0) = true := by simp
      rw [h1] at hI
      simp only [coefC] at h2'
      simp (maxSteps := 1000000) +contextual (disch := first | with_reducible assumption | exact ⟨rfl⟩ | exact ⟨rfl, rfl⟩ | (refine _root_.id ?_; kernel_rfl) | omega) only [evs, ext_mv, nth, put, putT, getT, binInt, binStr, binBool, aUn, outA, resA, mapO, resA1, oneOf, w1, w2, w3, bots, cond_true, cond_false, if_true, if_false, ite_true, ite_false, reduceIte, reduceCtorEq, implies_true, Nat.reduceAdd, Nat.reduceSub, AV.int, AV.bool, AV.str, Nat.reduceBEq, Nat.reduceEqDiff, Nat.reduceMul, Nat.reduceLT, Nat.reduceLeDiff, Int.reduceNeg, BEq.rfl, beq_self_eq_true, tabl, cellsOf, fldA, ldA, stA, entAt, partA, takeN, over, leafOk, Value.oneCell', idxA, nilA, cellsEq, fillA, elemsA, pure1, pure2, reps, chkA, tys, Try.results16, KX_draw, KX_drawQ, KX_tail, lastO_one, lastO_more, dropL_one, dropL_more, callP_eq, callM_true, e1, e2, e6, e19, e20, e21, d1, coefsA, hc', hw, hI, num_Mul, num_Add, capsOk, d2, h2']
      refine ⟨fun h5 => ⟨fun h6 => ?_, fun h6 => ?_⟩, fun h5 => ?_⟩
      · rw [IH (i + 1, _) _ (by simp only; omega) ⟨rfl, hlt, rfl, rfl, rfl, rfl, rfl, rfl, rfl⟩]
        simp [valFrom, h3, h5, h6]
      · simp [valFrom, h3, h5, h6]
      · simp [valFrom, h3, h5]
  · have d1 : decide ((i : Int) < (cs.length : Int)) = false := by simpa using hlt
    have he : i = cs.length := by omega
    simp (maxSteps := 1000000) +contextual (disch := first | with_reducible assumption | exact ⟨rfl⟩ | exact ⟨rfl, rfl⟩ | (refine _root_.id ?_; kernel_rfl) | omega) only [evs, ext_mv, nth, put, putT, getT, binInt, binStr, binBool, aUn, outA, resA, mapO, resA1, oneOf, w1, w2, w3, bots, cond_true, cond_false, if_true, if_false, ite_true, ite_false, reduceIte, reduceCtorEq, implies_true, Nat.reduceAdd, Nat.reduceSub, AV.int, AV.bool, AV.str, Nat.reduceBEq, Nat.reduceEqDiff, Nat.reduceMul, Nat.reduceLT, Nat.reduceLeDiff, Int.reduceNeg, BEq.rfl, beq_self_eq_true, tabl, cellsOf, fldA, ldA, stA, entAt, partA, takeN, over, leafOk, Value.oneCell', idxA, nilA, cellsEq, fillA, elemsA, pure1, pure2, reps, chkA, tys, Try.results16, KX_draw, KX_drawQ, KX_tail, lastO_one, lastO_more, dropL_one, dropL_more, callP_eq, callM_true, e1, e2, e6, e19, e20, e21, d1, coefsA]
    rw [he, List.drop_length]; exact ⟨rfl, rfl⟩
end
end Go.Proofs.Ytkghgdkkholieaa
/-
  What the tight rows and the canonical forms are, by the program.
-/

namespace Go.Proofs.Ytkghgdkkholieaa
open Go

def eqC (a b : ByteArray × Int) : Bool := sEq a.1 b.1 && a.2 == b.2
def eqL : List (ByteArray × Int) → List (ByteArray × Int) → Bool
  | [], _ => true
  | _, [] => true
  | a :: l, b :: r => if eqC a b then eqL l r else false
def sameF (cs : List (ByteArray × Int)) (n : Int) (ds : List (ByteArray × Int)) (m : Int) : Bool := if ((cs.length : Int) == ds.length) then (if n == m then eqL cs ds else false) else false

section
variable (S : List Ent) (tk : List Nat) (k : Nat)
theorem linear_verdict (b : Bool) : cL Try.prog 36 [.bool b] S tk k = some (if b = true then rowA [] 0 false else rowA [] 1 false, S, tk, k) := by
  cases b <;> simp only [if_true, if_false, Bool.false_eq_true]
  · refine call_pure Try.func36 rfl rfl (by decide +kernel) (by decide +kernel) Try.ntmps36 rfl rfl _ _ _ rfl ?_; rw [RK_KX]
    simp (maxSteps := 1000000) +contextual (disch := first | with_reducible assumption | exact ⟨rfl⟩ | exact ⟨rfl, rfl⟩ | (refine _root_.id ?_; kernel_rfl) | omega) only [evs, ext_mv, nth, put, putT, getT, binInt, binStr, binBool, aUn, outA, resA, mapO, resA1, oneOf, w1, w2, w3, bots, cond_true, cond_false, if_true, if_false, ite_true, ite_false, reduceIte, reduceCtorEq, implies_true, Nat.reduceAdd, Nat.reduceSub, AV.int, AV.bool, AV.str, Nat.reduceBEq, Nat.reduceEqDiff, Nat.reduceMul, Nat.reduceLT, Nat.reduceLeDiff, Int.reduceNeg, BEq.rfl, beq_self_eq_true, tabl, cellsOf, fldA, ldA, stA, entAt, partA, takeN, over, leafOk, Value.oneCell', idxA, nilA, cellsEq, fillA, elemsA, pure1, pure2, reps, chkA, tys, Try.results36, KX_draw, KX_drawQ, KX_tail, lastO_one, lastO_more, dropL_one, dropL_more, callP_eq, callM_true, rowA, coefsA, List.map_nil]
  · refine call_pure Try.func36 rfl rfl (by decide +kernel) (by decide +kernel) Try.ntmps36 rfl rfl _ _ _ rfl ?_; rw [RK_KX]
    simp (maxSteps := 1000000) +contextual (disch := first | with_reducible assumption | exact ⟨rfl⟩ | exact ⟨rfl, rfl⟩ | (refine _root_.id ?_; kernel_rfl) | omega) only [evs, ext_mv, nth, put, putT, getT, binInt, binStr, binBool, aUn, outA, resA, mapO, resA1, oneOf, w1, w2, w3, bots, cond_true, cond_false, if_true, if_false, ite_true, ite_false, reduceIte, reduceCtorEq, implies_true, Nat.reduceAdd, Nat.reduceSub, AV.int, AV.bool, AV.str, Nat.reduceBEq, Nat.reduceEqDiff, Nat.reduceMul, Nat.reduceLT, Nat.reduceLeDiff, Int.reduceNeg, BEq.rfl, beq_self_eq_true, tabl, cellsOf, fldA, ldA, stA, entAt, partA, takeN, over, leafOk, Value.oneCell', idxA, nilA, cellsEq, fillA, elemsA, pure1, pure2, reps, chkA, tys, Try.results36, KX_draw, KX_drawQ, KX_tail, lastO_one, lastO_more, dropL_one, dropL_more, callP_eq, callM_true, rowA, coefsA, List.map_nil]
theorem R11_Same (cs ds : List (ByteArray × Int)) (n m : Int) (hlen : cs.length ≤ 1048576) : cL Try.prog 15 [linA cs n, linA ds m] S tk k = some (.bool (sameF cs n ds m), S, tk, k) := by
  refine call_pure Try.func15 rfl rfl (by decide +kernel) (by decide +kernel) Try.ntmps15 rfl rfl _ _ _ rfl ?_; rw [RK_KX]
  simp (maxSteps := 1000000) +contextual (disch := first | with_reducible assumption | exact ⟨rfl⟩ | exact ⟨rfl, rfl⟩ | (refine _root_.id ?_; kernel_rfl) | omega) only [evs, ext_mv, nth, put, putT, getT, binInt, binStr, binBool, aUn, outA, resA, mapO, resA1, oneOf, w1, w2, w3, bots, cond_true, cond_false, if_true, if_false, ite_true, ite_false, reduceIte, reduceCtorEq, implies_true, Nat.reduceAdd, Nat.reduceSub, AV.int, AV.bool, AV.str, Nat.reduceBEq, Nat.reduceEqDiff, Nat.reduceMul, Nat.reduceLT, Nat.reduceLeDiff, Int.reduceNeg, BEq.rfl, beq_self_eq_true, tabl, cellsOf, fldA, ldA, stA, entAt, partA, takeN, over, leafOk, Value.oneCell', idxA, nilA, cellsEq, fillA, elemsA, pure1, pure2, reps, chkA, tys, Try.results15, KX_draw, KX_drawQ, KX_tail, lastO_one, lastO_more, dropL_one, dropL_more, callP_eq, callM_true, linA, coefsA]
  refine ⟨fun h => ?_, fun h => ⟨fun h1 => ?_, fun h1 => ?_⟩⟩
  · have h' : ¬ cs.length = ds.length := by simp at h; omega
    simp [sameF]; omega
  · have h1' : ¬ n = m := by simpa using h1
    simp [sameF, h1']
  · have h' : cs.length = ds.length := by simp at h; omega
    have h1' : n = m := by simpa using h1
    subst h1'
    have hs : sameF cs n ds n = eqL cs ds := by simp [sameF, h']
    rw [hs]
    refine loop1 (P := Try.prog) (fun i st => st.T.length = 38 ∧ i ≤ cs.length ∧ getT st.T 2 = .ref 0 0 0 ∧ getT st.T 3 = .ref 1 1 0 ∧ getT st.T 5 = .int (i : Nat) ∧ st.S = [⟨0, [coefsA cs, .int n]⟩, ⟨1, [coefsA ds, .int n]⟩]) (fun i => cs.length - i) (fun i => .bool (eqL (cs.drop i) (ds.drop i))) 0 ?_ ?_
    case refine_2 => exact ⟨rfl, Nat.zero_le _, rfl, rfl, rfl, rfl⟩
    rintro i ⟨T, S', tk', n'⟩ ⟨hl, hi, e2, e3, e5, rfl⟩ IH
    obtain ⟨g, hg, hT⟩ := tab_of hl
    rw [hg] at e2 e3 e5
    subst hT
    clear hg hl h hs h1
    by_cases hlt : i < cs.length
    · have d1 : decide ((i : Int) < (cs.length : Int)) = true := by simpa using hlt
      obtain ⟨c, hc⟩ := nth_some hlt
      obtain ⟨d, hd⟩ := nth_some (show i < ds.length by omega)
      have hc' : nth (cs.map coefC) i = some (coefC c) := by rw [nth_map, hc]; rfl
      have hd' : nth (ds.map coefC) i = some (coefC d) := by rw [nth_map, hd]; rfl
      have hw := wrap_add (i := i) (m := 0) (by omega)
      rw [nth_drop hc, nth_drop hd]
      simp (maxSteps := 1000000) +contextual (disch := first | with_reducible assumption | exact ⟨rfl⟩ | exact ⟨rfl, rfl⟩ | (refine _root_.id ?_; kernel_rfl) | omega) only [evs, ext_mv, nth, put, putT, getT, binInt, binStr, binBool, aUn, outA, resA, mapO, resA1, oneOf, w1, w2, w3, bots, cond_true, cond_false, if_true, if_false, ite_true, ite_false, reduceIte, reduceCtorEq, implies_true, Nat.reduceAdd, Nat.reduceSub, AV.int, AV.bool, AV.str, Nat.reduceBEq, Nat.reduceEqDiff, Nat.reduceMul, Nat.reduceLT, Nat.reduceLeDiff, Int.reduceNeg, BEq.rfl, beq_self_eq_true, tabl, cellsOf, fldA, ldA, stA, entAt, partA, takeN, over, leafOk, Value.oneCell', idxA, nilA, cellsEq, fillA, elemsA, pure1, pure2, reps, chkA, tys, Try.results15, KX_draw, KX_drawQ, KX_tail, lastO_one, lastO_more, dropL_one, dropL_more, callP_eq, callM_true, e2, e3, e5, d1, coefsA, hc', hd', hw, coefC]
      refine ⟨fun h1 => ?_, fun h1 => ?_⟩
      · have h2 : eqC c d = true := by simpa [eqC] using h1
        rw [IH (i + 1) _ (by omega) ⟨rfl, by omega, rfl, rfl, rfl, rfl⟩]
        simp [eqL, h2]
      · have h2 : eqC c d = false := by simpa [eqC] using h1
        simp [eqL, h2]
    · have d1 : decide ((i : Int) < (cs.length : Int)) = false := by simpa using hlt
      have he : i = cs.length := by omega
      simp (maxSteps := 1000000) +contextual (disch := first | with_reducible assumption | exact ⟨rfl⟩ | exact ⟨rfl, rfl⟩ | (refine _root_.id ?_; kernel_rfl) | omega) only [evs, ext_mv, nth, put, putT, getT, binInt, binStr, binBool, aUn, outA, resA, mapO, resA1, oneOf, w1, w2, w3, bots, cond_true, cond_false, if_true, if_false, ite_true, ite_false, reduceIte, reduceCtorEq, implies_true, Nat.reduceAdd, Nat.reduceSub, AV.int, AV.bool, AV.str, Nat.reduceBEq, Nat.reduceEqDiff, Nat.reduceMul, Nat.reduceLT, Nat.reduceLeDiff, Int.reduceNeg, BEq.rfl, beq_self_eq_true, tabl, cellsOf, fldA, ldA, stA, entAt, partA, takeN, over, leafOk, Value.oneCell', idxA, nilA, cellsEq, fillA, elemsA, pure1, pure2, reps, chkA, tys, Try.results15, KX_draw, KX_drawQ, KX_tail, lastO_one, lastO_more, dropL_one, dropL_more, callP_eq, callM_true, e2, e3, e5, d1, coefsA]
      rw [he, List.drop_length]; simp [eqL]
/-- the greatest common divisor of a number and the coefficients -/
def gcdL : Int → List (ByteArray × Int) → Int
  | g, [] => g
  | g, c :: r => gcdL (gcdS g c.2) r
theorem gcdS_in {a b : Int} (ha : inB a = true) (hb : inB b = true) (h : b ≠ 0) : inB (gcdS a b) = true := by
  unfold gcdS
  rw [absS_in ha, absS_in hb, inB_true]
  rw [inB_true] at hb
  have h1 : Int.gcd (a.natAbs : Int) (b.natAbs : Int) ≤ b.natAbs := Nat.gcd_le_right _ (by omega)
  omega
theorem linear_divisor (cs : List (ByteArray × Int)) (n g : Int) (hlen : cs.length ≤ 1048576) (hb : ∀ c ∈ cs, inB c.2 = true ∧ c.2 ≠ 0) (hg : inB g = true) : cL Try.prog 29 [linA cs n, .int g] S tk k = some (.int (gcdL g cs), S, tk, k) := by
  refine call_pure Try.func29 rfl rfl (by decide +kernel) (by decide +kernel) Try.ntmps29 rfl rfl _ _ _ rfl ?_; rw [RK_KX]
  simp (maxSteps := 1000000) +contextual (disch := first | with_reducible assumption | exact ⟨rfl⟩ | exact ⟨rfl, rfl⟩ | (refine _root_.id ?_; kernel_rfl) | omega) only [evs, ext_mv, nth, put, putT, getT, binInt, binStr, binBool, aUn, outA, resA, mapO, resA1, oneOf, w1, w2, w3, bots, cond_true, cond_false, if_true, if_false, ite_true, ite_false, reduceIte, reduceCtorEq, implies_true, Nat.reduceAdd, Nat.reduceSub, AV.int, AV.bool, AV.str, Nat.reduceBEq, Nat.reduceEqDiff, Nat.reduceMul, Nat.reduceLT, Nat.reduceLeDiff, Int.reduceNeg, BEq.rfl, beq_self_eq_true, tabl, cellsOf, fldA, ldA, stA, entAt, partA, takeN, over, leafOk, Value.oneCell', idxA, nilA, cellsEq, fillA, elemsA, pure1, pure2, reps, chkA, tys, Try.results29, KX_draw, KX_drawQ, KX_tail, lastO_one, lastO_more, dropL_one, dropL_more, callP_eq, callM_true, linA, coefsA]
  refine loop1 (P := Try.prog) (fun x st => st.T.length = 20 ∧ x.1 ≤ cs.length ∧ inB x.2 = true ∧ getT st.T 1 = .int x.2 ∧ getT st.T 8 = coefsA cs ∧ getT st.T 9 = .int cs.length ∧ getT st.T 10 = .int (x.1 : Nat) ∧ st.S = [⟨0, [coefsA cs, .int n]⟩]) (fun x => cs.length - x.1) (fun x => .int (gcdL x.2 (cs.drop x.1))) (0, g) ?_ ?_
  case refine_2 => exact ⟨rfl, Nat.zero_le _, hg, rfl, rfl, rfl, rfl, rfl⟩
  rintro ⟨i, y⟩ ⟨T, S', tk', n'⟩ ⟨hl, hi, hy, e1, e8, e9, e10, rfl⟩ IH
  obtain ⟨t, ht, hT⟩ := tab_of hl
  rw [ht] at e1 e8 e9 e10
  subst hT
  clear ht hl
  simp only at hi hy e1 e10
  by_cases hlt : i < cs.length
  · have d1 : decide ((i : Int) < (cs.length : Int)) = true := by simpa using hlt
    obtain ⟨c, hc⟩ := nth_some hlt
    have hc' : nth (cs.map coefC) i = some (coefC c) := by rw [nth_map, hc]; rfl
    have hw := wrap_add (i := i) (m := 0) (by omega)
    have hcm : c ∈ cs := by rw [nth_get] at hc; exact List.mem_of_getElem? hc
    have hG := fun S tk k => num_Gcd S tk k y c.2 (inB_i64 hy) (inB_i64 (hb c hcm).1)
    rw [nth_drop hc]
    simp (maxSteps := 1000000) +contextual (disch := first | with_reducible assumption | exact ⟨rfl⟩ | exact ⟨rfl, rfl⟩ | (refine _root_.id ?_; kernel_rfl) | omega) only [evs, ext_mv, nth, put, putT, getT, binInt, binStr, binBool, aUn, outA, resA, mapO, resA1, oneOf, w1, w2, w3, bots, cond_true, cond_false, if_true, if_false, ite_true, ite_false, reduceIte, reduceCtorEq, implies_true, Nat.reduceAdd, Nat.reduceSub, AV.int, AV.bool, AV.str, Nat.reduceBEq, Nat.reduceEqDiff, Nat.reduceMul, Nat.reduceLT, Nat.reduceLeDiff, Int.reduceNeg, BEq.rfl, beq_self_eq_true, tabl, cellsOf, fldA, ldA, stA, entAt, partA, takeN, over, leafOk, Value.oneCell', idxA, nilA, cellsEq, fillA, elemsA, pure1, pure2, reps, chkA, tys, Try.results29, KX_draw, KX_drawQ, KX_tail, lastO_one, lastO_more, dropL_one, dropL_more, callP_eq, callM_true, e1, e8, e9, e10, d1, coefsA, hc', hw, coefC, hG]
    rw [IH (i + 1, gcdS y c.2) _ (by simp only; omega) ⟨rfl, hlt, ?_, rfl, rfl, rfl, rfl, rfl⟩]
    · simp [gcdL]
    · exact gcdS_in hy (hb c hcm).1 (hb c hcm).2
  · have d1 : decide ((i : Int) < (cs.length : Int)) = false := by simpa using hlt
    have he : i = cs.length := by omega
    simp (maxSteps := 1000000) +contextual (disch := first | with_reducible assumption | exact ⟨rfl⟩ | exact ⟨rfl, rfl⟩ | (refine _root_.id ?_; kernel_rfl) | omega) only [evs, ext_mv, nth, put, putT, getT, binInt, binStr, binBool, aUn, outA, resA, mapO, resA1, oneOf, w1, w2, w3, bots, cond_true, cond_false, if_true, if_false, ite_true, ite_false, reduceIte, reduceCtorEq, implies_true, Nat.reduceAdd, Nat.reduceSub, AV.int, AV.bool, AV.str, Nat.reduceBEq, Nat.reduceEqDiff, Nat.reduceMul, Nat.reduceLT, Nat.reduceLeDiff, Int.reduceNeg, BEq.rfl, beq_self_eq_true, tabl, cellsOf, fldA, ldA, stA, entAt, partA, takeN, over, leafOk, Value.oneCell', idxA, nilA, cellsEq, fillA, elemsA, pure1, pure2, reps, chkA, tys, Try.results29, KX_draw, KX_drawQ, KX_tail, lastO_one, lastO_more, dropL_one, dropL_more, callP_eq, callM_true, e1, e8, e9, e10, d1, coefsA]
    rw [he, List.drop_length]; rfl
theorem rowsOk_nil {sz : Nat} : rowsOk sz [] = true := rfl
theorem Clone_Coef (cs : List (ByteArray × Int)) (hlen : cs.length ≤ 1048576) : cL Try.prog 58 [coefsA cs] S tk k = some (coefsA cs, S, tk, k) := by
  have hr := fun cs => rowsOk_map (f := coefC) (sz := 2) (fun _ => rfl) cs
  cases cs with
  | nil =>
    refine call_nil_nil Try.func58 rfl rfl (by decide +kernel) (by decide +kernel) Try.ntmps58 rfl rfl _ _ _ ?_ ?_ <;> rw [RK_KX]
    · simp (maxSteps := 1000000) +contextual (disch := first | with_reducible assumption | exact ⟨rfl⟩ | exact ⟨rfl, rfl⟩ | (refine _root_.id ?_; kernel_rfl) | omega) only [evs, ext_mv, nth, put, putT, getT, binInt, binStr, binBool, aUn, outA, resA, mapO, resA1, oneOf, w1, w2, w3, bots, cond_true, cond_false, if_true, if_false, ite_true, ite_false, reduceIte, reduceCtorEq, implies_true, Nat.reduceAdd, Nat.reduceSub, AV.int, AV.bool, AV.str, Nat.reduceBEq, Nat.reduceEqDiff, Nat.reduceMul, Nat.reduceLT, Nat.reduceLeDiff, Int.reduceNeg, BEq.rfl, beq_self_eq_true, tabl, cellsOf, fldA, ldA, stA, entAt, partA, takeN, over, leafOk, Value.oneCell', idxA, nilA, cellsEq, fillA, elemsA, pure1, pure2, reps, chkA, tys, Try.results58, KX_draw, KX_drawQ, KX_tail, lastO_one, lastO_more, dropL_one, dropL_more, callP_eq, callM_true, litA_nil, coefsA]
    · simp (maxSteps := 1000000) +contextual (disch := first | with_reducible assumption | exact ⟨rfl⟩ | exact ⟨rfl, rfl⟩ | (refine _root_.id ?_; kernel_rfl) | omega) only [evs, ext_mv, nth, put, putT, getT, binInt, binStr, binBool, aUn, outA, resA, mapO, resA1, oneOf, w1, w2, w3, bots, cond_true, cond_false, if_true, if_false, ite_true, ite_false, reduceIte, reduceCtorEq, implies_true, Nat.reduceAdd, Nat.reduceSub, AV.int, AV.bool, AV.str, Nat.reduceBEq, Nat.reduceEqDiff, Nat.reduceMul, Nat.reduceLT, Nat.reduceLeDiff, Int.reduceNeg, BEq.rfl, beq_self_eq_true, tabl, cellsOf, fldA, ldA, stA, entAt, partA, takeN, over, leafOk, Value.oneCell', idxA, nilA, cellsEq, fillA, elemsA, pure1, pure2, reps, chkA, tys, Try.results58, KX_draw, KX_drawQ, KX_tail, lastO_one, lastO_more, dropL_one, dropL_more, callP_eq, callM_true, litA_nil, coefsA]
  | cons c cs =>
    refine call_nil_cons Try.func58 rfl rfl (by decide +kernel) (by decide +kernel) Try.ntmps58 rfl rfl _ _ _ rfl ?_; rw [RK_KX]
    have hr' := hr (c :: cs)
    simp only [List.map_cons] at hr'
    have hl : ([] : List (List AV)).length + (coefC c :: cs.map coefC).length ≤ 1048576 := by simp at hlen ⊢; omega
    simp (maxSteps := 1000000) +contextual (disch := first | with_reducible assumption | exact ⟨rfl⟩ | exact ⟨rfl, rfl⟩ | (refine _root_.id ?_; kernel_rfl) | omega) only [evs, ext_mv, nth, put, putT, getT, binInt, binStr, binBool, aUn, outA, resA, mapO, resA1, oneOf, w1, w2, w3, bots, cond_true, cond_false, if_true, if_false, ite_true, ite_false, reduceIte, reduceCtorEq, implies_true, Nat.reduceAdd, Nat.reduceSub, AV.int, AV.bool, AV.str, Nat.reduceBEq, Nat.reduceEqDiff, Nat.reduceMul, Nat.reduceLT, Nat.reduceLeDiff, Int.reduceNeg, BEq.rfl, beq_self_eq_true, tabl, cellsOf, fldA, ldA, stA, entAt, partA, takeN, over, leafOk, Value.oneCell', idxA, nilA, cellsEq, fillA, elemsA, pure1, pure2, reps, chkA, tys, Try.results58, KX_draw, KX_drawQ, KX_tail, lastO_one, lastO_more, dropL_one, dropL_more, callP_eq, callM_true, litA_nil, coefsA, hr']
theorem linear_copied (cs : List (ByteArray × Int)) (n : Int) (hlen : cs.length ≤ 1048576) : cL Try.prog 35 [linA cs n] S tk k = some (linA cs n, S, tk, k) := by
  refine call_pure Try.func35 rfl rfl (by decide +kernel) (by decide +kernel) Try.ntmps35 rfl rfl _ _ _ rfl ?_; rw [RK_KX]
  have hC := fun S tk k => Clone_Coef S tk k cs hlen
  simp only [coefsA] at hC
  simp (maxSteps := 1000000) +contextual (disch := first | with_reducible assumption | exact ⟨rfl⟩ | exact ⟨rfl, rfl⟩ | (refine _root_.id ?_; kernel_rfl) | omega) only [evs, ext_mv, nth, put, putT, getT, binInt, binStr, binBool, aUn, outA, resA, mapO, resA1, oneOf, w1, w2, w3, bots, cond_true, cond_false, if_true, if_false, ite_true, ite_false, reduceIte, reduceCtorEq, implies_true, Nat.reduceAdd, Nat.reduceSub, AV.int, AV.bool, AV.str, Nat.reduceBEq, Nat.reduceEqDiff, Nat.reduceMul, Nat.reduceLT, Nat.reduceLeDiff, Int.reduceNeg, BEq.rfl, beq_self_eq_true, tabl, cellsOf, fldA, ldA, stA, entAt, partA, takeN, over, leafOk, Value.oneCell', idxA, nilA, cellsEq, fillA, elemsA, pure1, pure2, reps, chkA, tys, Try.results35, KX_draw, KX_drawQ, KX_tail, lastO_one, lastO_more, dropL_one, dropL_more, callP_eq, callM_true, linA, coefsA, hC]
def divC (g : Int) (c : ByteArray × Int) : ByteArray × Int := (c.1, c.2.tdiv g)
theorem wrap_tdiv {a b : Int} (ha : inB a = true) : IntKind.i64.wrap (a.tdiv b) = a.tdiv b := by
  rw [inB_true] at ha
  have := tdiv_bound ha.1 ha.2 (b := b)
  exact wrap_of (by unfold i64; omega)
theorem take_succ_nth {α : Type} : ∀ {l : List α} {i : Nat} {x : α}, nth l i = some x → l.take (i + 1) = l.take i ++ [x]
  | y :: l, 0, x, h => by simp only [nth, Option.some.injEq] at h; subst h; rfl
  | y :: l, i + 1, x, h => by simp only [List.take_succ_cons, List.cons_append, take_succ_nth (l := l) (i := i) h]
  | [], _, _, h => by simp [nth] at h
theorem divided_fn (g : Int) (c : ByteArray × Int) (id ep : Nat) (h : entAt S id ep = some [.int g]) (hg : g ≠ 0) (hc : inB c.2 = true) : cL Try.prog 60 [.agg (coefC c), .ref id ep 0] S tk k = some (.tup [.agg (coefC (divC g c)), .bool true], S, tk, k + 2) := by
  refine call_shared Try.func60 rfl rfl (by decide +kernel) Try.ntmps60 rfl ?_; rw [RK_KX]
  have hg' : (g == 0) = false := by simpa using hg
  simp (maxSteps := 1000000) +contextual (disch := first | with_reducible assumption | exact ⟨rfl⟩ | exact ⟨rfl, rfl⟩ | (refine _root_.id ?_; kernel_rfl) | omega) only [evs, ext_mv, nth, put, putT, getT, binInt, binStr, binBool, aUn, outA, resA, mapO, resA1, oneOf, w1, w2, w3, bots, cond_true, cond_false, if_true, if_false, ite_true, ite_false, reduceIte, reduceCtorEq, implies_true, Nat.reduceAdd, Nat.reduceSub, AV.int, AV.bool, AV.str, Nat.reduceBEq, Nat.reduceEqDiff, Nat.reduceMul, Nat.reduceLT, Nat.reduceLeDiff, Int.reduceNeg, BEq.rfl, beq_self_eq_true, tabl, cellsOf, fldA, ldA, stA, entAt_new, entAt_old, entAt_old2, List.take_left, List.take_length, partA, takeN, over, leafOk, Value.oneCell', idxA, nilA, cellsEq, fillA, elemsA, pure1, pure2, reps, chkA, tys, Try.results60, KX_draw, KX_drawQ, KX_tail, lastO_one, lastO_more, dropL_one, dropL_more, callP_eq, callM_true, coefC, h, hg']
  exact ⟨hg, by rw [wrap_tdiv hc]; rfl⟩
theorem each_divided (g : Int) (cs : List (ByteArray × Int)) (id ep : Nat) (hlen : cs.length ≤ 1048576) (h : entAt S id ep = some [.int g]) (hg : g ≠ 0) (hb : ∀ c ∈ cs, inB c.2 = true) :
    cL Try.prog 49 [coefsA cs, .fn 60 [.ref id ep 0]] S tk k = some (.tup [.frz ((cs.map (divC g)).map coefC) (capIter 2 cs.length (.nilc, tk)).1, .bool true], S, (capIter 2 cs.length (.nilc, tk)).2, k + 4 * cs.length) := by
  refine call_shared Try.func49 rfl rfl (by decide +kernel) Try.ntmps49 rfl ?_; rw [RK_KX]
  simp (maxSteps := 1000000) +contextual (disch := first | with_reducible assumption | exact ⟨rfl⟩ | exact ⟨rfl, rfl⟩ | (refine _root_.id ?_; kernel_rfl) | omega) only [evs, ext_mv, nth, put, putT, getT, binInt, binStr, binBool, aUn, outA, resA, mapO, resA1, oneOf, w1, w2, w3, bots, cond_true, cond_false, if_true, if_false, ite_true, ite_false, reduceIte, reduceCtorEq, implies_true, Nat.reduceAdd, Nat.reduceSub, AV.int, AV.bool, AV.str, Nat.reduceBEq, Nat.reduceEqDiff, Nat.reduceMul, Nat.reduceLT, Nat.reduceLeDiff, Int.reduceNeg, BEq.rfl, beq_self_eq_true, tabl, cellsOf, fldA, ldA, stA, entAt_new, entAt_old, entAt_old2, List.take_left, List.take_length, partA, takeN, over, leafOk, Value.oneCell', idxA, nilA, cellsEq, fillA, elemsA, pure1, pure2, reps, chkA, tys, Try.results49, KX_draw, KX_drawQ, KX_tail, lastO_one, lastO_more, dropL_one, dropL_more, callP_eq, callM_true, coefsA]
  refine loopS (P := Try.prog) (fun x st => st.T.length = 31 ∧ x.1 ≤ cs.length ∧ okCap x.2.1.2 x.2.1.1 2 = true ∧ getT st.T 1 = .fn 60 [.ref id ep 0] ∧ getT st.T 6 = .frz (((cs.take x.1).map (divC g)).map coefC) x.2.1.1 ∧ getT st.T 11 = coefsA cs ∧ getT st.T 12 = .int cs.length ∧ getT st.T 13 = .int (x.1 : Nat) ∧ st.S = S ∧ st.tk = x.2.1.2 ∧ st.n = x.2.2) (fun x => cs.length - x.1)
    (fun x => (.tup [.frz ((cs.map (divC g)).map coefC) (capIter 2 (cs.length - x.1) x.2.1).1, .bool true], S, (capIter 2 (cs.length - x.1) x.2.1).2, x.2.2 + 4 * (cs.length - x.1))) (0, (.nilc, tk), k) ?_ ?_
  case refine_2 => exact ⟨rfl, Nat.zero_le _, rfl, rfl, rfl, rfl, rfl, rfl, rfl, rfl, rfl⟩
  rintro ⟨i, ⟨c, tk1⟩, m⟩ ⟨T, S', tk', n'⟩ ⟨hl, hi, hok, e1, e6, e11, e12, e13, eS, eT, eN⟩ IH
  simp only at eS eT eN hok e6 e13 hi
  subst eS eT eN
  obtain ⟨t, ht, hT⟩ := tab_of hl
  rw [ht] at e1 e6 e11 e12 e13
  subst hT
  clear ht hl
  by_cases hlt : i < cs.length
  · have d1 : decide ((i : Int) < (cs.length : Int)) = true := by simpa using hlt
    obtain ⟨x, hc⟩ := nth_some hlt
    have hc' : nth (cs.map coefC) i = some (coefC x) := by rw [nth_map, hc]; rfl
    have hw := wrap_add (i := i) (m := 0) (by omega)
    have hcm : x ∈ cs := by rw [nth_get] at hc; exact List.mem_of_getElem? hc
    have hf := fun e tk k => divided_fn (S' ++ [e]) tk k g x id ep (entAt_old h) hg (hb x hcm)
    have hr := rowsOk_map (f := coefC) (sz := 2) (fun _ => rfl) ((cs.take i).map (divC g))
    have hn : (((cs.take i).map (divC g)).map coefC).length + 1 ≤ 1048576 := by simp; omega
    simp only [coefC] at hf hc'
    simp (maxSteps := 1000000) +contextual (disch := first | with_reducible assumption | exact ⟨rfl⟩ | exact ⟨rfl, rfl⟩ | (refine _root_.id ?_; kernel_rfl) | omega) only [evs, ext_mv, nth, put, putT, getT, binInt, binStr, binBool, aUn, outA, resA, mapO, resA1, oneOf, w1, w2, w3, bots, cond_true, cond_false, if_true, if_false, ite_true, ite_false, reduceIte, reduceCtorEq, implies_true, Nat.reduceAdd, Nat.reduceSub, AV.int, AV.bool, AV.str, Nat.reduceBEq, Nat.reduceEqDiff, Nat.reduceMul, Nat.reduceLT, Nat.reduceLeDiff, Int.reduceNeg, BEq.rfl, beq_self_eq_true, tabl, cellsOf, fldA, ldA, stA, entAt_new, entAt_old, entAt_old2, List.take_left, List.take_length, partA, takeN, over, leafOk, Value.oneCell', idxA, nilA, cellsEq, fillA, elemsA, pure1, pure2, reps, chkA, tys, Try.results49, KX_draw, KX_drawQ, KX_tail, lastO_one, lastO_more, dropL_one, dropL_more, callP_eq, callM_true, e1, e6, e11, e12, e13, d1, coefsA, hc', hw, hf, coefC]
    rw [IH (i + 1, (capNew tk' c 2, capPut tk' c), n' + 4) _ (by simp only; omega) ⟨rfl, hlt, okCap_new hok, rfl, ?_, rfl, rfl, rfl, rfl, rfl, rfl⟩]
    · have e : cs.length - i = (cs.length - (i + 1)) + 1 := by omega
      simp only [e, capIter]
      congr 4; omega
    · simp only [getT, take_succ_nth hc, List.map_append, List.map_cons, List.map_nil, coefC, divC]
  · have d1 : decide ((i : Int) < (cs.length : Int)) = false := by simpa using hlt
    have he : i = cs.length := by omega
    simp (maxSteps := 1000000) +contextual (disch := first | with_reducible assumption | exact ⟨rfl⟩ | exact ⟨rfl, rfl⟩ | (refine _root_.id ?_; kernel_rfl) | omega) only [evs, ext_mv, nth, put, putT, getT, binInt, binStr, binBool, aUn, outA, resA, mapO, resA1, oneOf, w1, w2, w3, bots, cond_true, cond_false, if_true, if_false, ite_true, ite_false, reduceIte, reduceCtorEq, implies_true, Nat.reduceAdd, Nat.reduceSub, AV.int, AV.bool, AV.str, Nat.reduceBEq, Nat.reduceEqDiff, Nat.reduceMul, Nat.reduceLT, Nat.reduceLeDiff, Int.reduceNeg, BEq.rfl, beq_self_eq_true, tabl, cellsOf, fldA, ldA, stA, entAt_new, entAt_old, entAt_old2, List.take_left, List.take_length, partA, takeN, over, leafOk, Value.oneCell', idxA, nilA, cellsEq, fillA, elemsA, pure1, pure2, reps, chkA, tys, Try.results49, KX_draw, KX_drawQ, KX_tail, lastO_one, lastO_more, dropL_one, dropL_more, callP_eq, callM_true, e1, e6, e11, e12, e13, d1, coefsA]
    rw [he]; simp [capIter, List.take_length]
theorem linear_divided (g : Int) (cs : List (ByteArray × Int)) (hlen : cs.length ≤ 1048576) (hg : g ≠ 0) (hb : ∀ c ∈ cs, inB c.2 = true) : cL Try.prog 31 [coefsA cs, .int g] S tk k = some (coefsA (cs.map (divC g)), S, tk, k) := by
  refine call_pure Try.func31 rfl rfl (by decide +kernel) (by decide +kernel) Try.ntmps31 rfl rfl _ _ _ rfl ?_; rw [RK_KX]
  have hE := fun tk k => each_divided [⟨0, [.int g]⟩] tk k g cs 0 0 hlen rfl hg hb
  simp only [coefsA] at hE
  simp (maxSteps := 1000000) +contextual (disch := first | with_reducible assumption | exact ⟨rfl⟩ | exact ⟨rfl, rfl⟩ | (refine _root_.id ?_; kernel_rfl) | omega) only [evs, ext_mv, nth, put, putT, getT, binInt, binStr, binBool, aUn, outA, resA, mapO, resA1, oneOf, w1, w2, w3, bots, cond_true, cond_false, if_true, if_false, ite_true, ite_false, reduceIte, reduceCtorEq, implies_true, Nat.reduceAdd, Nat.reduceSub, AV.int, AV.bool, AV.str, Nat.reduceBEq, Nat.reduceEqDiff, Nat.reduceMul, Nat.reduceLT, Nat.reduceLeDiff, Int.reduceNeg, BEq.rfl, beq_self_eq_true, tabl, cellsOf, fldA, ldA, stA, entAt, partA, takeN, over, leafOk, Value.oneCell', idxA, nilA, cellsEq, fillA, elemsA, pure1, pure2, reps, chkA, tys, Try.results31, KX_draw, KX_drawQ, KX_tail, lastO_one, lastO_more, dropL_one, dropL_more, callP_eq, callM_true, coefsA, hE, capsOk]
end
end Go.Proofs.Ytkghgdkkholieaa
