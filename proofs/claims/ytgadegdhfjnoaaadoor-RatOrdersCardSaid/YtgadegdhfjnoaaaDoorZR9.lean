/-
  Texts laid together: Ty, BNum.
-/
import Derived.Test.YtgadegdhfjnoaaaDoorZR8
import Derived.Test.YtgadegdhfjnoaaaDoorChecked
/-
  What the evaluator asks of the program's types.
-/


namespace Go.Proofs.YtgadegdhfjnoaaaDoor
theorem mixed : Tryd.prog.follows .mixedOrders = true := by kernel_rfl
set_option maxRecDepth 100000 in
theorem tys :
    szOf Tryd.prog 1 = some 1 ∧
    aggT Tryd.prog 1 = some false ∧
    zeroOf Tryd.prog 1 = some [.prim .nilFunc] ∧
    isStr Tryd.prog 1 = false ∧
    szOf Tryd.prog 2 = some 1 ∧
    aggT Tryd.prog 2 = some false ∧
    zeroOf Tryd.prog 2 = some [.prim (.int .i64 0)] ∧
    intOfT Tryd.prog 2 = some .i64 ∧
    isStr Tryd.prog 2 = false ∧
    szOf Tryd.prog 3 = some 1 ∧
    aggT Tryd.prog 3 = some false ∧
    zeroOf Tryd.prog 3 = some [.prim (.int .i64 0)] ∧
    intOfT Tryd.prog 3 = some .i64 ∧
    isStr Tryd.prog 3 = false ∧
    szOf Tryd.prog 4 = some 1 ∧
    aggT Tryd.prog 4 = some false ∧
    zeroOf Tryd.prog 4 = some [.prim (.bool false)] ∧
    isStr Tryd.prog 4 = false ∧
    isBool Tryd.prog 4 = true ∧
    szOf Tryd.prog 5 = some 1 ∧
    aggT Tryd.prog 5 = some false ∧
    zeroOf Tryd.prog 5 = some [.prim (.int .u8 0)] ∧
    intOfT Tryd.prog 5 = some .u8 ∧
    isStr Tryd.prog 5 = false ∧
    szOf Tryd.prog 9 = some 1 ∧
    aggT Tryd.prog 9 = some false ∧
    zeroOf Tryd.prog 9 = some [.prim (.string ⟨#[]⟩)] ∧
    isStr Tryd.prog 9 = true ∧
    szOf Tryd.prog 12 = some 1 ∧
    aggT Tryd.prog 12 = some false ∧
    zeroOf Tryd.prog 12 = some [.prim (.int .u64 0)] ∧
    intOfT Tryd.prog 12 = some .u64 ∧
    isStr Tryd.prog 12 = false ∧
    szOf Tryd.prog 20 = some 1 ∧
    aggT Tryd.prog 20 = some false ∧
    zeroOf Tryd.prog 20 = some [.prim .nilIface] ∧
    isStr Tryd.prog 20 = false ∧
    szOf Tryd.prog 21 = some 1 ∧
    aggT Tryd.prog 21 = some false ∧
    zeroOf Tryd.prog 21 = some [.prim (.int .i32 0)] ∧
    intOfT Tryd.prog 21 = some .i32 ∧
    isStr Tryd.prog 21 = false ∧
    szOf Tryd.prog 22 = some 1 ∧
    aggT Tryd.prog 22 = some false ∧
    zeroOf Tryd.prog 22 = some [.frz [] .nilc] ∧
    elemOf Tryd.prog 22 = some 3 ∧
    apT Tryd.prog 22 = some 1 ∧
    isStr Tryd.prog 22 = false ∧
    szOf Tryd.prog 23 = some 2 ∧
    aggT Tryd.prog 23 = some true ∧
    zeroOf Tryd.prog 23 = some [.prim (.bool false), .frz [] .nilc] ∧
    isStr Tryd.prog 23 = false ∧
    fieldOf Tryd.prog 23 0 = some (0, 1, false) ∧
    fieldOf Tryd.prog 23 1 = some (1, 1, false) ∧
    fieldsOf Tryd.prog 23 = some [(0, 1), (1, 1)] ∧
    szOf Tryd.prog 24 = some 2 ∧
    aggT Tryd.prog 24 = some true ∧
    zeroOf Tryd.prog 24 = some [.prim (.bool false), .frz [] .nilc] ∧
    isStr Tryd.prog 24 = false ∧
    fieldOf Tryd.prog 24 0 = some (0, 1, false) ∧
    fieldOf Tryd.prog 24 1 = some (1, 1, false) ∧
    fieldsOf Tryd.prog 24 = some [(0, 1), (1, 1)] ∧
    szOf Tryd.prog 25 = some 1 ∧
    aggT Tryd.prog 25 = some false ∧
    zeroOf Tryd.prog 25 = some [.prim .nilFunc] ∧
    isStr Tryd.prog 25 = false ∧
    szOf Tryd.prog 26 = some 1 ∧
    aggT Tryd.prog 26 = some false ∧
    zeroOf Tryd.prog 26 = some [.prim .nilFunc] ∧
    isStr Tryd.prog 26 = false ∧
    szOf Tryd.prog 27 = some 4 ∧
    aggT Tryd.prog 27 = some true ∧
    zeroOf Tryd.prog 27 = some [.prim (.bool false), .frz [] .nilc, .prim (.bool false), .frz [] .nilc] ∧
    isStr Tryd.prog 27 = false ∧
    fieldOf Tryd.prog 27 0 = some (0, 2, true) ∧
    fieldOf Tryd.prog 27 1 = some (2, 2, true) ∧
    fieldsOf Tryd.prog 27 = some [(0, 2), (2, 2)] ∧
    szOf Tryd.prog 28 = some 4 ∧
    aggT Tryd.prog 28 = some true ∧
    zeroOf Tryd.prog 28 = some [.prim (.bool false), .frz [] .nilc, .prim (.bool false), .frz [] .nilc] ∧
    isStr Tryd.prog 28 = false ∧
    fieldOf Tryd.prog 28 0 = some (0, 2, true) ∧
    fieldOf Tryd.prog 28 1 = some (2, 2, true) ∧
    fieldsOf Tryd.prog 28 = some [(0, 2), (2, 2)] ∧
    szOf Tryd.prog 30 = some 1 ∧
    aggT Tryd.prog 30 = some false ∧
    zeroOf Tryd.prog 30 = some [.prim .nilFunc] ∧
    isStr Tryd.prog 30 = false ∧
    szOf Tryd.prog 31 = some 1 ∧
    aggT Tryd.prog 31 = some false ∧
    zeroOf Tryd.prog 31 = some [.prim .nilFunc] ∧
    isStr Tryd.prog 31 = false ∧
    szOf Tryd.prog 32 = some 1 ∧
    aggT Tryd.prog 32 = some false ∧
    zeroOf Tryd.prog 32 = some [.prim .nilFunc] ∧
    isStr Tryd.prog 32 = false ∧
    szOf Tryd.prog 33 = some 1 ∧
    aggT Tryd.prog 33 = some false ∧
    zeroOf Tryd.prog 33 = some [.prim .nilFunc] ∧
    isStr Tryd.prog 33 = false ∧
    szOf Tryd.prog 34 = some 1 ∧
    aggT Tryd.prog 34 = some false ∧
    zeroOf Tryd.prog 34 = some [.prim .nilFunc] ∧
    isStr Tryd.prog 34 = false ∧
    szOf Tryd.prog 35 = some 1 ∧
    aggT Tryd.prog 35 = some false ∧
    zeroOf Tryd.prog 35 = some [.prim .nilFunc] ∧
    isStr Tryd.prog 35 = false ∧
    szOf Tryd.prog 36 = some 1 ∧
    aggT Tryd.prog 36 = some false ∧
    zeroOf Tryd.prog 36 = some [.prim .nilFunc] ∧
    isStr Tryd.prog 36 = false ∧
    szOf Tryd.prog 37 = some 1 ∧
    aggT Tryd.prog 37 = some false ∧
    zeroOf Tryd.prog 37 = some [.prim .nilFunc] ∧
    isStr Tryd.prog 37 = false ∧
    szOf Tryd.prog 38 = some 1 ∧
    aggT Tryd.prog 38 = some false ∧
    zeroOf Tryd.prog 38 = some [.prim .nilFunc] ∧
    isStr Tryd.prog 38 = false ∧
    szOf Tryd.prog 39 = some 1 ∧
    aggT Tryd.prog 39 = some false ∧
    zeroOf Tryd.prog 39 = some [.prim .nilFunc] ∧
    isStr Tryd.prog 39 = false ∧
    szOf Tryd.prog 40 = some 1 ∧
    aggT Tryd.prog 40 = some false ∧
    zeroOf Tryd.prog 40 = some [.prim .nilFunc] ∧
    isStr Tryd.prog 40 = false ∧
    szOf Tryd.prog 41 = some 1 ∧
    aggT Tryd.prog 41 = some false ∧
    zeroOf Tryd.prog 41 = some [.prim .nilFunc] ∧
    isStr Tryd.prog 41 = false ∧
    szOf Tryd.prog 42 = some 1 ∧
    aggT Tryd.prog 42 = some false ∧
    zeroOf Tryd.prog 42 = some [.prim .nilFunc] ∧
    isStr Tryd.prog 42 = false ∧
    szOf Tryd.prog 44 = some 1 ∧
    aggT Tryd.prog 44 = some false ∧
    zeroOf Tryd.prog 44 = some [.prim .nilFunc] ∧
    isStr Tryd.prog 44 = false ∧
    szOf Tryd.prog 45 = some 1 ∧
    aggT Tryd.prog 45 = some false ∧
    zeroOf Tryd.prog 45 = some [.prim .nilFunc] ∧
    isStr Tryd.prog 45 = false ∧
    szOf Tryd.prog 46 = some 1 ∧
    aggT Tryd.prog 46 = some false ∧
    zeroOf Tryd.prog 46 = some [.prim .nilFunc] ∧
    isStr Tryd.prog 46 = false ∧
    szOf Tryd.prog 47 = some 1 ∧
    aggT Tryd.prog 47 = some false ∧
    zeroOf Tryd.prog 47 = some [.frz [] .nilc] ∧
    elemOf Tryd.prog 47 = some 24 ∧
    apT Tryd.prog 47 = some 2 ∧
    isStr Tryd.prog 47 = false ∧
    szOf Tryd.prog 48 = some 1 ∧
    aggT Tryd.prog 48 = some false ∧
    zeroOf Tryd.prog 48 = some [.prim .nilFunc] ∧
    isStr Tryd.prog 48 = false ∧
    szOf Tryd.prog 49 = some 1 ∧
    aggT Tryd.prog 49 = some false ∧
    zeroOf Tryd.prog 49 = some [.prim .nilFunc] ∧
    isStr Tryd.prog 49 = false ∧
    szOf Tryd.prog 50 = some 2 ∧
    aggT Tryd.prog 50 = some true ∧
    zeroOf Tryd.prog 50 = some [.prim (.bool false), .frz [] .nilc] ∧
    isStr Tryd.prog 50 = false ∧
    fieldOf Tryd.prog 50 0 = some (0, 1, false) ∧
    fieldOf Tryd.prog 50 1 = some (1, 1, false) ∧
    fieldsOf Tryd.prog 50 = some [(0, 1), (1, 1)] ∧
    szOf Tryd.prog 51 = some 2 ∧
    aggT Tryd.prog 51 = some true ∧
    zeroOf Tryd.prog 51 = some [.prim (.bool false), .frz [] .nilc] ∧
    isStr Tryd.prog 51 = false ∧
    fieldOf Tryd.prog 51 0 = some (0, 1, false) ∧
    fieldOf Tryd.prog 51 1 = some (1, 1, false) ∧
    fieldsOf Tryd.prog 51 = some [(0, 1), (1, 1)] ∧
    szOf Tryd.prog 52 = some 1 ∧
    aggT Tryd.prog 52 = some false ∧
    zeroOf Tryd.prog 52 = some [.prim .nilFunc] ∧
    isStr Tryd.prog 52 = false ∧
    szOf Tryd.prog 54 = some 1 ∧
    aggT Tryd.prog 54 = some false ∧
    zeroOf Tryd.prog 54 = some [.prim .nilFunc] ∧
    isStr Tryd.prog 54 = false ∧
    szOf Tryd.prog 55 = some 1 ∧
    aggT Tryd.prog 55 = some false ∧
    zeroOf Tryd.prog 55 = some [.prim .nilFunc] ∧
    isStr Tryd.prog 55 = false ∧
    szOf Tryd.prog 56 = some 1 ∧
    aggT Tryd.prog 56 = some false ∧
    zeroOf Tryd.prog 56 = some [.prim .nilFunc] ∧
    isStr Tryd.prog 56 = false ∧
    szOf Tryd.prog 57 = some 1 ∧
    aggT Tryd.prog 57 = some false ∧
    zeroOf Tryd.prog 57 = some [.prim .nilFunc] ∧
    isStr Tryd.prog 57 = false ∧
    szOf Tryd.prog 58 = some 1 ∧
    aggT Tryd.prog 58 = some false ∧
    zeroOf Tryd.prog 58 = some [.frz [] .nilc] ∧
    elemOf Tryd.prog 58 = some 28 ∧
    apT Tryd.prog 58 = some 4 ∧
    isStr Tryd.prog 58 = false ∧
    szOf Tryd.prog 59 = some 1 ∧
    aggT Tryd.prog 59 = some false ∧
    zeroOf Tryd.prog 59 = some [.prim .nilFunc] ∧
    isStr Tryd.prog 59 = false ∧
    szOf Tryd.prog 60 = some 4 ∧
    aggT Tryd.prog 60 = some true ∧
    zeroOf Tryd.prog 60 = some [.prim (.int .i64 0), .prim (.int .i64 0), .prim (.int .i64 0), .prim (.int .i64 0)] ∧
    isStr Tryd.prog 60 = false ∧
    fieldOf Tryd.prog 60 0 = some (0, 1, false) ∧
    fieldOf Tryd.prog 60 1 = some (1, 1, false) ∧
    fieldOf Tryd.prog 60 2 = some (2, 1, false) ∧
    fieldOf Tryd.prog 60 3 = some (3, 1, false) ∧
    fieldsOf Tryd.prog 60 = some [(0, 1), (1, 1), (2, 1), (3, 1)] ∧
    flatK Tryd.prog 60 = some [1, 1, 1, 1] ∧
    szOf Tryd.prog 61 = some 4 ∧
    aggT Tryd.prog 61 = some true ∧
    zeroOf Tryd.prog 61 = some [.prim (.int .i64 0), .prim (.int .i64 0), .prim (.int .i64 0), .prim (.int .i64 0)] ∧
    isStr Tryd.prog 61 = false ∧
    fieldOf Tryd.prog 61 0 = some (0, 1, false) ∧
    fieldOf Tryd.prog 61 1 = some (1, 1, false) ∧
    fieldOf Tryd.prog 61 2 = some (2, 1, false) ∧
    fieldOf Tryd.prog 61 3 = some (3, 1, false) ∧
    fieldsOf Tryd.prog 61 = some [(0, 1), (1, 1), (2, 1), (3, 1)] ∧
    flatK Tryd.prog 61 = some [1, 1, 1, 1] ∧
    szOf Tryd.prog 63 = some 1 ∧
    aggT Tryd.prog 63 = some false ∧
    zeroOf Tryd.prog 63 = some [.prim .nilFunc] ∧
    isStr Tryd.prog 63 = false ∧
    szOf Tryd.prog 64 = some 1 ∧
    aggT Tryd.prog 64 = some false ∧
    zeroOf Tryd.prog 64 = some [.prim .nilFunc] ∧
    isStr Tryd.prog 64 = false ∧
    szOf Tryd.prog 65 = some 1 ∧
    aggT Tryd.prog 65 = some false ∧
    zeroOf Tryd.prog 65 = some [.prim .nilFunc] ∧
    isStr Tryd.prog 65 = false ∧
    szOf Tryd.prog 66 = some 1 ∧
    aggT Tryd.prog 66 = some false ∧
    zeroOf Tryd.prog 66 = some [.prim .nilFunc] ∧
    isStr Tryd.prog 66 = false ∧
    szOf Tryd.prog 68 = some 1 ∧
    aggT Tryd.prog 68 = some false ∧
    zeroOf Tryd.prog 68 = some [.prim .nilFunc] ∧
    isStr Tryd.prog 68 = false ∧
    szOf Tryd.prog 69 = some 1 ∧
    aggT Tryd.prog 69 = some false ∧
    zeroOf Tryd.prog 69 = some [.prim .nilFunc] ∧
    isStr Tryd.prog 69 = false ∧
    szOf Tryd.prog 70 = some 1 ∧
    aggT Tryd.prog 70 = some false ∧
    zeroOf Tryd.prog 70 = some [.prim .nilFunc] ∧
    isStr Tryd.prog 70 = false ∧
    szOf Tryd.prog 71 = some 1 ∧
    aggT Tryd.prog 71 = some false ∧
    zeroOf Tryd.prog 71 = some [.prim .nilFunc] ∧
    isStr Tryd.prog 71 = false ∧
    szOf Tryd.prog 72 = some 1 ∧
    aggT Tryd.prog 72 = some false ∧
    zeroOf Tryd.prog 72 = some [.prim (.int .u64 0)] ∧
    intOfT Tryd.prog 72 = some .u64 ∧
    isStr Tryd.prog 72 = false ∧
    szOf Tryd.prog 73 = some 1 ∧
    aggT Tryd.prog 73 = some false ∧
    zeroOf Tryd.prog 73 = some [.prim .nilFunc] ∧
    isStr Tryd.prog 73 = false ∧
    szOf Tryd.prog 74 = some 1 ∧
    aggT Tryd.prog 74 = some false ∧
    zeroOf Tryd.prog 74 = some [.prim .nilFunc] ∧
    isStr Tryd.prog 74 = false ∧
    szOf Tryd.prog 75 = some 1 ∧
    aggT Tryd.prog 75 = some false ∧
    zeroOf Tryd.prog 75 = some [.prim .nilFunc] ∧
    isStr Tryd.prog 75 = false ∧
    szOf Tryd.prog 76 = some 1 ∧
    aggT Tryd.prog 76 = some false ∧
    zeroOf Tryd.prog 76 = some [.prim .nilFunc] ∧
    isStr Tryd.prog 76 = false ∧
    szOf Tryd.prog 77 = some 1 ∧
    aggT Tryd.prog 77 = some false ∧
    zeroOf Tryd.prog 77 = some [.prim .nilFunc] ∧
    isStr Tryd.prog 77 = false ∧
    szOf Tryd.prog 78 = some 1 ∧
    aggT Tryd.prog 78 = some false ∧
    zeroOf Tryd.prog 78 = some [.prim .nilFunc] ∧
    isStr Tryd.prog 78 = false ∧
    szOf Tryd.prog 79 = some 2 ∧
    aggT Tryd.prog 79 = some true ∧
    zeroOf Tryd.prog 79 = some [.prim (.bool false), .prim (.int .i64 0)] ∧
    isStr Tryd.prog 79 = false ∧
    fieldOf Tryd.prog 79 0 = some (0, 1, false) ∧
    fieldOf Tryd.prog 79 1 = some (1, 1, false) ∧
    fieldsOf Tryd.prog 79 = some [(0, 1), (1, 1)] ∧
    flatK Tryd.prog 79 = some [0, 1] ∧
    szOf Tryd.prog 80 = some 2 ∧
    aggT Tryd.prog 80 = some true ∧
    zeroOf Tryd.prog 80 = some [.prim (.bool false), .prim (.int .i64 0)] ∧
    isStr Tryd.prog 80 = false ∧
    fieldOf Tryd.prog 80 0 = some (0, 1, false) ∧
    fieldOf Tryd.prog 80 1 = some (1, 1, false) ∧
    fieldsOf Tryd.prog 80 = some [(0, 1), (1, 1)] ∧
    flatK Tryd.prog 80 = some [0, 1] ∧
    szOf Tryd.prog 81 = some 1 ∧
    aggT Tryd.prog 81 = some false ∧
    zeroOf Tryd.prog 81 = some [.prim .nilFunc] ∧
    isStr Tryd.prog 81 = false ∧
    szOf Tryd.prog 82 = some 1 ∧
    aggT Tryd.prog 82 = some false ∧
    zeroOf Tryd.prog 82 = some [.prim .nilFunc] ∧
    isStr Tryd.prog 82 = false ∧
    szOf Tryd.prog 83 = some 1 ∧
    aggT Tryd.prog 83 = some false ∧
    zeroOf Tryd.prog 83 = some [.prim .nilFunc] ∧
    isStr Tryd.prog 83 = false ∧
    szOf Tryd.prog 84 = some 1 ∧
    aggT Tryd.prog 84 = some false ∧
    zeroOf Tryd.prog 84 = some [.prim .nilFunc] ∧
    isStr Tryd.prog 84 = false ∧
    szOf Tryd.prog 85 = some 1 ∧
    aggT Tryd.prog 85 = some false ∧
    zeroOf Tryd.prog 85 = some [.prim (.pointer none)] ∧
    isStr Tryd.prog 85 = false ∧
    szOf Tryd.prog 86 = some 1 ∧
    aggT Tryd.prog 86 = some false ∧
    zeroOf Tryd.prog 86 = some [.frz [] .nilc] ∧
    elemOf Tryd.prog 86 = some 5 ∧
    apT Tryd.prog 86 = some 1 ∧
    isStr Tryd.prog 86 = false ∧
    szOf Tryd.prog 87 = some 2 ∧
    aggT Tryd.prog 87 = some true ∧
    zeroOf Tryd.prog 87 = some [.prim (.pointer none), .frz [] .nilc] ∧
    isStr Tryd.prog 87 = false ∧
    fieldOf Tryd.prog 87 0 = some (0, 1, false) ∧
    fieldOf Tryd.prog 87 1 = some (1, 1, false) ∧
    fieldsOf Tryd.prog 87 = some [(0, 1), (1, 1)] ∧
    szOf Tryd.prog 88 = some 2 ∧
    aggT Tryd.prog 88 = some true ∧
    zeroOf Tryd.prog 88 = some [.prim (.pointer none), .frz [] .nilc] ∧
    isStr Tryd.prog 88 = false ∧
    fieldOf Tryd.prog 88 0 = some (0, 1, false) ∧
    fieldOf Tryd.prog 88 1 = some (1, 1, false) ∧
    fieldsOf Tryd.prog 88 = some [(0, 1), (1, 1)] ∧
    szOf Tryd.prog 89 = some 1 ∧
    aggT Tryd.prog 89 = some false ∧
    zeroOf Tryd.prog 89 = some [.prim .nilIface] ∧
    isStr Tryd.prog 89 = false ∧
    szOf Tryd.prog 90 = some 1 ∧
    aggT Tryd.prog 90 = some false ∧
    zeroOf Tryd.prog 90 = some [.prim .nilIface] ∧
    isStr Tryd.prog 90 = false ∧
    szOf Tryd.prog 91 = some 1 ∧
    aggT Tryd.prog 91 = some false ∧
    zeroOf Tryd.prog 91 = some [.prim .nilFunc] ∧
    isStr Tryd.prog 91 = false ∧
    szOf Tryd.prog 93 = some 1 ∧
    aggT Tryd.prog 93 = some false ∧
    zeroOf Tryd.prog 93 = some [.prim .nilFunc] ∧
    isStr Tryd.prog 93 = false ∧
    szOf Tryd.prog 94 = some 1 ∧
    aggT Tryd.prog 94 = some false ∧
    zeroOf Tryd.prog 94 = some [.prim .nilFunc] ∧
    isStr Tryd.prog 94 = false ∧
    szOf Tryd.prog 95 = some 1 ∧
    aggT Tryd.prog 95 = some false ∧
    zeroOf Tryd.prog 95 = some [.prim .nilFunc] ∧
    isStr Tryd.prog 95 = false ∧
    szOf Tryd.prog 96 = some 1 ∧
    aggT Tryd.prog 96 = some false ∧
    zeroOf Tryd.prog 96 = some [.prim .nilFunc] ∧
    isStr Tryd.prog 96 = false ∧
    szOf Tryd.prog 97 = some 1 ∧
    aggT Tryd.prog 97 = some false ∧
    zeroOf Tryd.prog 97 = some [.prim (.pointer none)] ∧
    isStr Tryd.prog 97 = false ∧
    szOf Tryd.prog 99 = some 1 ∧
    aggT Tryd.prog 99 = some false ∧
    zeroOf Tryd.prog 99 = some [.prim .nilFunc] ∧
    isStr Tryd.prog 99 = false ∧
    szOf Tryd.prog 100 = some 1 ∧
    aggT Tryd.prog 100 = some false ∧
    zeroOf Tryd.prog 100 = some [.prim .nilFunc] ∧
    isStr Tryd.prog 100 = false ∧
    szOf Tryd.prog 101 = some 1 ∧
    aggT Tryd.prog 101 = some false ∧
    zeroOf Tryd.prog 101 = some [.prim .nilFunc] ∧
    isStr Tryd.prog 101 = false ∧
    szOf Tryd.prog 102 = some 24 ∧
    aggT Tryd.prog 102 = some true ∧
    arrOf Tryd.prog 102 = some (24, 1) ∧
    isStr Tryd.prog 102 = false ∧
    szOf Tryd.prog 103 = some 1 ∧
    aggT Tryd.prog 103 = some false ∧
    zeroOf Tryd.prog 103 = some [.prim .nilFunc] ∧
    isStr Tryd.prog 103 = false ∧
    szOf Tryd.prog 104 = some 1 ∧
    aggT Tryd.prog 104 = some false ∧
    zeroOf Tryd.prog 104 = some [.prim .nilFunc] ∧
    isStr Tryd.prog 104 = false ∧
    szOf Tryd.prog 106 = some 1 ∧
    aggT Tryd.prog 106 = some false ∧
    zeroOf Tryd.prog 106 = some [.prim .nilFunc] ∧
    isStr Tryd.prog 106 = false ∧
    szOf Tryd.prog 107 = some 1 ∧
    aggT Tryd.prog 107 = some false ∧
    zeroOf Tryd.prog 107 = some [.prim .nilFunc] ∧
    isStr Tryd.prog 107 = false ∧
    szOf Tryd.prog 108 = some 1 ∧
    aggT Tryd.prog 108 = some false ∧
    zeroOf Tryd.prog 108 = some [.prim .nilFunc] ∧
    isStr Tryd.prog 108 = false ∧
    szOf Tryd.prog 109 = some 20 ∧
    aggT Tryd.prog 109 = some true ∧
    arrOf Tryd.prog 109 = some (20, 1) ∧
    isStr Tryd.prog 109 = false ∧
    szOf Tryd.prog 110 = some 1 ∧
    aggT Tryd.prog 110 = some false ∧
    zeroOf Tryd.prog 110 = some [.prim (.int .u32 0)] ∧
    intOfT Tryd.prog 110 = some .u32 ∧
    isStr Tryd.prog 110 = false ∧
    szOf Tryd.prog 111 = some 65 ∧
    aggT Tryd.prog 111 = some true ∧
    arrOf Tryd.prog 111 = some (65, 1) ∧
    isStr Tryd.prog 111 = false ∧
    szOf Tryd.prog 112 = some 1 ∧
    aggT Tryd.prog 112 = some false ∧
    zeroOf Tryd.prog 112 = some [.prim .nilFunc] ∧
    isStr Tryd.prog 112 = false ∧
    szOf Tryd.prog 113 = some 1 ∧
    aggT Tryd.prog 113 = some false ∧
    zeroOf Tryd.prog 113 = some [.prim (.int .u64 0)] ∧
    intOfT Tryd.prog 113 = some .u64 ∧
    isStr Tryd.prog 113 = false ∧
    szOf Tryd.prog 114 = some 1 ∧
    aggT Tryd.prog 114 = some false ∧
    zeroOf Tryd.prog 114 = some [.prim .nilFunc] ∧
    isStr Tryd.prog 114 = false ∧
    szOf Tryd.prog 115 = some 1 ∧
    aggT Tryd.prog 115 = some false ∧
    zeroOf Tryd.prog 115 = some [.prim .nilFunc] ∧
    isStr Tryd.prog 115 = false ∧
    szOf Tryd.prog 116 = some 32 ∧
    aggT Tryd.prog 116 = some true ∧
    arrOf Tryd.prog 116 = some (32, 1) ∧
    isStr Tryd.prog 116 = false ∧
    szOf Tryd.prog 117 = some 64 ∧
    aggT Tryd.prog 117 = some true ∧
    arrOf Tryd.prog 117 = some (64, 1) ∧
    isStr Tryd.prog 117 = false ∧
    szOf Tryd.prog 123 = some 1 ∧
    aggT Tryd.prog 123 = some false ∧
    zeroOf Tryd.prog 123 = some [.prim .nilFunc] ∧
    isStr Tryd.prog 123 = false ∧
    szOf Tryd.prog 126 = some 1 ∧
    aggT Tryd.prog 126 = some false ∧
    zeroOf Tryd.prog 126 = some [.prim .nilFunc] ∧
    isStr Tryd.prog 126 = false :=
  ⟨by kernel_rfl, by kernel_rfl, by kernel_rfl, by kernel_rfl, by kernel_rfl, by kernel_rfl, by kernel_rfl, by kernel_rfl, by kernel_rfl, by kernel_rfl, by kernel_rfl, by kernel_rfl, by kernel_rfl, by kernel_rfl, by kernel_rfl, by kernel_rfl, by kernel_rfl, by kernel_rfl, by kernel_rfl, by kernel_rfl, by kernel_rfl, by kernel_rfl, by kernel_rfl, by kernel_rfl, by kernel_rfl, by kernel_rfl, by kernel_rfl, by kernel_rfl, by kernel_rfl, by kernel_rfl, by kernel_rfl, by kernel_rfl, by kernel_rfl, by kernel_rfl, by kernel_rfl, by kernel_rfl, by kernel_rfl, by kernel_rfl, by kernel_rfl, by kernel_rfl, by kernel_rfl, by kernel_rfl, by kernel_rfl, by kernel_rfl, by kernel_rfl, by kernel_rfl, by kernel_rfl, by kernel_rfl, by kernel_rfl, by kernel_rfl, by kernel_rfl, by kernel_rfl, by kernel_rfl, by kernel_rfl, by kernel_rfl, by kernel_rfl, by kernel_rfl, by kernel_rfl, by kernel_rfl, by kernel_rfl, by kernel_rfl, by kernel_rfl, by kernel_rfl, by kernel_rfl, by kernel_rfl, by kernel_rfl, by kernel_rfl, by kernel_rfl, by kernel_rfl, by kernel_rfl, by kernel_rfl, by kernel_rfl, by kernel_rfl, by kernel_rfl, by kernel_rfl, by kernel_rfl, by kernel_rfl, by kernel_rfl, by kernel_rfl, by kernel_rfl, by kernel_rfl, by kernel_rfl, by kernel_rfl, by kernel_rfl, by kernel_rfl, by kernel_rfl, by kernel_rfl, by kernel_rfl, by kernel_rfl, by kernel_rfl, by kernel_rfl, by kernel_rfl, by kernel_rfl, by kernel_rfl, by kernel_rfl, by kernel_rfl, by kernel_rfl, by kernel_rfl, by kernel_rfl, by kernel_rfl, by kernel_rfl, by kernel_rfl, by kernel_rfl, by kernel_rfl, by kernel_rfl, by kernel_rfl, by kernel_rfl, by kernel_rfl, by kernel_rfl, by kernel_rfl, by kernel_rfl, by kernel_rfl, by kernel_rfl, by kernel_rfl, by kernel_rfl, by kernel_rfl, by kernel_rfl, by kernel_rfl, by kernel_rfl, by kernel_rfl, by kernel_rfl, by kernel_rfl, by kernel_rfl, by kernel_rfl, by kernel_rfl, by kernel_rfl, by kernel_rfl, by kernel_rfl, by kernel_rfl, by kernel_rfl, by kernel_rfl, by kernel_rfl, by kernel_rfl, by kernel_rfl, by kernel_rfl, by kernel_rfl, by kernel_rfl, by kernel_rfl, by kernel_rfl, by kernel_rfl, by kernel_rfl, by kernel_rfl, by kernel_rfl, by kernel_rfl, by kernel_rfl, by kernel_rfl, by kernel_rfl, by kernel_rfl, by kernel_rfl, by kernel_rfl, by kernel_rfl, by kernel_rfl, by kernel_rfl, by kernel_rfl, by kernel_rfl, by kernel_rfl, by kernel_rfl, by kernel_rfl, by kernel_rfl, by kernel_rfl, by kernel_rfl, by kernel_rfl, by kernel_rfl, by kernel_rfl, by kernel_rfl, by kernel_rfl, by kernel_rfl, by kernel_rfl, by kernel_rfl, by kernel_rfl, by kernel_rfl, by kernel_rfl, by kernel_rfl, by kernel_rfl, by kernel_rfl, by kernel_rfl, by kernel_rfl, by kernel_rfl, by kernel_rfl, by kernel_rfl, by kernel_rfl, by kernel_rfl, by kernel_rfl, by kernel_rfl, by kernel_rfl, by kernel_rfl, by kernel_rfl, by kernel_rfl, by kernel_rfl, by kernel_rfl, by kernel_rfl, by kernel_rfl, by kernel_rfl, by kernel_rfl, by kernel_rfl, by kernel_rfl, by kernel_rfl, by kernel_rfl, by kernel_rfl, by kernel_rfl, by kernel_rfl, by kernel_rfl, by kernel_rfl, by kernel_rfl, by kernel_rfl, by kernel_rfl, by kernel_rfl, by kernel_rfl, by kernel_rfl, by kernel_rfl, by kernel_rfl, by kernel_rfl, by kernel_rfl, by kernel_rfl, by kernel_rfl, by kernel_rfl, by kernel_rfl, by kernel_rfl, by kernel_rfl, by kernel_rfl, by kernel_rfl, by kernel_rfl, by kernel_rfl, by kernel_rfl, by kernel_rfl, by kernel_rfl, by kernel_rfl, by kernel_rfl, by kernel_rfl, by kernel_rfl, by kernel_rfl, by kernel_rfl, by kernel_rfl, by kernel_rfl, by kernel_rfl, by kernel_rfl, by kernel_rfl, by kernel_rfl, by kernel_rfl, by kernel_rfl, by kernel_rfl, by kernel_rfl, by kernel_rfl, by kernel_rfl, by kernel_rfl, by kernel_rfl, by kernel_rfl, by kernel_rfl, by kernel_rfl, by kernel_rfl, by kernel_rfl, by kernel_rfl, by kernel_rfl, by kernel_rfl, by kernel_rfl, by kernel_rfl, by kernel_rfl, by kernel_rfl, by kernel_rfl, by kernel_rfl, by kernel_rfl, by kernel_rfl, by kernel_rfl, by kernel_rfl, by kernel_rfl, by kernel_rfl, by kernel_rfl, by kernel_rfl, by kernel_rfl, by kernel_rfl, by kernel_rfl, by kernel_rfl, by kernel_rfl, by kernel_rfl, by kernel_rfl, by kernel_rfl, by kernel_rfl, by kernel_rfl, by kernel_rfl, by kernel_rfl, by kernel_rfl, by kernel_rfl, by kernel_rfl, by kernel_rfl, by kernel_rfl, by kernel_rfl, by kernel_rfl, by kernel_rfl, by kernel_rfl, by kernel_rfl, by kernel_rfl, by kernel_rfl, by kernel_rfl, by kernel_rfl, by kernel_rfl, by kernel_rfl, by kernel_rfl, by kernel_rfl, by kernel_rfl, by kernel_rfl, by kernel_rfl, by kernel_rfl, by kernel_rfl, by kernel_rfl, by kernel_rfl, by kernel_rfl, by kernel_rfl, by kernel_rfl, by kernel_rfl, by kernel_rfl, by kernel_rfl, by kernel_rfl, by kernel_rfl, by kernel_rfl, by kernel_rfl, by kernel_rfl, by kernel_rfl, by kernel_rfl, by kernel_rfl, by kernel_rfl, by kernel_rfl, by kernel_rfl, by kernel_rfl, by kernel_rfl, by kernel_rfl, by kernel_rfl, by kernel_rfl, by kernel_rfl, by kernel_rfl, by kernel_rfl, by kernel_rfl, by kernel_rfl, by kernel_rfl, by kernel_rfl, by kernel_rfl, by kernel_rfl, by kernel_rfl, by kernel_rfl, by kernel_rfl, by kernel_rfl, by kernel_rfl, by kernel_rfl, by kernel_rfl, by kernel_rfl, by kernel_rfl, by kernel_rfl, by kernel_rfl, by kernel_rfl, by kernel_rfl, by kernel_rfl, by kernel_rfl, by kernel_rfl, by kernel_rfl, by kernel_rfl, by kernel_rfl, by kernel_rfl, by kernel_rfl, by kernel_rfl, by kernel_rfl, by kernel_rfl, by kernel_rfl, by kernel_rfl, by kernel_rfl, by kernel_rfl, by kernel_rfl, by kernel_rfl, by kernel_rfl, by kernel_rfl, by kernel_rfl, by kernel_rfl, by kernel_rfl, by kernel_rfl, by kernel_rfl, by kernel_rfl, by kernel_rfl, by kernel_rfl, by kernel_rfl, by kernel_rfl, by kernel_rfl, by kernel_rfl, by kernel_rfl, by kernel_rfl, by kernel_rfl, by kernel_rfl, by kernel_rfl, by kernel_rfl, by kernel_rfl, by kernel_rfl, by kernel_rfl, by kernel_rfl, by kernel_rfl, by kernel_rfl, by kernel_rfl, by kernel_rfl, by kernel_rfl, by kernel_rfl, by kernel_rfl, by kernel_rfl, by kernel_rfl, by kernel_rfl, by kernel_rfl, by kernel_rfl, by kernel_rfl, by kernel_rfl, by kernel_rfl, by kernel_rfl, by kernel_rfl, by kernel_rfl, by kernel_rfl, by kernel_rfl, by kernel_rfl, by kernel_rfl, by kernel_rfl, by kernel_rfl, by kernel_rfl, by kernel_rfl, by kernel_rfl, by kernel_rfl, by kernel_rfl, by kernel_rfl, by kernel_rfl, by kernel_rfl, by kernel_rfl, by kernel_rfl, by kernel_rfl, by kernel_rfl, by kernel_rfl, by kernel_rfl, by kernel_rfl, by kernel_rfl, by kernel_rfl, by kernel_rfl, by kernel_rfl, by kernel_rfl, by kernel_rfl, by kernel_rfl, by kernel_rfl, by kernel_rfl, by kernel_rfl, by kernel_rfl, by kernel_rfl, by kernel_rfl, by kernel_rfl, by kernel_rfl, by kernel_rfl, by kernel_rfl, by kernel_rfl, by kernel_rfl, by kernel_rfl, by kernel_rfl, by kernel_rfl, by kernel_rfl, by kernel_rfl, by kernel_rfl, by kernel_rfl, by kernel_rfl, by kernel_rfl⟩
end Go.Proofs.YtgadegdhfjnoaaaDoor
/-
  Numbers as lists of digits to the base 10000: plain arithmetic.
-/

namespace Go.Proofs.YtgadegdhfjnoaaaDoor

def val : List Int → Int
  | [] => 0
  | d :: r => d + 10000 * val r
def digN : Nat → Nat → List Int
  | 0, _ => []
  | f + 1, n => if n = 0 then [] else ((n % 10000 : Nat) : Int) :: digN f (n / 10000)
/-- the digits of a number, the least one first -/
def dig (n : Nat) : List Int := digN n n
def okD (l : List Int) : Prop := ∀ d ∈ l, 0 ≤ d ∧ d < 10000
theorem digN_fuel : ∀ {f g n : Nat}, n ≤ f → n ≤ g → digN f n = digN g n
  | 0, 0, _, _, _ => rfl
  | 0, g + 1, n, h, _ => by have : n = 0 := by omega
                            subst this; simp [digN]
  | f + 1, 0, n, _, h => by have : n = 0 := by omega
                            subst this; simp [digN]
  | f + 1, g + 1, n, h1, h2 => by
    simp only [digN]
    by_cases h : n = 0
    · simp [h]
    · rw [if_neg h, if_neg h, digN_fuel (f := f) (g := g) (n := n / 10000) (by omega) (by omega)]
theorem dig_zero : dig 0 = [] := rfl
theorem dig_step {n : Nat} (h : n ≠ 0) : dig n = ((n % 10000 : Nat) : Int) :: dig (n / 10000) := by
  unfold dig
  cases n with
  | zero => exact absurd rfl h
  | succ n =>
    rw [digN, if_neg h]
    congr 1
    exact digN_fuel (by omega) (Nat.le_refl _)
theorem val_dig (n : Nat) : val (dig n) = n := by
  induction n using Nat.strongRecOn with
  | _ n ih =>
    by_cases h : n = 0
    · subst h; rfl
    · rw [dig_step h, val, ih (n / 10000) (by omega)]; omega
theorem okD_dig (n : Nat) : okD (dig n) := by
  induction n using Nat.strongRecOn with
  | _ n ih =>
    by_cases h : n = 0
    · subst h; intro d hd; simp [dig_zero] at hd
    · rw [dig_step h]
      intro d hd
      rcases List.mem_cons.1 hd with rfl | hd
      · omega
      · exact ih (n / 10000) (by omega) d hd
theorem dig_one {d : Int} (h0 : 0 < d) (h1 : d < 10000) : dig d.toNat = [d] := by
  rw [dig_step (by omega)]
  have e1 : d.toNat % 10000 = d.toNat := Nat.mod_eq_of_lt (by omega)
  have e2 : d.toNat / 10000 = 0 := by omega
  rw [e1, e2, dig_zero]
  congr 1; omega
theorem val_nonneg : ∀ {l : List Int}, okD l → 0 ≤ val l
  | [], _ => by simp [val]
  | d :: r, h => by
    have h1 := h d (by simp)
    have h2 := val_nonneg (l := r) fun x hx => h x (by simp [hx])
    simp only [val]; omega
/-- without zeros at the end -/
def trimL : List Int → List Int
  | [] => []
  | d :: r => if trimL r = [] ∧ d = 0 then [] else d :: trimL r
theorem dig_nil {n : Nat} : dig n = [] ↔ n = 0 := by
  constructor
  · intro h
    by_cases h0 : n = 0
    · exact h0
    · rw [dig_step h0] at h; simp at h
  · rintro rfl; rfl
theorem trim_dig : ∀ {l : List Int}, okD l → trimL l = dig (val l).toNat
  | [], _ => rfl
  | d :: r, h => by
    have h1 := h d (by simp)
    have hr : okD r := fun x hx => h x (by simp [hx])
    have h2 := val_nonneg hr
    rw [trimL, trim_dig hr]
    simp only [val]
    by_cases hv : val r = 0
    · by_cases hd : d = 0
      · rw [if_pos ⟨by rw [hv]; rfl, hd⟩, hv, hd]; rfl
      · rw [if_neg (fun h => hd h.2), hv]
        have e : (d + 10000 * 0).toNat = d.toNat := by omega
        rw [e, dig_one (by omega) h1.2]; rfl
    · have hn : ¬ (val r).toNat = 0 := by omega
      rw [if_neg (fun h => hn (dig_nil.1 h.1)), dig_step (n := (d + 10000 * val r).toNat) (by omega)]
      have e1 : (d + 10000 * val r).toNat / 10000 = (val r).toNat := by omega
      have e2 : (((d + 10000 * val r).toNat % 10000 : Nat) : Int) = d := by omega
      rw [e1, e2]
theorem dig_len {n k : Nat} : (dig n).length ≤ k ↔ n < 10000 ^ k := by
  induction k generalizing n with
  | zero =>
    rw [Nat.pow_zero]
    constructor
    · intro h
      have : dig n = [] := List.eq_nil_of_length_eq_zero (by omega)
      have := dig_nil.1 this; omega
    · intro h
      have : n = 0 := by omega
      subst this; simp [dig_zero]
  | succ k ih =>
    by_cases h : n = 0
    · subst h; simp [dig_zero, Nat.pow_pos]
    · rw [dig_step h, List.length_cons, Nat.add_le_add_iff_right, ih, Nat.pow_succ, Nat.div_lt_iff_lt_mul (by omega)]
theorem dig_inj {a b : Nat} (h : dig a = dig b) : a = b := by
  have h1 := val_dig a
  have h2 := val_dig b
  rw [h] at h1; omega
theorem val_append (l r : List Int) : val (l ++ r) = val l + 10000 ^ l.length * val r := by
  induction l with
  | nil => simp [val]
  | cons d l ih => simp only [List.cons_append, val, ih, List.length_cons, Int.pow_succ]; rw [Int.mul_add, Int.mul_comm (10000 ^ l.length) 10000, Int.mul_assoc]; omega
theorem val_replicate (n : Nat) : val (List.replicate n 0) = 0 := by
  induction n with
  | zero => rfl
  | succ n ih => rw [List.replicate_succ, val, ih]; rfl
theorem val_set {l : List Int} {i : Nat} {x v : Int} (h : nth l i = some x) : val (l.set i v) = val l + (v - x) * 10000 ^ i := by
  induction l generalizing i with
  | nil => simp [nth] at h
  | cons d l ih =>
    cases i with
    | zero => simp only [nth, Option.some.injEq] at h; subst h; simp only [List.set_cons_zero, val, Int.pow_zero]; omega
    | succ i =>
      simp only [nth] at h
      simp only [List.set_cons_succ, val, ih h, Int.pow_succ]
      rw [Int.mul_add, Int.mul_comm (10000 ^ i) 10000, ← Int.mul_assoc, ← Int.mul_assoc, Int.mul_comm 10000 (v - x)]; omega
theorem okD_trim {l : List Int} (h : okD l) : okD (trimL l) := by rw [trim_dig h]; exact okD_dig _
theorem trim_len (l : List Int) : (trimL l).length ≤ l.length := by
  induction l with
  | nil => simp [trimL]
  | cons d l ih => rw [trimL]; split <;> simp; exact ih
/-- the loop that cuts zeros off -/
theorem trim_take : ∀ (n : Nat) (l : List Int), n ≤ l.length → (∀ j, n ≤ j → ∀ x, nth l j = some x → x = 0) → trimL l = trimL (l.take n)
  | 0, [], _, _ => rfl
  | 0, d :: l, _, h => by
    have hd := h 0 (Nat.le_refl _) d rfl
    have := trim_take 0 l (Nat.zero_le _) fun j _ x hx => h (j + 1) (Nat.zero_le _) x hx
    rw [trimL, this, hd]; simp [trimL]
  | n + 1, [], h, _ => by simp at h
  | n + 1, d :: l, hn, h => by
    have := trim_take n l (by simpa using hn) fun j hj x hx => h (j + 1) (by omega) x hx
    rw [List.take_succ_cons, trimL, trimL, this]
theorem trim_end : ∀ (l : List Int) (n : Nat) (x : Int), nth l n = some x → l.length = n + 1 → x ≠ 0 → trimL l = l
  | [], _, _, h, _, _ => by simp [nth] at h
  | d :: l, 0, x, h, hl, hx => by
    have : l = [] := List.eq_nil_of_length_eq_zero (by simpa using hl)
    subst this
    simp only [nth, Option.some.injEq] at h; subst h
    simp [trimL, hx]
  | d :: l, n + 1, x, h, hl, hx => by
    have ih := trim_end l n x h (by simpa using hl) hx
    have hne : l ≠ [] := by rintro rfl; simp [nth] at h
    rw [trimL, ih, if_neg (fun h => hne h.1)]

/- which numbers are valid, and what they stand for -/
def lastZ (l : List Int) : Bool := match nth l (l.length - 1) with | some x => x == 0 | none => false
def allD : List Int → Bool
  | [] => true
  | d :: r => if (decide (d < 0) || decide (d ≥ 10000)) = true then false else allD r
theorem allD_ok {l : List Int} : allD l = true ↔ okD l := by
  induction l with
  | nil => simp [allD, okD]
  | cons d l ih =>
    rw [allD]
    by_cases h : d < 0 ∨ d ≥ 10000
    · have : (decide (d < 0) || decide (d ≥ 10000)) = true := by simpa using h
      simp only [this, if_true, Bool.false_eq_true, false_iff]
      intro hk
      have := hk d (by simp); omega
    · have : (decide (d < 0) || decide (d ≥ 10000)) = false := by simp; omega
      simp only [this, Bool.false_eq_true, if_false, ih]
      constructor
      · intro hk x hx
        rcases List.mem_cons.1 hx with rfl | hx
        · omega
        · exact hk x hx
      · exact fun hk x hx => hk x (by simp [hx])
def validF (neg : Bool) (l : List Int) : Bool := if (decide (200 < l.length) || (decide (l = []) && neg) || lastZ l) = true then false else allD l
def V (neg : Bool) (l : List Int) : Int := if validF neg l = true then (if neg = true then -(val l) else val l) else 0
theorem valid_dig {neg : Bool} {l : List Int} (h : validF neg l = true) : l = dig (val l).toNat ∧ okD l ∧ l.length ≤ 200 := by
  unfold validF at h
  split at h
  · simp at h
  · rename_i hh
    have hk := allD_ok.1 h
    simp only [Bool.or_eq_true, decide_eq_true_eq, not_or] at hh
    refine ⟨?_, hk, by omega⟩
    rw [← trim_dig hk]
    by_cases hl : l = []
    · subst hl; rfl
    · have hpos : 0 < l.length := List.length_pos_iff.2 hl
      obtain ⟨x, hx⟩ := nth_some (l := l) (i := l.length - 1) (by omega)
      have hz := hh.2
      unfold lastZ at hz
      rw [hx] at hz
      exact (trim_end l (l.length - 1) x hx (by omega) (by simpa using hz)).symm
theorem V_abs (neg : Bool) (l : List Int) : dig (V neg l).natAbs = if validF neg l = true then l else [] := by
  unfold V
  by_cases h : validF neg l = true
  · obtain ⟨h1, h2, -⟩ := valid_dig h
    have h3 := val_nonneg h2
    rw [if_pos h, if_pos h]
    conv => rhs; rw [h1]
    congr 1
    split <;> omega
  · rw [if_neg h, if_neg h]; rfl
theorem V_len (neg : Bool) (l : List Int) : (dig (V neg l).natAbs).length ≤ 200 := by
  rw [V_abs]
  split
  · rename_i h; exact (valid_dig h).2.2
  · simp
/-- a number as its sign and digits -/
theorem valid_of (z : Int) (h : (dig z.natAbs).length ≤ 200) : validF (decide (z < 0)) (dig z.natAbs) = true := by
  unfold validF
  have hk := okD_dig z.natAbs
  rw [if_neg]
  · exact allD_ok.2 hk
  · simp only [Bool.or_eq_true, decide_eq_true_eq, Bool.and_eq_true, not_or]
    refine ⟨⟨by omega, fun h => ?_⟩, fun hz => ?_⟩
    · have := dig_nil.1 h.1; omega
    · unfold lastZ at hz
      split at hz
      · rename_i x hx
        have hx0 : x = 0 := by simpa using hz
        subst hx0
        -- a last digit 0 would be trimmed
        have ht := trim_dig hk
        rw [val_dig] at ht
        have e : ((z.natAbs : Int)).toNat = z.natAbs := by omega
        rw [e] at ht
        have hl := nth_lt hx
        have h1 := trim_take ((dig z.natAbs).length - 1) (dig z.natAbs) (by omega) (fun j hj y hy => by
          have : j = (dig z.natAbs).length - 1 := by have := nth_lt hy; omega
          subst this
          rw [hx] at hy; simpa using hy.symm)
        have h2 := trim_len ((dig z.natAbs).take ((dig z.natAbs).length - 1))
        rw [← h1, ht] at h2
        simp at h2; omega
      · simp at hz
theorem V_of (z : Int) (h : (dig z.natAbs).length ≤ 200) : V (decide (z < 0)) (dig z.natAbs) = z := by
  unfold V
  rw [if_pos (valid_of z h), val_dig]
  by_cases hz : z < 0 <;> simp [hz] <;> omega
end Go.Proofs.YtgadegdhfjnoaaaDoor
